/- What the types come to, printed by a tool of mine. -/
import Derived.Test.YtoankcclbnnfiaaA23
import Derived.Test.YtoankcclbnnfiaaProg
set_option maxRecDepth 100000
namespace Go.Proofs.Ytoankcclbnnfiaa
open Go.Abs
theorem ti_2 : ti Try.prog 2 = some ⟨(Go.TypeDesc.int Go.IntKind.i64), 1, 8, (some (Go.Value.int Go.IntKind.i64 0))⟩ := by kernel_rfl
theorem ti_3 : ti Try.prog 3 = some ⟨(Go.TypeDesc.int Go.IntKind.i64), 1, 8, (some (Go.Value.int Go.IntKind.i64 0))⟩ := by kernel_rfl
theorem ti_4 : ti Try.prog 4 = some ⟨Go.TypeDesc.bool, 1, 1, (some (Go.Value.bool false))⟩ := by kernel_rfl
theorem ti_9 : ti Try.prog 9 = some ⟨Go.TypeDesc.string, 1, 16, (some (Go.Value.string { data := #[] }))⟩ := by kernel_rfl
theorem ti_22 : ti Try.prog 22 = some ⟨(Go.TypeDesc.slice 39), 1, 24, (some (Go.Value.slice none 0 0))⟩ := by kernel_rfl
theorem ti_24 : ti Try.prog 24 = some ⟨(Go.TypeDesc.struct #[{ name := "Kind", type := 3, offset := 0, embedded := false, tag := "", pkgPath := "", byteOffset := 0 }, { name := "Name", type := 9, offset := 1, embedded := false, tag := "", pkgPath := "", byteOffset := 8 }, { name := "Off", type := 2, offset := 2, embedded := false, tag := "", pkgPath := "", byteOffset := 24 }, { name := "Num", type := 2, offset := 3, embedded := false, tag := "", pkgPath := "", byteOffset := 32 }, { name := "Data", type := 9, offset := 4, embedded := false, tag := "", pkgPath := "", byteOffset := 40 }]), 5, 56, (some (Go.Value.agg #[(Go.Value.int Go.IntKind.i64 0), (Go.Value.string { data := #[] }), (Go.Value.int Go.IntKind.i64 0), (Go.Value.int Go.IntKind.i64 0), (Go.Value.string { data := #[] })]))⟩ := by kernel_rfl
theorem ti_26 : ti Try.prog 26 = some ⟨(Go.TypeDesc.struct #[{ name := "Client", type := 3, offset := 0, embedded := false, tag := "", pkgPath := "", byteOffset := 0 }, { name := "Inst", type := 2, offset := 1, embedded := false, tag := "", pkgPath := "", byteOffset := 8 }, { name := "Tid", type := 2, offset := 2, embedded := false, tag := "", pkgPath := "", byteOffset := 16 }, { name := "Op", type := 24, offset := 3, embedded := false, tag := "", pkgPath := "", byteOffset := 24 }]), 8, 80, (some (Go.Value.agg #[(Go.Value.int Go.IntKind.i64 0), (Go.Value.int Go.IntKind.i64 0), (Go.Value.int Go.IntKind.i64 0), (Go.Value.int Go.IntKind.i64 0), (Go.Value.string { data := #[] }), (Go.Value.int Go.IntKind.i64 0), (Go.Value.int Go.IntKind.i64 0), (Go.Value.string { data := #[] })]))⟩ := by kernel_rfl
theorem ti_27 : ti Try.prog 27 = some ⟨(Go.TypeDesc.int Go.IntKind.i64), 1, 8, (some (Go.Value.int Go.IntKind.i64 0))⟩ := by kernel_rfl
theorem ti_29 : ti Try.prog 29 = some ⟨(Go.TypeDesc.struct #[{ name := "Err", type := 27, offset := 0, embedded := false, tag := "", pkgPath := "", byteOffset := 0 }, { name := "Num", type := 2, offset := 1, embedded := false, tag := "", pkgPath := "", byteOffset := 8 }, { name := "Inst", type := 2, offset := 2, embedded := false, tag := "", pkgPath := "", byteOffset := 16 }, { name := "Data", type := 9, offset := 3, embedded := false, tag := "", pkgPath := "", byteOffset := 24 }]), 4, 40, (some (Go.Value.agg #[(Go.Value.int Go.IntKind.i64 0), (Go.Value.int Go.IntKind.i64 0), (Go.Value.int Go.IntKind.i64 0), (Go.Value.string { data := #[] })]))⟩ := by kernel_rfl
theorem ti_39 : ti Try.prog 39 = some ⟨(Go.TypeDesc.struct #[{ name := "Client", type := 3, offset := 0, embedded := false, tag := "", pkgPath := "", byteOffset := 0 }, { name := "Inst", type := 2, offset := 1, embedded := false, tag := "", pkgPath := "", byteOffset := 8 }, { name := "Tid", type := 2, offset := 2, embedded := false, tag := "", pkgPath := "", byteOffset := 16 }, { name := "Res", type := 29, offset := 3, embedded := false, tag := "", pkgPath := "", byteOffset := 24 }]), 7, 64, (some (Go.Value.agg #[(Go.Value.int Go.IntKind.i64 0), (Go.Value.int Go.IntKind.i64 0), (Go.Value.int Go.IntKind.i64 0), (Go.Value.int Go.IntKind.i64 0), (Go.Value.int Go.IntKind.i64 0), (Go.Value.int Go.IntKind.i64 0), (Go.Value.string { data := #[] })]))⟩ := by kernel_rfl
theorem ti_41 : ti Try.prog 41 = some ⟨(Go.TypeDesc.slice 26), 1, 24, (some (Go.Value.slice none 0 0))⟩ := by kernel_rfl
theorem ti_42 : ti Try.prog 42 = some ⟨(Go.TypeDesc.slice 29), 1, 24, (some (Go.Value.slice none 0 0))⟩ := by kernel_rfl
theorem ti_47 : ti Try.prog 47 = some ⟨(Go.TypeDesc.slice 3), 1, 24, (some (Go.Value.slice none 0 0))⟩ := by kernel_rfl
theorem ti_51 : ti Try.prog 51 = some ⟨(Go.TypeDesc.slice 58), 1, 24, (some (Go.Value.slice none 0 0))⟩ := by kernel_rfl
theorem ti_56 : ti Try.prog 56 = some ⟨(Go.TypeDesc.struct #[{ name := "Epoch", type := 2, offset := 0, embedded := false, tag := "", pkgPath := "", byteOffset := 0 }, { name := "Ver", type := 2, offset := 1, embedded := false, tag := "", pkgPath := "", byteOffset := 8 }]), 2, 16, (some (Go.Value.agg #[(Go.Value.int Go.IntKind.i64 0), (Go.Value.int Go.IntKind.i64 0)]))⟩ := by kernel_rfl
theorem ti_58 : ti Try.prog 58 = some ⟨(Go.TypeDesc.struct #[{ name := "At", type := 56, offset := 0, embedded := false, tag := "", pkgPath := "", byteOffset := 0 }, { name := "Req", type := 26, offset := 2, embedded := false, tag := "", pkgPath := "", byteOffset := 16 }, { name := "Res", type := 29, offset := 10, embedded := false, tag := "", pkgPath := "", byteOffset := 96 }]), 14, 136, (some (Go.Value.agg #[(Go.Value.int Go.IntKind.i64 0), (Go.Value.int Go.IntKind.i64 0), (Go.Value.int Go.IntKind.i64 0), (Go.Value.int Go.IntKind.i64 0), (Go.Value.int Go.IntKind.i64 0), (Go.Value.int Go.IntKind.i64 0), (Go.Value.string { data := #[] }), (Go.Value.int Go.IntKind.i64 0), (Go.Value.int Go.IntKind.i64 0), (Go.Value.string { data := #[] }), (Go.Value.int Go.IntKind.i64 0), (Go.Value.int Go.IntKind.i64 0), (Go.Value.int Go.IntKind.i64 0), (Go.Value.string { data := #[] })]))⟩ := by kernel_rfl
theorem ti_59 : ti Try.prog 59 = some ⟨(Go.TypeDesc.int Go.IntKind.u64), 1, 8, (some (Go.Value.int Go.IntKind.u64 0))⟩ := by kernel_rfl
theorem ti_63 : ti Try.prog 63 = some ⟨(Go.TypeDesc.struct #[{ name := "inst", type := 2, offset := 0, embedded := false, tag := "", pkgPath := "reef/dup", byteOffset := 0 }, { name := "tid", type := 2, offset := 1, embedded := false, tag := "", pkgPath := "reef/dup", byteOffset := 8 }]), 2, 16, (some (Go.Value.agg #[(Go.Value.int Go.IntKind.i64 0), (Go.Value.int Go.IntKind.i64 0)]))⟩ := by kernel_rfl
theorem ti_65 : ti Try.prog 65 = some ⟨(Go.TypeDesc.struct #[{ name := "pair", type := 63, offset := 0, embedded := true, tag := "", pkgPath := "reef/dup", byteOffset := 0 }, { name := "client", type := 3, offset := 2, embedded := false, tag := "", pkgPath := "reef/dup", byteOffset := 16 }]), 3, 24, (some (Go.Value.agg #[(Go.Value.int Go.IntKind.i64 0), (Go.Value.int Go.IntKind.i64 0), (Go.Value.int Go.IntKind.i64 0)]))⟩ := by kernel_rfl
theorem ti_78 : ti Try.prog 78 = some ⟨(Go.TypeDesc.func #[3] #[4] false), 1, 8, (some Go.Value.nilFunc)⟩ := by kernel_rfl
theorem ti_80 : ti Try.prog 80 = some ⟨(Go.TypeDesc.func #[39] #[4] false), 1, 8, (some Go.Value.nilFunc)⟩ := by kernel_rfl
theorem ti_82 : ti Try.prog 82 = some ⟨(Go.TypeDesc.int Go.IntKind.u64), 1, 8, (some (Go.Value.int Go.IntKind.u64 0))⟩ := by kernel_rfl
theorem ld_2 (m : Mem) (x : AV) : loadA Try.prog m 2 x = loadOne m x := loadA_one ti_2 rfl m x
theorem st_2 (m : Mem) (n off : Nat) (v : AV) : storeA Try.prog m 2 (.ptr n off) v = storeN m 1 n off v := storeA_of ti_2 m n off v
theorem z_2 : zeroA Try.prog 2 = some [.val (Go.Value.int Go.IntKind.i64 0)] := by simp only [zeroA, ti_2]; rfl
theorem ld_3 (m : Mem) (x : AV) : loadA Try.prog m 3 x = loadOne m x := loadA_one ti_3 rfl m x
theorem st_3 (m : Mem) (n off : Nat) (v : AV) : storeA Try.prog m 3 (.ptr n off) v = storeN m 1 n off v := storeA_of ti_3 m n off v
theorem z_3 : zeroA Try.prog 3 = some [.val (Go.Value.int Go.IntKind.i64 0)] := by simp only [zeroA, ti_3]; rfl
theorem ld_4 (m : Mem) (x : AV) : loadA Try.prog m 4 x = loadOne m x := loadA_one ti_4 rfl m x
theorem st_4 (m : Mem) (n off : Nat) (v : AV) : storeA Try.prog m 4 (.ptr n off) v = storeN m 1 n off v := storeA_of ti_4 m n off v
theorem z_4 : zeroA Try.prog 4 = some [.val (Go.Value.bool false)] := by simp only [zeroA, ti_4]; rfl
theorem ld_9 (m : Mem) (x : AV) : loadA Try.prog m 9 x = loadOne m x := loadA_one ti_9 rfl m x
theorem st_9 (m : Mem) (n off : Nat) (v : AV) : storeA Try.prog m 9 (.ptr n off) v = storeN m 1 n off v := storeA_of ti_9 m n off v
theorem z_9 : zeroA Try.prog 9 = some [.val (Go.Value.string { data := #[] })] := by simp only [zeroA, ti_9]; rfl
theorem ld_22 (m : Mem) (x : AV) : loadA Try.prog m 22 x = loadOne m x := loadA_one ti_22 rfl m x
theorem st_22 (m : Mem) (n off : Nat) (v : AV) : storeA Try.prog m 22 (.ptr n off) v = storeN m 1 n off v := storeA_of ti_22 m n off v
theorem z_22 : zeroA Try.prog 22 = some [.val (Go.Value.slice none 0 0)] := by simp only [zeroA, ti_22]; rfl
theorem ld_24 (m : Mem) (x : AV) : loadA Try.prog m 24 x = loadAgg m 5 x := loadA_agg ti_24 rfl rfl m x
theorem st_24 (m : Mem) (n off : Nat) (v : AV) : storeA Try.prog m 24 (.ptr n off) v = storeN m 5 n off v := storeA_of ti_24 m n off v
theorem z_24 : zeroA Try.prog 24 = some [.val (Go.Value.int Go.IntKind.i64 0), .val (Go.Value.string { data := #[] }), .val (Go.Value.int Go.IntKind.i64 0), .val (Go.Value.int Go.IntKind.i64 0), .val (Go.Value.string { data := #[] })] := by simp only [zeroA, ti_24]; rfl
theorem fa_24_0 (x : AV) : fieldAddrA Try.prog 24 0 x = moveA 0 x := fieldAddrA_of ti_24 rfl 0 0 rfl rfl ti_3 rfl rfl x
theorem fa_24_1 (x : AV) : fieldAddrA Try.prog 24 1 x = moveA 1 x := fieldAddrA_of ti_24 rfl 1 1 rfl rfl ti_9 rfl rfl x
theorem fa_24_2 (x : AV) : fieldAddrA Try.prog 24 2 x = moveA 2 x := fieldAddrA_of ti_24 rfl 2 2 rfl rfl ti_2 rfl rfl x
theorem fa_24_3 (x : AV) : fieldAddrA Try.prog 24 3 x = moveA 3 x := fieldAddrA_of ti_24 rfl 3 3 rfl rfl ti_2 rfl rfl x
theorem fa_24_4 (x : AV) : fieldAddrA Try.prog 24 4 x = moveA 4 x := fieldAddrA_of ti_24 rfl 4 4 rfl rfl ti_9 rfl rfl x
theorem ld_26 (m : Mem) (x : AV) : loadA Try.prog m 26 x = loadAgg m 8 x := loadA_agg ti_26 rfl rfl m x
theorem st_26 (m : Mem) (n off : Nat) (v : AV) : storeA Try.prog m 26 (.ptr n off) v = storeN m 8 n off v := storeA_of ti_26 m n off v
theorem z_26 : zeroA Try.prog 26 = some [.val (Go.Value.int Go.IntKind.i64 0), .val (Go.Value.int Go.IntKind.i64 0), .val (Go.Value.int Go.IntKind.i64 0), .val (Go.Value.int Go.IntKind.i64 0), .val (Go.Value.string { data := #[] }), .val (Go.Value.int Go.IntKind.i64 0), .val (Go.Value.int Go.IntKind.i64 0), .val (Go.Value.string { data := #[] })] := by simp only [zeroA, ti_26]; rfl
theorem fa_26_0 (x : AV) : fieldAddrA Try.prog 26 0 x = moveA 0 x := fieldAddrA_of ti_26 rfl 0 0 rfl rfl ti_3 rfl rfl x
theorem fa_26_1 (x : AV) : fieldAddrA Try.prog 26 1 x = moveA 1 x := fieldAddrA_of ti_26 rfl 1 1 rfl rfl ti_2 rfl rfl x
theorem fa_26_2 (x : AV) : fieldAddrA Try.prog 26 2 x = moveA 2 x := fieldAddrA_of ti_26 rfl 2 2 rfl rfl ti_2 rfl rfl x
theorem fa_26_3 (x : AV) : fieldAddrA Try.prog 26 3 x = moveA 3 x := fieldAddrA_of ti_26 rfl 3 3 rfl rfl ti_24 rfl rfl x
theorem ld_27 (m : Mem) (x : AV) : loadA Try.prog m 27 x = loadOne m x := loadA_one ti_27 rfl m x
theorem st_27 (m : Mem) (n off : Nat) (v : AV) : storeA Try.prog m 27 (.ptr n off) v = storeN m 1 n off v := storeA_of ti_27 m n off v
theorem z_27 : zeroA Try.prog 27 = some [.val (Go.Value.int Go.IntKind.i64 0)] := by simp only [zeroA, ti_27]; rfl
theorem ld_29 (m : Mem) (x : AV) : loadA Try.prog m 29 x = loadAgg m 4 x := loadA_agg ti_29 rfl rfl m x
theorem st_29 (m : Mem) (n off : Nat) (v : AV) : storeA Try.prog m 29 (.ptr n off) v = storeN m 4 n off v := storeA_of ti_29 m n off v
theorem z_29 : zeroA Try.prog 29 = some [.val (Go.Value.int Go.IntKind.i64 0), .val (Go.Value.int Go.IntKind.i64 0), .val (Go.Value.int Go.IntKind.i64 0), .val (Go.Value.string { data := #[] })] := by simp only [zeroA, ti_29]; rfl
theorem fa_29_0 (x : AV) : fieldAddrA Try.prog 29 0 x = moveA 0 x := fieldAddrA_of ti_29 rfl 0 0 rfl rfl ti_27 rfl rfl x
theorem fa_29_1 (x : AV) : fieldAddrA Try.prog 29 1 x = moveA 1 x := fieldAddrA_of ti_29 rfl 1 1 rfl rfl ti_2 rfl rfl x
theorem fa_29_2 (x : AV) : fieldAddrA Try.prog 29 2 x = moveA 2 x := fieldAddrA_of ti_29 rfl 2 2 rfl rfl ti_2 rfl rfl x
theorem fa_29_3 (x : AV) : fieldAddrA Try.prog 29 3 x = moveA 3 x := fieldAddrA_of ti_29 rfl 3 3 rfl rfl ti_9 rfl rfl x
theorem ld_39 (m : Mem) (x : AV) : loadA Try.prog m 39 x = loadAgg m 7 x := loadA_agg ti_39 rfl rfl m x
theorem st_39 (m : Mem) (n off : Nat) (v : AV) : storeA Try.prog m 39 (.ptr n off) v = storeN m 7 n off v := storeA_of ti_39 m n off v
theorem z_39 : zeroA Try.prog 39 = some [.val (Go.Value.int Go.IntKind.i64 0), .val (Go.Value.int Go.IntKind.i64 0), .val (Go.Value.int Go.IntKind.i64 0), .val (Go.Value.int Go.IntKind.i64 0), .val (Go.Value.int Go.IntKind.i64 0), .val (Go.Value.int Go.IntKind.i64 0), .val (Go.Value.string { data := #[] })] := by simp only [zeroA, ti_39]; rfl
theorem fa_39_0 (x : AV) : fieldAddrA Try.prog 39 0 x = moveA 0 x := fieldAddrA_of ti_39 rfl 0 0 rfl rfl ti_3 rfl rfl x
theorem fa_39_1 (x : AV) : fieldAddrA Try.prog 39 1 x = moveA 1 x := fieldAddrA_of ti_39 rfl 1 1 rfl rfl ti_2 rfl rfl x
theorem fa_39_2 (x : AV) : fieldAddrA Try.prog 39 2 x = moveA 2 x := fieldAddrA_of ti_39 rfl 2 2 rfl rfl ti_2 rfl rfl x
theorem fa_39_3 (x : AV) : fieldAddrA Try.prog 39 3 x = moveA 3 x := fieldAddrA_of ti_39 rfl 3 3 rfl rfl ti_29 rfl rfl x
theorem ld_41 (m : Mem) (x : AV) : loadA Try.prog m 41 x = loadOne m x := loadA_one ti_41 rfl m x
theorem st_41 (m : Mem) (n off : Nat) (v : AV) : storeA Try.prog m 41 (.ptr n off) v = storeN m 1 n off v := storeA_of ti_41 m n off v
theorem z_41 : zeroA Try.prog 41 = some [.val (Go.Value.slice none 0 0)] := by simp only [zeroA, ti_41]; rfl
theorem ld_42 (m : Mem) (x : AV) : loadA Try.prog m 42 x = loadOne m x := loadA_one ti_42 rfl m x
theorem st_42 (m : Mem) (n off : Nat) (v : AV) : storeA Try.prog m 42 (.ptr n off) v = storeN m 1 n off v := storeA_of ti_42 m n off v
theorem z_42 : zeroA Try.prog 42 = some [.val (Go.Value.slice none 0 0)] := by simp only [zeroA, ti_42]; rfl
theorem ld_47 (m : Mem) (x : AV) : loadA Try.prog m 47 x = loadOne m x := loadA_one ti_47 rfl m x
theorem st_47 (m : Mem) (n off : Nat) (v : AV) : storeA Try.prog m 47 (.ptr n off) v = storeN m 1 n off v := storeA_of ti_47 m n off v
theorem z_47 : zeroA Try.prog 47 = some [.val (Go.Value.slice none 0 0)] := by simp only [zeroA, ti_47]; rfl
theorem ld_51 (m : Mem) (x : AV) : loadA Try.prog m 51 x = loadOne m x := loadA_one ti_51 rfl m x
theorem st_51 (m : Mem) (n off : Nat) (v : AV) : storeA Try.prog m 51 (.ptr n off) v = storeN m 1 n off v := storeA_of ti_51 m n off v
theorem z_51 : zeroA Try.prog 51 = some [.val (Go.Value.slice none 0 0)] := by simp only [zeroA, ti_51]; rfl
theorem ld_56 (m : Mem) (x : AV) : loadA Try.prog m 56 x = loadAgg m 2 x := loadA_agg ti_56 rfl rfl m x
theorem st_56 (m : Mem) (n off : Nat) (v : AV) : storeA Try.prog m 56 (.ptr n off) v = storeN m 2 n off v := storeA_of ti_56 m n off v
theorem z_56 : zeroA Try.prog 56 = some [.val (Go.Value.int Go.IntKind.i64 0), .val (Go.Value.int Go.IntKind.i64 0)] := by simp only [zeroA, ti_56]; rfl
theorem fa_56_0 (x : AV) : fieldAddrA Try.prog 56 0 x = moveA 0 x := fieldAddrA_of ti_56 rfl 0 0 rfl rfl ti_2 rfl rfl x
theorem fa_56_1 (x : AV) : fieldAddrA Try.prog 56 1 x = moveA 1 x := fieldAddrA_of ti_56 rfl 1 1 rfl rfl ti_2 rfl rfl x
theorem ld_58 (m : Mem) (x : AV) : loadA Try.prog m 58 x = loadAgg m 14 x := loadA_agg ti_58 rfl rfl m x
theorem st_58 (m : Mem) (n off : Nat) (v : AV) : storeA Try.prog m 58 (.ptr n off) v = storeN m 14 n off v := storeA_of ti_58 m n off v
theorem z_58 : zeroA Try.prog 58 = some [.val (Go.Value.int Go.IntKind.i64 0), .val (Go.Value.int Go.IntKind.i64 0), .val (Go.Value.int Go.IntKind.i64 0), .val (Go.Value.int Go.IntKind.i64 0), .val (Go.Value.int Go.IntKind.i64 0), .val (Go.Value.int Go.IntKind.i64 0), .val (Go.Value.string { data := #[] }), .val (Go.Value.int Go.IntKind.i64 0), .val (Go.Value.int Go.IntKind.i64 0), .val (Go.Value.string { data := #[] }), .val (Go.Value.int Go.IntKind.i64 0), .val (Go.Value.int Go.IntKind.i64 0), .val (Go.Value.int Go.IntKind.i64 0), .val (Go.Value.string { data := #[] })] := by simp only [zeroA, ti_58]; rfl
theorem fa_58_0 (x : AV) : fieldAddrA Try.prog 58 0 x = moveA 0 x := fieldAddrA_of ti_58 rfl 0 0 rfl rfl ti_56 rfl rfl x
theorem fa_58_1 (x : AV) : fieldAddrA Try.prog 58 1 x = moveA 2 x := fieldAddrA_of ti_58 rfl 1 2 rfl rfl ti_26 rfl rfl x
theorem fa_58_2 (x : AV) : fieldAddrA Try.prog 58 2 x = moveA 10 x := fieldAddrA_of ti_58 rfl 2 10 rfl rfl ti_29 rfl rfl x
theorem ld_59 (m : Mem) (x : AV) : loadA Try.prog m 59 x = loadOne m x := loadA_one ti_59 rfl m x
theorem st_59 (m : Mem) (n off : Nat) (v : AV) : storeA Try.prog m 59 (.ptr n off) v = storeN m 1 n off v := storeA_of ti_59 m n off v
theorem z_59 : zeroA Try.prog 59 = some [.val (Go.Value.int Go.IntKind.u64 0)] := by simp only [zeroA, ti_59]; rfl
theorem ld_63 (m : Mem) (x : AV) : loadA Try.prog m 63 x = loadAgg m 2 x := loadA_agg ti_63 rfl rfl m x
theorem st_63 (m : Mem) (n off : Nat) (v : AV) : storeA Try.prog m 63 (.ptr n off) v = storeN m 2 n off v := storeA_of ti_63 m n off v
theorem z_63 : zeroA Try.prog 63 = some [.val (Go.Value.int Go.IntKind.i64 0), .val (Go.Value.int Go.IntKind.i64 0)] := by simp only [zeroA, ti_63]; rfl
theorem fa_63_0 (x : AV) : fieldAddrA Try.prog 63 0 x = moveA 0 x := fieldAddrA_of ti_63 rfl 0 0 rfl rfl ti_2 rfl rfl x
theorem fa_63_1 (x : AV) : fieldAddrA Try.prog 63 1 x = moveA 1 x := fieldAddrA_of ti_63 rfl 1 1 rfl rfl ti_2 rfl rfl x
theorem ld_65 (m : Mem) (x : AV) : loadA Try.prog m 65 x = loadAgg m 3 x := loadA_agg ti_65 rfl rfl m x
theorem st_65 (m : Mem) (n off : Nat) (v : AV) : storeA Try.prog m 65 (.ptr n off) v = storeN m 3 n off v := storeA_of ti_65 m n off v
theorem z_65 : zeroA Try.prog 65 = some [.val (Go.Value.int Go.IntKind.i64 0), .val (Go.Value.int Go.IntKind.i64 0), .val (Go.Value.int Go.IntKind.i64 0)] := by simp only [zeroA, ti_65]; rfl
theorem fa_65_0 (x : AV) : fieldAddrA Try.prog 65 0 x = moveA 0 x := fieldAddrA_of ti_65 rfl 0 0 rfl rfl ti_63 rfl rfl x
theorem fa_65_1 (x : AV) : fieldAddrA Try.prog 65 1 x = moveA 2 x := fieldAddrA_of ti_65 rfl 1 2 rfl rfl ti_3 rfl rfl x
theorem ld_78 (m : Mem) (x : AV) : loadA Try.prog m 78 x = loadOne m x := loadA_one ti_78 rfl m x
theorem st_78 (m : Mem) (n off : Nat) (v : AV) : storeA Try.prog m 78 (.ptr n off) v = storeN m 1 n off v := storeA_of ti_78 m n off v
theorem z_78 : zeroA Try.prog 78 = some [.val Go.Value.nilFunc] := by simp only [zeroA, ti_78]; rfl
theorem ld_80 (m : Mem) (x : AV) : loadA Try.prog m 80 x = loadOne m x := loadA_one ti_80 rfl m x
theorem st_80 (m : Mem) (n off : Nat) (v : AV) : storeA Try.prog m 80 (.ptr n off) v = storeN m 1 n off v := storeA_of ti_80 m n off v
theorem z_80 : zeroA Try.prog 80 = some [.val Go.Value.nilFunc] := by simp only [zeroA, ti_80]; rfl
theorem ld_82 (m : Mem) (x : AV) : loadA Try.prog m 82 x = loadOne m x := loadA_one ti_82 rfl m x
theorem st_82 (m : Mem) (n off : Nat) (v : AV) : storeA Try.prog m 82 (.ptr n off) v = storeN m 1 n off v := storeA_of ti_82 m n off v
theorem z_82 : zeroA Try.prog 82 = some [.val (Go.Value.int Go.IntKind.u64 0)] := by simp only [zeroA, ti_82]; rfl
theorem cs_2 : Try.prog.cellsOf 2 = 1 := cellsOf_ti ti_2
theorem cs_3 : Try.prog.cellsOf 3 = 1 := cellsOf_ti ti_3
theorem cs_4 : Try.prog.cellsOf 4 = 1 := cellsOf_ti ti_4
theorem len_str_9 (m : Mem) (s : ByteArray) : lenA Try.prog m 9 (.val (.string s)) = some (.val (.int .i64 s.size)) := len_str ti_9 rfl m s
theorem cs_9 : Try.prog.cellsOf 9 = 1 := cellsOf_ti ti_9
theorem sl_22 (m : Mem) (n off len cap : Nat) (lo hi mx : Option AV) : sliceA Try.prog m 22 (.sl n off len cap) lo hi mx = sliceOwn Try.prog 7 (m n) n off len cap lo hi mx := sliceA_own ti_22 rfl ti_39 m n off len cap lo hi mx
theorem ix_own_22 (n off len cap : Nat) (kk : IntKind) (k : Int) (h0 : 0 ≤ k) (h1 : k < len) : indexAddrA Try.prog 22 (.sl n off len cap) (.val (.int kk k)) = some (.ptr n (off + k.toNat * 7)) := index_own ti_22 rfl ti_39 n off len cap kk k h0 h1
theorem cap_own_22 (m : Mem) (n off len cap : Nat) : capA Try.prog m 22 (.sl n off len cap) = capOwn (m n) cap := cap_own ti_22 rfl m n off len cap
theorem len_own_22 (m : Mem) (n off len cap : Nat) : lenA Try.prog m 22 (.sl n off len cap) = some (.val (.int .i64 len)) := len_own ti_22 rfl m n off len cap
theorem len_read_22 (m : Mem) (es : List (List AV)) (x : Bool) : lenA Try.prog m 22 (.vs es x) = some (.val (.int .i64 es.length)) := len_read ti_22 rfl m es x
theorem len_nil_22 (m : Mem)  : lenA Try.prog m 22 (.val (.slice none 0 0)) = some (.val (.int .i64 0)) := len_nil ti_22 rfl m 
theorem app_22 : AppT Try.prog 22 22 39 ⟨(Go.TypeDesc.struct #[{ name := "Client", type := 3, offset := 0, embedded := false, tag := "", pkgPath := "", byteOffset := 0 }, { name := "Inst", type := 2, offset := 1, embedded := false, tag := "", pkgPath := "", byteOffset := 8 }, { name := "Tid", type := 2, offset := 2, embedded := false, tag := "", pkgPath := "", byteOffset := 16 }, { name := "Res", type := 29, offset := 3, embedded := false, tag := "", pkgPath := "", byteOffset := 24 }]), 7, 64, (some (Go.Value.agg #[(Go.Value.int Go.IntKind.i64 0), (Go.Value.int Go.IntKind.i64 0), (Go.Value.int Go.IntKind.i64 0), (Go.Value.int Go.IntKind.i64 0), (Go.Value.int Go.IntKind.i64 0), (Go.Value.int Go.IntKind.i64 0), (Go.Value.string { data := #[] })]))⟩ [.val (Go.Value.int Go.IntKind.i64 0), .val (Go.Value.int Go.IntKind.i64 0), .val (Go.Value.int Go.IntKind.i64 0), .val (Go.Value.int Go.IntKind.i64 0), .val (Go.Value.int Go.IntKind.i64 0), .val (Go.Value.int Go.IntKind.i64 0), .val (Go.Value.string { data := #[] })] := ⟨⟨_, ti_22, rfl⟩, ⟨_, ti_22, .inl ⟨_, rfl⟩⟩, ti_39, z_39, rfl, by decide, by decide⟩
theorem T_22 : SlT Try.prog 22 39 ⟨(Go.TypeDesc.struct #[{ name := "Client", type := 3, offset := 0, embedded := false, tag := "", pkgPath := "", byteOffset := 0 }, { name := "Inst", type := 2, offset := 1, embedded := false, tag := "", pkgPath := "", byteOffset := 8 }, { name := "Tid", type := 2, offset := 2, embedded := false, tag := "", pkgPath := "", byteOffset := 16 }, { name := "Res", type := 29, offset := 3, embedded := false, tag := "", pkgPath := "", byteOffset := 24 }]), 7, 64, (some (Go.Value.agg #[(Go.Value.int Go.IntKind.i64 0), (Go.Value.int Go.IntKind.i64 0), (Go.Value.int Go.IntKind.i64 0), (Go.Value.int Go.IntKind.i64 0), (Go.Value.int Go.IntKind.i64 0), (Go.Value.int Go.IntKind.i64 0), (Go.Value.string { data := #[] })]))⟩ [.val (Go.Value.int Go.IntKind.i64 0), .val (Go.Value.int Go.IntKind.i64 0), .val (Go.Value.int Go.IntKind.i64 0), .val (Go.Value.int Go.IntKind.i64 0), .val (Go.Value.int Go.IntKind.i64 0), .val (Go.Value.int Go.IntKind.i64 0), .val (Go.Value.string { data := #[] })] := ⟨⟨_, ti_22, rfl⟩, ti_39, z_39, rfl, rfl, by decide, by decide⟩
theorem lit0_22 : litA Try.prog 22 0 [] = some (39, 7, []) := by
  simp only [litA, ti_22, ti_39, z_39, fillA]
  rfl
theorem cs_22 : Try.prog.cellsOf 22 = 1 := cellsOf_ti ti_22
theorem cs_24 : Try.prog.cellsOf 24 = 5 := cellsOf_ti ti_24
theorem cs_26 : Try.prog.cellsOf 26 = 8 := cellsOf_ti ti_26
theorem cs_27 : Try.prog.cellsOf 27 = 1 := cellsOf_ti ti_27
theorem cs_29 : Try.prog.cellsOf 29 = 4 := cellsOf_ti ti_29
theorem cs_39 : Try.prog.cellsOf 39 = 7 := cellsOf_ti ti_39
theorem sl_41 (m : Mem) (n off len cap : Nat) (lo hi mx : Option AV) : sliceA Try.prog m 41 (.sl n off len cap) lo hi mx = sliceOwn Try.prog 8 (m n) n off len cap lo hi mx := sliceA_own ti_41 rfl ti_26 m n off len cap lo hi mx
theorem ix_own_41 (n off len cap : Nat) (kk : IntKind) (k : Int) (h0 : 0 ≤ k) (h1 : k < len) : indexAddrA Try.prog 41 (.sl n off len cap) (.val (.int kk k)) = some (.ptr n (off + k.toNat * 8)) := index_own ti_41 rfl ti_26 n off len cap kk k h0 h1
theorem cap_own_41 (m : Mem) (n off len cap : Nat) : capA Try.prog m 41 (.sl n off len cap) = capOwn (m n) cap := cap_own ti_41 rfl m n off len cap
theorem len_own_41 (m : Mem) (n off len cap : Nat) : lenA Try.prog m 41 (.sl n off len cap) = some (.val (.int .i64 len)) := len_own ti_41 rfl m n off len cap
theorem len_read_41 (m : Mem) (es : List (List AV)) (x : Bool) : lenA Try.prog m 41 (.vs es x) = some (.val (.int .i64 es.length)) := len_read ti_41 rfl m es x
theorem len_nil_41 (m : Mem)  : lenA Try.prog m 41 (.val (.slice none 0 0)) = some (.val (.int .i64 0)) := len_nil ti_41 rfl m 
theorem app_41 : AppT Try.prog 41 41 26 ⟨(Go.TypeDesc.struct #[{ name := "Client", type := 3, offset := 0, embedded := false, tag := "", pkgPath := "", byteOffset := 0 }, { name := "Inst", type := 2, offset := 1, embedded := false, tag := "", pkgPath := "", byteOffset := 8 }, { name := "Tid", type := 2, offset := 2, embedded := false, tag := "", pkgPath := "", byteOffset := 16 }, { name := "Op", type := 24, offset := 3, embedded := false, tag := "", pkgPath := "", byteOffset := 24 }]), 8, 80, (some (Go.Value.agg #[(Go.Value.int Go.IntKind.i64 0), (Go.Value.int Go.IntKind.i64 0), (Go.Value.int Go.IntKind.i64 0), (Go.Value.int Go.IntKind.i64 0), (Go.Value.string { data := #[] }), (Go.Value.int Go.IntKind.i64 0), (Go.Value.int Go.IntKind.i64 0), (Go.Value.string { data := #[] })]))⟩ [.val (Go.Value.int Go.IntKind.i64 0), .val (Go.Value.int Go.IntKind.i64 0), .val (Go.Value.int Go.IntKind.i64 0), .val (Go.Value.int Go.IntKind.i64 0), .val (Go.Value.string { data := #[] }), .val (Go.Value.int Go.IntKind.i64 0), .val (Go.Value.int Go.IntKind.i64 0), .val (Go.Value.string { data := #[] })] := ⟨⟨_, ti_41, rfl⟩, ⟨_, ti_41, .inl ⟨_, rfl⟩⟩, ti_26, z_26, rfl, by decide, by decide⟩
theorem T_41 : SlT Try.prog 41 26 ⟨(Go.TypeDesc.struct #[{ name := "Client", type := 3, offset := 0, embedded := false, tag := "", pkgPath := "", byteOffset := 0 }, { name := "Inst", type := 2, offset := 1, embedded := false, tag := "", pkgPath := "", byteOffset := 8 }, { name := "Tid", type := 2, offset := 2, embedded := false, tag := "", pkgPath := "", byteOffset := 16 }, { name := "Op", type := 24, offset := 3, embedded := false, tag := "", pkgPath := "", byteOffset := 24 }]), 8, 80, (some (Go.Value.agg #[(Go.Value.int Go.IntKind.i64 0), (Go.Value.int Go.IntKind.i64 0), (Go.Value.int Go.IntKind.i64 0), (Go.Value.int Go.IntKind.i64 0), (Go.Value.string { data := #[] }), (Go.Value.int Go.IntKind.i64 0), (Go.Value.int Go.IntKind.i64 0), (Go.Value.string { data := #[] })]))⟩ [.val (Go.Value.int Go.IntKind.i64 0), .val (Go.Value.int Go.IntKind.i64 0), .val (Go.Value.int Go.IntKind.i64 0), .val (Go.Value.int Go.IntKind.i64 0), .val (Go.Value.string { data := #[] }), .val (Go.Value.int Go.IntKind.i64 0), .val (Go.Value.int Go.IntKind.i64 0), .val (Go.Value.string { data := #[] })] := ⟨⟨_, ti_41, rfl⟩, ti_26, z_26, rfl, rfl, by decide, by decide⟩
theorem lit0_41 : litA Try.prog 41 0 [] = some (26, 8, []) := by
  simp only [litA, ti_41, ti_26, z_26, fillA]
  rfl
theorem cs_41 : Try.prog.cellsOf 41 = 1 := cellsOf_ti ti_41
theorem sl_42 (m : Mem) (n off len cap : Nat) (lo hi mx : Option AV) : sliceA Try.prog m 42 (.sl n off len cap) lo hi mx = sliceOwn Try.prog 4 (m n) n off len cap lo hi mx := sliceA_own ti_42 rfl ti_29 m n off len cap lo hi mx
theorem ix_own_42 (n off len cap : Nat) (kk : IntKind) (k : Int) (h0 : 0 ≤ k) (h1 : k < len) : indexAddrA Try.prog 42 (.sl n off len cap) (.val (.int kk k)) = some (.ptr n (off + k.toNat * 4)) := index_own ti_42 rfl ti_29 n off len cap kk k h0 h1
theorem cap_own_42 (m : Mem) (n off len cap : Nat) : capA Try.prog m 42 (.sl n off len cap) = capOwn (m n) cap := cap_own ti_42 rfl m n off len cap
theorem len_own_42 (m : Mem) (n off len cap : Nat) : lenA Try.prog m 42 (.sl n off len cap) = some (.val (.int .i64 len)) := len_own ti_42 rfl m n off len cap
theorem len_read_42 (m : Mem) (es : List (List AV)) (x : Bool) : lenA Try.prog m 42 (.vs es x) = some (.val (.int .i64 es.length)) := len_read ti_42 rfl m es x
theorem len_nil_42 (m : Mem)  : lenA Try.prog m 42 (.val (.slice none 0 0)) = some (.val (.int .i64 0)) := len_nil ti_42 rfl m 
theorem app_42 : AppT Try.prog 42 42 29 ⟨(Go.TypeDesc.struct #[{ name := "Err", type := 27, offset := 0, embedded := false, tag := "", pkgPath := "", byteOffset := 0 }, { name := "Num", type := 2, offset := 1, embedded := false, tag := "", pkgPath := "", byteOffset := 8 }, { name := "Inst", type := 2, offset := 2, embedded := false, tag := "", pkgPath := "", byteOffset := 16 }, { name := "Data", type := 9, offset := 3, embedded := false, tag := "", pkgPath := "", byteOffset := 24 }]), 4, 40, (some (Go.Value.agg #[(Go.Value.int Go.IntKind.i64 0), (Go.Value.int Go.IntKind.i64 0), (Go.Value.int Go.IntKind.i64 0), (Go.Value.string { data := #[] })]))⟩ [.val (Go.Value.int Go.IntKind.i64 0), .val (Go.Value.int Go.IntKind.i64 0), .val (Go.Value.int Go.IntKind.i64 0), .val (Go.Value.string { data := #[] })] := ⟨⟨_, ti_42, rfl⟩, ⟨_, ti_42, .inl ⟨_, rfl⟩⟩, ti_29, z_29, rfl, by decide, by decide⟩
theorem T_42 : SlT Try.prog 42 29 ⟨(Go.TypeDesc.struct #[{ name := "Err", type := 27, offset := 0, embedded := false, tag := "", pkgPath := "", byteOffset := 0 }, { name := "Num", type := 2, offset := 1, embedded := false, tag := "", pkgPath := "", byteOffset := 8 }, { name := "Inst", type := 2, offset := 2, embedded := false, tag := "", pkgPath := "", byteOffset := 16 }, { name := "Data", type := 9, offset := 3, embedded := false, tag := "", pkgPath := "", byteOffset := 24 }]), 4, 40, (some (Go.Value.agg #[(Go.Value.int Go.IntKind.i64 0), (Go.Value.int Go.IntKind.i64 0), (Go.Value.int Go.IntKind.i64 0), (Go.Value.string { data := #[] })]))⟩ [.val (Go.Value.int Go.IntKind.i64 0), .val (Go.Value.int Go.IntKind.i64 0), .val (Go.Value.int Go.IntKind.i64 0), .val (Go.Value.string { data := #[] })] := ⟨⟨_, ti_42, rfl⟩, ti_29, z_29, rfl, rfl, by decide, by decide⟩
theorem lit0_42 : litA Try.prog 42 0 [] = some (29, 4, []) := by
  simp only [litA, ti_42, ti_29, z_29, fillA]
  rfl
theorem cs_42 : Try.prog.cellsOf 42 = 1 := cellsOf_ti ti_42
theorem sl_47 (m : Mem) (n off len cap : Nat) (lo hi mx : Option AV) : sliceA Try.prog m 47 (.sl n off len cap) lo hi mx = sliceOwn Try.prog 1 (m n) n off len cap lo hi mx := sliceA_own ti_47 rfl ti_3 m n off len cap lo hi mx
theorem ix_own_47 (n off len cap : Nat) (kk : IntKind) (k : Int) (h0 : 0 ≤ k) (h1 : k < len) : indexAddrA Try.prog 47 (.sl n off len cap) (.val (.int kk k)) = some (.ptr n (off + k.toNat * 1)) := index_own ti_47 rfl ti_3 n off len cap kk k h0 h1
theorem cap_own_47 (m : Mem) (n off len cap : Nat) : capA Try.prog m 47 (.sl n off len cap) = capOwn (m n) cap := cap_own ti_47 rfl m n off len cap
theorem len_own_47 (m : Mem) (n off len cap : Nat) : lenA Try.prog m 47 (.sl n off len cap) = some (.val (.int .i64 len)) := len_own ti_47 rfl m n off len cap
theorem len_read_47 (m : Mem) (es : List (List AV)) (x : Bool) : lenA Try.prog m 47 (.vs es x) = some (.val (.int .i64 es.length)) := len_read ti_47 rfl m es x
theorem len_nil_47 (m : Mem)  : lenA Try.prog m 47 (.val (.slice none 0 0)) = some (.val (.int .i64 0)) := len_nil ti_47 rfl m 
theorem app_47 : AppT Try.prog 47 47 3 ⟨(Go.TypeDesc.int Go.IntKind.i64), 1, 8, (some (Go.Value.int Go.IntKind.i64 0))⟩ [.val (Go.Value.int Go.IntKind.i64 0)] := ⟨⟨_, ti_47, rfl⟩, ⟨_, ti_47, .inl ⟨_, rfl⟩⟩, ti_3, z_3, rfl, by decide, by decide⟩
theorem T_47 : SlT Try.prog 47 3 ⟨(Go.TypeDesc.int Go.IntKind.i64), 1, 8, (some (Go.Value.int Go.IntKind.i64 0))⟩ [.val (Go.Value.int Go.IntKind.i64 0)] := ⟨⟨_, ti_47, rfl⟩, ti_3, z_3, rfl, rfl, by decide, by decide⟩
theorem lit0_47 : litA Try.prog 47 0 [] = some (3, 1, []) := by
  simp only [litA, ti_47, ti_3, z_3, fillA]
  rfl
theorem cs_47 : Try.prog.cellsOf 47 = 1 := cellsOf_ti ti_47
theorem sl_51 (m : Mem) (n off len cap : Nat) (lo hi mx : Option AV) : sliceA Try.prog m 51 (.sl n off len cap) lo hi mx = sliceOwn Try.prog 14 (m n) n off len cap lo hi mx := sliceA_own ti_51 rfl ti_58 m n off len cap lo hi mx
theorem ix_own_51 (n off len cap : Nat) (kk : IntKind) (k : Int) (h0 : 0 ≤ k) (h1 : k < len) : indexAddrA Try.prog 51 (.sl n off len cap) (.val (.int kk k)) = some (.ptr n (off + k.toNat * 14)) := index_own ti_51 rfl ti_58 n off len cap kk k h0 h1
theorem cap_own_51 (m : Mem) (n off len cap : Nat) : capA Try.prog m 51 (.sl n off len cap) = capOwn (m n) cap := cap_own ti_51 rfl m n off len cap
theorem len_own_51 (m : Mem) (n off len cap : Nat) : lenA Try.prog m 51 (.sl n off len cap) = some (.val (.int .i64 len)) := len_own ti_51 rfl m n off len cap
theorem len_read_51 (m : Mem) (es : List (List AV)) (x : Bool) : lenA Try.prog m 51 (.vs es x) = some (.val (.int .i64 es.length)) := len_read ti_51 rfl m es x
theorem len_nil_51 (m : Mem)  : lenA Try.prog m 51 (.val (.slice none 0 0)) = some (.val (.int .i64 0)) := len_nil ti_51 rfl m 
theorem app_51 : AppT Try.prog 51 51 58 ⟨(Go.TypeDesc.struct #[{ name := "At", type := 56, offset := 0, embedded := false, tag := "", pkgPath := "", byteOffset := 0 }, { name := "Req", type := 26, offset := 2, embedded := false, tag := "", pkgPath := "", byteOffset := 16 }, { name := "Res", type := 29, offset := 10, embedded := false, tag := "", pkgPath := "", byteOffset := 96 }]), 14, 136, (some (Go.Value.agg #[(Go.Value.int Go.IntKind.i64 0), (Go.Value.int Go.IntKind.i64 0), (Go.Value.int Go.IntKind.i64 0), (Go.Value.int Go.IntKind.i64 0), (Go.Value.int Go.IntKind.i64 0), (Go.Value.int Go.IntKind.i64 0), (Go.Value.string { data := #[] }), (Go.Value.int Go.IntKind.i64 0), (Go.Value.int Go.IntKind.i64 0), (Go.Value.string { data := #[] }), (Go.Value.int Go.IntKind.i64 0), (Go.Value.int Go.IntKind.i64 0), (Go.Value.int Go.IntKind.i64 0), (Go.Value.string { data := #[] })]))⟩ [.val (Go.Value.int Go.IntKind.i64 0), .val (Go.Value.int Go.IntKind.i64 0), .val (Go.Value.int Go.IntKind.i64 0), .val (Go.Value.int Go.IntKind.i64 0), .val (Go.Value.int Go.IntKind.i64 0), .val (Go.Value.int Go.IntKind.i64 0), .val (Go.Value.string { data := #[] }), .val (Go.Value.int Go.IntKind.i64 0), .val (Go.Value.int Go.IntKind.i64 0), .val (Go.Value.string { data := #[] }), .val (Go.Value.int Go.IntKind.i64 0), .val (Go.Value.int Go.IntKind.i64 0), .val (Go.Value.int Go.IntKind.i64 0), .val (Go.Value.string { data := #[] })] := ⟨⟨_, ti_51, rfl⟩, ⟨_, ti_51, .inl ⟨_, rfl⟩⟩, ti_58, z_58, rfl, by decide, by decide⟩
theorem T_51 : SlT Try.prog 51 58 ⟨(Go.TypeDesc.struct #[{ name := "At", type := 56, offset := 0, embedded := false, tag := "", pkgPath := "", byteOffset := 0 }, { name := "Req", type := 26, offset := 2, embedded := false, tag := "", pkgPath := "", byteOffset := 16 }, { name := "Res", type := 29, offset := 10, embedded := false, tag := "", pkgPath := "", byteOffset := 96 }]), 14, 136, (some (Go.Value.agg #[(Go.Value.int Go.IntKind.i64 0), (Go.Value.int Go.IntKind.i64 0), (Go.Value.int Go.IntKind.i64 0), (Go.Value.int Go.IntKind.i64 0), (Go.Value.int Go.IntKind.i64 0), (Go.Value.int Go.IntKind.i64 0), (Go.Value.string { data := #[] }), (Go.Value.int Go.IntKind.i64 0), (Go.Value.int Go.IntKind.i64 0), (Go.Value.string { data := #[] }), (Go.Value.int Go.IntKind.i64 0), (Go.Value.int Go.IntKind.i64 0), (Go.Value.int Go.IntKind.i64 0), (Go.Value.string { data := #[] })]))⟩ [.val (Go.Value.int Go.IntKind.i64 0), .val (Go.Value.int Go.IntKind.i64 0), .val (Go.Value.int Go.IntKind.i64 0), .val (Go.Value.int Go.IntKind.i64 0), .val (Go.Value.int Go.IntKind.i64 0), .val (Go.Value.int Go.IntKind.i64 0), .val (Go.Value.string { data := #[] }), .val (Go.Value.int Go.IntKind.i64 0), .val (Go.Value.int Go.IntKind.i64 0), .val (Go.Value.string { data := #[] }), .val (Go.Value.int Go.IntKind.i64 0), .val (Go.Value.int Go.IntKind.i64 0), .val (Go.Value.int Go.IntKind.i64 0), .val (Go.Value.string { data := #[] })] := ⟨⟨_, ti_51, rfl⟩, ti_58, z_58, rfl, rfl, by decide, by decide⟩
theorem lit0_51 : litA Try.prog 51 0 [] = some (58, 14, []) := by
  simp only [litA, ti_51, ti_58, z_58, fillA]
  rfl
theorem cs_51 : Try.prog.cellsOf 51 = 1 := cellsOf_ti ti_51
theorem cs_56 : Try.prog.cellsOf 56 = 2 := cellsOf_ti ti_56
theorem cs_58 : Try.prog.cellsOf 58 = 14 := cellsOf_ti ti_58
theorem cs_59 : Try.prog.cellsOf 59 = 1 := cellsOf_ti ti_59
theorem cs_63 : Try.prog.cellsOf 63 = 2 := cellsOf_ti ti_63
theorem cs_65 : Try.prog.cellsOf 65 = 3 := cellsOf_ti ti_65
theorem cs_78 : Try.prog.cellsOf 78 = 1 := cellsOf_ti ti_78
theorem cs_80 : Try.prog.cellsOf 80 = 1 := cellsOf_ti ti_80
theorem cs_82 : Try.prog.cellsOf 82 = 1 := cellsOf_ti ti_82
end Go.Proofs.Ytoankcclbnnfiaa
