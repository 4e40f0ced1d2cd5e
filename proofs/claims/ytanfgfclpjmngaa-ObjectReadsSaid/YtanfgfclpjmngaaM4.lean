/- What the types come to, printed by a tool of mine. -/
import Derived.Test.YtanfgfclpjmngaaM3
import Derived.Test.YtanfgfclpjmngaaProg
set_option maxRecDepth 100000
namespace Go.Proofs.Ytanfgfclpjmngaa
open Go.Abs
theorem ti_2 : ti Try.prog 2 = some ⟨(Go.TypeDesc.int Go.IntKind.i64), 1, 8, (some (Go.Value.int Go.IntKind.i64 0))⟩ := by kernel_rfl
theorem ti_3 : ti Try.prog 3 = some ⟨(Go.TypeDesc.int Go.IntKind.i64), 1, 8, (some (Go.Value.int Go.IntKind.i64 0))⟩ := by kernel_rfl
theorem ti_4 : ti Try.prog 4 = some ⟨Go.TypeDesc.bool, 1, 1, (some (Go.Value.bool false))⟩ := by kernel_rfl
theorem ti_5 : ti Try.prog 5 = some ⟨(Go.TypeDesc.int Go.IntKind.u8), 1, 1, (some (Go.Value.int Go.IntKind.u8 0))⟩ := by kernel_rfl
theorem ti_9 : ti Try.prog 9 = some ⟨Go.TypeDesc.string, 1, 16, (some (Go.Value.string { data := #[] }))⟩ := by kernel_rfl
theorem ti_23 : ti Try.prog 23 = some ⟨(Go.TypeDesc.struct #[{ name := "Kind", type := 3, offset := 0, embedded := false, tag := "", pkgPath := "", byteOffset := 0 }, { name := "Name", type := 9, offset := 1, embedded := false, tag := "", pkgPath := "", byteOffset := 8 }, { name := "Off", type := 2, offset := 2, embedded := false, tag := "", pkgPath := "", byteOffset := 24 }, { name := "Num", type := 2, offset := 3, embedded := false, tag := "", pkgPath := "", byteOffset := 32 }, { name := "Data", type := 9, offset := 4, embedded := false, tag := "", pkgPath := "", byteOffset := 40 }]), 5, 56, (some (Go.Value.agg #[(Go.Value.int Go.IntKind.i64 0), (Go.Value.string { data := #[] }), (Go.Value.int Go.IntKind.i64 0), (Go.Value.int Go.IntKind.i64 0), (Go.Value.string { data := #[] })]))⟩ := by kernel_rfl
theorem ti_24 : ti Try.prog 24 = some ⟨(Go.TypeDesc.slice 43), 1, 24, (some (Go.Value.slice none 0 0))⟩ := by kernel_rfl
theorem ti_32 : ti Try.prog 32 = some ⟨(Go.TypeDesc.slice 35), 1, 24, (some (Go.Value.slice none 0 0))⟩ := by kernel_rfl
theorem ti_33 : ti Try.prog 33 = some ⟨(Go.TypeDesc.slice 3), 1, 24, (some (Go.Value.slice none 0 0))⟩ := by kernel_rfl
theorem ti_35 : ti Try.prog 35 = some ⟨(Go.TypeDesc.struct #[{ name := "Client", type := 3, offset := 0, embedded := false, tag := "", pkgPath := "", byteOffset := 0 }, { name := "Inst", type := 2, offset := 1, embedded := false, tag := "", pkgPath := "", byteOffset := 8 }]), 2, 16, (some (Go.Value.agg #[(Go.Value.int Go.IntKind.i64 0), (Go.Value.int Go.IntKind.i64 0)]))⟩ := by kernel_rfl
theorem ti_37 : ti Try.prog 37 = some ⟨(Go.TypeDesc.int Go.IntKind.i64), 1, 8, (some (Go.Value.int Go.IntKind.i64 0))⟩ := by kernel_rfl
theorem ti_39 : ti Try.prog 39 = some ⟨(Go.TypeDesc.struct #[{ name := "Err", type := 37, offset := 0, embedded := false, tag := "", pkgPath := "", byteOffset := 0 }, { name := "Num", type := 2, offset := 1, embedded := false, tag := "", pkgPath := "", byteOffset := 8 }, { name := "Inst", type := 2, offset := 2, embedded := false, tag := "", pkgPath := "", byteOffset := 16 }, { name := "Data", type := 9, offset := 3, embedded := false, tag := "", pkgPath := "", byteOffset := 24 }]), 4, 40, (some (Go.Value.agg #[(Go.Value.int Go.IntKind.i64 0), (Go.Value.int Go.IntKind.i64 0), (Go.Value.int Go.IntKind.i64 0), (Go.Value.string { data := #[] })]))⟩ := by kernel_rfl
theorem ti_43 : ti Try.prog 43 = some ⟨(Go.TypeDesc.struct #[{ name := "Name", type := 9, offset := 0, embedded := false, tag := "", pkgPath := "", byteOffset := 0 }, { name := "Data", type := 9, offset := 1, embedded := false, tag := "", pkgPath := "", byteOffset := 16 }, { name := "Locked", type := 4, offset := 2, embedded := false, tag := "", pkgPath := "", byteOffset := 32 }, { name := "Holder", type := 35, offset := 3, embedded := false, tag := "", pkgPath := "", byteOffset := 40 }]), 5, 56, (some (Go.Value.agg #[(Go.Value.string { data := #[] }), (Go.Value.string { data := #[] }), (Go.Value.bool false), (Go.Value.int Go.IntKind.i64 0), (Go.Value.int Go.IntKind.i64 0)]))⟩ := by kernel_rfl
theorem ti_60 : ti Try.prog 60 = some ⟨(Go.TypeDesc.pointer 62), 1, 8, (some (Go.Value.pointer none))⟩ := by kernel_rfl
theorem ti_62 : ti Try.prog 62 = some ⟨(Go.TypeDesc.struct #[{ name := "Object", type := 43, offset := 0, embedded := true, tag := "", pkgPath := "", byteOffset := 0 }, { name := "there", type := 4, offset := 5, embedded := false, tag := "", pkgPath := "reef/object", byteOffset := 56 }, { name := "who", type := 35, offset := 6, embedded := false, tag := "", pkgPath := "reef/object", byteOffset := 64 }, { name := "op", type := 23, offset := 8, embedded := false, tag := "", pkgPath := "reef/object", byteOffset := 80 }]), 13, 136, (some (Go.Value.agg #[(Go.Value.string { data := #[] }), (Go.Value.string { data := #[] }), (Go.Value.bool false), (Go.Value.int Go.IntKind.i64 0), (Go.Value.int Go.IntKind.i64 0), (Go.Value.bool false), (Go.Value.int Go.IntKind.i64 0), (Go.Value.int Go.IntKind.i64 0), (Go.Value.int Go.IntKind.i64 0), (Go.Value.string { data := #[] }), (Go.Value.int Go.IntKind.i64 0), (Go.Value.int Go.IntKind.i64 0), (Go.Value.string { data := #[] })]))⟩ := by kernel_rfl
theorem ti_63 : ti Try.prog 63 = some ⟨(Go.TypeDesc.func #[] #[39] false), 1, 8, (some Go.Value.nilFunc)⟩ := by kernel_rfl
theorem ti_64 : ti Try.prog 64 = some ⟨(Go.TypeDesc.slice 63), 1, 24, (some (Go.Value.slice none 0 0))⟩ := by kernel_rfl
theorem ti_67 : ti Try.prog 67 = some ⟨(Go.TypeDesc.slice 5), 1, 24, (some (Go.Value.slice none 0 0))⟩ := by kernel_rfl
theorem ti_71 : ti Try.prog 71 = some ⟨(Go.TypeDesc.func #[43, 9] #[3] false), 1, 8, (some Go.Value.nilFunc)⟩ := by kernel_rfl
theorem ti_74 : ti Try.prog 74 = some ⟨(Go.TypeDesc.int Go.IntKind.u64), 1, 8, (some (Go.Value.int Go.IntKind.u64 0))⟩ := by kernel_rfl
theorem ti_80 : ti Try.prog 80 = some ⟨(Go.TypeDesc.pointer 82), 1, 8, (some (Go.Value.pointer none))⟩ := by kernel_rfl
theorem ti_82 : ti Try.prog 82 = some ⟨(Go.TypeDesc.struct #[{ name := "addr", type := 80, offset := 0, embedded := false, tag := "", pkgPath := "strings", byteOffset := 0 }, { name := "buf", type := 67, offset := 1, embedded := false, tag := "", pkgPath := "strings", byteOffset := 8 }]), 2, 32, (some (Go.Value.agg #[(Go.Value.pointer none), (Go.Value.slice none 0 0)]))⟩ := by kernel_rfl
theorem ld_2 (m : Mem) (x : AV) : loadA Try.prog m 2 x = loadOne m x := loadA_one ti_2 rfl m x
theorem st_2 (m : Mem) (n off : Nat) (v : AV) : storeA Try.prog m 2 (.ptr n off) v = storeN m 1 n off v := storeA_of ti_2 m n off v
theorem z_2 : zeroA Try.prog 2 = some [.val (Go.Value.int Go.IntKind.i64 0)] := by simp only [zeroA, ti_2]; rfl
theorem ld_3 (m : Mem) (x : AV) : loadA Try.prog m 3 x = loadOne m x := loadA_one ti_3 rfl m x
theorem st_3 (m : Mem) (n off : Nat) (v : AV) : storeA Try.prog m 3 (.ptr n off) v = storeN m 1 n off v := storeA_of ti_3 m n off v
theorem z_3 : zeroA Try.prog 3 = some [.val (Go.Value.int Go.IntKind.i64 0)] := by simp only [zeroA, ti_3]; rfl
theorem ld_4 (m : Mem) (x : AV) : loadA Try.prog m 4 x = loadOne m x := loadA_one ti_4 rfl m x
theorem st_4 (m : Mem) (n off : Nat) (v : AV) : storeA Try.prog m 4 (.ptr n off) v = storeN m 1 n off v := storeA_of ti_4 m n off v
theorem z_4 : zeroA Try.prog 4 = some [.val (Go.Value.bool false)] := by simp only [zeroA, ti_4]; rfl
theorem ld_5 (m : Mem) (x : AV) : loadA Try.prog m 5 x = loadOne m x := loadA_one ti_5 rfl m x
theorem st_5 (m : Mem) (n off : Nat) (v : AV) : storeA Try.prog m 5 (.ptr n off) v = storeN m 1 n off v := storeA_of ti_5 m n off v
theorem z_5 : zeroA Try.prog 5 = some [.val (Go.Value.int Go.IntKind.u8 0)] := by simp only [zeroA, ti_5]; rfl
theorem ld_9 (m : Mem) (x : AV) : loadA Try.prog m 9 x = loadOne m x := loadA_one ti_9 rfl m x
theorem st_9 (m : Mem) (n off : Nat) (v : AV) : storeA Try.prog m 9 (.ptr n off) v = storeN m 1 n off v := storeA_of ti_9 m n off v
theorem z_9 : zeroA Try.prog 9 = some [.val (Go.Value.string { data := #[] })] := by simp only [zeroA, ti_9]; rfl
theorem ld_23 (m : Mem) (x : AV) : loadA Try.prog m 23 x = loadAgg m 5 x := loadA_agg ti_23 rfl rfl m x
theorem st_23 (m : Mem) (n off : Nat) (v : AV) : storeA Try.prog m 23 (.ptr n off) v = storeN m 5 n off v := storeA_of ti_23 m n off v
theorem z_23 : zeroA Try.prog 23 = some [.val (Go.Value.int Go.IntKind.i64 0), .val (Go.Value.string { data := #[] }), .val (Go.Value.int Go.IntKind.i64 0), .val (Go.Value.int Go.IntKind.i64 0), .val (Go.Value.string { data := #[] })] := by simp only [zeroA, ti_23]; rfl
theorem fa_23_0 (x : AV) : fieldAddrA Try.prog 23 0 x = moveA 0 x := fieldAddrA_of ti_23 rfl 0 0 rfl rfl ti_3 rfl rfl x
theorem fa_23_1 (x : AV) : fieldAddrA Try.prog 23 1 x = moveA 1 x := fieldAddrA_of ti_23 rfl 1 1 rfl rfl ti_9 rfl rfl x
theorem fa_23_2 (x : AV) : fieldAddrA Try.prog 23 2 x = moveA 2 x := fieldAddrA_of ti_23 rfl 2 2 rfl rfl ti_2 rfl rfl x
theorem fa_23_3 (x : AV) : fieldAddrA Try.prog 23 3 x = moveA 3 x := fieldAddrA_of ti_23 rfl 3 3 rfl rfl ti_2 rfl rfl x
theorem fa_23_4 (x : AV) : fieldAddrA Try.prog 23 4 x = moveA 4 x := fieldAddrA_of ti_23 rfl 4 4 rfl rfl ti_9 rfl rfl x
theorem ld_24 (m : Mem) (x : AV) : loadA Try.prog m 24 x = loadOne m x := loadA_one ti_24 rfl m x
theorem st_24 (m : Mem) (n off : Nat) (v : AV) : storeA Try.prog m 24 (.ptr n off) v = storeN m 1 n off v := storeA_of ti_24 m n off v
theorem z_24 : zeroA Try.prog 24 = some [.val (Go.Value.slice none 0 0)] := by simp only [zeroA, ti_24]; rfl
theorem ld_32 (m : Mem) (x : AV) : loadA Try.prog m 32 x = loadOne m x := loadA_one ti_32 rfl m x
theorem st_32 (m : Mem) (n off : Nat) (v : AV) : storeA Try.prog m 32 (.ptr n off) v = storeN m 1 n off v := storeA_of ti_32 m n off v
theorem z_32 : zeroA Try.prog 32 = some [.val (Go.Value.slice none 0 0)] := by simp only [zeroA, ti_32]; rfl
theorem ld_33 (m : Mem) (x : AV) : loadA Try.prog m 33 x = loadOne m x := loadA_one ti_33 rfl m x
theorem st_33 (m : Mem) (n off : Nat) (v : AV) : storeA Try.prog m 33 (.ptr n off) v = storeN m 1 n off v := storeA_of ti_33 m n off v
theorem z_33 : zeroA Try.prog 33 = some [.val (Go.Value.slice none 0 0)] := by simp only [zeroA, ti_33]; rfl
theorem ld_35 (m : Mem) (x : AV) : loadA Try.prog m 35 x = loadAgg m 2 x := loadA_agg ti_35 rfl rfl m x
theorem st_35 (m : Mem) (n off : Nat) (v : AV) : storeA Try.prog m 35 (.ptr n off) v = storeN m 2 n off v := storeA_of ti_35 m n off v
theorem z_35 : zeroA Try.prog 35 = some [.val (Go.Value.int Go.IntKind.i64 0), .val (Go.Value.int Go.IntKind.i64 0)] := by simp only [zeroA, ti_35]; rfl
theorem fa_35_0 (x : AV) : fieldAddrA Try.prog 35 0 x = moveA 0 x := fieldAddrA_of ti_35 rfl 0 0 rfl rfl ti_3 rfl rfl x
theorem fa_35_1 (x : AV) : fieldAddrA Try.prog 35 1 x = moveA 1 x := fieldAddrA_of ti_35 rfl 1 1 rfl rfl ti_2 rfl rfl x
theorem ld_37 (m : Mem) (x : AV) : loadA Try.prog m 37 x = loadOne m x := loadA_one ti_37 rfl m x
theorem st_37 (m : Mem) (n off : Nat) (v : AV) : storeA Try.prog m 37 (.ptr n off) v = storeN m 1 n off v := storeA_of ti_37 m n off v
theorem z_37 : zeroA Try.prog 37 = some [.val (Go.Value.int Go.IntKind.i64 0)] := by simp only [zeroA, ti_37]; rfl
theorem ld_39 (m : Mem) (x : AV) : loadA Try.prog m 39 x = loadAgg m 4 x := loadA_agg ti_39 rfl rfl m x
theorem st_39 (m : Mem) (n off : Nat) (v : AV) : storeA Try.prog m 39 (.ptr n off) v = storeN m 4 n off v := storeA_of ti_39 m n off v
theorem z_39 : zeroA Try.prog 39 = some [.val (Go.Value.int Go.IntKind.i64 0), .val (Go.Value.int Go.IntKind.i64 0), .val (Go.Value.int Go.IntKind.i64 0), .val (Go.Value.string { data := #[] })] := by simp only [zeroA, ti_39]; rfl
theorem fa_39_0 (x : AV) : fieldAddrA Try.prog 39 0 x = moveA 0 x := fieldAddrA_of ti_39 rfl 0 0 rfl rfl ti_37 rfl rfl x
theorem fa_39_1 (x : AV) : fieldAddrA Try.prog 39 1 x = moveA 1 x := fieldAddrA_of ti_39 rfl 1 1 rfl rfl ti_2 rfl rfl x
theorem fa_39_2 (x : AV) : fieldAddrA Try.prog 39 2 x = moveA 2 x := fieldAddrA_of ti_39 rfl 2 2 rfl rfl ti_2 rfl rfl x
theorem fa_39_3 (x : AV) : fieldAddrA Try.prog 39 3 x = moveA 3 x := fieldAddrA_of ti_39 rfl 3 3 rfl rfl ti_9 rfl rfl x
theorem ld_43 (m : Mem) (x : AV) : loadA Try.prog m 43 x = loadAgg m 5 x := loadA_agg ti_43 rfl rfl m x
theorem st_43 (m : Mem) (n off : Nat) (v : AV) : storeA Try.prog m 43 (.ptr n off) v = storeN m 5 n off v := storeA_of ti_43 m n off v
theorem z_43 : zeroA Try.prog 43 = some [.val (Go.Value.string { data := #[] }), .val (Go.Value.string { data := #[] }), .val (Go.Value.bool false), .val (Go.Value.int Go.IntKind.i64 0), .val (Go.Value.int Go.IntKind.i64 0)] := by simp only [zeroA, ti_43]; rfl
theorem fa_43_0 (x : AV) : fieldAddrA Try.prog 43 0 x = moveA 0 x := fieldAddrA_of ti_43 rfl 0 0 rfl rfl ti_9 rfl rfl x
theorem fa_43_1 (x : AV) : fieldAddrA Try.prog 43 1 x = moveA 1 x := fieldAddrA_of ti_43 rfl 1 1 rfl rfl ti_9 rfl rfl x
theorem fa_43_2 (x : AV) : fieldAddrA Try.prog 43 2 x = moveA 2 x := fieldAddrA_of ti_43 rfl 2 2 rfl rfl ti_4 rfl rfl x
theorem fa_43_3 (x : AV) : fieldAddrA Try.prog 43 3 x = moveA 3 x := fieldAddrA_of ti_43 rfl 3 3 rfl rfl ti_35 rfl rfl x
theorem ld_60 (m : Mem) (x : AV) : loadA Try.prog m 60 x = loadOne m x := loadA_one ti_60 rfl m x
theorem st_60 (m : Mem) (n off : Nat) (v : AV) : storeA Try.prog m 60 (.ptr n off) v = storeN m 1 n off v := storeA_of ti_60 m n off v
theorem z_60 : zeroA Try.prog 60 = some [.val (Go.Value.pointer none)] := by simp only [zeroA, ti_60]; rfl
theorem ld_62 (m : Mem) (x : AV) : loadA Try.prog m 62 x = loadAgg m 13 x := loadA_agg ti_62 rfl rfl m x
theorem st_62 (m : Mem) (n off : Nat) (v : AV) : storeA Try.prog m 62 (.ptr n off) v = storeN m 13 n off v := storeA_of ti_62 m n off v
theorem z_62 : zeroA Try.prog 62 = some [.val (Go.Value.string { data := #[] }), .val (Go.Value.string { data := #[] }), .val (Go.Value.bool false), .val (Go.Value.int Go.IntKind.i64 0), .val (Go.Value.int Go.IntKind.i64 0), .val (Go.Value.bool false), .val (Go.Value.int Go.IntKind.i64 0), .val (Go.Value.int Go.IntKind.i64 0), .val (Go.Value.int Go.IntKind.i64 0), .val (Go.Value.string { data := #[] }), .val (Go.Value.int Go.IntKind.i64 0), .val (Go.Value.int Go.IntKind.i64 0), .val (Go.Value.string { data := #[] })] := by simp only [zeroA, ti_62]; rfl
theorem fa_62_0 (x : AV) : fieldAddrA Try.prog 62 0 x = moveA 0 x := fieldAddrA_of ti_62 rfl 0 0 rfl rfl ti_43 rfl rfl x
theorem fa_62_1 (x : AV) : fieldAddrA Try.prog 62 1 x = moveA 5 x := fieldAddrA_of ti_62 rfl 1 5 rfl rfl ti_4 rfl rfl x
theorem fa_62_2 (x : AV) : fieldAddrA Try.prog 62 2 x = moveA 6 x := fieldAddrA_of ti_62 rfl 2 6 rfl rfl ti_35 rfl rfl x
theorem fa_62_3 (x : AV) : fieldAddrA Try.prog 62 3 x = moveA 8 x := fieldAddrA_of ti_62 rfl 3 8 rfl rfl ti_23 rfl rfl x
theorem ld_63 (m : Mem) (x : AV) : loadA Try.prog m 63 x = loadOne m x := loadA_one ti_63 rfl m x
theorem st_63 (m : Mem) (n off : Nat) (v : AV) : storeA Try.prog m 63 (.ptr n off) v = storeN m 1 n off v := storeA_of ti_63 m n off v
theorem z_63 : zeroA Try.prog 63 = some [.val Go.Value.nilFunc] := by simp only [zeroA, ti_63]; rfl
theorem ld_64 (m : Mem) (x : AV) : loadA Try.prog m 64 x = loadOne m x := loadA_one ti_64 rfl m x
theorem st_64 (m : Mem) (n off : Nat) (v : AV) : storeA Try.prog m 64 (.ptr n off) v = storeN m 1 n off v := storeA_of ti_64 m n off v
theorem z_64 : zeroA Try.prog 64 = some [.val (Go.Value.slice none 0 0)] := by simp only [zeroA, ti_64]; rfl
theorem ld_67 (m : Mem) (x : AV) : loadA Try.prog m 67 x = loadOne m x := loadA_one ti_67 rfl m x
theorem st_67 (m : Mem) (n off : Nat) (v : AV) : storeA Try.prog m 67 (.ptr n off) v = storeN m 1 n off v := storeA_of ti_67 m n off v
theorem z_67 : zeroA Try.prog 67 = some [.val (Go.Value.slice none 0 0)] := by simp only [zeroA, ti_67]; rfl
theorem ld_71 (m : Mem) (x : AV) : loadA Try.prog m 71 x = loadOne m x := loadA_one ti_71 rfl m x
theorem st_71 (m : Mem) (n off : Nat) (v : AV) : storeA Try.prog m 71 (.ptr n off) v = storeN m 1 n off v := storeA_of ti_71 m n off v
theorem z_71 : zeroA Try.prog 71 = some [.val Go.Value.nilFunc] := by simp only [zeroA, ti_71]; rfl
theorem ld_74 (m : Mem) (x : AV) : loadA Try.prog m 74 x = loadOne m x := loadA_one ti_74 rfl m x
theorem st_74 (m : Mem) (n off : Nat) (v : AV) : storeA Try.prog m 74 (.ptr n off) v = storeN m 1 n off v := storeA_of ti_74 m n off v
theorem z_74 : zeroA Try.prog 74 = some [.val (Go.Value.int Go.IntKind.u64 0)] := by simp only [zeroA, ti_74]; rfl
theorem ld_80 (m : Mem) (x : AV) : loadA Try.prog m 80 x = loadOne m x := loadA_one ti_80 rfl m x
theorem st_80 (m : Mem) (n off : Nat) (v : AV) : storeA Try.prog m 80 (.ptr n off) v = storeN m 1 n off v := storeA_of ti_80 m n off v
theorem z_80 : zeroA Try.prog 80 = some [.val (Go.Value.pointer none)] := by simp only [zeroA, ti_80]; rfl
theorem ld_82 (m : Mem) (x : AV) : loadA Try.prog m 82 x = loadAgg m 2 x := loadA_agg ti_82 rfl rfl m x
theorem st_82 (m : Mem) (n off : Nat) (v : AV) : storeA Try.prog m 82 (.ptr n off) v = storeN m 2 n off v := storeA_of ti_82 m n off v
theorem z_82 : zeroA Try.prog 82 = some [.val (Go.Value.pointer none), .val (Go.Value.slice none 0 0)] := by simp only [zeroA, ti_82]; rfl
theorem fa_82_0 (x : AV) : fieldAddrA Try.prog 82 0 x = moveA 0 x := fieldAddrA_of ti_82 rfl 0 0 rfl rfl ti_80 rfl rfl x
theorem fa_82_1 (x : AV) : fieldAddrA Try.prog 82 1 x = moveA 1 x := fieldAddrA_of ti_82 rfl 1 1 rfl rfl ti_67 rfl rfl x
theorem cs_2 : Try.prog.cellsOf 2 = 1 := cellsOf_ti ti_2
theorem cs_3 : Try.prog.cellsOf 3 = 1 := cellsOf_ti ti_3
theorem cs_4 : Try.prog.cellsOf 4 = 1 := cellsOf_ti ti_4
theorem cs_5 : Try.prog.cellsOf 5 = 1 := cellsOf_ti ti_5
theorem len_str_9 (m : Mem) (s : ByteArray) : lenA Try.prog m 9 (.val (.string s)) = some (.val (.int .i64 s.size)) := len_str ti_9 rfl m s
theorem cs_9 : Try.prog.cellsOf 9 = 1 := cellsOf_ti ti_9
theorem cs_23 : Try.prog.cellsOf 23 = 5 := cellsOf_ti ti_23
theorem bu_23 (parts : List (Nat × AV)) : buildA Try.prog 23 parts = buOf (fillA (fun i => [(0, 1), (1, 1), (2, 1), (3, 1), (4, 1)][i]?) [.val (Go.Value.int Go.IntKind.i64 0), .val (Go.Value.string { data := #[] }), .val (Go.Value.int Go.IntKind.i64 0), .val (Go.Value.int Go.IntKind.i64 0), .val (Go.Value.string { data := #[] })] parts) := build_struct ti_23 rfl z_23 (by simp only [placesA, ti_2, ti_3, ti_9]) parts
theorem sl_24 (m : Mem) (n off len cap : Nat) (lo hi mx : Option AV) : sliceA Try.prog m 24 (.sl n off len cap) lo hi mx = sliceOwn Try.prog 5 (m n) n off len cap lo hi mx := sliceA_own ti_24 rfl ti_43 m n off len cap lo hi mx
theorem ix_own_24 (n off len cap : Nat) (kk : IntKind) (k : Int) (h0 : 0 ≤ k) (h1 : k < len) : indexAddrA Try.prog 24 (.sl n off len cap) (.val (.int kk k)) = some (.ptr n (off + k.toNat * 5)) := index_own ti_24 rfl ti_43 n off len cap kk k h0 h1
theorem cap_own_24 (m : Mem) (n off len cap : Nat) : capA Try.prog m 24 (.sl n off len cap) = capOwn (m n) cap := cap_own ti_24 rfl m n off len cap
theorem len_own_24 (m : Mem) (n off len cap : Nat) : lenA Try.prog m 24 (.sl n off len cap) = some (.val (.int .i64 len)) := len_own ti_24 rfl m n off len cap
theorem len_read_24 (m : Mem) (es : List (List AV)) (x : Bool) : lenA Try.prog m 24 (.vs es x) = some (.val (.int .i64 es.length)) := len_read ti_24 rfl m es x
theorem len_nil_24 (m : Mem)  : lenA Try.prog m 24 (.val (.slice none 0 0)) = some (.val (.int .i64 0)) := len_nil ti_24 rfl m 
theorem app_24 : AppT Try.prog 24 24 43 ⟨(Go.TypeDesc.struct #[{ name := "Name", type := 9, offset := 0, embedded := false, tag := "", pkgPath := "", byteOffset := 0 }, { name := "Data", type := 9, offset := 1, embedded := false, tag := "", pkgPath := "", byteOffset := 16 }, { name := "Locked", type := 4, offset := 2, embedded := false, tag := "", pkgPath := "", byteOffset := 32 }, { name := "Holder", type := 35, offset := 3, embedded := false, tag := "", pkgPath := "", byteOffset := 40 }]), 5, 56, (some (Go.Value.agg #[(Go.Value.string { data := #[] }), (Go.Value.string { data := #[] }), (Go.Value.bool false), (Go.Value.int Go.IntKind.i64 0), (Go.Value.int Go.IntKind.i64 0)]))⟩ [.val (Go.Value.string { data := #[] }), .val (Go.Value.string { data := #[] }), .val (Go.Value.bool false), .val (Go.Value.int Go.IntKind.i64 0), .val (Go.Value.int Go.IntKind.i64 0)] := ⟨⟨_, ti_24, rfl⟩, ⟨_, ti_24, .inl ⟨_, rfl⟩⟩, ti_43, z_43, rfl, by decide, by decide⟩
theorem T_24 : SlT Try.prog 24 43 ⟨(Go.TypeDesc.struct #[{ name := "Name", type := 9, offset := 0, embedded := false, tag := "", pkgPath := "", byteOffset := 0 }, { name := "Data", type := 9, offset := 1, embedded := false, tag := "", pkgPath := "", byteOffset := 16 }, { name := "Locked", type := 4, offset := 2, embedded := false, tag := "", pkgPath := "", byteOffset := 32 }, { name := "Holder", type := 35, offset := 3, embedded := false, tag := "", pkgPath := "", byteOffset := 40 }]), 5, 56, (some (Go.Value.agg #[(Go.Value.string { data := #[] }), (Go.Value.string { data := #[] }), (Go.Value.bool false), (Go.Value.int Go.IntKind.i64 0), (Go.Value.int Go.IntKind.i64 0)]))⟩ [.val (Go.Value.string { data := #[] }), .val (Go.Value.string { data := #[] }), .val (Go.Value.bool false), .val (Go.Value.int Go.IntKind.i64 0), .val (Go.Value.int Go.IntKind.i64 0)] := ⟨⟨_, ti_24, rfl⟩, ti_43, z_43, rfl, rfl, by decide, by decide⟩
theorem lit0_24 : litA Try.prog 24 0 [] = some (43, 5, []) := by
  simp only [litA, ti_24, ti_43, z_43, fillA]
  rfl
theorem cp_24_eq_sl (n off len cap : Nat) (h : 0 < cap) : cmpA Try.prog 24 .eql (.sl n off len cap) (.val (.slice none 0 0)) = some (.val (.bool false)) := eq_sl ti_24 rfl n off len cap h
theorem cp_24_eq_vs {α : Type} (f : α → List AV) (l : List α) (x : Bool) (h : 0 < l.length) : cmpA Try.prog 24 .eql (.vs (l.map f) x) (.val (.slice none 0 0)) = some (.val (.bool false)) := eq_vs ti_24 f rfl l x h
theorem cp_24_eq_nil : cmpA Try.prog 24 .eql (.val (.slice none 0 0)) (.val (.slice none 0 0)) = some (.val (.bool true)) := eq_snil ti_24 rfl
theorem cp_24_ne_sl (n off len cap : Nat) (h : 0 < cap) : cmpA Try.prog 24 .neq (.sl n off len cap) (.val (.slice none 0 0)) = some (.val (.bool true)) := ne_sl ti_24 rfl n off len cap h
theorem cp_24_ne_vs {α : Type} (f : α → List AV) (l : List α) (x : Bool) (h : 0 < l.length) : cmpA Try.prog 24 .neq (.vs (l.map f) x) (.val (.slice none 0 0)) = some (.val (.bool true)) := ne_vs ti_24 f rfl l x h
theorem cp_24_ne_nil : cmpA Try.prog 24 .neq (.val (.slice none 0 0)) (.val (.slice none 0 0)) = some (.val (.bool false)) := ne_snil ti_24 rfl
theorem cs_24 : Try.prog.cellsOf 24 = 1 := cellsOf_ti ti_24
theorem sl_32 (m : Mem) (n off len cap : Nat) (lo hi mx : Option AV) : sliceA Try.prog m 32 (.sl n off len cap) lo hi mx = sliceOwn Try.prog 2 (m n) n off len cap lo hi mx := sliceA_own ti_32 rfl ti_35 m n off len cap lo hi mx
theorem ix_own_32 (n off len cap : Nat) (kk : IntKind) (k : Int) (h0 : 0 ≤ k) (h1 : k < len) : indexAddrA Try.prog 32 (.sl n off len cap) (.val (.int kk k)) = some (.ptr n (off + k.toNat * 2)) := index_own ti_32 rfl ti_35 n off len cap kk k h0 h1
theorem cap_own_32 (m : Mem) (n off len cap : Nat) : capA Try.prog m 32 (.sl n off len cap) = capOwn (m n) cap := cap_own ti_32 rfl m n off len cap
theorem len_own_32 (m : Mem) (n off len cap : Nat) : lenA Try.prog m 32 (.sl n off len cap) = some (.val (.int .i64 len)) := len_own ti_32 rfl m n off len cap
theorem len_read_32 (m : Mem) (es : List (List AV)) (x : Bool) : lenA Try.prog m 32 (.vs es x) = some (.val (.int .i64 es.length)) := len_read ti_32 rfl m es x
theorem len_nil_32 (m : Mem)  : lenA Try.prog m 32 (.val (.slice none 0 0)) = some (.val (.int .i64 0)) := len_nil ti_32 rfl m 
theorem app_32 : AppT Try.prog 32 32 35 ⟨(Go.TypeDesc.struct #[{ name := "Client", type := 3, offset := 0, embedded := false, tag := "", pkgPath := "", byteOffset := 0 }, { name := "Inst", type := 2, offset := 1, embedded := false, tag := "", pkgPath := "", byteOffset := 8 }]), 2, 16, (some (Go.Value.agg #[(Go.Value.int Go.IntKind.i64 0), (Go.Value.int Go.IntKind.i64 0)]))⟩ [.val (Go.Value.int Go.IntKind.i64 0), .val (Go.Value.int Go.IntKind.i64 0)] := ⟨⟨_, ti_32, rfl⟩, ⟨_, ti_32, .inl ⟨_, rfl⟩⟩, ti_35, z_35, rfl, by decide, by decide⟩
theorem T_32 : SlT Try.prog 32 35 ⟨(Go.TypeDesc.struct #[{ name := "Client", type := 3, offset := 0, embedded := false, tag := "", pkgPath := "", byteOffset := 0 }, { name := "Inst", type := 2, offset := 1, embedded := false, tag := "", pkgPath := "", byteOffset := 8 }]), 2, 16, (some (Go.Value.agg #[(Go.Value.int Go.IntKind.i64 0), (Go.Value.int Go.IntKind.i64 0)]))⟩ [.val (Go.Value.int Go.IntKind.i64 0), .val (Go.Value.int Go.IntKind.i64 0)] := ⟨⟨_, ti_32, rfl⟩, ti_35, z_35, rfl, rfl, by decide, by decide⟩
theorem lit0_32 : litA Try.prog 32 0 [] = some (35, 2, []) := by
  simp only [litA, ti_32, ti_35, z_35, fillA]
  rfl
theorem cp_32_eq_sl (n off len cap : Nat) (h : 0 < cap) : cmpA Try.prog 32 .eql (.sl n off len cap) (.val (.slice none 0 0)) = some (.val (.bool false)) := eq_sl ti_32 rfl n off len cap h
theorem cp_32_eq_vs {α : Type} (f : α → List AV) (l : List α) (x : Bool) (h : 0 < l.length) : cmpA Try.prog 32 .eql (.vs (l.map f) x) (.val (.slice none 0 0)) = some (.val (.bool false)) := eq_vs ti_32 f rfl l x h
theorem cp_32_eq_nil : cmpA Try.prog 32 .eql (.val (.slice none 0 0)) (.val (.slice none 0 0)) = some (.val (.bool true)) := eq_snil ti_32 rfl
theorem cp_32_ne_sl (n off len cap : Nat) (h : 0 < cap) : cmpA Try.prog 32 .neq (.sl n off len cap) (.val (.slice none 0 0)) = some (.val (.bool true)) := ne_sl ti_32 rfl n off len cap h
theorem cp_32_ne_vs {α : Type} (f : α → List AV) (l : List α) (x : Bool) (h : 0 < l.length) : cmpA Try.prog 32 .neq (.vs (l.map f) x) (.val (.slice none 0 0)) = some (.val (.bool true)) := ne_vs ti_32 f rfl l x h
theorem cp_32_ne_nil : cmpA Try.prog 32 .neq (.val (.slice none 0 0)) (.val (.slice none 0 0)) = some (.val (.bool false)) := ne_snil ti_32 rfl
theorem cs_32 : Try.prog.cellsOf 32 = 1 := cellsOf_ti ti_32
theorem sl_33 (m : Mem) (n off len cap : Nat) (lo hi mx : Option AV) : sliceA Try.prog m 33 (.sl n off len cap) lo hi mx = sliceOwn Try.prog 1 (m n) n off len cap lo hi mx := sliceA_own ti_33 rfl ti_3 m n off len cap lo hi mx
theorem ix_own_33 (n off len cap : Nat) (kk : IntKind) (k : Int) (h0 : 0 ≤ k) (h1 : k < len) : indexAddrA Try.prog 33 (.sl n off len cap) (.val (.int kk k)) = some (.ptr n (off + k.toNat * 1)) := index_own ti_33 rfl ti_3 n off len cap kk k h0 h1
theorem cap_own_33 (m : Mem) (n off len cap : Nat) : capA Try.prog m 33 (.sl n off len cap) = capOwn (m n) cap := cap_own ti_33 rfl m n off len cap
theorem len_own_33 (m : Mem) (n off len cap : Nat) : lenA Try.prog m 33 (.sl n off len cap) = some (.val (.int .i64 len)) := len_own ti_33 rfl m n off len cap
theorem len_read_33 (m : Mem) (es : List (List AV)) (x : Bool) : lenA Try.prog m 33 (.vs es x) = some (.val (.int .i64 es.length)) := len_read ti_33 rfl m es x
theorem len_nil_33 (m : Mem)  : lenA Try.prog m 33 (.val (.slice none 0 0)) = some (.val (.int .i64 0)) := len_nil ti_33 rfl m 
theorem app_33 : AppT Try.prog 33 33 3 ⟨(Go.TypeDesc.int Go.IntKind.i64), 1, 8, (some (Go.Value.int Go.IntKind.i64 0))⟩ [.val (Go.Value.int Go.IntKind.i64 0)] := ⟨⟨_, ti_33, rfl⟩, ⟨_, ti_33, .inl ⟨_, rfl⟩⟩, ti_3, z_3, rfl, by decide, by decide⟩
theorem T_33 : SlT Try.prog 33 3 ⟨(Go.TypeDesc.int Go.IntKind.i64), 1, 8, (some (Go.Value.int Go.IntKind.i64 0))⟩ [.val (Go.Value.int Go.IntKind.i64 0)] := ⟨⟨_, ti_33, rfl⟩, ti_3, z_3, rfl, rfl, by decide, by decide⟩
theorem lit1_33 (v : Value) : litA Try.prog 33 1 [(0, .val v)] = some (3, 1, [.val v]) := by
  simp only [litA, ti_33, ti_3, z_3, fillA, cells_val]
  rfl
theorem lit0_33 : litA Try.prog 33 0 [] = some (3, 1, []) := by
  simp only [litA, ti_33, ti_3, z_3, fillA]
  rfl
theorem cp_33_eq_sl (n off len cap : Nat) (h : 0 < cap) : cmpA Try.prog 33 .eql (.sl n off len cap) (.val (.slice none 0 0)) = some (.val (.bool false)) := eq_sl ti_33 rfl n off len cap h
theorem cp_33_eq_vs {α : Type} (f : α → List AV) (l : List α) (x : Bool) (h : 0 < l.length) : cmpA Try.prog 33 .eql (.vs (l.map f) x) (.val (.slice none 0 0)) = some (.val (.bool false)) := eq_vs ti_33 f rfl l x h
theorem cp_33_eq_nil : cmpA Try.prog 33 .eql (.val (.slice none 0 0)) (.val (.slice none 0 0)) = some (.val (.bool true)) := eq_snil ti_33 rfl
theorem cp_33_ne_sl (n off len cap : Nat) (h : 0 < cap) : cmpA Try.prog 33 .neq (.sl n off len cap) (.val (.slice none 0 0)) = some (.val (.bool true)) := ne_sl ti_33 rfl n off len cap h
theorem cp_33_ne_vs {α : Type} (f : α → List AV) (l : List α) (x : Bool) (h : 0 < l.length) : cmpA Try.prog 33 .neq (.vs (l.map f) x) (.val (.slice none 0 0)) = some (.val (.bool true)) := ne_vs ti_33 f rfl l x h
theorem cp_33_ne_nil : cmpA Try.prog 33 .neq (.val (.slice none 0 0)) (.val (.slice none 0 0)) = some (.val (.bool false)) := ne_snil ti_33 rfl
theorem cs_33 : Try.prog.cellsOf 33 = 1 := cellsOf_ti ti_33
theorem cs_35 : Try.prog.cellsOf 35 = 2 := cellsOf_ti ti_35
theorem bu_35 (parts : List (Nat × AV)) : buildA Try.prog 35 parts = buOf (fillA (fun i => [(0, 1), (1, 1)][i]?) [.val (Go.Value.int Go.IntKind.i64 0), .val (Go.Value.int Go.IntKind.i64 0)] parts) := build_struct ti_35 rfl z_35 (by simp only [placesA, ti_2, ti_3]) parts
theorem cs_37 : Try.prog.cellsOf 37 = 1 := cellsOf_ti ti_37
theorem cs_39 : Try.prog.cellsOf 39 = 4 := cellsOf_ti ti_39
theorem bu_39 (parts : List (Nat × AV)) : buildA Try.prog 39 parts = buOf (fillA (fun i => [(0, 1), (1, 1), (2, 1), (3, 1)][i]?) [.val (Go.Value.int Go.IntKind.i64 0), .val (Go.Value.int Go.IntKind.i64 0), .val (Go.Value.int Go.IntKind.i64 0), .val (Go.Value.string { data := #[] })] parts) := build_struct ti_39 rfl z_39 (by simp only [placesA, ti_2, ti_9, ti_37]) parts
theorem cs_43 : Try.prog.cellsOf 43 = 5 := cellsOf_ti ti_43
theorem bu_43 (parts : List (Nat × AV)) : buildA Try.prog 43 parts = buOf (fillA (fun i => [(0, 1), (1, 1), (2, 1), (3, 2)][i]?) [.val (Go.Value.string { data := #[] }), .val (Go.Value.string { data := #[] }), .val (Go.Value.bool false), .val (Go.Value.int Go.IntKind.i64 0), .val (Go.Value.int Go.IntKind.i64 0)] parts) := build_struct ti_43 rfl z_43 (by simp only [placesA, ti_4, ti_9, ti_35]) parts
theorem cp_60_eq_ptr (n off : Nat) : cmpA Try.prog 60 .eql (.ptr n off) (.val (.pointer none)) = some (.val (.bool false)) := eq_ptr ti_60 rfl n off
theorem cp_60_eq_vp (cs : List AV) (off : Nat) : cmpA Try.prog 60 .eql (.vp cs off) (.val (.pointer none)) = some (.val (.bool false)) := eq_vp ti_60 rfl cs off
theorem cp_60_eq_nil : cmpA Try.prog 60 .eql (.val (.pointer none)) (.val (.pointer none)) = some (.val (.bool true)) := eq_pnil ti_60 rfl
theorem cp_60_ne_ptr (n off : Nat) : cmpA Try.prog 60 .neq (.ptr n off) (.val (.pointer none)) = some (.val (.bool true)) := ne_ptr ti_60 rfl n off
theorem cp_60_ne_vp (cs : List AV) (off : Nat) : cmpA Try.prog 60 .neq (.vp cs off) (.val (.pointer none)) = some (.val (.bool true)) := ne_vp ti_60 rfl cs off
theorem cp_60_ne_nil : cmpA Try.prog 60 .neq (.val (.pointer none)) (.val (.pointer none)) = some (.val (.bool false)) := ne_pnil ti_60 rfl
theorem cs_60 : Try.prog.cellsOf 60 = 1 := cellsOf_ti ti_60
theorem cs_62 : Try.prog.cellsOf 62 = 13 := cellsOf_ti ti_62
theorem bu_62 (parts : List (Nat × AV)) : buildA Try.prog 62 parts = buOf (fillA (fun i => [(0, 5), (5, 1), (6, 2), (8, 5)][i]?) [.val (Go.Value.string { data := #[] }), .val (Go.Value.string { data := #[] }), .val (Go.Value.bool false), .val (Go.Value.int Go.IntKind.i64 0), .val (Go.Value.int Go.IntKind.i64 0), .val (Go.Value.bool false), .val (Go.Value.int Go.IntKind.i64 0), .val (Go.Value.int Go.IntKind.i64 0), .val (Go.Value.int Go.IntKind.i64 0), .val (Go.Value.string { data := #[] }), .val (Go.Value.int Go.IntKind.i64 0), .val (Go.Value.int Go.IntKind.i64 0), .val (Go.Value.string { data := #[] })] parts) := build_struct ti_62 rfl z_62 (by simp only [placesA, ti_4, ti_23, ti_35, ti_43]) parts
theorem cs_63 : Try.prog.cellsOf 63 = 1 := cellsOf_ti ti_63
theorem sl_64 (m : Mem) (n off len cap : Nat) (lo hi mx : Option AV) : sliceA Try.prog m 64 (.sl n off len cap) lo hi mx = sliceOwn Try.prog 1 (m n) n off len cap lo hi mx := sliceA_own ti_64 rfl ti_63 m n off len cap lo hi mx
theorem ix_own_64 (n off len cap : Nat) (kk : IntKind) (k : Int) (h0 : 0 ≤ k) (h1 : k < len) : indexAddrA Try.prog 64 (.sl n off len cap) (.val (.int kk k)) = some (.ptr n (off + k.toNat * 1)) := index_own ti_64 rfl ti_63 n off len cap kk k h0 h1
theorem cap_own_64 (m : Mem) (n off len cap : Nat) : capA Try.prog m 64 (.sl n off len cap) = capOwn (m n) cap := cap_own ti_64 rfl m n off len cap
theorem len_own_64 (m : Mem) (n off len cap : Nat) : lenA Try.prog m 64 (.sl n off len cap) = some (.val (.int .i64 len)) := len_own ti_64 rfl m n off len cap
theorem len_read_64 (m : Mem) (es : List (List AV)) (x : Bool) : lenA Try.prog m 64 (.vs es x) = some (.val (.int .i64 es.length)) := len_read ti_64 rfl m es x
theorem len_nil_64 (m : Mem)  : lenA Try.prog m 64 (.val (.slice none 0 0)) = some (.val (.int .i64 0)) := len_nil ti_64 rfl m 
theorem app_64 : AppT Try.prog 64 64 63 ⟨(Go.TypeDesc.func #[] #[39] false), 1, 8, (some Go.Value.nilFunc)⟩ [.val Go.Value.nilFunc] := ⟨⟨_, ti_64, rfl⟩, ⟨_, ti_64, .inl ⟨_, rfl⟩⟩, ti_63, z_63, rfl, by decide, by decide⟩
theorem T_64 : SlT Try.prog 64 63 ⟨(Go.TypeDesc.func #[] #[39] false), 1, 8, (some Go.Value.nilFunc)⟩ [.val Go.Value.nilFunc] := ⟨⟨_, ti_64, rfl⟩, ti_63, z_63, rfl, rfl, by decide, by decide⟩
theorem lit1_64 (v : Value) : litA Try.prog 64 1 [(0, .val v)] = some (63, 1, [.val v]) := by
  simp only [litA, ti_64, ti_63, z_63, fillA, cells_val]
  rfl
theorem lit0_64 : litA Try.prog 64 0 [] = some (63, 1, []) := by
  simp only [litA, ti_64, ti_63, z_63, fillA]
  rfl
theorem cp_64_eq_sl (n off len cap : Nat) (h : 0 < cap) : cmpA Try.prog 64 .eql (.sl n off len cap) (.val (.slice none 0 0)) = some (.val (.bool false)) := eq_sl ti_64 rfl n off len cap h
theorem cp_64_eq_vs {α : Type} (f : α → List AV) (l : List α) (x : Bool) (h : 0 < l.length) : cmpA Try.prog 64 .eql (.vs (l.map f) x) (.val (.slice none 0 0)) = some (.val (.bool false)) := eq_vs ti_64 f rfl l x h
theorem cp_64_eq_nil : cmpA Try.prog 64 .eql (.val (.slice none 0 0)) (.val (.slice none 0 0)) = some (.val (.bool true)) := eq_snil ti_64 rfl
theorem cp_64_ne_sl (n off len cap : Nat) (h : 0 < cap) : cmpA Try.prog 64 .neq (.sl n off len cap) (.val (.slice none 0 0)) = some (.val (.bool true)) := ne_sl ti_64 rfl n off len cap h
theorem cp_64_ne_vs {α : Type} (f : α → List AV) (l : List α) (x : Bool) (h : 0 < l.length) : cmpA Try.prog 64 .neq (.vs (l.map f) x) (.val (.slice none 0 0)) = some (.val (.bool true)) := ne_vs ti_64 f rfl l x h
theorem cp_64_ne_nil : cmpA Try.prog 64 .neq (.val (.slice none 0 0)) (.val (.slice none 0 0)) = some (.val (.bool false)) := ne_snil ti_64 rfl
theorem cs_64 : Try.prog.cellsOf 64 = 1 := cellsOf_ti ti_64
theorem sl_67 (m : Mem) (n off len cap : Nat) (lo hi mx : Option AV) : sliceA Try.prog m 67 (.sl n off len cap) lo hi mx = sliceOwn Try.prog 1 (m n) n off len cap lo hi mx := sliceA_own ti_67 rfl ti_5 m n off len cap lo hi mx
theorem ix_own_67 (n off len cap : Nat) (kk : IntKind) (k : Int) (h0 : 0 ≤ k) (h1 : k < len) : indexAddrA Try.prog 67 (.sl n off len cap) (.val (.int kk k)) = some (.ptr n (off + k.toNat * 1)) := index_own ti_67 rfl ti_5 n off len cap kk k h0 h1
theorem cap_own_67 (m : Mem) (n off len cap : Nat) : capA Try.prog m 67 (.sl n off len cap) = capOwn (m n) cap := cap_own ti_67 rfl m n off len cap
theorem len_own_67 (m : Mem) (n off len cap : Nat) : lenA Try.prog m 67 (.sl n off len cap) = some (.val (.int .i64 len)) := len_own ti_67 rfl m n off len cap
theorem len_read_67 (m : Mem) (es : List (List AV)) (x : Bool) : lenA Try.prog m 67 (.vs es x) = some (.val (.int .i64 es.length)) := len_read ti_67 rfl m es x
theorem len_nil_67 (m : Mem)  : lenA Try.prog m 67 (.val (.slice none 0 0)) = some (.val (.int .i64 0)) := len_nil ti_67 rfl m 
theorem app_67 : AppT Try.prog 67 67 5 ⟨(Go.TypeDesc.int Go.IntKind.u8), 1, 1, (some (Go.Value.int Go.IntKind.u8 0))⟩ [.val (Go.Value.int Go.IntKind.u8 0)] := ⟨⟨_, ti_67, rfl⟩, ⟨_, ti_67, .inl ⟨_, rfl⟩⟩, ti_5, z_5, rfl, by decide, by decide⟩
theorem T_67 : SlT Try.prog 67 5 ⟨(Go.TypeDesc.int Go.IntKind.u8), 1, 1, (some (Go.Value.int Go.IntKind.u8 0))⟩ [.val (Go.Value.int Go.IntKind.u8 0)] := ⟨⟨_, ti_67, rfl⟩, ti_5, z_5, rfl, rfl, by decide, by decide⟩
theorem lit1_67 (v : Value) : litA Try.prog 67 1 [(0, .val v)] = some (5, 1, [.val v]) := by
  simp only [litA, ti_67, ti_5, z_5, fillA, cells_val]
  rfl
theorem lit0_67 : litA Try.prog 67 0 [] = some (5, 1, []) := by
  simp only [litA, ti_67, ti_5, z_5, fillA]
  rfl
theorem cp_67_eq_sl (n off len cap : Nat) (h : 0 < cap) : cmpA Try.prog 67 .eql (.sl n off len cap) (.val (.slice none 0 0)) = some (.val (.bool false)) := eq_sl ti_67 rfl n off len cap h
theorem cp_67_eq_vs {α : Type} (f : α → List AV) (l : List α) (x : Bool) (h : 0 < l.length) : cmpA Try.prog 67 .eql (.vs (l.map f) x) (.val (.slice none 0 0)) = some (.val (.bool false)) := eq_vs ti_67 f rfl l x h
theorem cp_67_eq_nil : cmpA Try.prog 67 .eql (.val (.slice none 0 0)) (.val (.slice none 0 0)) = some (.val (.bool true)) := eq_snil ti_67 rfl
theorem cp_67_ne_sl (n off len cap : Nat) (h : 0 < cap) : cmpA Try.prog 67 .neq (.sl n off len cap) (.val (.slice none 0 0)) = some (.val (.bool true)) := ne_sl ti_67 rfl n off len cap h
theorem cp_67_ne_vs {α : Type} (f : α → List AV) (l : List α) (x : Bool) (h : 0 < l.length) : cmpA Try.prog 67 .neq (.vs (l.map f) x) (.val (.slice none 0 0)) = some (.val (.bool true)) := ne_vs ti_67 f rfl l x h
theorem cp_67_ne_nil : cmpA Try.prog 67 .neq (.val (.slice none 0 0)) (.val (.slice none 0 0)) = some (.val (.bool false)) := ne_snil ti_67 rfl
theorem cs_67 : Try.prog.cellsOf 67 = 1 := cellsOf_ti ti_67
theorem cs_71 : Try.prog.cellsOf 71 = 1 := cellsOf_ti ti_71
theorem cs_74 : Try.prog.cellsOf 74 = 1 := cellsOf_ti ti_74
theorem cp_80_eq_ptr (n off : Nat) : cmpA Try.prog 80 .eql (.ptr n off) (.val (.pointer none)) = some (.val (.bool false)) := eq_ptr ti_80 rfl n off
theorem cp_80_eq_vp (cs : List AV) (off : Nat) : cmpA Try.prog 80 .eql (.vp cs off) (.val (.pointer none)) = some (.val (.bool false)) := eq_vp ti_80 rfl cs off
theorem cp_80_eq_nil : cmpA Try.prog 80 .eql (.val (.pointer none)) (.val (.pointer none)) = some (.val (.bool true)) := eq_pnil ti_80 rfl
theorem cp_80_ne_ptr (n off : Nat) : cmpA Try.prog 80 .neq (.ptr n off) (.val (.pointer none)) = some (.val (.bool true)) := ne_ptr ti_80 rfl n off
theorem cp_80_ne_vp (cs : List AV) (off : Nat) : cmpA Try.prog 80 .neq (.vp cs off) (.val (.pointer none)) = some (.val (.bool true)) := ne_vp ti_80 rfl cs off
theorem cp_80_ne_nil : cmpA Try.prog 80 .neq (.val (.pointer none)) (.val (.pointer none)) = some (.val (.bool false)) := ne_pnil ti_80 rfl
theorem cs_80 : Try.prog.cellsOf 80 = 1 := cellsOf_ti ti_80
theorem cs_82 : Try.prog.cellsOf 82 = 2 := cellsOf_ti ti_82
theorem bu_82 (parts : List (Nat × AV)) : buildA Try.prog 82 parts = buOf (fillA (fun i => [(0, 1), (1, 1)][i]?) [.val (Go.Value.pointer none), .val (Go.Value.slice none 0 0)] parts) := build_struct ti_82 rfl z_82 (by simp only [placesA, ti_67, ti_80]) parts
theorem cv_3_74 (m : Mem) (k : IntKind) (n : Int) : convA Try.prog m 3 74 (.val (.int k n)) = some (.val (.int Go.IntKind.u64 (IntKind.wrap Go.IntKind.u64 n))) := by simp only [convA, ti_3, ti_74]
theorem cv_9_67 (m : Mem) (b : ByteArray) : convA Try.prog m 9 67 (.val (.string b)) = none := by simp only [convA, ti_9, ti_67]
theorem tb_9_67 (b : ByteArray) : textB Try.prog 9 67 (.val (.string b)) = some b := by simp only [textB, ti_9, ti_67, ti_5]
theorem cv_67_9 (m : Mem) (l : List UInt8) (x : Bool) : convA Try.prog m 67 9 (.vs (l.map byteC) x) = some (.val (.string ⟨l.toArray⟩)) := conv_vs ti_67 rfl ti_9 rfl ti_5 rfl m l x
theorem cv_74_3 (m : Mem) (k : IntKind) (n : Int) : convA Try.prog m 74 3 (.val (.int k n)) = some (.val (.int Go.IntKind.i64 (IntKind.wrap Go.IntKind.i64 n))) := by simp only [convA, ti_74, ti_3]
theorem rulesT : type_of% (And.intro @bu_23 (And.intro @bu_35 (And.intro @bu_39 (And.intro @bu_43 (And.intro @bu_62 (And.intro @bu_82 (And.intro @cap_own_24 (And.intro @cap_own_32 (And.intro @cap_own_33 (And.intro @cap_own_64 (And.intro @cap_own_67 (And.intro @cp_24_eq_nil (And.intro @cp_24_eq_sl (And.intro @cp_24_eq_vs (And.intro @cp_24_ne_nil (And.intro @cp_24_ne_sl (And.intro @cp_24_ne_vs (And.intro @cp_32_eq_nil (And.intro @cp_32_eq_sl (And.intro @cp_32_eq_vs (And.intro @cp_32_ne_nil (And.intro @cp_32_ne_sl (And.intro @cp_32_ne_vs (And.intro @cp_33_eq_nil (And.intro @cp_33_eq_sl (And.intro @cp_33_eq_vs (And.intro @cp_33_ne_nil (And.intro @cp_33_ne_sl (And.intro @cp_33_ne_vs (And.intro @cp_60_eq_nil (And.intro @cp_60_eq_ptr (And.intro @cp_60_eq_vp (And.intro @cp_60_ne_nil (And.intro @cp_60_ne_ptr (And.intro @cp_60_ne_vp (And.intro @cp_64_eq_nil (And.intro @cp_64_eq_sl (And.intro @cp_64_eq_vs (And.intro @cp_64_ne_nil (And.intro @cp_64_ne_sl (And.intro @cp_64_ne_vs (And.intro @cp_67_eq_nil (And.intro @cp_67_eq_sl (And.intro @cp_67_eq_vs (And.intro @cp_67_ne_nil (And.intro @cp_67_ne_sl (And.intro @cp_67_ne_vs (And.intro @cp_80_eq_nil (And.intro @cp_80_eq_ptr (And.intro @cp_80_eq_vp (And.intro @cp_80_ne_nil (And.intro @cp_80_ne_ptr (And.intro @cp_80_ne_vp (And.intro @cs_2 (And.intro @cs_23 (And.intro @cs_24 (And.intro @cs_3 (And.intro @cs_32 (And.intro @cs_33 (And.intro @cs_35 (And.intro @cs_37 (And.intro @cs_39 (And.intro @cs_4 (And.intro @cs_43 (And.intro @cs_5 (And.intro @cs_60 (And.intro @cs_62 (And.intro @cs_63 (And.intro @cs_64 (And.intro @cs_67 (And.intro @cs_71 (And.intro @cs_74 (And.intro @cs_80 (And.intro @cs_82 (And.intro @cs_9 (And.intro @cv_3_74 (And.intro @cv_67_9 (And.intro @cv_74_3 (And.intro @cv_9_67 (And.intro @fa_23_0 (And.intro @fa_23_1 (And.intro @fa_23_2 (And.intro @fa_23_3 (And.intro @fa_23_4 (And.intro @fa_35_0 (And.intro @fa_35_1 (And.intro @fa_39_0 (And.intro @fa_39_1 (And.intro @fa_39_2 (And.intro @fa_39_3 (And.intro @fa_43_0 (And.intro @fa_43_1 (And.intro @fa_43_2 (And.intro @fa_43_3 (And.intro @fa_62_0 (And.intro @fa_62_1 (And.intro @fa_62_2 (And.intro @fa_62_3 (And.intro @fa_82_0 (And.intro @fa_82_1 (And.intro @ix_own_24 (And.intro @ix_own_32 (And.intro @ix_own_33 (And.intro @ix_own_64 (And.intro @ix_own_67 (And.intro @ld_2 (And.intro @ld_23 (And.intro @ld_24 (And.intro @ld_3 (And.intro @ld_32 (And.intro @ld_33 (And.intro @ld_35 (And.intro @ld_37 (And.intro @ld_39 (And.intro @ld_4 (And.intro @ld_43 (And.intro @ld_5 (And.intro @ld_60 (And.intro @ld_62 (And.intro @ld_63 (And.intro @ld_64 (And.intro @ld_67 (And.intro @ld_71 (And.intro @ld_74 (And.intro @ld_80 (And.intro @ld_82 (And.intro @ld_9 (And.intro @len_nil_24 (And.intro @len_nil_32 (And.intro @len_nil_33 (And.intro @len_nil_64 (And.intro @len_nil_67 (And.intro @len_own_24 (And.intro @len_own_32 (And.intro @len_own_33 (And.intro @len_own_64 (And.intro @len_own_67 (And.intro @len_read_24 (And.intro @len_read_32 (And.intro @len_read_33 (And.intro @len_read_64 (And.intro @len_read_67 (And.intro @len_str_9 (And.intro @sl_24 (And.intro @sl_32 (And.intro @sl_33 (And.intro @sl_64 (And.intro @sl_67 (And.intro @st_2 (And.intro @st_23 (And.intro @st_24 (And.intro @st_3 (And.intro @st_32 (And.intro @st_33 (And.intro @st_35 (And.intro @st_37 (And.intro @st_39 (And.intro @st_4 (And.intro @st_43 (And.intro @st_5 (And.intro @st_60 (And.intro @st_62 (And.intro @st_63 (And.intro @st_64 (And.intro @st_67 (And.intro @st_71 (And.intro @st_74 (And.intro @st_80 (And.intro @st_82 (And.intro @st_9 (And.intro @tb_9_67 (And.intro @ti_2 (And.intro @ti_23 (And.intro @ti_24 (And.intro @ti_3 (And.intro @ti_32 (And.intro @ti_33 (And.intro @ti_35 (And.intro @ti_37 (And.intro @ti_39 (And.intro @ti_4 (And.intro @ti_43 (And.intro @ti_5 (And.intro @ti_60 (And.intro @ti_62 (And.intro @ti_63 (And.intro @ti_64 (And.intro @ti_67 (And.intro @ti_71 (And.intro @ti_74 (And.intro @ti_80 (And.intro @ti_82 (And.intro @ti_9 (And.intro @z_2 (And.intro @z_23 (And.intro @z_24 (And.intro @z_3 (And.intro @z_32 (And.intro @z_33 (And.intro @z_35 (And.intro @z_37 (And.intro @z_39 (And.intro @z_4 (And.intro @z_43 (And.intro @z_5 (And.intro @z_60 (And.intro @z_62 (And.intro @z_63 (And.intro @z_64 (And.intro @z_67 (And.intro @z_71 (And.intro @z_74 (And.intro @z_80 (And.intro @z_82 (@z_9))))))))))))))))))))))))))))))))))))))))))))))))))))))))))))))))))))))))))))))))))))))))))))))))))))))))))))))))))))))))))))))))))))))))))))))))))))))))))))))))))))))))))))))))))))))))))))))))))))))))))))))))))))))) := And.intro @bu_23 (And.intro @bu_35 (And.intro @bu_39 (And.intro @bu_43 (And.intro @bu_62 (And.intro @bu_82 (And.intro @cap_own_24 (And.intro @cap_own_32 (And.intro @cap_own_33 (And.intro @cap_own_64 (And.intro @cap_own_67 (And.intro @cp_24_eq_nil (And.intro @cp_24_eq_sl (And.intro @cp_24_eq_vs (And.intro @cp_24_ne_nil (And.intro @cp_24_ne_sl (And.intro @cp_24_ne_vs (And.intro @cp_32_eq_nil (And.intro @cp_32_eq_sl (And.intro @cp_32_eq_vs (And.intro @cp_32_ne_nil (And.intro @cp_32_ne_sl (And.intro @cp_32_ne_vs (And.intro @cp_33_eq_nil (And.intro @cp_33_eq_sl (And.intro @cp_33_eq_vs (And.intro @cp_33_ne_nil (And.intro @cp_33_ne_sl (And.intro @cp_33_ne_vs (And.intro @cp_60_eq_nil (And.intro @cp_60_eq_ptr (And.intro @cp_60_eq_vp (And.intro @cp_60_ne_nil (And.intro @cp_60_ne_ptr (And.intro @cp_60_ne_vp (And.intro @cp_64_eq_nil (And.intro @cp_64_eq_sl (And.intro @cp_64_eq_vs (And.intro @cp_64_ne_nil (And.intro @cp_64_ne_sl (And.intro @cp_64_ne_vs (And.intro @cp_67_eq_nil (And.intro @cp_67_eq_sl (And.intro @cp_67_eq_vs (And.intro @cp_67_ne_nil (And.intro @cp_67_ne_sl (And.intro @cp_67_ne_vs (And.intro @cp_80_eq_nil (And.intro @cp_80_eq_ptr (And.intro @cp_80_eq_vp (And.intro @cp_80_ne_nil (And.intro @cp_80_ne_ptr (And.intro @cp_80_ne_vp (And.intro @cs_2 (And.intro @cs_23 (And.intro @cs_24 (And.intro @cs_3 (And.intro @cs_32 (And.intro @cs_33 (And.intro @cs_35 (And.intro @cs_37 (And.intro @cs_39 (And.intro @cs_4 (And.intro @cs_43 (And.intro @cs_5 (And.intro @cs_60 (And.intro @cs_62 (And.intro @cs_63 (And.intro @cs_64 (And.intro @cs_67 (And.intro @cs_71 (And.intro @cs_74 (And.intro @cs_80 (And.intro @cs_82 (And.intro @cs_9 (And.intro @cv_3_74 (And.intro @cv_67_9 (And.intro @cv_74_3 (And.intro @cv_9_67 (And.intro @fa_23_0 (And.intro @fa_23_1 (And.intro @fa_23_2 (And.intro @fa_23_3 (And.intro @fa_23_4 (And.intro @fa_35_0 (And.intro @fa_35_1 (And.intro @fa_39_0 (And.intro @fa_39_1 (And.intro @fa_39_2 (And.intro @fa_39_3 (And.intro @fa_43_0 (And.intro @fa_43_1 (And.intro @fa_43_2 (And.intro @fa_43_3 (And.intro @fa_62_0 (And.intro @fa_62_1 (And.intro @fa_62_2 (And.intro @fa_62_3 (And.intro @fa_82_0 (And.intro @fa_82_1 (And.intro @ix_own_24 (And.intro @ix_own_32 (And.intro @ix_own_33 (And.intro @ix_own_64 (And.intro @ix_own_67 (And.intro @ld_2 (And.intro @ld_23 (And.intro @ld_24 (And.intro @ld_3 (And.intro @ld_32 (And.intro @ld_33 (And.intro @ld_35 (And.intro @ld_37 (And.intro @ld_39 (And.intro @ld_4 (And.intro @ld_43 (And.intro @ld_5 (And.intro @ld_60 (And.intro @ld_62 (And.intro @ld_63 (And.intro @ld_64 (And.intro @ld_67 (And.intro @ld_71 (And.intro @ld_74 (And.intro @ld_80 (And.intro @ld_82 (And.intro @ld_9 (And.intro @len_nil_24 (And.intro @len_nil_32 (And.intro @len_nil_33 (And.intro @len_nil_64 (And.intro @len_nil_67 (And.intro @len_own_24 (And.intro @len_own_32 (And.intro @len_own_33 (And.intro @len_own_64 (And.intro @len_own_67 (And.intro @len_read_24 (And.intro @len_read_32 (And.intro @len_read_33 (And.intro @len_read_64 (And.intro @len_read_67 (And.intro @len_str_9 (And.intro @sl_24 (And.intro @sl_32 (And.intro @sl_33 (And.intro @sl_64 (And.intro @sl_67 (And.intro @st_2 (And.intro @st_23 (And.intro @st_24 (And.intro @st_3 (And.intro @st_32 (And.intro @st_33 (And.intro @st_35 (And.intro @st_37 (And.intro @st_39 (And.intro @st_4 (And.intro @st_43 (And.intro @st_5 (And.intro @st_60 (And.intro @st_62 (And.intro @st_63 (And.intro @st_64 (And.intro @st_67 (And.intro @st_71 (And.intro @st_74 (And.intro @st_80 (And.intro @st_82 (And.intro @st_9 (And.intro @tb_9_67 (And.intro @ti_2 (And.intro @ti_23 (And.intro @ti_24 (And.intro @ti_3 (And.intro @ti_32 (And.intro @ti_33 (And.intro @ti_35 (And.intro @ti_37 (And.intro @ti_39 (And.intro @ti_4 (And.intro @ti_43 (And.intro @ti_5 (And.intro @ti_60 (And.intro @ti_62 (And.intro @ti_63 (And.intro @ti_64 (And.intro @ti_67 (And.intro @ti_71 (And.intro @ti_74 (And.intro @ti_80 (And.intro @ti_82 (And.intro @ti_9 (And.intro @z_2 (And.intro @z_23 (And.intro @z_24 (And.intro @z_3 (And.intro @z_32 (And.intro @z_33 (And.intro @z_35 (And.intro @z_37 (And.intro @z_39 (And.intro @z_4 (And.intro @z_43 (And.intro @z_5 (And.intro @z_60 (And.intro @z_62 (And.intro @z_63 (And.intro @z_64 (And.intro @z_67 (And.intro @z_71 (And.intro @z_74 (And.intro @z_80 (And.intro @z_82 (@z_9))))))))))))))))))))))))))))))))))))))))))))))))))))))))))))))))))))))))))))))))))))))))))))))))))))))))))))))))))))))))))))))))))))))))))))))))))))))))))))))))))))))))))))))))))))))))))))))))))))))))))))))))))))))
end Go.Proofs.Ytanfgfclpjmngaa
