/- What the types come to, printed by a tool of mine. -/
import Derived.Test.YteilhoojlcpbpaaA26
import Derived.Test.YteilhoojlcpbpaaProg
set_option maxRecDepth 100000
namespace Go.Proofs.Yteilhoojlcpbpaa
open Go.Abs
theorem ti_2 : ti Try.prog 2 = some ⟨(Go.TypeDesc.int Go.IntKind.i64), 1, 8, (some (Go.Value.int Go.IntKind.i64 0))⟩ := by kernel_rfl
theorem ti_3 : ti Try.prog 3 = some ⟨(Go.TypeDesc.int Go.IntKind.i64), 1, 8, (some (Go.Value.int Go.IntKind.i64 0))⟩ := by kernel_rfl
theorem ti_4 : ti Try.prog 4 = some ⟨Go.TypeDesc.bool, 1, 1, (some (Go.Value.bool false))⟩ := by kernel_rfl
theorem ti_5 : ti Try.prog 5 = some ⟨(Go.TypeDesc.int Go.IntKind.u8), 1, 1, (some (Go.Value.int Go.IntKind.u8 0))⟩ := by kernel_rfl
theorem ti_9 : ti Try.prog 9 = some ⟨Go.TypeDesc.string, 1, 16, (some (Go.Value.string { data := #[] }))⟩ := by kernel_rfl
theorem ti_22 : ti Try.prog 22 = some ⟨(Go.TypeDesc.slice 28), 1, 24, (some (Go.Value.slice none 0 0))⟩ := by kernel_rfl
theorem ti_23 : ti Try.prog 23 = some ⟨(Go.TypeDesc.int Go.IntKind.u32), 1, 4, (some (Go.Value.int Go.IntKind.u32 0))⟩ := by kernel_rfl
theorem ti_26 : ti Try.prog 26 = some ⟨(Go.TypeDesc.int Go.IntKind.u64), 1, 8, (some (Go.Value.int Go.IntKind.u64 0))⟩ := by kernel_rfl
theorem ti_28 : ti Try.prog 28 = some ⟨(Go.TypeDesc.struct #[{ name := "Id", type := 3, offset := 0, embedded := false, tag := "", pkgPath := "", byteOffset := 0 }, { name := "Weight", type := 2, offset := 1, embedded := false, tag := "", pkgPath := "", byteOffset := 8 }]), 2, 16, (some (Go.Value.agg #[(Go.Value.int Go.IntKind.i64 0), (Go.Value.int Go.IntKind.i64 0)]))⟩ := by kernel_rfl
theorem ti_35 : ti Try.prog 35 = some ⟨(Go.TypeDesc.slice 3), 1, 24, (some (Go.Value.slice none 0 0))⟩ := by kernel_rfl
theorem ti_42 : ti Try.prog 42 = some ⟨(Go.TypeDesc.struct #[{ name := "Item", type := 28, offset := 0, embedded := true, tag := "", pkgPath := "", byteOffset := 0 }, { name := "place", type := 3, offset := 2, embedded := false, tag := "", pkgPath := "reef/crush", byteOffset := 16 }, { name := "cost", type := 2, offset := 3, embedded := false, tag := "", pkgPath := "reef/crush", byteOffset := 24 }]), 4, 32, (some (Go.Value.agg #[(Go.Value.int Go.IntKind.i64 0), (Go.Value.int Go.IntKind.i64 0), (Go.Value.int Go.IntKind.i64 0), (Go.Value.int Go.IntKind.i64 0)]))⟩ := by kernel_rfl
theorem ti_44 : ti Try.prog 44 = some ⟨(Go.TypeDesc.func #[58] #[] false), 1, 8, (some Go.Value.nilFunc)⟩ := by kernel_rfl
theorem ti_46 : ti Try.prog 46 = some ⟨(Go.TypeDesc.func #[42, 42] #[3] false), 1, 8, (some Go.Value.nilFunc)⟩ := by kernel_rfl
theorem ti_54 : ti Try.prog 54 = some ⟨(Go.TypeDesc.slice 23), 1, 24, (some (Go.Value.slice none 0 0))⟩ := by kernel_rfl
theorem ti_55 : ti Try.prog 55 = some ⟨(Go.TypeDesc.slice 42), 1, 24, (some (Go.Value.slice none 0 0))⟩ := by kernel_rfl
theorem ti_58 : ti Try.prog 58 = some ⟨(Go.TypeDesc.func #[42] #[4] false), 1, 8, (some Go.Value.nilFunc)⟩ := by kernel_rfl
theorem ti_62 : ti Try.prog 62 = some ⟨(Go.TypeDesc.func #[70] #[] false), 1, 8, (some Go.Value.nilFunc)⟩ := by kernel_rfl
theorem ti_64 : ti Try.prog 64 = some ⟨(Go.TypeDesc.int Go.IntKind.u64), 1, 8, (some (Go.Value.int Go.IntKind.u64 0))⟩ := by kernel_rfl
theorem ti_65 : ti Try.prog 65 = some ⟨(Go.TypeDesc.func #[23] #[4] false), 1, 8, (some Go.Value.nilFunc)⟩ := by kernel_rfl
theorem ti_70 : ti Try.prog 70 = some ⟨(Go.TypeDesc.func #[5] #[4] false), 1, 8, (some Go.Value.nilFunc)⟩ := by kernel_rfl
theorem ti_72 : ti Try.prog 72 = some ⟨(Go.TypeDesc.int Go.IntKind.i64), 1, 8, (some (Go.Value.int Go.IntKind.i64 0))⟩ := by kernel_rfl
theorem ti_80 : ti Try.prog 80 = some ⟨(Go.TypeDesc.int Go.IntKind.u64), 1, 8, (some (Go.Value.int Go.IntKind.u64 0))⟩ := by kernel_rfl
theorem ti_84 : ti Try.prog 84 = some ⟨(Go.TypeDesc.pointer 3), 1, 8, (some (Go.Value.pointer none))⟩ := by kernel_rfl
theorem ti_86 : ti Try.prog 86 = some ⟨(Go.TypeDesc.pointer 80), 1, 8, (some (Go.Value.pointer none))⟩ := by kernel_rfl
theorem ld_2 (m : Mem) (x : AV) : loadA Try.prog m 2 x = loadOne m x := loadA_one ti_2 rfl m x
theorem st_2 (m : Mem) (n off : Nat) (v : AV) : storeA Try.prog m 2 (.ptr n off) v = storeN m 1 n off v := storeA_of ti_2 m n off v
theorem z_2 : zeroA Try.prog 2 = some [.val (Go.Value.int Go.IntKind.i64 0)] := by simp only [zeroA, ti_2]; rfl
theorem ld_3 (m : Mem) (x : AV) : loadA Try.prog m 3 x = loadOne m x := loadA_one ti_3 rfl m x
theorem st_3 (m : Mem) (n off : Nat) (v : AV) : storeA Try.prog m 3 (.ptr n off) v = storeN m 1 n off v := storeA_of ti_3 m n off v
theorem z_3 : zeroA Try.prog 3 = some [.val (Go.Value.int Go.IntKind.i64 0)] := by simp only [zeroA, ti_3]; rfl
theorem ld_4 (m : Mem) (x : AV) : loadA Try.prog m 4 x = loadOne m x := loadA_one ti_4 rfl m x
theorem st_4 (m : Mem) (n off : Nat) (v : AV) : storeA Try.prog m 4 (.ptr n off) v = storeN m 1 n off v := storeA_of ti_4 m n off v
theorem z_4 : zeroA Try.prog 4 = some [.val (Go.Value.bool false)] := by simp only [zeroA, ti_4]; rfl
theorem ld_5 (m : Mem) (x : AV) : loadA Try.prog m 5 x = loadOne m x := loadA_one ti_5 rfl m x
theorem st_5 (m : Mem) (n off : Nat) (v : AV) : storeA Try.prog m 5 (.ptr n off) v = storeN m 1 n off v := storeA_of ti_5 m n off v
theorem z_5 : zeroA Try.prog 5 = some [.val (Go.Value.int Go.IntKind.u8 0)] := by simp only [zeroA, ti_5]; rfl
theorem ld_9 (m : Mem) (x : AV) : loadA Try.prog m 9 x = loadOne m x := loadA_one ti_9 rfl m x
theorem st_9 (m : Mem) (n off : Nat) (v : AV) : storeA Try.prog m 9 (.ptr n off) v = storeN m 1 n off v := storeA_of ti_9 m n off v
theorem z_9 : zeroA Try.prog 9 = some [.val (Go.Value.string { data := #[] })] := by simp only [zeroA, ti_9]; rfl
theorem ld_22 (m : Mem) (x : AV) : loadA Try.prog m 22 x = loadOne m x := loadA_one ti_22 rfl m x
theorem st_22 (m : Mem) (n off : Nat) (v : AV) : storeA Try.prog m 22 (.ptr n off) v = storeN m 1 n off v := storeA_of ti_22 m n off v
theorem z_22 : zeroA Try.prog 22 = some [.val (Go.Value.slice none 0 0)] := by simp only [zeroA, ti_22]; rfl
theorem ld_23 (m : Mem) (x : AV) : loadA Try.prog m 23 x = loadOne m x := loadA_one ti_23 rfl m x
theorem st_23 (m : Mem) (n off : Nat) (v : AV) : storeA Try.prog m 23 (.ptr n off) v = storeN m 1 n off v := storeA_of ti_23 m n off v
theorem z_23 : zeroA Try.prog 23 = some [.val (Go.Value.int Go.IntKind.u32 0)] := by simp only [zeroA, ti_23]; rfl
theorem ld_26 (m : Mem) (x : AV) : loadA Try.prog m 26 x = loadOne m x := loadA_one ti_26 rfl m x
theorem st_26 (m : Mem) (n off : Nat) (v : AV) : storeA Try.prog m 26 (.ptr n off) v = storeN m 1 n off v := storeA_of ti_26 m n off v
theorem z_26 : zeroA Try.prog 26 = some [.val (Go.Value.int Go.IntKind.u64 0)] := by simp only [zeroA, ti_26]; rfl
theorem ld_28 (m : Mem) (x : AV) : loadA Try.prog m 28 x = loadAgg m 2 x := loadA_agg ti_28 rfl rfl m x
theorem st_28 (m : Mem) (n off : Nat) (v : AV) : storeA Try.prog m 28 (.ptr n off) v = storeN m 2 n off v := storeA_of ti_28 m n off v
theorem z_28 : zeroA Try.prog 28 = some [.val (Go.Value.int Go.IntKind.i64 0), .val (Go.Value.int Go.IntKind.i64 0)] := by simp only [zeroA, ti_28]; rfl
theorem fa_28_0 (x : AV) : fieldAddrA Try.prog 28 0 x = moveA 0 x := fieldAddrA_of ti_28 rfl 0 0 rfl rfl ti_3 rfl rfl x
theorem fa_28_1 (x : AV) : fieldAddrA Try.prog 28 1 x = moveA 1 x := fieldAddrA_of ti_28 rfl 1 1 rfl rfl ti_2 rfl rfl x
theorem ld_35 (m : Mem) (x : AV) : loadA Try.prog m 35 x = loadOne m x := loadA_one ti_35 rfl m x
theorem st_35 (m : Mem) (n off : Nat) (v : AV) : storeA Try.prog m 35 (.ptr n off) v = storeN m 1 n off v := storeA_of ti_35 m n off v
theorem z_35 : zeroA Try.prog 35 = some [.val (Go.Value.slice none 0 0)] := by simp only [zeroA, ti_35]; rfl
theorem ld_42 (m : Mem) (x : AV) : loadA Try.prog m 42 x = loadAgg m 4 x := loadA_agg ti_42 rfl rfl m x
theorem st_42 (m : Mem) (n off : Nat) (v : AV) : storeA Try.prog m 42 (.ptr n off) v = storeN m 4 n off v := storeA_of ti_42 m n off v
theorem z_42 : zeroA Try.prog 42 = some [.val (Go.Value.int Go.IntKind.i64 0), .val (Go.Value.int Go.IntKind.i64 0), .val (Go.Value.int Go.IntKind.i64 0), .val (Go.Value.int Go.IntKind.i64 0)] := by simp only [zeroA, ti_42]; rfl
theorem fa_42_0 (x : AV) : fieldAddrA Try.prog 42 0 x = moveA 0 x := fieldAddrA_of ti_42 rfl 0 0 rfl rfl ti_28 rfl rfl x
theorem fa_42_1 (x : AV) : fieldAddrA Try.prog 42 1 x = moveA 2 x := fieldAddrA_of ti_42 rfl 1 2 rfl rfl ti_3 rfl rfl x
theorem fa_42_2 (x : AV) : fieldAddrA Try.prog 42 2 x = moveA 3 x := fieldAddrA_of ti_42 rfl 2 3 rfl rfl ti_2 rfl rfl x
theorem ld_44 (m : Mem) (x : AV) : loadA Try.prog m 44 x = loadOne m x := loadA_one ti_44 rfl m x
theorem st_44 (m : Mem) (n off : Nat) (v : AV) : storeA Try.prog m 44 (.ptr n off) v = storeN m 1 n off v := storeA_of ti_44 m n off v
theorem z_44 : zeroA Try.prog 44 = some [.val Go.Value.nilFunc] := by simp only [zeroA, ti_44]; rfl
theorem ld_46 (m : Mem) (x : AV) : loadA Try.prog m 46 x = loadOne m x := loadA_one ti_46 rfl m x
theorem st_46 (m : Mem) (n off : Nat) (v : AV) : storeA Try.prog m 46 (.ptr n off) v = storeN m 1 n off v := storeA_of ti_46 m n off v
theorem z_46 : zeroA Try.prog 46 = some [.val Go.Value.nilFunc] := by simp only [zeroA, ti_46]; rfl
theorem ld_54 (m : Mem) (x : AV) : loadA Try.prog m 54 x = loadOne m x := loadA_one ti_54 rfl m x
theorem st_54 (m : Mem) (n off : Nat) (v : AV) : storeA Try.prog m 54 (.ptr n off) v = storeN m 1 n off v := storeA_of ti_54 m n off v
theorem z_54 : zeroA Try.prog 54 = some [.val (Go.Value.slice none 0 0)] := by simp only [zeroA, ti_54]; rfl
theorem ld_55 (m : Mem) (x : AV) : loadA Try.prog m 55 x = loadOne m x := loadA_one ti_55 rfl m x
theorem st_55 (m : Mem) (n off : Nat) (v : AV) : storeA Try.prog m 55 (.ptr n off) v = storeN m 1 n off v := storeA_of ti_55 m n off v
theorem z_55 : zeroA Try.prog 55 = some [.val (Go.Value.slice none 0 0)] := by simp only [zeroA, ti_55]; rfl
theorem ld_58 (m : Mem) (x : AV) : loadA Try.prog m 58 x = loadOne m x := loadA_one ti_58 rfl m x
theorem st_58 (m : Mem) (n off : Nat) (v : AV) : storeA Try.prog m 58 (.ptr n off) v = storeN m 1 n off v := storeA_of ti_58 m n off v
theorem z_58 : zeroA Try.prog 58 = some [.val Go.Value.nilFunc] := by simp only [zeroA, ti_58]; rfl
theorem ld_62 (m : Mem) (x : AV) : loadA Try.prog m 62 x = loadOne m x := loadA_one ti_62 rfl m x
theorem st_62 (m : Mem) (n off : Nat) (v : AV) : storeA Try.prog m 62 (.ptr n off) v = storeN m 1 n off v := storeA_of ti_62 m n off v
theorem z_62 : zeroA Try.prog 62 = some [.val Go.Value.nilFunc] := by simp only [zeroA, ti_62]; rfl
theorem ld_64 (m : Mem) (x : AV) : loadA Try.prog m 64 x = loadOne m x := loadA_one ti_64 rfl m x
theorem st_64 (m : Mem) (n off : Nat) (v : AV) : storeA Try.prog m 64 (.ptr n off) v = storeN m 1 n off v := storeA_of ti_64 m n off v
theorem z_64 : zeroA Try.prog 64 = some [.val (Go.Value.int Go.IntKind.u64 0)] := by simp only [zeroA, ti_64]; rfl
theorem ld_65 (m : Mem) (x : AV) : loadA Try.prog m 65 x = loadOne m x := loadA_one ti_65 rfl m x
theorem st_65 (m : Mem) (n off : Nat) (v : AV) : storeA Try.prog m 65 (.ptr n off) v = storeN m 1 n off v := storeA_of ti_65 m n off v
theorem z_65 : zeroA Try.prog 65 = some [.val Go.Value.nilFunc] := by simp only [zeroA, ti_65]; rfl
theorem ld_70 (m : Mem) (x : AV) : loadA Try.prog m 70 x = loadOne m x := loadA_one ti_70 rfl m x
theorem st_70 (m : Mem) (n off : Nat) (v : AV) : storeA Try.prog m 70 (.ptr n off) v = storeN m 1 n off v := storeA_of ti_70 m n off v
theorem z_70 : zeroA Try.prog 70 = some [.val Go.Value.nilFunc] := by simp only [zeroA, ti_70]; rfl
theorem ld_72 (m : Mem) (x : AV) : loadA Try.prog m 72 x = loadOne m x := loadA_one ti_72 rfl m x
theorem st_72 (m : Mem) (n off : Nat) (v : AV) : storeA Try.prog m 72 (.ptr n off) v = storeN m 1 n off v := storeA_of ti_72 m n off v
theorem z_72 : zeroA Try.prog 72 = some [.val (Go.Value.int Go.IntKind.i64 0)] := by simp only [zeroA, ti_72]; rfl
theorem ld_80 (m : Mem) (x : AV) : loadA Try.prog m 80 x = loadOne m x := loadA_one ti_80 rfl m x
theorem st_80 (m : Mem) (n off : Nat) (v : AV) : storeA Try.prog m 80 (.ptr n off) v = storeN m 1 n off v := storeA_of ti_80 m n off v
theorem z_80 : zeroA Try.prog 80 = some [.val (Go.Value.int Go.IntKind.u64 0)] := by simp only [zeroA, ti_80]; rfl
theorem ld_84 (m : Mem) (x : AV) : loadA Try.prog m 84 x = loadOne m x := loadA_one ti_84 rfl m x
theorem st_84 (m : Mem) (n off : Nat) (v : AV) : storeA Try.prog m 84 (.ptr n off) v = storeN m 1 n off v := storeA_of ti_84 m n off v
theorem z_84 : zeroA Try.prog 84 = some [.val (Go.Value.pointer none)] := by simp only [zeroA, ti_84]; rfl
theorem ld_86 (m : Mem) (x : AV) : loadA Try.prog m 86 x = loadOne m x := loadA_one ti_86 rfl m x
theorem st_86 (m : Mem) (n off : Nat) (v : AV) : storeA Try.prog m 86 (.ptr n off) v = storeN m 1 n off v := storeA_of ti_86 m n off v
theorem z_86 : zeroA Try.prog 86 = some [.val (Go.Value.pointer none)] := by simp only [zeroA, ti_86]; rfl
theorem cs_2 : Try.prog.cellsOf 2 = 1 := cellsOf_ti ti_2
theorem cs_3 : Try.prog.cellsOf 3 = 1 := cellsOf_ti ti_3
theorem cs_4 : Try.prog.cellsOf 4 = 1 := cellsOf_ti ti_4
theorem cs_5 : Try.prog.cellsOf 5 = 1 := cellsOf_ti ti_5
theorem len_str_9 (m : Mem) (s : ByteArray) : lenA Try.prog m 9 (.val (.string s)) = some (.val (.int .i64 s.size)) := len_str ti_9 rfl m s
theorem cs_9 : Try.prog.cellsOf 9 = 1 := cellsOf_ti ti_9
theorem sl_22 (m : Mem) (n off len cap : Nat) (lo hi mx : Option AV) : sliceA Try.prog m 22 (.sl n off len cap) lo hi mx = sliceOwn Try.prog 2 (m n) n off len cap lo hi mx := sliceA_own ti_22 rfl ti_28 m n off len cap lo hi mx
theorem ix_own_22 (n off len cap : Nat) (kk : IntKind) (k : Int) (h0 : 0 ≤ k) (h1 : k < len) : indexAddrA Try.prog 22 (.sl n off len cap) (.val (.int kk k)) = some (.ptr n (off + k.toNat * 2)) := index_own ti_22 rfl ti_28 n off len cap kk k h0 h1
theorem cap_own_22 (m : Mem) (n off len cap : Nat) : capA Try.prog m 22 (.sl n off len cap) = capOwn (m n) cap := cap_own ti_22 rfl m n off len cap
theorem len_own_22 (m : Mem) (n off len cap : Nat) : lenA Try.prog m 22 (.sl n off len cap) = some (.val (.int .i64 len)) := len_own ti_22 rfl m n off len cap
theorem len_read_22 (m : Mem) (es : List (List AV)) (x : Bool) : lenA Try.prog m 22 (.vs es x) = some (.val (.int .i64 es.length)) := len_read ti_22 rfl m es x
theorem len_nil_22 (m : Mem)  : lenA Try.prog m 22 (.val (.slice none 0 0)) = some (.val (.int .i64 0)) := len_nil ti_22 rfl m 
theorem app_22 : AppT Try.prog 22 22 28 ⟨(Go.TypeDesc.struct #[{ name := "Id", type := 3, offset := 0, embedded := false, tag := "", pkgPath := "", byteOffset := 0 }, { name := "Weight", type := 2, offset := 1, embedded := false, tag := "", pkgPath := "", byteOffset := 8 }]), 2, 16, (some (Go.Value.agg #[(Go.Value.int Go.IntKind.i64 0), (Go.Value.int Go.IntKind.i64 0)]))⟩ [.val (Go.Value.int Go.IntKind.i64 0), .val (Go.Value.int Go.IntKind.i64 0)] := ⟨⟨_, ti_22, rfl⟩, ⟨_, ti_22, .inl ⟨_, rfl⟩⟩, ti_28, z_28, rfl, by decide, by decide⟩
theorem T_22 : SlT Try.prog 22 28 ⟨(Go.TypeDesc.struct #[{ name := "Id", type := 3, offset := 0, embedded := false, tag := "", pkgPath := "", byteOffset := 0 }, { name := "Weight", type := 2, offset := 1, embedded := false, tag := "", pkgPath := "", byteOffset := 8 }]), 2, 16, (some (Go.Value.agg #[(Go.Value.int Go.IntKind.i64 0), (Go.Value.int Go.IntKind.i64 0)]))⟩ [.val (Go.Value.int Go.IntKind.i64 0), .val (Go.Value.int Go.IntKind.i64 0)] := ⟨⟨_, ti_22, rfl⟩, ti_28, z_28, rfl, rfl, by decide, by decide⟩
theorem lit0_22 : litA Try.prog 22 0 [] = some (28, 2, []) := by
  simp only [litA, ti_22, ti_28, z_28, fillA]
  rfl
theorem cp_22_eq_sl (n off len cap : Nat) (h : 0 < cap) : cmpA Try.prog 22 .eql (.sl n off len cap) (.val (.slice none 0 0)) = some (.val (.bool false)) := eq_sl ti_22 rfl n off len cap h
theorem cp_22_eq_vs {α : Type} (f : α → List AV) (l : List α) (x : Bool) (h : 0 < l.length) : cmpA Try.prog 22 .eql (.vs (l.map f) x) (.val (.slice none 0 0)) = some (.val (.bool false)) := eq_vs ti_22 f rfl l x h
theorem cp_22_eq_nil : cmpA Try.prog 22 .eql (.val (.slice none 0 0)) (.val (.slice none 0 0)) = some (.val (.bool true)) := eq_snil ti_22 rfl
theorem cp_22_ne_sl (n off len cap : Nat) (h : 0 < cap) : cmpA Try.prog 22 .neq (.sl n off len cap) (.val (.slice none 0 0)) = some (.val (.bool true)) := ne_sl ti_22 rfl n off len cap h
theorem cp_22_ne_vs {α : Type} (f : α → List AV) (l : List α) (x : Bool) (h : 0 < l.length) : cmpA Try.prog 22 .neq (.vs (l.map f) x) (.val (.slice none 0 0)) = some (.val (.bool true)) := ne_vs ti_22 f rfl l x h
theorem cp_22_ne_nil : cmpA Try.prog 22 .neq (.val (.slice none 0 0)) (.val (.slice none 0 0)) = some (.val (.bool false)) := ne_snil ti_22 rfl
theorem cs_22 : Try.prog.cellsOf 22 = 1 := cellsOf_ti ti_22
theorem cs_23 : Try.prog.cellsOf 23 = 1 := cellsOf_ti ti_23
theorem cs_26 : Try.prog.cellsOf 26 = 1 := cellsOf_ti ti_26
theorem cs_28 : Try.prog.cellsOf 28 = 2 := cellsOf_ti ti_28
theorem bu_28 (parts : List (Nat × AV)) : buildA Try.prog 28 parts = buOf (fillA (fun i => [(0, 1), (1, 1)][i]?) [.val (Go.Value.int Go.IntKind.i64 0), .val (Go.Value.int Go.IntKind.i64 0)] parts) := build_struct ti_28 rfl z_28 (by simp only [placesA, ti_2, ti_3]) parts
theorem sl_35 (m : Mem) (n off len cap : Nat) (lo hi mx : Option AV) : sliceA Try.prog m 35 (.sl n off len cap) lo hi mx = sliceOwn Try.prog 1 (m n) n off len cap lo hi mx := sliceA_own ti_35 rfl ti_3 m n off len cap lo hi mx
theorem ix_own_35 (n off len cap : Nat) (kk : IntKind) (k : Int) (h0 : 0 ≤ k) (h1 : k < len) : indexAddrA Try.prog 35 (.sl n off len cap) (.val (.int kk k)) = some (.ptr n (off + k.toNat * 1)) := index_own ti_35 rfl ti_3 n off len cap kk k h0 h1
theorem cap_own_35 (m : Mem) (n off len cap : Nat) : capA Try.prog m 35 (.sl n off len cap) = capOwn (m n) cap := cap_own ti_35 rfl m n off len cap
theorem len_own_35 (m : Mem) (n off len cap : Nat) : lenA Try.prog m 35 (.sl n off len cap) = some (.val (.int .i64 len)) := len_own ti_35 rfl m n off len cap
theorem len_read_35 (m : Mem) (es : List (List AV)) (x : Bool) : lenA Try.prog m 35 (.vs es x) = some (.val (.int .i64 es.length)) := len_read ti_35 rfl m es x
theorem len_nil_35 (m : Mem)  : lenA Try.prog m 35 (.val (.slice none 0 0)) = some (.val (.int .i64 0)) := len_nil ti_35 rfl m 
theorem app_35 : AppT Try.prog 35 35 3 ⟨(Go.TypeDesc.int Go.IntKind.i64), 1, 8, (some (Go.Value.int Go.IntKind.i64 0))⟩ [.val (Go.Value.int Go.IntKind.i64 0)] := ⟨⟨_, ti_35, rfl⟩, ⟨_, ti_35, .inl ⟨_, rfl⟩⟩, ti_3, z_3, rfl, by decide, by decide⟩
theorem T_35 : SlT Try.prog 35 3 ⟨(Go.TypeDesc.int Go.IntKind.i64), 1, 8, (some (Go.Value.int Go.IntKind.i64 0))⟩ [.val (Go.Value.int Go.IntKind.i64 0)] := ⟨⟨_, ti_35, rfl⟩, ti_3, z_3, rfl, rfl, by decide, by decide⟩
theorem lit1_35 (v : Value) : litA Try.prog 35 1 [(0, .val v)] = some (3, 1, [.val v]) := by
  simp only [litA, ti_35, ti_3, z_3, fillA, cells_val]
  rfl
theorem lit0_35 : litA Try.prog 35 0 [] = some (3, 1, []) := by
  simp only [litA, ti_35, ti_3, z_3, fillA]
  rfl
theorem cp_35_eq_sl (n off len cap : Nat) (h : 0 < cap) : cmpA Try.prog 35 .eql (.sl n off len cap) (.val (.slice none 0 0)) = some (.val (.bool false)) := eq_sl ti_35 rfl n off len cap h
theorem cp_35_eq_vs {α : Type} (f : α → List AV) (l : List α) (x : Bool) (h : 0 < l.length) : cmpA Try.prog 35 .eql (.vs (l.map f) x) (.val (.slice none 0 0)) = some (.val (.bool false)) := eq_vs ti_35 f rfl l x h
theorem cp_35_eq_nil : cmpA Try.prog 35 .eql (.val (.slice none 0 0)) (.val (.slice none 0 0)) = some (.val (.bool true)) := eq_snil ti_35 rfl
theorem cp_35_ne_sl (n off len cap : Nat) (h : 0 < cap) : cmpA Try.prog 35 .neq (.sl n off len cap) (.val (.slice none 0 0)) = some (.val (.bool true)) := ne_sl ti_35 rfl n off len cap h
theorem cp_35_ne_vs {α : Type} (f : α → List AV) (l : List α) (x : Bool) (h : 0 < l.length) : cmpA Try.prog 35 .neq (.vs (l.map f) x) (.val (.slice none 0 0)) = some (.val (.bool true)) := ne_vs ti_35 f rfl l x h
theorem cp_35_ne_nil : cmpA Try.prog 35 .neq (.val (.slice none 0 0)) (.val (.slice none 0 0)) = some (.val (.bool false)) := ne_snil ti_35 rfl
theorem cs_35 : Try.prog.cellsOf 35 = 1 := cellsOf_ti ti_35
theorem cs_42 : Try.prog.cellsOf 42 = 4 := cellsOf_ti ti_42
theorem bu_42 (parts : List (Nat × AV)) : buildA Try.prog 42 parts = buOf (fillA (fun i => [(0, 2), (2, 1), (3, 1)][i]?) [.val (Go.Value.int Go.IntKind.i64 0), .val (Go.Value.int Go.IntKind.i64 0), .val (Go.Value.int Go.IntKind.i64 0), .val (Go.Value.int Go.IntKind.i64 0)] parts) := build_struct ti_42 rfl z_42 (by simp only [placesA, ti_2, ti_3, ti_28]) parts
theorem cs_44 : Try.prog.cellsOf 44 = 1 := cellsOf_ti ti_44
theorem cs_46 : Try.prog.cellsOf 46 = 1 := cellsOf_ti ti_46
theorem sl_54 (m : Mem) (n off len cap : Nat) (lo hi mx : Option AV) : sliceA Try.prog m 54 (.sl n off len cap) lo hi mx = sliceOwn Try.prog 1 (m n) n off len cap lo hi mx := sliceA_own ti_54 rfl ti_23 m n off len cap lo hi mx
theorem ix_own_54 (n off len cap : Nat) (kk : IntKind) (k : Int) (h0 : 0 ≤ k) (h1 : k < len) : indexAddrA Try.prog 54 (.sl n off len cap) (.val (.int kk k)) = some (.ptr n (off + k.toNat * 1)) := index_own ti_54 rfl ti_23 n off len cap kk k h0 h1
theorem cap_own_54 (m : Mem) (n off len cap : Nat) : capA Try.prog m 54 (.sl n off len cap) = capOwn (m n) cap := cap_own ti_54 rfl m n off len cap
theorem len_own_54 (m : Mem) (n off len cap : Nat) : lenA Try.prog m 54 (.sl n off len cap) = some (.val (.int .i64 len)) := len_own ti_54 rfl m n off len cap
theorem len_read_54 (m : Mem) (es : List (List AV)) (x : Bool) : lenA Try.prog m 54 (.vs es x) = some (.val (.int .i64 es.length)) := len_read ti_54 rfl m es x
theorem len_nil_54 (m : Mem)  : lenA Try.prog m 54 (.val (.slice none 0 0)) = some (.val (.int .i64 0)) := len_nil ti_54 rfl m 
theorem app_54 : AppT Try.prog 54 54 23 ⟨(Go.TypeDesc.int Go.IntKind.u32), 1, 4, (some (Go.Value.int Go.IntKind.u32 0))⟩ [.val (Go.Value.int Go.IntKind.u32 0)] := ⟨⟨_, ti_54, rfl⟩, ⟨_, ti_54, .inl ⟨_, rfl⟩⟩, ti_23, z_23, rfl, by decide, by decide⟩
theorem T_54 : SlT Try.prog 54 23 ⟨(Go.TypeDesc.int Go.IntKind.u32), 1, 4, (some (Go.Value.int Go.IntKind.u32 0))⟩ [.val (Go.Value.int Go.IntKind.u32 0)] := ⟨⟨_, ti_54, rfl⟩, ti_23, z_23, rfl, rfl, by decide, by decide⟩
theorem lit1_54 (v : Value) : litA Try.prog 54 1 [(0, .val v)] = some (23, 1, [.val v]) := by
  simp only [litA, ti_54, ti_23, z_23, fillA, cells_val]
  rfl
theorem lit0_54 : litA Try.prog 54 0 [] = some (23, 1, []) := by
  simp only [litA, ti_54, ti_23, z_23, fillA]
  rfl
theorem cp_54_eq_sl (n off len cap : Nat) (h : 0 < cap) : cmpA Try.prog 54 .eql (.sl n off len cap) (.val (.slice none 0 0)) = some (.val (.bool false)) := eq_sl ti_54 rfl n off len cap h
theorem cp_54_eq_vs {α : Type} (f : α → List AV) (l : List α) (x : Bool) (h : 0 < l.length) : cmpA Try.prog 54 .eql (.vs (l.map f) x) (.val (.slice none 0 0)) = some (.val (.bool false)) := eq_vs ti_54 f rfl l x h
theorem cp_54_eq_nil : cmpA Try.prog 54 .eql (.val (.slice none 0 0)) (.val (.slice none 0 0)) = some (.val (.bool true)) := eq_snil ti_54 rfl
theorem cp_54_ne_sl (n off len cap : Nat) (h : 0 < cap) : cmpA Try.prog 54 .neq (.sl n off len cap) (.val (.slice none 0 0)) = some (.val (.bool true)) := ne_sl ti_54 rfl n off len cap h
theorem cp_54_ne_vs {α : Type} (f : α → List AV) (l : List α) (x : Bool) (h : 0 < l.length) : cmpA Try.prog 54 .neq (.vs (l.map f) x) (.val (.slice none 0 0)) = some (.val (.bool true)) := ne_vs ti_54 f rfl l x h
theorem cp_54_ne_nil : cmpA Try.prog 54 .neq (.val (.slice none 0 0)) (.val (.slice none 0 0)) = some (.val (.bool false)) := ne_snil ti_54 rfl
theorem cs_54 : Try.prog.cellsOf 54 = 1 := cellsOf_ti ti_54
theorem sl_55 (m : Mem) (n off len cap : Nat) (lo hi mx : Option AV) : sliceA Try.prog m 55 (.sl n off len cap) lo hi mx = sliceOwn Try.prog 4 (m n) n off len cap lo hi mx := sliceA_own ti_55 rfl ti_42 m n off len cap lo hi mx
theorem ix_own_55 (n off len cap : Nat) (kk : IntKind) (k : Int) (h0 : 0 ≤ k) (h1 : k < len) : indexAddrA Try.prog 55 (.sl n off len cap) (.val (.int kk k)) = some (.ptr n (off + k.toNat * 4)) := index_own ti_55 rfl ti_42 n off len cap kk k h0 h1
theorem cap_own_55 (m : Mem) (n off len cap : Nat) : capA Try.prog m 55 (.sl n off len cap) = capOwn (m n) cap := cap_own ti_55 rfl m n off len cap
theorem len_own_55 (m : Mem) (n off len cap : Nat) : lenA Try.prog m 55 (.sl n off len cap) = some (.val (.int .i64 len)) := len_own ti_55 rfl m n off len cap
theorem len_read_55 (m : Mem) (es : List (List AV)) (x : Bool) : lenA Try.prog m 55 (.vs es x) = some (.val (.int .i64 es.length)) := len_read ti_55 rfl m es x
theorem len_nil_55 (m : Mem)  : lenA Try.prog m 55 (.val (.slice none 0 0)) = some (.val (.int .i64 0)) := len_nil ti_55 rfl m 
theorem app_55 : AppT Try.prog 55 55 42 ⟨(Go.TypeDesc.struct #[{ name := "Item", type := 28, offset := 0, embedded := true, tag := "", pkgPath := "", byteOffset := 0 }, { name := "place", type := 3, offset := 2, embedded := false, tag := "", pkgPath := "reef/crush", byteOffset := 16 }, { name := "cost", type := 2, offset := 3, embedded := false, tag := "", pkgPath := "reef/crush", byteOffset := 24 }]), 4, 32, (some (Go.Value.agg #[(Go.Value.int Go.IntKind.i64 0), (Go.Value.int Go.IntKind.i64 0), (Go.Value.int Go.IntKind.i64 0), (Go.Value.int Go.IntKind.i64 0)]))⟩ [.val (Go.Value.int Go.IntKind.i64 0), .val (Go.Value.int Go.IntKind.i64 0), .val (Go.Value.int Go.IntKind.i64 0), .val (Go.Value.int Go.IntKind.i64 0)] := ⟨⟨_, ti_55, rfl⟩, ⟨_, ti_55, .inl ⟨_, rfl⟩⟩, ti_42, z_42, rfl, by decide, by decide⟩
theorem T_55 : SlT Try.prog 55 42 ⟨(Go.TypeDesc.struct #[{ name := "Item", type := 28, offset := 0, embedded := true, tag := "", pkgPath := "", byteOffset := 0 }, { name := "place", type := 3, offset := 2, embedded := false, tag := "", pkgPath := "reef/crush", byteOffset := 16 }, { name := "cost", type := 2, offset := 3, embedded := false, tag := "", pkgPath := "reef/crush", byteOffset := 24 }]), 4, 32, (some (Go.Value.agg #[(Go.Value.int Go.IntKind.i64 0), (Go.Value.int Go.IntKind.i64 0), (Go.Value.int Go.IntKind.i64 0), (Go.Value.int Go.IntKind.i64 0)]))⟩ [.val (Go.Value.int Go.IntKind.i64 0), .val (Go.Value.int Go.IntKind.i64 0), .val (Go.Value.int Go.IntKind.i64 0), .val (Go.Value.int Go.IntKind.i64 0)] := ⟨⟨_, ti_55, rfl⟩, ti_42, z_42, rfl, rfl, by decide, by decide⟩
theorem lit0_55 : litA Try.prog 55 0 [] = some (42, 4, []) := by
  simp only [litA, ti_55, ti_42, z_42, fillA]
  rfl
theorem cp_55_eq_sl (n off len cap : Nat) (h : 0 < cap) : cmpA Try.prog 55 .eql (.sl n off len cap) (.val (.slice none 0 0)) = some (.val (.bool false)) := eq_sl ti_55 rfl n off len cap h
theorem cp_55_eq_vs {α : Type} (f : α → List AV) (l : List α) (x : Bool) (h : 0 < l.length) : cmpA Try.prog 55 .eql (.vs (l.map f) x) (.val (.slice none 0 0)) = some (.val (.bool false)) := eq_vs ti_55 f rfl l x h
theorem cp_55_eq_nil : cmpA Try.prog 55 .eql (.val (.slice none 0 0)) (.val (.slice none 0 0)) = some (.val (.bool true)) := eq_snil ti_55 rfl
theorem cp_55_ne_sl (n off len cap : Nat) (h : 0 < cap) : cmpA Try.prog 55 .neq (.sl n off len cap) (.val (.slice none 0 0)) = some (.val (.bool true)) := ne_sl ti_55 rfl n off len cap h
theorem cp_55_ne_vs {α : Type} (f : α → List AV) (l : List α) (x : Bool) (h : 0 < l.length) : cmpA Try.prog 55 .neq (.vs (l.map f) x) (.val (.slice none 0 0)) = some (.val (.bool true)) := ne_vs ti_55 f rfl l x h
theorem cp_55_ne_nil : cmpA Try.prog 55 .neq (.val (.slice none 0 0)) (.val (.slice none 0 0)) = some (.val (.bool false)) := ne_snil ti_55 rfl
theorem cs_55 : Try.prog.cellsOf 55 = 1 := cellsOf_ti ti_55
theorem cs_58 : Try.prog.cellsOf 58 = 1 := cellsOf_ti ti_58
theorem cs_62 : Try.prog.cellsOf 62 = 1 := cellsOf_ti ti_62
theorem cs_64 : Try.prog.cellsOf 64 = 1 := cellsOf_ti ti_64
theorem cs_65 : Try.prog.cellsOf 65 = 1 := cellsOf_ti ti_65
theorem cs_70 : Try.prog.cellsOf 70 = 1 := cellsOf_ti ti_70
theorem cs_72 : Try.prog.cellsOf 72 = 1 := cellsOf_ti ti_72
theorem cs_80 : Try.prog.cellsOf 80 = 1 := cellsOf_ti ti_80
theorem cp_84_eq_ptr (n off : Nat) : cmpA Try.prog 84 .eql (.ptr n off) (.val (.pointer none)) = some (.val (.bool false)) := eq_ptr ti_84 rfl n off
theorem cp_84_eq_vp (cs : List AV) (off : Nat) : cmpA Try.prog 84 .eql (.vp cs off) (.val (.pointer none)) = some (.val (.bool false)) := eq_vp ti_84 rfl cs off
theorem cp_84_eq_nil : cmpA Try.prog 84 .eql (.val (.pointer none)) (.val (.pointer none)) = some (.val (.bool true)) := eq_pnil ti_84 rfl
theorem cp_84_ne_ptr (n off : Nat) : cmpA Try.prog 84 .neq (.ptr n off) (.val (.pointer none)) = some (.val (.bool true)) := ne_ptr ti_84 rfl n off
theorem cp_84_ne_vp (cs : List AV) (off : Nat) : cmpA Try.prog 84 .neq (.vp cs off) (.val (.pointer none)) = some (.val (.bool true)) := ne_vp ti_84 rfl cs off
theorem cp_84_ne_nil : cmpA Try.prog 84 .neq (.val (.pointer none)) (.val (.pointer none)) = some (.val (.bool false)) := ne_pnil ti_84 rfl
theorem cs_84 : Try.prog.cellsOf 84 = 1 := cellsOf_ti ti_84
theorem cp_86_eq_ptr (n off : Nat) : cmpA Try.prog 86 .eql (.ptr n off) (.val (.pointer none)) = some (.val (.bool false)) := eq_ptr ti_86 rfl n off
theorem cp_86_eq_vp (cs : List AV) (off : Nat) : cmpA Try.prog 86 .eql (.vp cs off) (.val (.pointer none)) = some (.val (.bool false)) := eq_vp ti_86 rfl cs off
theorem cp_86_eq_nil : cmpA Try.prog 86 .eql (.val (.pointer none)) (.val (.pointer none)) = some (.val (.bool true)) := eq_pnil ti_86 rfl
theorem cp_86_ne_ptr (n off : Nat) : cmpA Try.prog 86 .neq (.ptr n off) (.val (.pointer none)) = some (.val (.bool true)) := ne_ptr ti_86 rfl n off
theorem cp_86_ne_vp (cs : List AV) (off : Nat) : cmpA Try.prog 86 .neq (.vp cs off) (.val (.pointer none)) = some (.val (.bool true)) := ne_vp ti_86 rfl cs off
theorem cp_86_ne_nil : cmpA Try.prog 86 .neq (.val (.pointer none)) (.val (.pointer none)) = some (.val (.bool false)) := ne_pnil ti_86 rfl
theorem cs_86 : Try.prog.cellsOf 86 = 1 := cellsOf_ti ti_86
theorem cv_2_26 (m : Mem) (k : IntKind) (n : Int) : convA Try.prog m 2 26 (.val (.int k n)) = some (.val (.int Go.IntKind.u64 (IntKind.wrap Go.IntKind.u64 n))) := by simp only [convA, ti_2, ti_26]
theorem cv_3_23 (m : Mem) (k : IntKind) (n : Int) : convA Try.prog m 3 23 (.val (.int k n)) = some (.val (.int Go.IntKind.u32 (IntKind.wrap Go.IntKind.u32 n))) := by simp only [convA, ti_3, ti_23]
theorem cv_3_26 (m : Mem) (k : IntKind) (n : Int) : convA Try.prog m 3 26 (.val (.int k n)) = some (.val (.int Go.IntKind.u64 (IntKind.wrap Go.IntKind.u64 n))) := by simp only [convA, ti_3, ti_26]
theorem cv_3_64 (m : Mem) (k : IntKind) (n : Int) : convA Try.prog m 3 64 (.val (.int k n)) = some (.val (.int Go.IntKind.u64 (IntKind.wrap Go.IntKind.u64 n))) := by simp only [convA, ti_3, ti_64]
theorem cv_3_80 (m : Mem) (k : IntKind) (n : Int) : convA Try.prog m 3 80 (.val (.int k n)) = some (.val (.int Go.IntKind.u64 (IntKind.wrap Go.IntKind.u64 n))) := by simp only [convA, ti_3, ti_80]
theorem cv_5_3 (m : Mem) (k : IntKind) (n : Int) : convA Try.prog m 5 3 (.val (.int k n)) = some (.val (.int Go.IntKind.i64 (IntKind.wrap Go.IntKind.i64 n))) := by simp only [convA, ti_5, ti_3]
theorem cv_5_23 (m : Mem) (k : IntKind) (n : Int) : convA Try.prog m 5 23 (.val (.int k n)) = some (.val (.int Go.IntKind.u32 (IntKind.wrap Go.IntKind.u32 n))) := by simp only [convA, ti_5, ti_23]
theorem cv_23_2 (m : Mem) (k : IntKind) (n : Int) : convA Try.prog m 23 2 (.val (.int k n)) = some (.val (.int Go.IntKind.i64 (IntKind.wrap Go.IntKind.i64 n))) := by simp only [convA, ti_23, ti_2]
theorem cv_23_5 (m : Mem) (k : IntKind) (n : Int) : convA Try.prog m 23 5 (.val (.int k n)) = some (.val (.int Go.IntKind.u8 (IntKind.wrap Go.IntKind.u8 n))) := by simp only [convA, ti_23, ti_5]
theorem cv_23_26 (m : Mem) (k : IntKind) (n : Int) : convA Try.prog m 23 26 (.val (.int k n)) = some (.val (.int Go.IntKind.u64 (IntKind.wrap Go.IntKind.u64 n))) := by simp only [convA, ti_23, ti_26]
theorem cv_26_3 (m : Mem) (k : IntKind) (n : Int) : convA Try.prog m 26 3 (.val (.int k n)) = some (.val (.int Go.IntKind.i64 (IntKind.wrap Go.IntKind.i64 n))) := by simp only [convA, ti_26, ti_3]
theorem cv_26_5 (m : Mem) (k : IntKind) (n : Int) : convA Try.prog m 26 5 (.val (.int k n)) = some (.val (.int Go.IntKind.u8 (IntKind.wrap Go.IntKind.u8 n))) := by simp only [convA, ti_26, ti_5]
theorem cv_64_3 (m : Mem) (k : IntKind) (n : Int) : convA Try.prog m 64 3 (.val (.int k n)) = some (.val (.int Go.IntKind.i64 (IntKind.wrap Go.IntKind.i64 n))) := by simp only [convA, ti_64, ti_3]
theorem cv_64_23 (m : Mem) (k : IntKind) (n : Int) : convA Try.prog m 64 23 (.val (.int k n)) = some (.val (.int Go.IntKind.u32 (IntKind.wrap Go.IntKind.u32 n))) := by simp only [convA, ti_64, ti_23]
theorem rulesT : type_of% (And.intro @bu_28 (And.intro @bu_42 (And.intro @cap_own_22 (And.intro @cap_own_35 (And.intro @cap_own_54 (And.intro @cap_own_55 (And.intro @cp_22_eq_nil (And.intro @cp_22_eq_sl (And.intro @cp_22_eq_vs (And.intro @cp_22_ne_nil (And.intro @cp_22_ne_sl (And.intro @cp_22_ne_vs (And.intro @cp_35_eq_nil (And.intro @cp_35_eq_sl (And.intro @cp_35_eq_vs (And.intro @cp_35_ne_nil (And.intro @cp_35_ne_sl (And.intro @cp_35_ne_vs (And.intro @cp_54_eq_nil (And.intro @cp_54_eq_sl (And.intro @cp_54_eq_vs (And.intro @cp_54_ne_nil (And.intro @cp_54_ne_sl (And.intro @cp_54_ne_vs (And.intro @cp_55_eq_nil (And.intro @cp_55_eq_sl (And.intro @cp_55_eq_vs (And.intro @cp_55_ne_nil (And.intro @cp_55_ne_sl (And.intro @cp_55_ne_vs (And.intro @cp_84_eq_nil (And.intro @cp_84_eq_ptr (And.intro @cp_84_eq_vp (And.intro @cp_84_ne_nil (And.intro @cp_84_ne_ptr (And.intro @cp_84_ne_vp (And.intro @cp_86_eq_nil (And.intro @cp_86_eq_ptr (And.intro @cp_86_eq_vp (And.intro @cp_86_ne_nil (And.intro @cp_86_ne_ptr (And.intro @cp_86_ne_vp (And.intro @cs_2 (And.intro @cs_22 (And.intro @cs_23 (And.intro @cs_26 (And.intro @cs_28 (And.intro @cs_3 (And.intro @cs_35 (And.intro @cs_4 (And.intro @cs_42 (And.intro @cs_44 (And.intro @cs_46 (And.intro @cs_5 (And.intro @cs_54 (And.intro @cs_55 (And.intro @cs_58 (And.intro @cs_62 (And.intro @cs_64 (And.intro @cs_65 (And.intro @cs_70 (And.intro @cs_72 (And.intro @cs_80 (And.intro @cs_84 (And.intro @cs_86 (And.intro @cs_9 (And.intro @cv_23_2 (And.intro @cv_23_26 (And.intro @cv_23_5 (And.intro @cv_26_3 (And.intro @cv_26_5 (And.intro @cv_2_26 (And.intro @cv_3_23 (And.intro @cv_3_26 (And.intro @cv_3_64 (And.intro @cv_3_80 (And.intro @cv_5_23 (And.intro @cv_5_3 (And.intro @cv_64_23 (And.intro @cv_64_3 (And.intro @fa_28_0 (And.intro @fa_28_1 (And.intro @fa_42_0 (And.intro @fa_42_1 (And.intro @fa_42_2 (And.intro @ix_own_22 (And.intro @ix_own_35 (And.intro @ix_own_54 (And.intro @ix_own_55 (And.intro @ld_2 (And.intro @ld_22 (And.intro @ld_23 (And.intro @ld_26 (And.intro @ld_28 (And.intro @ld_3 (And.intro @ld_35 (And.intro @ld_4 (And.intro @ld_42 (And.intro @ld_44 (And.intro @ld_46 (And.intro @ld_5 (And.intro @ld_54 (And.intro @ld_55 (And.intro @ld_58 (And.intro @ld_62 (And.intro @ld_64 (And.intro @ld_65 (And.intro @ld_70 (And.intro @ld_72 (And.intro @ld_80 (And.intro @ld_84 (And.intro @ld_86 (And.intro @ld_9 (And.intro @len_nil_22 (And.intro @len_nil_35 (And.intro @len_nil_54 (And.intro @len_nil_55 (And.intro @len_own_22 (And.intro @len_own_35 (And.intro @len_own_54 (And.intro @len_own_55 (And.intro @len_read_22 (And.intro @len_read_35 (And.intro @len_read_54 (And.intro @len_read_55 (And.intro @len_str_9 (And.intro @sl_22 (And.intro @sl_35 (And.intro @sl_54 (And.intro @sl_55 (And.intro @st_2 (And.intro @st_22 (And.intro @st_23 (And.intro @st_26 (And.intro @st_28 (And.intro @st_3 (And.intro @st_35 (And.intro @st_4 (And.intro @st_42 (And.intro @st_44 (And.intro @st_46 (And.intro @st_5 (And.intro @st_54 (And.intro @st_55 (And.intro @st_58 (And.intro @st_62 (And.intro @st_64 (And.intro @st_65 (And.intro @st_70 (And.intro @st_72 (And.intro @st_80 (And.intro @st_84 (And.intro @st_86 (And.intro @st_9 (And.intro @ti_2 (And.intro @ti_22 (And.intro @ti_23 (And.intro @ti_26 (And.intro @ti_28 (And.intro @ti_3 (And.intro @ti_35 (And.intro @ti_4 (And.intro @ti_42 (And.intro @ti_44 (And.intro @ti_46 (And.intro @ti_5 (And.intro @ti_54 (And.intro @ti_55 (And.intro @ti_58 (And.intro @ti_62 (And.intro @ti_64 (And.intro @ti_65 (And.intro @ti_70 (And.intro @ti_72 (And.intro @ti_80 (And.intro @ti_84 (And.intro @ti_86 (And.intro @ti_9 (And.intro @z_2 (And.intro @z_22 (And.intro @z_23 (And.intro @z_26 (And.intro @z_28 (And.intro @z_3 (And.intro @z_35 (And.intro @z_4 (And.intro @z_42 (And.intro @z_44 (And.intro @z_46 (And.intro @z_5 (And.intro @z_54 (And.intro @z_55 (And.intro @z_58 (And.intro @z_62 (And.intro @z_64 (And.intro @z_65 (And.intro @z_70 (And.intro @z_72 (And.intro @z_80 (And.intro @z_84 (And.intro @z_86 (@z_9)))))))))))))))))))))))))))))))))))))))))))))))))))))))))))))))))))))))))))))))))))))))))))))))))))))))))))))))))))))))))))))))))))))))))))))))))))))))))))))))))))))))))))))))))))))))))))))))))))))))))) := And.intro @bu_28 (And.intro @bu_42 (And.intro @cap_own_22 (And.intro @cap_own_35 (And.intro @cap_own_54 (And.intro @cap_own_55 (And.intro @cp_22_eq_nil (And.intro @cp_22_eq_sl (And.intro @cp_22_eq_vs (And.intro @cp_22_ne_nil (And.intro @cp_22_ne_sl (And.intro @cp_22_ne_vs (And.intro @cp_35_eq_nil (And.intro @cp_35_eq_sl (And.intro @cp_35_eq_vs (And.intro @cp_35_ne_nil (And.intro @cp_35_ne_sl (And.intro @cp_35_ne_vs (And.intro @cp_54_eq_nil (And.intro @cp_54_eq_sl (And.intro @cp_54_eq_vs (And.intro @cp_54_ne_nil (And.intro @cp_54_ne_sl (And.intro @cp_54_ne_vs (And.intro @cp_55_eq_nil (And.intro @cp_55_eq_sl (And.intro @cp_55_eq_vs (And.intro @cp_55_ne_nil (And.intro @cp_55_ne_sl (And.intro @cp_55_ne_vs (And.intro @cp_84_eq_nil (And.intro @cp_84_eq_ptr (And.intro @cp_84_eq_vp (And.intro @cp_84_ne_nil (And.intro @cp_84_ne_ptr (And.intro @cp_84_ne_vp (And.intro @cp_86_eq_nil (And.intro @cp_86_eq_ptr (And.intro @cp_86_eq_vp (And.intro @cp_86_ne_nil (And.intro @cp_86_ne_ptr (And.intro @cp_86_ne_vp (And.intro @cs_2 (And.intro @cs_22 (And.intro @cs_23 (And.intro @cs_26 (And.intro @cs_28 (And.intro @cs_3 (And.intro @cs_35 (And.intro @cs_4 (And.intro @cs_42 (And.intro @cs_44 (And.intro @cs_46 (And.intro @cs_5 (And.intro @cs_54 (And.intro @cs_55 (And.intro @cs_58 (And.intro @cs_62 (And.intro @cs_64 (And.intro @cs_65 (And.intro @cs_70 (And.intro @cs_72 (And.intro @cs_80 (And.intro @cs_84 (And.intro @cs_86 (And.intro @cs_9 (And.intro @cv_23_2 (And.intro @cv_23_26 (And.intro @cv_23_5 (And.intro @cv_26_3 (And.intro @cv_26_5 (And.intro @cv_2_26 (And.intro @cv_3_23 (And.intro @cv_3_26 (And.intro @cv_3_64 (And.intro @cv_3_80 (And.intro @cv_5_23 (And.intro @cv_5_3 (And.intro @cv_64_23 (And.intro @cv_64_3 (And.intro @fa_28_0 (And.intro @fa_28_1 (And.intro @fa_42_0 (And.intro @fa_42_1 (And.intro @fa_42_2 (And.intro @ix_own_22 (And.intro @ix_own_35 (And.intro @ix_own_54 (And.intro @ix_own_55 (And.intro @ld_2 (And.intro @ld_22 (And.intro @ld_23 (And.intro @ld_26 (And.intro @ld_28 (And.intro @ld_3 (And.intro @ld_35 (And.intro @ld_4 (And.intro @ld_42 (And.intro @ld_44 (And.intro @ld_46 (And.intro @ld_5 (And.intro @ld_54 (And.intro @ld_55 (And.intro @ld_58 (And.intro @ld_62 (And.intro @ld_64 (And.intro @ld_65 (And.intro @ld_70 (And.intro @ld_72 (And.intro @ld_80 (And.intro @ld_84 (And.intro @ld_86 (And.intro @ld_9 (And.intro @len_nil_22 (And.intro @len_nil_35 (And.intro @len_nil_54 (And.intro @len_nil_55 (And.intro @len_own_22 (And.intro @len_own_35 (And.intro @len_own_54 (And.intro @len_own_55 (And.intro @len_read_22 (And.intro @len_read_35 (And.intro @len_read_54 (And.intro @len_read_55 (And.intro @len_str_9 (And.intro @sl_22 (And.intro @sl_35 (And.intro @sl_54 (And.intro @sl_55 (And.intro @st_2 (And.intro @st_22 (And.intro @st_23 (And.intro @st_26 (And.intro @st_28 (And.intro @st_3 (And.intro @st_35 (And.intro @st_4 (And.intro @st_42 (And.intro @st_44 (And.intro @st_46 (And.intro @st_5 (And.intro @st_54 (And.intro @st_55 (And.intro @st_58 (And.intro @st_62 (And.intro @st_64 (And.intro @st_65 (And.intro @st_70 (And.intro @st_72 (And.intro @st_80 (And.intro @st_84 (And.intro @st_86 (And.intro @st_9 (And.intro @ti_2 (And.intro @ti_22 (And.intro @ti_23 (And.intro @ti_26 (And.intro @ti_28 (And.intro @ti_3 (And.intro @ti_35 (And.intro @ti_4 (And.intro @ti_42 (And.intro @ti_44 (And.intro @ti_46 (And.intro @ti_5 (And.intro @ti_54 (And.intro @ti_55 (And.intro @ti_58 (And.intro @ti_62 (And.intro @ti_64 (And.intro @ti_65 (And.intro @ti_70 (And.intro @ti_72 (And.intro @ti_80 (And.intro @ti_84 (And.intro @ti_86 (And.intro @ti_9 (And.intro @z_2 (And.intro @z_22 (And.intro @z_23 (And.intro @z_26 (And.intro @z_28 (And.intro @z_3 (And.intro @z_35 (And.intro @z_4 (And.intro @z_42 (And.intro @z_44 (And.intro @z_46 (And.intro @z_5 (And.intro @z_54 (And.intro @z_55 (And.intro @z_58 (And.intro @z_62 (And.intro @z_64 (And.intro @z_65 (And.intro @z_70 (And.intro @z_72 (And.intro @z_80 (And.intro @z_84 (And.intro @z_86 (@z_9)))))))))))))))))))))))))))))))))))))))))))))))))))))))))))))))))))))))))))))))))))))))))))))))))))))))))))))))))))))))))))))))))))))))))))))))))))))))))))))))))))))))))))))))))))))))))))))))))))))))))
end Go.Proofs.Yteilhoojlcpbpaa
