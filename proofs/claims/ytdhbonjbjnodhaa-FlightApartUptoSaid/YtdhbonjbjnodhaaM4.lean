/- The texts Ty Kode D0 D1 D2 D3 D4 D5 D6 D7: what is proved on the way to the law. No conditions but those each theorem states. -/
import Derived.Test.YtdhbonjbjnodhaaM3
import Derived.Test.YtdhbonjbjnodhaaProg
set_option maxRecDepth 100000
namespace Go.Proofs.Ytdhbonjbjnodhaa
open Go.Abs
theorem ti_2 : ti Try.prog 2 = some ⟨(Go.TypeDesc.int Go.IntKind.i64), 1, 8, (some (Go.Value.int Go.IntKind.i64 0))⟩ := by kernel_rfl
theorem ti_3 : ti Try.prog 3 = some ⟨(Go.TypeDesc.int Go.IntKind.i64), 1, 8, (some (Go.Value.int Go.IntKind.i64 0))⟩ := by kernel_rfl
theorem ti_4 : ti Try.prog 4 = some ⟨Go.TypeDesc.bool, 1, 1, (some (Go.Value.bool false))⟩ := by kernel_rfl
theorem ti_9 : ti Try.prog 9 = some ⟨Go.TypeDesc.string, 1, 16, (some (Go.Value.string { data := #[] }))⟩ := by kernel_rfl
theorem ti_22 : ti Try.prog 22 = some ⟨(Go.TypeDesc.slice 44), 1, 24, (some (Go.Value.slice none 0 0))⟩ := by kernel_rfl
theorem ti_23 : ti Try.prog 23 = some ⟨(Go.TypeDesc.slice 60), 1, 24, (some (Go.Value.slice none 0 0))⟩ := by kernel_rfl
theorem ti_25 : ti Try.prog 25 = some ⟨(Go.TypeDesc.struct #[{ name := "Next", type := 2, offset := 0, embedded := false, tag := "", pkgPath := "", byteOffset := 0 }, { name := "List", type := 22, offset := 1, embedded := false, tag := "", pkgPath := "", byteOffset := 8 }, { name := "Cut", type := 23, offset := 2, embedded := false, tag := "", pkgPath := "", byteOffset := 32 }]), 3, 56, (some (Go.Value.agg #[(Go.Value.int Go.IntKind.i64 0), (Go.Value.slice none 0 0), (Go.Value.slice none 0 0)]))⟩ := by kernel_rfl
theorem ti_31 : ti Try.prog 31 = some ⟨(Go.TypeDesc.slice 2), 1, 24, (some (Go.Value.slice none 0 0))⟩ := by kernel_rfl
theorem ti_36 : ti Try.prog 36 = some ⟨(Go.TypeDesc.slice 39), 1, 24, (some (Go.Value.slice none 0 0))⟩ := by kernel_rfl
theorem ti_37 : ti Try.prog 37 = some ⟨(Go.TypeDesc.slice 3), 1, 24, (some (Go.Value.slice none 0 0))⟩ := by kernel_rfl
theorem ti_39 : ti Try.prog 39 = some ⟨(Go.TypeDesc.struct #[{ name := "Kind", type := 3, offset := 0, embedded := false, tag := "", pkgPath := "", byteOffset := 0 }, { name := "Number", type := 2, offset := 1, embedded := false, tag := "", pkgPath := "", byteOffset := 8 }, { name := "From", type := 3, offset := 2, embedded := false, tag := "", pkgPath := "", byteOffset := 16 }, { name := "To", type := 3, offset := 3, embedded := false, tag := "", pkgPath := "", byteOffset := 24 }, { name := "Body", type := 9, offset := 4, embedded := false, tag := "", pkgPath := "", byteOffset := 32 }, { name := "A", type := 37, offset := 5, embedded := false, tag := "", pkgPath := "", byteOffset := 48 }, { name := "B", type := 37, offset := 6, embedded := false, tag := "", pkgPath := "", byteOffset := 72 }]), 7, 96, (some (Go.Value.agg #[(Go.Value.int Go.IntKind.i64 0), (Go.Value.int Go.IntKind.i64 0), (Go.Value.int Go.IntKind.i64 0), (Go.Value.int Go.IntKind.i64 0), (Go.Value.string { data := #[] }), (Go.Value.slice none 0 0), (Go.Value.slice none 0 0)]))⟩ := by kernel_rfl
theorem ti_40 : ti Try.prog 40 = some ⟨(Go.TypeDesc.int Go.IntKind.i64), 1, 8, (some (Go.Value.int Go.IntKind.i64 0))⟩ := by kernel_rfl
theorem ti_44 : ti Try.prog 44 = some ⟨(Go.TypeDesc.struct #[{ name := "Number", type := 2, offset := 0, embedded := false, tag := "", pkgPath := "", byteOffset := 0 }, { name := "From", type := 3, offset := 1, embedded := false, tag := "", pkgPath := "", byteOffset := 8 }, { name := "To", type := 3, offset := 2, embedded := false, tag := "", pkgPath := "", byteOffset := 16 }, { name := "Body", type := 9, offset := 3, embedded := false, tag := "", pkgPath := "", byteOffset := 24 }]), 4, 40, (some (Go.Value.agg #[(Go.Value.int Go.IntKind.i64 0), (Go.Value.int Go.IntKind.i64 0), (Go.Value.int Go.IntKind.i64 0), (Go.Value.string { data := #[] })]))⟩ := by kernel_rfl
theorem ti_54 : ti Try.prog 54 = some ⟨(Go.TypeDesc.int Go.IntKind.u64), 1, 8, (some (Go.Value.int Go.IntKind.u64 0))⟩ := by kernel_rfl
theorem ti_60 : ti Try.prog 60 = some ⟨(Go.TypeDesc.struct #[{ name := "From", type := 3, offset := 0, embedded := false, tag := "", pkgPath := "", byteOffset := 0 }, { name := "To", type := 3, offset := 1, embedded := false, tag := "", pkgPath := "", byteOffset := 8 }]), 2, 16, (some (Go.Value.agg #[(Go.Value.int Go.IntKind.i64 0), (Go.Value.int Go.IntKind.i64 0)]))⟩ := by kernel_rfl
theorem ti_68 : ti Try.prog 68 = some ⟨(Go.TypeDesc.map 60 3), 1, 8, (some (Go.Value.map none))⟩ := by kernel_rfl
theorem ti_74 : ti Try.prog 74 = some ⟨(Go.TypeDesc.pointer 25), 1, 8, (some (Go.Value.pointer none))⟩ := by kernel_rfl
theorem ti_81 : ti Try.prog 81 = some ⟨(Go.TypeDesc.func #[3, 44] #[4] false), 1, 8, (some Go.Value.nilFunc)⟩ := by kernel_rfl
theorem ti_85 : ti Try.prog 85 = some ⟨(Go.TypeDesc.func #[44] #[4] false), 1, 8, (some Go.Value.nilFunc)⟩ := by kernel_rfl
theorem ti_92 : ti Try.prog 92 = some ⟨(Go.TypeDesc.int Go.IntKind.u64), 1, 8, (some (Go.Value.int Go.IntKind.u64 0))⟩ := by kernel_rfl
theorem ld_2 (m : Mem) (x : AV) : loadA Try.prog m 2 x = loadOne m x := loadA_one ti_2 rfl m x
theorem st_2 (m : Mem) (n off : Nat) (v : AV) : storeA Try.prog m 2 (.ptr n off) v = storeN m 1 n off v := storeA_of ti_2 m n off v
theorem z_2 : zeroA Try.prog 2 = some [.val (Go.Value.int Go.IntKind.i64 0)] := by simp only [zeroA, ti_2]; rfl
theorem ld_3 (m : Mem) (x : AV) : loadA Try.prog m 3 x = loadOne m x := loadA_one ti_3 rfl m x
theorem st_3 (m : Mem) (n off : Nat) (v : AV) : storeA Try.prog m 3 (.ptr n off) v = storeN m 1 n off v := storeA_of ti_3 m n off v
theorem z_3 : zeroA Try.prog 3 = some [.val (Go.Value.int Go.IntKind.i64 0)] := by simp only [zeroA, ti_3]; rfl
theorem ld_4 (m : Mem) (x : AV) : loadA Try.prog m 4 x = loadOne m x := loadA_one ti_4 rfl m x
theorem st_4 (m : Mem) (n off : Nat) (v : AV) : storeA Try.prog m 4 (.ptr n off) v = storeN m 1 n off v := storeA_of ti_4 m n off v
theorem z_4 : zeroA Try.prog 4 = some [.val (Go.Value.bool false)] := by simp only [zeroA, ti_4]; rfl
theorem ld_9 (m : Mem) (x : AV) : loadA Try.prog m 9 x = loadOne m x := loadA_one ti_9 rfl m x
theorem st_9 (m : Mem) (n off : Nat) (v : AV) : storeA Try.prog m 9 (.ptr n off) v = storeN m 1 n off v := storeA_of ti_9 m n off v
theorem z_9 : zeroA Try.prog 9 = some [.val (Go.Value.string { data := #[] })] := by simp only [zeroA, ti_9]; rfl
theorem ld_22 (m : Mem) (x : AV) : loadA Try.prog m 22 x = loadOne m x := loadA_one ti_22 rfl m x
theorem st_22 (m : Mem) (n off : Nat) (v : AV) : storeA Try.prog m 22 (.ptr n off) v = storeN m 1 n off v := storeA_of ti_22 m n off v
theorem z_22 : zeroA Try.prog 22 = some [.val (Go.Value.slice none 0 0)] := by simp only [zeroA, ti_22]; rfl
theorem ld_23 (m : Mem) (x : AV) : loadA Try.prog m 23 x = loadOne m x := loadA_one ti_23 rfl m x
theorem st_23 (m : Mem) (n off : Nat) (v : AV) : storeA Try.prog m 23 (.ptr n off) v = storeN m 1 n off v := storeA_of ti_23 m n off v
theorem z_23 : zeroA Try.prog 23 = some [.val (Go.Value.slice none 0 0)] := by simp only [zeroA, ti_23]; rfl
theorem ld_25 (m : Mem) (x : AV) : loadA Try.prog m 25 x = loadAgg m 3 x := loadA_agg ti_25 rfl rfl m x
theorem st_25 (m : Mem) (n off : Nat) (v : AV) : storeA Try.prog m 25 (.ptr n off) v = storeN m 3 n off v := storeA_of ti_25 m n off v
theorem z_25 : zeroA Try.prog 25 = some [.val (Go.Value.int Go.IntKind.i64 0), .val (Go.Value.slice none 0 0), .val (Go.Value.slice none 0 0)] := by simp only [zeroA, ti_25]; rfl
theorem fa_25_0 (x : AV) : fieldAddrA Try.prog 25 0 x = moveA 0 x := fieldAddrA_of ti_25 rfl 0 0 rfl rfl ti_2 rfl rfl x
theorem fa_25_1 (x : AV) : fieldAddrA Try.prog 25 1 x = moveA 1 x := fieldAddrA_of ti_25 rfl 1 1 rfl rfl ti_22 rfl rfl x
theorem fa_25_2 (x : AV) : fieldAddrA Try.prog 25 2 x = moveA 2 x := fieldAddrA_of ti_25 rfl 2 2 rfl rfl ti_23 rfl rfl x
theorem ld_31 (m : Mem) (x : AV) : loadA Try.prog m 31 x = loadOne m x := loadA_one ti_31 rfl m x
theorem st_31 (m : Mem) (n off : Nat) (v : AV) : storeA Try.prog m 31 (.ptr n off) v = storeN m 1 n off v := storeA_of ti_31 m n off v
theorem z_31 : zeroA Try.prog 31 = some [.val (Go.Value.slice none 0 0)] := by simp only [zeroA, ti_31]; rfl
theorem ld_36 (m : Mem) (x : AV) : loadA Try.prog m 36 x = loadOne m x := loadA_one ti_36 rfl m x
theorem st_36 (m : Mem) (n off : Nat) (v : AV) : storeA Try.prog m 36 (.ptr n off) v = storeN m 1 n off v := storeA_of ti_36 m n off v
theorem z_36 : zeroA Try.prog 36 = some [.val (Go.Value.slice none 0 0)] := by simp only [zeroA, ti_36]; rfl
theorem ld_37 (m : Mem) (x : AV) : loadA Try.prog m 37 x = loadOne m x := loadA_one ti_37 rfl m x
theorem st_37 (m : Mem) (n off : Nat) (v : AV) : storeA Try.prog m 37 (.ptr n off) v = storeN m 1 n off v := storeA_of ti_37 m n off v
theorem z_37 : zeroA Try.prog 37 = some [.val (Go.Value.slice none 0 0)] := by simp only [zeroA, ti_37]; rfl
theorem ld_39 (m : Mem) (x : AV) : loadA Try.prog m 39 x = loadAgg m 7 x := loadA_agg ti_39 rfl rfl m x
theorem st_39 (m : Mem) (n off : Nat) (v : AV) : storeA Try.prog m 39 (.ptr n off) v = storeN m 7 n off v := storeA_of ti_39 m n off v
theorem z_39 : zeroA Try.prog 39 = some [.val (Go.Value.int Go.IntKind.i64 0), .val (Go.Value.int Go.IntKind.i64 0), .val (Go.Value.int Go.IntKind.i64 0), .val (Go.Value.int Go.IntKind.i64 0), .val (Go.Value.string { data := #[] }), .val (Go.Value.slice none 0 0), .val (Go.Value.slice none 0 0)] := by simp only [zeroA, ti_39]; rfl
theorem fa_39_0 (x : AV) : fieldAddrA Try.prog 39 0 x = moveA 0 x := fieldAddrA_of ti_39 rfl 0 0 rfl rfl ti_3 rfl rfl x
theorem fa_39_1 (x : AV) : fieldAddrA Try.prog 39 1 x = moveA 1 x := fieldAddrA_of ti_39 rfl 1 1 rfl rfl ti_2 rfl rfl x
theorem fa_39_2 (x : AV) : fieldAddrA Try.prog 39 2 x = moveA 2 x := fieldAddrA_of ti_39 rfl 2 2 rfl rfl ti_3 rfl rfl x
theorem fa_39_3 (x : AV) : fieldAddrA Try.prog 39 3 x = moveA 3 x := fieldAddrA_of ti_39 rfl 3 3 rfl rfl ti_3 rfl rfl x
theorem fa_39_4 (x : AV) : fieldAddrA Try.prog 39 4 x = moveA 4 x := fieldAddrA_of ti_39 rfl 4 4 rfl rfl ti_9 rfl rfl x
theorem fa_39_5 (x : AV) : fieldAddrA Try.prog 39 5 x = moveA 5 x := fieldAddrA_of ti_39 rfl 5 5 rfl rfl ti_37 rfl rfl x
theorem fa_39_6 (x : AV) : fieldAddrA Try.prog 39 6 x = moveA 6 x := fieldAddrA_of ti_39 rfl 6 6 rfl rfl ti_37 rfl rfl x
theorem ld_40 (m : Mem) (x : AV) : loadA Try.prog m 40 x = loadOne m x := loadA_one ti_40 rfl m x
theorem st_40 (m : Mem) (n off : Nat) (v : AV) : storeA Try.prog m 40 (.ptr n off) v = storeN m 1 n off v := storeA_of ti_40 m n off v
theorem z_40 : zeroA Try.prog 40 = some [.val (Go.Value.int Go.IntKind.i64 0)] := by simp only [zeroA, ti_40]; rfl
theorem ld_44 (m : Mem) (x : AV) : loadA Try.prog m 44 x = loadAgg m 4 x := loadA_agg ti_44 rfl rfl m x
theorem st_44 (m : Mem) (n off : Nat) (v : AV) : storeA Try.prog m 44 (.ptr n off) v = storeN m 4 n off v := storeA_of ti_44 m n off v
theorem z_44 : zeroA Try.prog 44 = some [.val (Go.Value.int Go.IntKind.i64 0), .val (Go.Value.int Go.IntKind.i64 0), .val (Go.Value.int Go.IntKind.i64 0), .val (Go.Value.string { data := #[] })] := by simp only [zeroA, ti_44]; rfl
theorem fa_44_0 (x : AV) : fieldAddrA Try.prog 44 0 x = moveA 0 x := fieldAddrA_of ti_44 rfl 0 0 rfl rfl ti_2 rfl rfl x
theorem fa_44_1 (x : AV) : fieldAddrA Try.prog 44 1 x = moveA 1 x := fieldAddrA_of ti_44 rfl 1 1 rfl rfl ti_3 rfl rfl x
theorem fa_44_2 (x : AV) : fieldAddrA Try.prog 44 2 x = moveA 2 x := fieldAddrA_of ti_44 rfl 2 2 rfl rfl ti_3 rfl rfl x
theorem fa_44_3 (x : AV) : fieldAddrA Try.prog 44 3 x = moveA 3 x := fieldAddrA_of ti_44 rfl 3 3 rfl rfl ti_9 rfl rfl x
theorem ld_54 (m : Mem) (x : AV) : loadA Try.prog m 54 x = loadOne m x := loadA_one ti_54 rfl m x
theorem st_54 (m : Mem) (n off : Nat) (v : AV) : storeA Try.prog m 54 (.ptr n off) v = storeN m 1 n off v := storeA_of ti_54 m n off v
theorem z_54 : zeroA Try.prog 54 = some [.val (Go.Value.int Go.IntKind.u64 0)] := by simp only [zeroA, ti_54]; rfl
theorem ld_60 (m : Mem) (x : AV) : loadA Try.prog m 60 x = loadAgg m 2 x := loadA_agg ti_60 rfl rfl m x
theorem st_60 (m : Mem) (n off : Nat) (v : AV) : storeA Try.prog m 60 (.ptr n off) v = storeN m 2 n off v := storeA_of ti_60 m n off v
theorem z_60 : zeroA Try.prog 60 = some [.val (Go.Value.int Go.IntKind.i64 0), .val (Go.Value.int Go.IntKind.i64 0)] := by simp only [zeroA, ti_60]; rfl
theorem fa_60_0 (x : AV) : fieldAddrA Try.prog 60 0 x = moveA 0 x := fieldAddrA_of ti_60 rfl 0 0 rfl rfl ti_3 rfl rfl x
theorem fa_60_1 (x : AV) : fieldAddrA Try.prog 60 1 x = moveA 1 x := fieldAddrA_of ti_60 rfl 1 1 rfl rfl ti_3 rfl rfl x
theorem ld_68 (m : Mem) (x : AV) : loadA Try.prog m 68 x = loadOne m x := loadA_one ti_68 rfl m x
theorem st_68 (m : Mem) (n off : Nat) (v : AV) : storeA Try.prog m 68 (.ptr n off) v = storeN m 1 n off v := storeA_of ti_68 m n off v
theorem z_68 : zeroA Try.prog 68 = some [.val (Go.Value.map none)] := by simp only [zeroA, ti_68]; rfl
theorem ld_74 (m : Mem) (x : AV) : loadA Try.prog m 74 x = loadOne m x := loadA_one ti_74 rfl m x
theorem st_74 (m : Mem) (n off : Nat) (v : AV) : storeA Try.prog m 74 (.ptr n off) v = storeN m 1 n off v := storeA_of ti_74 m n off v
theorem z_74 : zeroA Try.prog 74 = some [.val (Go.Value.pointer none)] := by simp only [zeroA, ti_74]; rfl
theorem ld_81 (m : Mem) (x : AV) : loadA Try.prog m 81 x = loadOne m x := loadA_one ti_81 rfl m x
theorem st_81 (m : Mem) (n off : Nat) (v : AV) : storeA Try.prog m 81 (.ptr n off) v = storeN m 1 n off v := storeA_of ti_81 m n off v
theorem z_81 : zeroA Try.prog 81 = some [.val Go.Value.nilFunc] := by simp only [zeroA, ti_81]; rfl
theorem ld_85 (m : Mem) (x : AV) : loadA Try.prog m 85 x = loadOne m x := loadA_one ti_85 rfl m x
theorem st_85 (m : Mem) (n off : Nat) (v : AV) : storeA Try.prog m 85 (.ptr n off) v = storeN m 1 n off v := storeA_of ti_85 m n off v
theorem z_85 : zeroA Try.prog 85 = some [.val Go.Value.nilFunc] := by simp only [zeroA, ti_85]; rfl
theorem ld_92 (m : Mem) (x : AV) : loadA Try.prog m 92 x = loadOne m x := loadA_one ti_92 rfl m x
theorem st_92 (m : Mem) (n off : Nat) (v : AV) : storeA Try.prog m 92 (.ptr n off) v = storeN m 1 n off v := storeA_of ti_92 m n off v
theorem z_92 : zeroA Try.prog 92 = some [.val (Go.Value.int Go.IntKind.u64 0)] := by simp only [zeroA, ti_92]; rfl
theorem cs_2 : Try.prog.cellsOf 2 = 1 := cellsOf_ti ti_2
theorem cs_3 : Try.prog.cellsOf 3 = 1 := cellsOf_ti ti_3
theorem cs_4 : Try.prog.cellsOf 4 = 1 := cellsOf_ti ti_4
theorem len_str_9 (m : Mem) (s : ByteArray) : lenA Try.prog m 9 (.val (.string s)) = some (.val (.int .i64 s.size)) := len_str ti_9 rfl m s
theorem cs_9 : Try.prog.cellsOf 9 = 1 := cellsOf_ti ti_9
theorem sl_22 (m : Mem) (n off len cap : Nat) (lo hi mx : Option AV) : sliceA Try.prog m 22 (.sl n off len cap) lo hi mx = sliceOwn Try.prog 4 (m n) n off len cap lo hi mx := sliceA_own ti_22 rfl ti_44 m n off len cap lo hi mx
theorem ix_own_22 (n off len cap : Nat) (kk : IntKind) (k : Int) (h0 : 0 ≤ k) (h1 : k < len) : indexAddrA Try.prog 22 (.sl n off len cap) (.val (.int kk k)) = some (.ptr n (off + k.toNat * 4)) := index_own ti_22 rfl ti_44 n off len cap kk k h0 h1
theorem cap_own_22 (m : Mem) (n off len cap : Nat) : capA Try.prog m 22 (.sl n off len cap) = capOwn (m n) cap := cap_own ti_22 rfl m n off len cap
theorem len_own_22 (m : Mem) (n off len cap : Nat) : lenA Try.prog m 22 (.sl n off len cap) = some (.val (.int .i64 len)) := len_own ti_22 rfl m n off len cap
theorem len_read_22 (m : Mem) (es : List (List AV)) (x : Bool) : lenA Try.prog m 22 (.vs es x) = some (.val (.int .i64 es.length)) := len_read ti_22 rfl m es x
theorem len_nil_22 (m : Mem)  : lenA Try.prog m 22 (.val (.slice none 0 0)) = some (.val (.int .i64 0)) := len_nil ti_22 rfl m 
theorem app_22 : AppT Try.prog 22 22 44 ⟨(Go.TypeDesc.struct #[{ name := "Number", type := 2, offset := 0, embedded := false, tag := "", pkgPath := "", byteOffset := 0 }, { name := "From", type := 3, offset := 1, embedded := false, tag := "", pkgPath := "", byteOffset := 8 }, { name := "To", type := 3, offset := 2, embedded := false, tag := "", pkgPath := "", byteOffset := 16 }, { name := "Body", type := 9, offset := 3, embedded := false, tag := "", pkgPath := "", byteOffset := 24 }]), 4, 40, (some (Go.Value.agg #[(Go.Value.int Go.IntKind.i64 0), (Go.Value.int Go.IntKind.i64 0), (Go.Value.int Go.IntKind.i64 0), (Go.Value.string { data := #[] })]))⟩ [.val (Go.Value.int Go.IntKind.i64 0), .val (Go.Value.int Go.IntKind.i64 0), .val (Go.Value.int Go.IntKind.i64 0), .val (Go.Value.string { data := #[] })] := ⟨⟨_, ti_22, rfl⟩, ⟨_, ti_22, .inl ⟨_, rfl⟩⟩, ti_44, z_44, rfl, by decide, by decide⟩
theorem T_22 : SlT Try.prog 22 44 ⟨(Go.TypeDesc.struct #[{ name := "Number", type := 2, offset := 0, embedded := false, tag := "", pkgPath := "", byteOffset := 0 }, { name := "From", type := 3, offset := 1, embedded := false, tag := "", pkgPath := "", byteOffset := 8 }, { name := "To", type := 3, offset := 2, embedded := false, tag := "", pkgPath := "", byteOffset := 16 }, { name := "Body", type := 9, offset := 3, embedded := false, tag := "", pkgPath := "", byteOffset := 24 }]), 4, 40, (some (Go.Value.agg #[(Go.Value.int Go.IntKind.i64 0), (Go.Value.int Go.IntKind.i64 0), (Go.Value.int Go.IntKind.i64 0), (Go.Value.string { data := #[] })]))⟩ [.val (Go.Value.int Go.IntKind.i64 0), .val (Go.Value.int Go.IntKind.i64 0), .val (Go.Value.int Go.IntKind.i64 0), .val (Go.Value.string { data := #[] })] := ⟨⟨_, ti_22, rfl⟩, ti_44, z_44, rfl, rfl, by decide, by decide⟩
theorem cp_22_eq_sl (n off len cap : Nat) (h : 0 < cap) : cmpA Try.prog 22 .eql (.sl n off len cap) (.val (.slice none 0 0)) = some (.val (.bool false)) := eq_sl ti_22 rfl n off len cap h
theorem cp_22_eq_vs {α : Type} (f : α → List AV) (l : List α) (x : Bool) (h : 0 < l.length) : cmpA Try.prog 22 .eql (.vs (l.map f) x) (.val (.slice none 0 0)) = some (.val (.bool false)) := eq_vs ti_22 f rfl l x h
theorem cp_22_eq_nil : cmpA Try.prog 22 .eql (.val (.slice none 0 0)) (.val (.slice none 0 0)) = some (.val (.bool true)) := eq_snil ti_22 rfl
theorem cp_22_ne_sl (n off len cap : Nat) (h : 0 < cap) : cmpA Try.prog 22 .neq (.sl n off len cap) (.val (.slice none 0 0)) = some (.val (.bool true)) := ne_sl ti_22 rfl n off len cap h
theorem cp_22_ne_vs {α : Type} (f : α → List AV) (l : List α) (x : Bool) (h : 0 < l.length) : cmpA Try.prog 22 .neq (.vs (l.map f) x) (.val (.slice none 0 0)) = some (.val (.bool true)) := ne_vs ti_22 f rfl l x h
theorem cp_22_ne_nil : cmpA Try.prog 22 .neq (.val (.slice none 0 0)) (.val (.slice none 0 0)) = some (.val (.bool false)) := ne_snil ti_22 rfl
theorem cs_22 : Try.prog.cellsOf 22 = 1 := cellsOf_ti ti_22
theorem sl_23 (m : Mem) (n off len cap : Nat) (lo hi mx : Option AV) : sliceA Try.prog m 23 (.sl n off len cap) lo hi mx = sliceOwn Try.prog 2 (m n) n off len cap lo hi mx := sliceA_own ti_23 rfl ti_60 m n off len cap lo hi mx
theorem ix_own_23 (n off len cap : Nat) (kk : IntKind) (k : Int) (h0 : 0 ≤ k) (h1 : k < len) : indexAddrA Try.prog 23 (.sl n off len cap) (.val (.int kk k)) = some (.ptr n (off + k.toNat * 2)) := index_own ti_23 rfl ti_60 n off len cap kk k h0 h1
theorem cap_own_23 (m : Mem) (n off len cap : Nat) : capA Try.prog m 23 (.sl n off len cap) = capOwn (m n) cap := cap_own ti_23 rfl m n off len cap
theorem len_own_23 (m : Mem) (n off len cap : Nat) : lenA Try.prog m 23 (.sl n off len cap) = some (.val (.int .i64 len)) := len_own ti_23 rfl m n off len cap
theorem len_read_23 (m : Mem) (es : List (List AV)) (x : Bool) : lenA Try.prog m 23 (.vs es x) = some (.val (.int .i64 es.length)) := len_read ti_23 rfl m es x
theorem len_nil_23 (m : Mem)  : lenA Try.prog m 23 (.val (.slice none 0 0)) = some (.val (.int .i64 0)) := len_nil ti_23 rfl m 
theorem T_23 : SlT Try.prog 23 60 ⟨(Go.TypeDesc.struct #[{ name := "From", type := 3, offset := 0, embedded := false, tag := "", pkgPath := "", byteOffset := 0 }, { name := "To", type := 3, offset := 1, embedded := false, tag := "", pkgPath := "", byteOffset := 8 }]), 2, 16, (some (Go.Value.agg #[(Go.Value.int Go.IntKind.i64 0), (Go.Value.int Go.IntKind.i64 0)]))⟩ [.val (Go.Value.int Go.IntKind.i64 0), .val (Go.Value.int Go.IntKind.i64 0)] := ⟨⟨_, ti_23, rfl⟩, ti_60, z_60, rfl, rfl, by decide, by decide⟩
theorem cp_23_eq_sl (n off len cap : Nat) (h : 0 < cap) : cmpA Try.prog 23 .eql (.sl n off len cap) (.val (.slice none 0 0)) = some (.val (.bool false)) := eq_sl ti_23 rfl n off len cap h
theorem cp_23_eq_vs {α : Type} (f : α → List AV) (l : List α) (x : Bool) (h : 0 < l.length) : cmpA Try.prog 23 .eql (.vs (l.map f) x) (.val (.slice none 0 0)) = some (.val (.bool false)) := eq_vs ti_23 f rfl l x h
theorem cp_23_eq_nil : cmpA Try.prog 23 .eql (.val (.slice none 0 0)) (.val (.slice none 0 0)) = some (.val (.bool true)) := eq_snil ti_23 rfl
theorem cp_23_ne_sl (n off len cap : Nat) (h : 0 < cap) : cmpA Try.prog 23 .neq (.sl n off len cap) (.val (.slice none 0 0)) = some (.val (.bool true)) := ne_sl ti_23 rfl n off len cap h
theorem cp_23_ne_vs {α : Type} (f : α → List AV) (l : List α) (x : Bool) (h : 0 < l.length) : cmpA Try.prog 23 .neq (.vs (l.map f) x) (.val (.slice none 0 0)) = some (.val (.bool true)) := ne_vs ti_23 f rfl l x h
theorem cp_23_ne_nil : cmpA Try.prog 23 .neq (.val (.slice none 0 0)) (.val (.slice none 0 0)) = some (.val (.bool false)) := ne_snil ti_23 rfl
theorem cs_23 : Try.prog.cellsOf 23 = 1 := cellsOf_ti ti_23
theorem cs_25 : Try.prog.cellsOf 25 = 3 := cellsOf_ti ti_25
theorem bu_25 (parts : List (Nat × AV)) : buildA Try.prog 25 parts = buOf (fillA (fun i => [(0, 1), (1, 1), (2, 1)][i]?) [.val (Go.Value.int Go.IntKind.i64 0), .val (Go.Value.slice none 0 0), .val (Go.Value.slice none 0 0)] parts) := build_struct ti_25 rfl z_25 (by simp only [placesA, ti_2, ti_22, ti_23]) parts
theorem sl_31 (m : Mem) (n off len cap : Nat) (lo hi mx : Option AV) : sliceA Try.prog m 31 (.sl n off len cap) lo hi mx = sliceOwn Try.prog 1 (m n) n off len cap lo hi mx := sliceA_own ti_31 rfl ti_2 m n off len cap lo hi mx
theorem ix_own_31 (n off len cap : Nat) (kk : IntKind) (k : Int) (h0 : 0 ≤ k) (h1 : k < len) : indexAddrA Try.prog 31 (.sl n off len cap) (.val (.int kk k)) = some (.ptr n (off + k.toNat * 1)) := index_own ti_31 rfl ti_2 n off len cap kk k h0 h1
theorem cap_own_31 (m : Mem) (n off len cap : Nat) : capA Try.prog m 31 (.sl n off len cap) = capOwn (m n) cap := cap_own ti_31 rfl m n off len cap
theorem len_own_31 (m : Mem) (n off len cap : Nat) : lenA Try.prog m 31 (.sl n off len cap) = some (.val (.int .i64 len)) := len_own ti_31 rfl m n off len cap
theorem len_read_31 (m : Mem) (es : List (List AV)) (x : Bool) : lenA Try.prog m 31 (.vs es x) = some (.val (.int .i64 es.length)) := len_read ti_31 rfl m es x
theorem len_nil_31 (m : Mem)  : lenA Try.prog m 31 (.val (.slice none 0 0)) = some (.val (.int .i64 0)) := len_nil ti_31 rfl m 
theorem app_31 : AppT Try.prog 31 31 2 ⟨(Go.TypeDesc.int Go.IntKind.i64), 1, 8, (some (Go.Value.int Go.IntKind.i64 0))⟩ [.val (Go.Value.int Go.IntKind.i64 0)] := ⟨⟨_, ti_31, rfl⟩, ⟨_, ti_31, .inl ⟨_, rfl⟩⟩, ti_2, z_2, rfl, by decide, by decide⟩
theorem cp_31_eq_sl (n off len cap : Nat) (h : 0 < cap) : cmpA Try.prog 31 .eql (.sl n off len cap) (.val (.slice none 0 0)) = some (.val (.bool false)) := eq_sl ti_31 rfl n off len cap h
theorem cp_31_eq_vs {α : Type} (f : α → List AV) (l : List α) (x : Bool) (h : 0 < l.length) : cmpA Try.prog 31 .eql (.vs (l.map f) x) (.val (.slice none 0 0)) = some (.val (.bool false)) := eq_vs ti_31 f rfl l x h
theorem cp_31_eq_nil : cmpA Try.prog 31 .eql (.val (.slice none 0 0)) (.val (.slice none 0 0)) = some (.val (.bool true)) := eq_snil ti_31 rfl
theorem cp_31_ne_sl (n off len cap : Nat) (h : 0 < cap) : cmpA Try.prog 31 .neq (.sl n off len cap) (.val (.slice none 0 0)) = some (.val (.bool true)) := ne_sl ti_31 rfl n off len cap h
theorem cp_31_ne_vs {α : Type} (f : α → List AV) (l : List α) (x : Bool) (h : 0 < l.length) : cmpA Try.prog 31 .neq (.vs (l.map f) x) (.val (.slice none 0 0)) = some (.val (.bool true)) := ne_vs ti_31 f rfl l x h
theorem cp_31_ne_nil : cmpA Try.prog 31 .neq (.val (.slice none 0 0)) (.val (.slice none 0 0)) = some (.val (.bool false)) := ne_snil ti_31 rfl
theorem cs_31 : Try.prog.cellsOf 31 = 1 := cellsOf_ti ti_31
theorem sl_36 (m : Mem) (n off len cap : Nat) (lo hi mx : Option AV) : sliceA Try.prog m 36 (.sl n off len cap) lo hi mx = sliceOwn Try.prog 7 (m n) n off len cap lo hi mx := sliceA_own ti_36 rfl ti_39 m n off len cap lo hi mx
theorem ix_own_36 (n off len cap : Nat) (kk : IntKind) (k : Int) (h0 : 0 ≤ k) (h1 : k < len) : indexAddrA Try.prog 36 (.sl n off len cap) (.val (.int kk k)) = some (.ptr n (off + k.toNat * 7)) := index_own ti_36 rfl ti_39 n off len cap kk k h0 h1
theorem cap_own_36 (m : Mem) (n off len cap : Nat) : capA Try.prog m 36 (.sl n off len cap) = capOwn (m n) cap := cap_own ti_36 rfl m n off len cap
theorem len_own_36 (m : Mem) (n off len cap : Nat) : lenA Try.prog m 36 (.sl n off len cap) = some (.val (.int .i64 len)) := len_own ti_36 rfl m n off len cap
theorem len_read_36 (m : Mem) (es : List (List AV)) (x : Bool) : lenA Try.prog m 36 (.vs es x) = some (.val (.int .i64 es.length)) := len_read ti_36 rfl m es x
theorem len_nil_36 (m : Mem)  : lenA Try.prog m 36 (.val (.slice none 0 0)) = some (.val (.int .i64 0)) := len_nil ti_36 rfl m 
theorem cp_36_eq_sl (n off len cap : Nat) (h : 0 < cap) : cmpA Try.prog 36 .eql (.sl n off len cap) (.val (.slice none 0 0)) = some (.val (.bool false)) := eq_sl ti_36 rfl n off len cap h
theorem cp_36_eq_vs {α : Type} (f : α → List AV) (l : List α) (x : Bool) (h : 0 < l.length) : cmpA Try.prog 36 .eql (.vs (l.map f) x) (.val (.slice none 0 0)) = some (.val (.bool false)) := eq_vs ti_36 f rfl l x h
theorem cp_36_eq_nil : cmpA Try.prog 36 .eql (.val (.slice none 0 0)) (.val (.slice none 0 0)) = some (.val (.bool true)) := eq_snil ti_36 rfl
theorem cp_36_ne_sl (n off len cap : Nat) (h : 0 < cap) : cmpA Try.prog 36 .neq (.sl n off len cap) (.val (.slice none 0 0)) = some (.val (.bool true)) := ne_sl ti_36 rfl n off len cap h
theorem cp_36_ne_vs {α : Type} (f : α → List AV) (l : List α) (x : Bool) (h : 0 < l.length) : cmpA Try.prog 36 .neq (.vs (l.map f) x) (.val (.slice none 0 0)) = some (.val (.bool true)) := ne_vs ti_36 f rfl l x h
theorem cp_36_ne_nil : cmpA Try.prog 36 .neq (.val (.slice none 0 0)) (.val (.slice none 0 0)) = some (.val (.bool false)) := ne_snil ti_36 rfl
theorem cs_36 : Try.prog.cellsOf 36 = 1 := cellsOf_ti ti_36
theorem sl_37 (m : Mem) (n off len cap : Nat) (lo hi mx : Option AV) : sliceA Try.prog m 37 (.sl n off len cap) lo hi mx = sliceOwn Try.prog 1 (m n) n off len cap lo hi mx := sliceA_own ti_37 rfl ti_3 m n off len cap lo hi mx
theorem ix_own_37 (n off len cap : Nat) (kk : IntKind) (k : Int) (h0 : 0 ≤ k) (h1 : k < len) : indexAddrA Try.prog 37 (.sl n off len cap) (.val (.int kk k)) = some (.ptr n (off + k.toNat * 1)) := index_own ti_37 rfl ti_3 n off len cap kk k h0 h1
theorem cap_own_37 (m : Mem) (n off len cap : Nat) : capA Try.prog m 37 (.sl n off len cap) = capOwn (m n) cap := cap_own ti_37 rfl m n off len cap
theorem len_own_37 (m : Mem) (n off len cap : Nat) : lenA Try.prog m 37 (.sl n off len cap) = some (.val (.int .i64 len)) := len_own ti_37 rfl m n off len cap
theorem len_read_37 (m : Mem) (es : List (List AV)) (x : Bool) : lenA Try.prog m 37 (.vs es x) = some (.val (.int .i64 es.length)) := len_read ti_37 rfl m es x
theorem len_nil_37 (m : Mem)  : lenA Try.prog m 37 (.val (.slice none 0 0)) = some (.val (.int .i64 0)) := len_nil ti_37 rfl m 
theorem cp_37_eq_sl (n off len cap : Nat) (h : 0 < cap) : cmpA Try.prog 37 .eql (.sl n off len cap) (.val (.slice none 0 0)) = some (.val (.bool false)) := eq_sl ti_37 rfl n off len cap h
theorem cp_37_eq_vs {α : Type} (f : α → List AV) (l : List α) (x : Bool) (h : 0 < l.length) : cmpA Try.prog 37 .eql (.vs (l.map f) x) (.val (.slice none 0 0)) = some (.val (.bool false)) := eq_vs ti_37 f rfl l x h
theorem cp_37_eq_nil : cmpA Try.prog 37 .eql (.val (.slice none 0 0)) (.val (.slice none 0 0)) = some (.val (.bool true)) := eq_snil ti_37 rfl
theorem cp_37_ne_sl (n off len cap : Nat) (h : 0 < cap) : cmpA Try.prog 37 .neq (.sl n off len cap) (.val (.slice none 0 0)) = some (.val (.bool true)) := ne_sl ti_37 rfl n off len cap h
theorem cp_37_ne_vs {α : Type} (f : α → List AV) (l : List α) (x : Bool) (h : 0 < l.length) : cmpA Try.prog 37 .neq (.vs (l.map f) x) (.val (.slice none 0 0)) = some (.val (.bool true)) := ne_vs ti_37 f rfl l x h
theorem cp_37_ne_nil : cmpA Try.prog 37 .neq (.val (.slice none 0 0)) (.val (.slice none 0 0)) = some (.val (.bool false)) := ne_snil ti_37 rfl
theorem cs_37 : Try.prog.cellsOf 37 = 1 := cellsOf_ti ti_37
theorem cs_39 : Try.prog.cellsOf 39 = 7 := cellsOf_ti ti_39
theorem bu_39 (parts : List (Nat × AV)) : buildA Try.prog 39 parts = buOf (fillA (fun i => [(0, 1), (1, 1), (2, 1), (3, 1), (4, 1), (5, 1), (6, 1)][i]?) [.val (Go.Value.int Go.IntKind.i64 0), .val (Go.Value.int Go.IntKind.i64 0), .val (Go.Value.int Go.IntKind.i64 0), .val (Go.Value.int Go.IntKind.i64 0), .val (Go.Value.string { data := #[] }), .val (Go.Value.slice none 0 0), .val (Go.Value.slice none 0 0)] parts) := build_struct ti_39 rfl z_39 (by simp only [placesA, ti_2, ti_3, ti_9, ti_37]) parts
theorem cs_40 : Try.prog.cellsOf 40 = 1 := cellsOf_ti ti_40
theorem cs_44 : Try.prog.cellsOf 44 = 4 := cellsOf_ti ti_44
theorem bu_44 (parts : List (Nat × AV)) : buildA Try.prog 44 parts = buOf (fillA (fun i => [(0, 1), (1, 1), (2, 1), (3, 1)][i]?) [.val (Go.Value.int Go.IntKind.i64 0), .val (Go.Value.int Go.IntKind.i64 0), .val (Go.Value.int Go.IntKind.i64 0), .val (Go.Value.string { data := #[] })] parts) := build_struct ti_44 rfl z_44 (by simp only [placesA, ti_2, ti_3, ti_9]) parts
theorem cs_54 : Try.prog.cellsOf 54 = 1 := cellsOf_ti ti_54
theorem cs_60 : Try.prog.cellsOf 60 = 2 := cellsOf_ti ti_60
theorem bu_60 (parts : List (Nat × AV)) : buildA Try.prog 60 parts = buOf (fillA (fun i => [(0, 1), (1, 1)][i]?) [.val (Go.Value.int Go.IntKind.i64 0), .val (Go.Value.int Go.IntKind.i64 0)] parts) := build_struct ti_60 rfl z_60 (by simp only [placesA, ti_3]) parts
theorem cs_68 : Try.prog.cellsOf 68 = 1 := cellsOf_ti ti_68
theorem cp_74_eq_ptr (n off : Nat) : cmpA Try.prog 74 .eql (.ptr n off) (.val (.pointer none)) = some (.val (.bool false)) := eq_ptr ti_74 rfl n off
theorem cp_74_eq_vp (cs : List AV) (off : Nat) : cmpA Try.prog 74 .eql (.vp cs off) (.val (.pointer none)) = some (.val (.bool false)) := eq_vp ti_74 rfl cs off
theorem cp_74_eq_nil : cmpA Try.prog 74 .eql (.val (.pointer none)) (.val (.pointer none)) = some (.val (.bool true)) := eq_pnil ti_74 rfl
theorem cp_74_ne_ptr (n off : Nat) : cmpA Try.prog 74 .neq (.ptr n off) (.val (.pointer none)) = some (.val (.bool true)) := ne_ptr ti_74 rfl n off
theorem cp_74_ne_vp (cs : List AV) (off : Nat) : cmpA Try.prog 74 .neq (.vp cs off) (.val (.pointer none)) = some (.val (.bool true)) := ne_vp ti_74 rfl cs off
theorem cp_74_ne_nil : cmpA Try.prog 74 .neq (.val (.pointer none)) (.val (.pointer none)) = some (.val (.bool false)) := ne_pnil ti_74 rfl
theorem cs_74 : Try.prog.cellsOf 74 = 1 := cellsOf_ti ti_74
theorem cs_81 : Try.prog.cellsOf 81 = 1 := cellsOf_ti ti_81
theorem cs_85 : Try.prog.cellsOf 85 = 1 := cellsOf_ti ti_85
theorem cs_92 : Try.prog.cellsOf 92 = 1 := cellsOf_ti ti_92
theorem cv_3_54 (m : Mem) (k : IntKind) (n : Int) : convA Try.prog m 3 54 (.val (.int k n)) = some (.val (.int Go.IntKind.u64 (IntKind.wrap Go.IntKind.u64 n))) := by simp only [convA, ti_3, ti_54]
theorem cv_3_92 (m : Mem) (k : IntKind) (n : Int) : convA Try.prog m 3 92 (.val (.int k n)) = some (.val (.int Go.IntKind.u64 (IntKind.wrap Go.IntKind.u64 n))) := by simp only [convA, ti_3, ti_92]
theorem cv_54_3 (m : Mem) (k : IntKind) (n : Int) : convA Try.prog m 54 3 (.val (.int k n)) = some (.val (.int Go.IntKind.i64 (IntKind.wrap Go.IntKind.i64 n))) := by simp only [convA, ti_54, ti_3]
theorem cv_92_3 (m : Mem) (k : IntKind) (n : Int) : convA Try.prog m 92 3 (.val (.int k n)) = some (.val (.int Go.IntKind.i64 (IntKind.wrap Go.IntKind.i64 n))) := by simp only [convA, ti_92, ti_3]
theorem rulesT : type_of% (And.intro @bu_25 (And.intro @bu_39 (And.intro @bu_44 (And.intro @bu_60 (And.intro @cap_own_22 (And.intro @cap_own_23 (And.intro @cap_own_31 (And.intro @cap_own_36 (And.intro @cap_own_37 (And.intro @cp_22_eq_nil (And.intro @cp_22_eq_sl (And.intro @cp_22_eq_vs (And.intro @cp_22_ne_nil (And.intro @cp_22_ne_sl (And.intro @cp_22_ne_vs (And.intro @cp_23_eq_nil (And.intro @cp_23_eq_sl (And.intro @cp_23_eq_vs (And.intro @cp_23_ne_nil (And.intro @cp_23_ne_sl (And.intro @cp_23_ne_vs (And.intro @cp_31_eq_nil (And.intro @cp_31_eq_sl (And.intro @cp_31_eq_vs (And.intro @cp_31_ne_nil (And.intro @cp_31_ne_sl (And.intro @cp_31_ne_vs (And.intro @cp_36_eq_nil (And.intro @cp_36_eq_sl (And.intro @cp_36_eq_vs (And.intro @cp_36_ne_nil (And.intro @cp_36_ne_sl (And.intro @cp_36_ne_vs (And.intro @cp_37_eq_nil (And.intro @cp_37_eq_sl (And.intro @cp_37_eq_vs (And.intro @cp_37_ne_nil (And.intro @cp_37_ne_sl (And.intro @cp_37_ne_vs (And.intro @cp_74_eq_nil (And.intro @cp_74_eq_ptr (And.intro @cp_74_eq_vp (And.intro @cp_74_ne_nil (And.intro @cp_74_ne_ptr (And.intro @cp_74_ne_vp (And.intro @cs_2 (And.intro @cs_22 (And.intro @cs_23 (And.intro @cs_25 (And.intro @cs_3 (And.intro @cs_31 (And.intro @cs_36 (And.intro @cs_37 (And.intro @cs_39 (And.intro @cs_4 (And.intro @cs_40 (And.intro @cs_44 (And.intro @cs_54 (And.intro @cs_60 (And.intro @cs_68 (And.intro @cs_74 (And.intro @cs_81 (And.intro @cs_85 (And.intro @cs_9 (And.intro @cs_92 (And.intro @cv_3_54 (And.intro @cv_3_92 (And.intro @cv_54_3 (And.intro @cv_92_3 (And.intro @fa_25_0 (And.intro @fa_25_1 (And.intro @fa_25_2 (And.intro @fa_39_0 (And.intro @fa_39_1 (And.intro @fa_39_2 (And.intro @fa_39_3 (And.intro @fa_39_4 (And.intro @fa_39_5 (And.intro @fa_39_6 (And.intro @fa_44_0 (And.intro @fa_44_1 (And.intro @fa_44_2 (And.intro @fa_44_3 (And.intro @fa_60_0 (And.intro @fa_60_1 (And.intro @ix_own_22 (And.intro @ix_own_23 (And.intro @ix_own_31 (And.intro @ix_own_36 (And.intro @ix_own_37 (And.intro @ld_2 (And.intro @ld_22 (And.intro @ld_23 (And.intro @ld_25 (And.intro @ld_3 (And.intro @ld_31 (And.intro @ld_36 (And.intro @ld_37 (And.intro @ld_39 (And.intro @ld_4 (And.intro @ld_40 (And.intro @ld_44 (And.intro @ld_54 (And.intro @ld_60 (And.intro @ld_68 (And.intro @ld_74 (And.intro @ld_81 (And.intro @ld_85 (And.intro @ld_9 (And.intro @ld_92 (And.intro @len_nil_22 (And.intro @len_nil_23 (And.intro @len_nil_31 (And.intro @len_nil_36 (And.intro @len_nil_37 (And.intro @len_own_22 (And.intro @len_own_23 (And.intro @len_own_31 (And.intro @len_own_36 (And.intro @len_own_37 (And.intro @len_read_22 (And.intro @len_read_23 (And.intro @len_read_31 (And.intro @len_read_36 (And.intro @len_read_37 (And.intro @len_str_9 (And.intro @sl_22 (And.intro @sl_23 (And.intro @sl_31 (And.intro @sl_36 (And.intro @sl_37 (And.intro @st_2 (And.intro @st_22 (And.intro @st_23 (And.intro @st_25 (And.intro @st_3 (And.intro @st_31 (And.intro @st_36 (And.intro @st_37 (And.intro @st_39 (And.intro @st_4 (And.intro @st_40 (And.intro @st_44 (And.intro @st_54 (And.intro @st_60 (And.intro @st_68 (And.intro @st_74 (And.intro @st_81 (And.intro @st_85 (And.intro @st_9 (And.intro @st_92 (And.intro @ti_2 (And.intro @ti_22 (And.intro @ti_23 (And.intro @ti_25 (And.intro @ti_3 (And.intro @ti_31 (And.intro @ti_36 (And.intro @ti_37 (And.intro @ti_39 (And.intro @ti_4 (And.intro @ti_40 (And.intro @ti_44 (And.intro @ti_54 (And.intro @ti_60 (And.intro @ti_68 (And.intro @ti_74 (And.intro @ti_81 (And.intro @ti_85 (And.intro @ti_9 (And.intro @ti_92 (And.intro @z_2 (And.intro @z_22 (And.intro @z_23 (And.intro @z_25 (And.intro @z_3 (And.intro @z_31 (And.intro @z_36 (And.intro @z_37 (And.intro @z_39 (And.intro @z_4 (And.intro @z_40 (And.intro @z_44 (And.intro @z_54 (And.intro @z_60 (And.intro @z_68 (And.intro @z_74 (And.intro @z_81 (And.intro @z_85 (And.intro @z_9 (@z_92))))))))))))))))))))))))))))))))))))))))))))))))))))))))))))))))))))))))))))))))))))))))))))))))))))))))))))))))))))))))))))))))))))))))))))))))))))))))))))))))))))))))))))))))))))))))))))))) := And.intro @bu_25 (And.intro @bu_39 (And.intro @bu_44 (And.intro @bu_60 (And.intro @cap_own_22 (And.intro @cap_own_23 (And.intro @cap_own_31 (And.intro @cap_own_36 (And.intro @cap_own_37 (And.intro @cp_22_eq_nil (And.intro @cp_22_eq_sl (And.intro @cp_22_eq_vs (And.intro @cp_22_ne_nil (And.intro @cp_22_ne_sl (And.intro @cp_22_ne_vs (And.intro @cp_23_eq_nil (And.intro @cp_23_eq_sl (And.intro @cp_23_eq_vs (And.intro @cp_23_ne_nil (And.intro @cp_23_ne_sl (And.intro @cp_23_ne_vs (And.intro @cp_31_eq_nil (And.intro @cp_31_eq_sl (And.intro @cp_31_eq_vs (And.intro @cp_31_ne_nil (And.intro @cp_31_ne_sl (And.intro @cp_31_ne_vs (And.intro @cp_36_eq_nil (And.intro @cp_36_eq_sl (And.intro @cp_36_eq_vs (And.intro @cp_36_ne_nil (And.intro @cp_36_ne_sl (And.intro @cp_36_ne_vs (And.intro @cp_37_eq_nil (And.intro @cp_37_eq_sl (And.intro @cp_37_eq_vs (And.intro @cp_37_ne_nil (And.intro @cp_37_ne_sl (And.intro @cp_37_ne_vs (And.intro @cp_74_eq_nil (And.intro @cp_74_eq_ptr (And.intro @cp_74_eq_vp (And.intro @cp_74_ne_nil (And.intro @cp_74_ne_ptr (And.intro @cp_74_ne_vp (And.intro @cs_2 (And.intro @cs_22 (And.intro @cs_23 (And.intro @cs_25 (And.intro @cs_3 (And.intro @cs_31 (And.intro @cs_36 (And.intro @cs_37 (And.intro @cs_39 (And.intro @cs_4 (And.intro @cs_40 (And.intro @cs_44 (And.intro @cs_54 (And.intro @cs_60 (And.intro @cs_68 (And.intro @cs_74 (And.intro @cs_81 (And.intro @cs_85 (And.intro @cs_9 (And.intro @cs_92 (And.intro @cv_3_54 (And.intro @cv_3_92 (And.intro @cv_54_3 (And.intro @cv_92_3 (And.intro @fa_25_0 (And.intro @fa_25_1 (And.intro @fa_25_2 (And.intro @fa_39_0 (And.intro @fa_39_1 (And.intro @fa_39_2 (And.intro @fa_39_3 (And.intro @fa_39_4 (And.intro @fa_39_5 (And.intro @fa_39_6 (And.intro @fa_44_0 (And.intro @fa_44_1 (And.intro @fa_44_2 (And.intro @fa_44_3 (And.intro @fa_60_0 (And.intro @fa_60_1 (And.intro @ix_own_22 (And.intro @ix_own_23 (And.intro @ix_own_31 (And.intro @ix_own_36 (And.intro @ix_own_37 (And.intro @ld_2 (And.intro @ld_22 (And.intro @ld_23 (And.intro @ld_25 (And.intro @ld_3 (And.intro @ld_31 (And.intro @ld_36 (And.intro @ld_37 (And.intro @ld_39 (And.intro @ld_4 (And.intro @ld_40 (And.intro @ld_44 (And.intro @ld_54 (And.intro @ld_60 (And.intro @ld_68 (And.intro @ld_74 (And.intro @ld_81 (And.intro @ld_85 (And.intro @ld_9 (And.intro @ld_92 (And.intro @len_nil_22 (And.intro @len_nil_23 (And.intro @len_nil_31 (And.intro @len_nil_36 (And.intro @len_nil_37 (And.intro @len_own_22 (And.intro @len_own_23 (And.intro @len_own_31 (And.intro @len_own_36 (And.intro @len_own_37 (And.intro @len_read_22 (And.intro @len_read_23 (And.intro @len_read_31 (And.intro @len_read_36 (And.intro @len_read_37 (And.intro @len_str_9 (And.intro @sl_22 (And.intro @sl_23 (And.intro @sl_31 (And.intro @sl_36 (And.intro @sl_37 (And.intro @st_2 (And.intro @st_22 (And.intro @st_23 (And.intro @st_25 (And.intro @st_3 (And.intro @st_31 (And.intro @st_36 (And.intro @st_37 (And.intro @st_39 (And.intro @st_4 (And.intro @st_40 (And.intro @st_44 (And.intro @st_54 (And.intro @st_60 (And.intro @st_68 (And.intro @st_74 (And.intro @st_81 (And.intro @st_85 (And.intro @st_9 (And.intro @st_92 (And.intro @ti_2 (And.intro @ti_22 (And.intro @ti_23 (And.intro @ti_25 (And.intro @ti_3 (And.intro @ti_31 (And.intro @ti_36 (And.intro @ti_37 (And.intro @ti_39 (And.intro @ti_4 (And.intro @ti_40 (And.intro @ti_44 (And.intro @ti_54 (And.intro @ti_60 (And.intro @ti_68 (And.intro @ti_74 (And.intro @ti_81 (And.intro @ti_85 (And.intro @ti_9 (And.intro @ti_92 (And.intro @z_2 (And.intro @z_22 (And.intro @z_23 (And.intro @z_25 (And.intro @z_3 (And.intro @z_31 (And.intro @z_36 (And.intro @z_37 (And.intro @z_39 (And.intro @z_4 (And.intro @z_40 (And.intro @z_44 (And.intro @z_54 (And.intro @z_60 (And.intro @z_68 (And.intro @z_74 (And.intro @z_81 (And.intro @z_85 (And.intro @z_9 (@z_92))))))))))))))))))))))))))))))))))))))))))))))))))))))))))))))))))))))))))))))))))))))))))))))))))))))))))))))))))))))))))))))))))))))))))))))))))))))))))))))))))))))))))))))))))))))))))))))
end Go.Proofs.Ytdhbonjbjnodhaa

set_option maxRecDepth 100000
namespace Go.Proofs.Ytdhbonjbjnodhaa
open Go.Abs
theorem mixed : Try.prog.follows .mixedOrders = true := by kernel_rfl
noncomputable def k3 : LC := (.seq (.ops [⟨.box 25 (.tmp 0), some 3, none⟩, ⟨(.assign (.const (.bool false))), (some 6), none⟩]) (.seq (.seq (.ops [⟨.load 25 (.tmp 3), some 11, none⟩, ⟨(.call { callee := (.value (.func 8)), args := #[.tmp 11], argTypes := #[25] }), (some 12), none⟩, ⟨.unOp .not 4 (.tmp 12), some 13, none⟩]) (.cond (.tmp 13) (.seq (.ops [⟨(.call { callee := (.value (.func 9)), args := #[], argTypes := #[] }), (some 14), none⟩, ⟨.assign (.tmp 14), some 6, none⟩]) .ret) .skip)) (.seq (.ops [⟨.load 25 (.tmp 3), some 16, none⟩, ⟨.move (.tmp 2), some 17, none⟩, ⟨(.call { callee := (.value (.func 10)), args := #[.tmp 16, .tmp 17], argTypes := #[25, 3] }), (some 18), none⟩, ⟨.move (.tmp 18), some 15, none⟩, ⟨.extract (.tmp 15) 0, some 19, none⟩, ⟨.extract (.tmp 15) 1, some 20, none⟩, ⟨.assign (.tmp 19), some 7, none⟩, ⟨.assign (.tmp 20), some 8, none⟩]) (.seq (.ops [⟨.load 25 (.tmp 3), some 22, none⟩, ⟨.move (.tmp 2), some 23, none⟩, ⟨(.call { callee := (.value (.func 11)), args := #[.tmp 22, .tmp 23], argTypes := #[25, 3] }), (some 24), none⟩, ⟨.move (.tmp 24), some 21, none⟩, ⟨.extract (.tmp 21) 0, some 25, none⟩, ⟨.extract (.tmp 21) 1, some 26, none⟩, ⟨.assign (.tmp 25), some 9, none⟩, ⟨.assign (.tmp 26), some 10, none⟩]) (.seq (.any [(⟨.load 25 (.tmp 3), some 27, none⟩, true, none), (⟨.move (.tmp 1), some 28, none⟩, true, none), (⟨.move (.tmp 2), some 29, none⟩, true, none), (⟨.load 25 (.tmp 3), some 31, none⟩, true, none), (⟨.move (.tmp 1), some 32, none⟩, true, none), (⟨.move (.tmp 2), some 33, none⟩, true, none), (⟨(.call { callee := (.value (.func 13)), args := #[.tmp 27, .tmp 28, .tmp 29], argTypes := #[25, 3, 3] }), (some 30), none⟩, false, some [⟨.move (.tmp 2), some 33, none⟩, ⟨.move (.tmp 1), some 32, none⟩, ⟨.load 25 (.tmp 3), some 31, none⟩]), (⟨(.call { callee := (.value (.func 14)), args := #[.tmp 31, .tmp 32, .tmp 33], argTypes := #[25, 3, 3] }), (some 34), none⟩, false, none), (⟨(.call { callee := (.value (.func 12)), args := #[.tmp 30, .tmp 34], argTypes := #[31, 31] }), (some 35), none⟩, false, none), (⟨.move (.tmp 35), some 36, none⟩, true, none), (⟨(.move (.tmp 7)), (some 37), some ((some 36), true)⟩, true, none), (⟨(.move (.tmp 9)), (some 38), some ((some 36), true)⟩, true, none), (⟨(.binOp .eql 2 (.tmp 37) (.tmp 38) 2), (some 39), some ((some 36), true)⟩, true, none), (⟨(.pick (.tmp 36) (.tmp 39) (.const (.bool false))), (some 40), none⟩, true, none), (⟨.move (.tmp 40), some 41, none⟩, true, none), (⟨(.move (.tmp 8)), (some 42), some ((some 41), true)⟩, true, none), (⟨(.move (.tmp 10)), (some 43), some ((some 41), true)⟩, true, none), (⟨(.binOp .eql 4 (.tmp 42) (.tmp 43) 4), (some 44), some ((some 41), true)⟩, true, none), (⟨(.pick (.tmp 41) (.tmp 44) (.const (.bool false))), (some 45), none⟩, true, none), (⟨.move (.tmp 45), some 46, none⟩, true, none), (⟨(.call { callee := (.value (.func 9)), args := #[], argTypes := #[] }), (some 47), some ((some 46), true)⟩, false, none), (⟨(.pick (.tmp 46) (.tmp 47) (.const (.bool false))), (some 48), none⟩, true, none), (⟨.assign (.tmp 48), some 6, none⟩, true, none)]) .ret)))))
noncomputable def k4 : LC := (.seq (.ops [⟨.box 25 (.tmp 0), some 2, none⟩, ⟨.box 25 (.tmp 1), some 3, none⟩, ⟨(.assign (.const (.bool false))), (some 4), none⟩]) (.seq (.any [(⟨.load 25 (.tmp 2), some 5, none⟩, true, none), (⟨.load 25 (.tmp 2), some 7, none⟩, true, none), (⟨(.call { callee := (.value (.func 15)), args := #[.tmp 5], argTypes := #[25] }), (some 6), none⟩, false, some [⟨.load 25 (.tmp 2), some 7, none⟩]), (⟨(.call { callee := (.value (.func 8)), args := #[.tmp 7], argTypes := #[25] }), (some 8), none⟩, false, none), (⟨.binOp .eql 4 (.tmp 6) (.tmp 8) 4, some 9, none⟩, true, none), (⟨.move (.tmp 9), some 10, none⟩, true, none), (⟨(.load 25 (.tmp 2)), (some 11), some ((some 10), true)⟩, true, none), (⟨(.load 25 (.tmp 3)), (some 12), some ((some 10), true)⟩, true, none), (⟨(.load 25 (.tmp 2)), (some 14), some ((some 10), true)⟩, true, none), (⟨(.load 25 (.tmp 3)), (some 15), some ((some 10), true)⟩, true, none), (⟨(.call { callee := (.value (.func 16)), args := #[.tmp 11, .tmp 12], argTypes := #[25, 25] }), (some 13), some ((some 10), true)⟩, false, some [⟨(.load 25 (.tmp 3)), (some 15), some ((some 10), true)⟩, ⟨(.load 25 (.tmp 2)), (some 14), some ((some 10), true)⟩]), (⟨(.call { callee := (.value (.func 17)), args := #[.tmp 14, .tmp 15], argTypes := #[25, 25] }), (some 16), some ((some 10), true)⟩, false, none), (⟨(.binOp .eql 4 (.tmp 13) (.tmp 16) 4), (some 17), some ((some 10), true)⟩, true, none), (⟨(.pick (.tmp 10) (.tmp 17) (.const (.bool false))), (some 18), none⟩, true, none), (⟨.move (.tmp 18), some 19, none⟩, true, none), (⟨(.load 25 (.tmp 2)), (some 20), some ((some 19), true)⟩, true, none), (⟨(.load 25 (.tmp 2)), (some 21), some ((some 19), true)⟩, true, none), (⟨(.call { callee := (.value (.func 18)), args := #[.tmp 21], argTypes := #[25] }), (some 22), some ((some 19), true)⟩, false, some [⟨(.load 25 (.tmp 2)), (some 20), some ((some 19), true)⟩]), (⟨(.call { callee := (.value (.func 16)), args := #[.tmp 20, .tmp 22], argTypes := #[25, 25] }), (some 23), some ((some 19), true)⟩, false, none), (⟨(.pick (.tmp 19) (.tmp 23) (.const (.bool false))), (some 24), none⟩, true, none), (⟨.move (.tmp 24), some 25, none⟩, true, none), (⟨(.call { callee := (.value (.func 9)), args := #[], argTypes := #[] }), (some 26), some ((some 25), true)⟩, false, none), (⟨(.pick (.tmp 25) (.tmp 26) (.const (.bool false))), (some 27), none⟩, true, none), (⟨.assign (.tmp 27), some 4, none⟩, true, none)]) .ret))
noncomputable def k6 : LC := (.seq (.ops [⟨.box 25 (.tmp 0), some 5, none⟩, ⟨(.assign (.const (.bool false))), (some 10), none⟩]) (.seq (.seq (.ops [⟨.load 25 (.tmp 5), some 29, none⟩, ⟨(.call { callee := (.value (.func 8)), args := #[.tmp 29], argTypes := #[25] }), (some 30), none⟩, ⟨.unOp .not 4 (.tmp 30), some 31, none⟩]) (.cond (.tmp 31) (.seq (.ops [⟨(.call { callee := (.value (.func 9)), args := #[], argTypes := #[] }), (some 32), none⟩, ⟨.assign (.tmp 32), some 10, none⟩]) .ret) .skip)) (.seq (.ops [⟨.load 25 (.tmp 5), some 34, none⟩, ⟨.move (.tmp 1), some 35, none⟩, ⟨.move (.tmp 2), some 36, none⟩, ⟨(.call { callee := (.value (.func 24)), args := #[.tmp 34, .tmp 35, .tmp 36], argTypes := #[25, 37, 37] }), (some 37), none⟩, ⟨.move (.tmp 37), some 33, none⟩, ⟨.extract (.tmp 33) 0, some 38, none⟩, ⟨.extract (.tmp 33) 1, some 39, none⟩, ⟨.alloc 25, some 11, none⟩, ⟨(.store 25 (.tmp 11) (.tmp 38)), none, none⟩, ⟨.assign (.tmp 39), some 12, none⟩]) (.seq (.seq (.ops [⟨.load 25 (.tmp 11), some 40, none⟩, ⟨(.call { callee := (.value (.func 15)), args := #[.tmp 40], argTypes := #[25] }), (some 41), none⟩, ⟨.unOp .not 4 (.tmp 41), some 42, none⟩, ⟨.move (.tmp 42), some 43, none⟩, ⟨(.move (.tmp 12)), (some 44), some ((some 43), false)⟩, ⟨(.fieldAddr 25 (.tmp 5) 1), (some 45), some ((some 43), false)⟩, ⟨(.load 22 (.tmp 45)), (some 46), some ((some 43), false)⟩, ⟨(.call { callee := (.builtin .len), args := #[.tmp 46], argTypes := #[22] }), (some 47), some ((some 43), false)⟩, ⟨(.fieldAddr 25 (.tmp 11) 1), (some 48), some ((some 43), false)⟩, ⟨(.load 22 (.tmp 48)), (some 49), some ((some 43), false)⟩, ⟨(.call { callee := (.builtin .len), args := #[.tmp 49], argTypes := #[22] }), (some 50), some ((some 43), false)⟩, ⟨(.binOp .sub 3 (.tmp 47) (.tmp 50) 3), (some 51), some ((some 43), false)⟩, ⟨(.binOp .neq 3 (.tmp 44) (.tmp 51) 3), (some 52), some ((some 43), false)⟩, ⟨(.pick (.tmp 43) (.const (.bool true)) (.tmp 52)), (some 53), none⟩]) (.cond (.tmp 53) (.seq (.ops [⟨(.assign (.const (.bool false))), (some 10), none⟩]) .ret) .skip)) (.seq (.seq (.ops [⟨.move (.tmp 1), some 54, none⟩, ⟨.call { callee := (.builtin .len), args := #[.tmp 54], argTypes := #[37] }, some 55, none⟩, ⟨(.binOp .gtr 3 (.tmp 55) (.const (.int .i64 0)) 3), (some 56), none⟩, ⟨.move (.tmp 56), some 57, none⟩, ⟨(.move (.tmp 2)), (some 58), some ((some 57), true)⟩, ⟨(.call { callee := (.builtin .len), args := #[.tmp 58], argTypes := #[37] }), (some 59), some ((some 57), true)⟩, ⟨(.binOp .gtr 3 (.tmp 59) (.const (.int .i64 0)) 3), (some 60), some ((some 57), true)⟩, ⟨(.pick (.tmp 57) (.tmp 60) (.const (.bool false))), (some 61), none⟩]) (.cond (.tmp 61) (.seq (.ops [⟨.move (.tmp 1), some 62, none⟩, ⟨.move (.tmp 3), some 63, none⟩, ⟨.convert 3 54 (.tmp 63), some 64, none⟩, ⟨.move (.tmp 1), some 65, none⟩, ⟨.call { callee := (.builtin .len), args := #[.tmp 65], argTypes := #[37] }, some 66, none⟩, ⟨.convert 3 54 (.tmp 66), some 67, none⟩, ⟨.binOp .rem 54 (.tmp 64) (.tmp 67) 54, some 68, none⟩, ⟨.convert 54 3 (.tmp 68), some 69, none⟩, ⟨.indexAddr 37 (.tmp 62) (.tmp 69), some 70, none⟩, ⟨.load 3 (.tmp 70), some 71, none⟩, ⟨.assign (.tmp 71), some 13, none⟩]) (.seq (.ops [⟨.move (.tmp 2), some 72, none⟩, ⟨.move (.tmp 4), some 73, none⟩, ⟨.convert 3 54 (.tmp 73), some 74, none⟩, ⟨.move (.tmp 2), some 75, none⟩, ⟨.call { callee := (.builtin .len), args := #[.tmp 75], argTypes := #[37] }, some 76, none⟩, ⟨.convert 3 54 (.tmp 76), some 77, none⟩, ⟨.binOp .rem 54 (.tmp 74) (.tmp 77) 54, some 78, none⟩, ⟨.convert 54 3 (.tmp 78), some 79, none⟩, ⟨.indexAddr 37 (.tmp 72) (.tmp 79), some 80, none⟩, ⟨.load 3 (.tmp 80), some 81, none⟩, ⟨.assign (.tmp 81), some 14, none⟩]) (.seq (.ops [⟨.load 25 (.tmp 11), some 83, none⟩, ⟨.move (.tmp 13), some 84, none⟩, ⟨.move (.tmp 14), some 85, none⟩, ⟨(.call { callee := (.value (.func 19)), args := #[.tmp 83, .tmp 84, .tmp 85, (.const (.string { data := #[] }))], argTypes := #[25, 3, 3, 9] }), (some 86), none⟩, ⟨.move (.tmp 86), some 82, none⟩, ⟨.extract (.tmp 82) 0, some 87, none⟩, ⟨.extract (.tmp 82) 1, some 88, none⟩, ⟨.extract (.tmp 82) 2, some 89, none⟩, ⟨.alloc 25, some 15, none⟩, ⟨(.store 25 (.tmp 15) (.tmp 87)), none, none⟩, ⟨.assign (.tmp 88), some 16, none⟩, ⟨.assign (.tmp 89), some 17, none⟩]) (.seq (.ops [⟨.load 25 (.tmp 11), some 91, none⟩, ⟨.move (.tmp 14), some 92, none⟩, ⟨.move (.tmp 13), some 93, none⟩, ⟨(.call { callee := (.value (.func 19)), args := #[.tmp 91, .tmp 92, .tmp 93, (.const (.string { data := #[] }))], argTypes := #[25, 3, 3, 9] }), (some 94), none⟩, ⟨.move (.tmp 94), some 90, none⟩, ⟨.extract (.tmp 90) 0, some 95, none⟩, ⟨.extract (.tmp 90) 1, some 96, none⟩, ⟨.extract (.tmp 90) 2, some 97, none⟩, ⟨.alloc 25, some 18, none⟩, ⟨(.store 25 (.tmp 18) (.tmp 95)), none, none⟩, ⟨.assign (.tmp 96), some 19, none⟩, ⟨.assign (.tmp 97), some 20, none⟩]) (.seq (.ops [⟨.move (.tmp 13), some 98, none⟩, ⟨.move (.tmp 14), some 99, none⟩, ⟨.binOp .neq 3 (.tmp 98) (.tmp 99) 3, some 100, none⟩, ⟨.move (.tmp 100), some 101, none⟩, ⟨(.move (.tmp 17)), (some 102), some ((some 101), true)⟩, ⟨(.binOp .neq 40 (.tmp 102) (.const (.int .i64 40)) 40), (some 103), some ((some 101), true)⟩, ⟨(.move (.tmp 103)), (some 104), some ((some 101), true)⟩, ⟨(.move (.tmp 20)), (some 105), some ((some 104), false)⟩, ⟨(.binOp .neq 40 (.tmp 105) (.const (.int .i64 40)) 40), (some 106), some ((some 104), false)⟩, ⟨(.pick (.tmp 104) (.const (.bool true)) (.tmp 106)), (some 107), some ((some 101), true)⟩, ⟨(.pick (.tmp 101) (.tmp 107) (.const (.bool false))), (some 108), none⟩]) (.cond (.tmp 108) (.seq (.ops [⟨(.assign (.const (.bool false))), (some 10), none⟩]) .ret) .skip)))))) .skip)) (.seq (.ops [⟨.load 25 (.tmp 5), some 110, none⟩, ⟨.move (.tmp 3), some 111, none⟩, ⟨.move (.tmp 4), some 112, none⟩, ⟨(.call { callee := (.value (.func 21)), args := #[.tmp 110, .tmp 111, .tmp 112], argTypes := #[25, 3, 3] }), (some 113), none⟩, ⟨.move (.tmp 113), some 109, none⟩, ⟨.extract (.tmp 109) 0, some 114, none⟩, ⟨.extract (.tmp 109) 1, some 115, none⟩, ⟨.alloc 25, some 21, none⟩, ⟨(.store 25 (.tmp 21) (.tmp 114)), none, none⟩, ⟨.assign (.tmp 115), some 22, none⟩]) (.seq (.ops [⟨.load 25 (.tmp 21), some 117, none⟩, ⟨.move (.tmp 3), some 118, none⟩, ⟨.move (.tmp 4), some 119, none⟩, ⟨(.call { callee := (.value (.func 21)), args := #[.tmp 117, .tmp 118, .tmp 119], argTypes := #[25, 3, 3] }), (some 120), none⟩, ⟨.move (.tmp 120), some 116, none⟩, ⟨.extract (.tmp 116) 0, some 121, none⟩, ⟨.extract (.tmp 116) 1, some 122, none⟩, ⟨.alloc 25, some 23, none⟩, ⟨(.store 25 (.tmp 23) (.tmp 121)), none, none⟩, ⟨.assign (.tmp 122), some 24, none⟩]) (.seq (.seq (.ops [⟨.move (.tmp 24), some 123, none⟩, ⟨(.binOp .neq 3 (.tmp 123) (.const (.int .i64 0)) 3), (some 124), none⟩, ⟨.move (.tmp 124), some 125, none⟩, ⟨(.load 25 (.tmp 21)), (some 126), some ((some 125), false)⟩, ⟨(.load 25 (.tmp 23)), (some 127), some ((some 125), false)⟩, ⟨(.call { callee := (.value (.func 16)), args := #[.tmp 126, .tmp 127], argTypes := #[25, 25] }), (some 128), some ((some 125), false)⟩, ⟨(.unOp .not 4 (.tmp 128)), (some 129), some ((some 125), false)⟩, ⟨(.pick (.tmp 125) (.const (.bool true)) (.tmp 129)), (some 130), none⟩]) (.cond (.tmp 130) (.seq (.ops [⟨(.assign (.const (.bool false))), (some 10), none⟩]) .ret) .skip)) (.seq (.seq (.ops [⟨.load 25 (.tmp 5), some 132, none⟩, ⟨.move (.tmp 3), some 133, none⟩, ⟨.move (.tmp 4), some 134, none⟩, ⟨(.call { callee := (.value (.func 22)), args := #[.tmp 132, .tmp 133, .tmp 134], argTypes := #[25, 3, 3] }), (some 135), none⟩, ⟨.move (.tmp 135), some 131, none⟩, ⟨.extract (.tmp 131) 0, some 136, none⟩, ⟨.extract (.tmp 131) 1, some 137, none⟩, ⟨.alloc 25, some 25, none⟩, ⟨(.store 25 (.tmp 25) (.tmp 136)), none, none⟩, ⟨.assign (.tmp 137), some 26, none⟩]) (.seq (.ops [⟨.move (.tmp 26), some 138, none⟩, ⟨.move (.tmp 138), some 139, none⟩, ⟨(.move (.tmp 3)), (some 140), some ((some 139), false)⟩, ⟨(.move (.tmp 4)), (some 141), some ((some 139), false)⟩, ⟨(.binOp .eql 3 (.tmp 140) (.tmp 141) 3), (some 142), some ((some 139), false)⟩, ⟨(.pick (.tmp 139) (.const (.bool true)) (.tmp 142)), (some 143), none⟩]) (.cond (.tmp 143) (.seq (.ops [⟨(.call { callee := (.value (.func 9)), args := #[], argTypes := #[] }), (some 144), none⟩, ⟨.assign (.tmp 144), some 10, none⟩]) .ret) .skip))) (.seq (.ops [⟨.load 25 (.tmp 21), some 146, none⟩, ⟨.move (.tmp 3), some 147, none⟩, ⟨.move (.tmp 4), some 148, none⟩, ⟨(.call { callee := (.value (.func 22)), args := #[.tmp 146, .tmp 147, .tmp 148], argTypes := #[25, 3, 3] }), (some 149), none⟩, ⟨.move (.tmp 149), some 145, none⟩, ⟨.extract (.tmp 145) 0, some 150, none⟩, ⟨.extract (.tmp 145) 1, some 151, none⟩, ⟨.alloc 25, some 27, none⟩, ⟨(.store 25 (.tmp 27) (.tmp 150)), none, none⟩, ⟨.assign (.tmp 151), some 28, none⟩]) (.seq (.ops [⟨.move (.tmp 28), some 152, none⟩, ⟨.move (.tmp 152), some 153, none⟩, ⟨(.fieldAddr 25 (.tmp 27) 2), (some 154), some ((some 153), true)⟩, ⟨(.load 23 (.tmp 154)), (some 155), some ((some 153), true)⟩, ⟨(.call { callee := (.builtin .len), args := #[.tmp 155], argTypes := #[23] }), (some 156), some ((some 153), true)⟩, ⟨(.fieldAddr 25 (.tmp 5) 2), (some 157), some ((some 153), true)⟩, ⟨(.load 23 (.tmp 157)), (some 158), some ((some 153), true)⟩, ⟨(.call { callee := (.builtin .len), args := #[.tmp 158], argTypes := #[23] }), (some 159), some ((some 153), true)⟩, ⟨(.binOp .eql 3 (.tmp 156) (.tmp 159) 3), (some 160), some ((some 153), true)⟩, ⟨(.pick (.tmp 153) (.tmp 160) (.const (.bool false))), (some 161), none⟩, ⟨.move (.tmp 161), some 162, none⟩, ⟨(.call { callee := (.value (.func 9)), args := #[], argTypes := #[] }), (some 163), some ((some 162), true)⟩, ⟨(.pick (.tmp 162) (.tmp 163) (.const (.bool false))), (some 164), none⟩, ⟨.assign (.tmp 164), some 10, none⟩]) .ret)))))))))))
theorem k6_is : Try.f6.body.map leanC = some k6 := by kernel_rfl
theorem F6_of {args : List AV} {R : AV} (h : V Try.prog none k6 (fun e env m => endK e (got (resL Try.prog m env [.tmp 10]) (hid (fun r => New m r R) .mk))) (args ++ List.replicate (165 - args.length) (.tup [])) nomem) : F Try.prog 6 args R := F.of_code Try.func6 k6_is Try.ntmps6 Try.results6 rfl mixed rfl h
noncomputable def k7 : LC := (.seq (.ops [⟨.box 25 (.tmp 0), some 2, none⟩, ⟨(.assign (.const (.bool false))), (some 4), none⟩]) (.seq (.seq (.ops [⟨.load 25 (.tmp 2), some 12, none⟩, ⟨(.call { callee := (.value (.func 8)), args := #[.tmp 12], argTypes := #[25] }), (some 13), none⟩, ⟨.unOp .not 4 (.tmp 13), some 14, none⟩]) (.cond (.tmp 14) (.seq (.ops [⟨(.call { callee := (.value (.func 9)), args := #[], argTypes := #[] }), (some 15), none⟩, ⟨.assign (.tmp 15), some 4, none⟩]) .ret) .skip)) (.seq (.ops [⟨.load 25 (.tmp 2), some 16, none⟩, ⟨(.call { callee := (.value (.func 18)), args := #[.tmp 16], argTypes := #[25] }), (some 17), none⟩, ⟨.alloc 25, some 5, none⟩, ⟨(.store 25 (.tmp 5) (.tmp 17)), none, none⟩]) (.seq (.ops [⟨.load 25 (.tmp 2), some 18, none⟩, ⟨(.call { callee := (.value (.func 18)), args := #[.tmp 18], argTypes := #[25] }), (some 19), none⟩, ⟨.alloc 25, some 6, none⟩, ⟨(.store 25 (.tmp 6) (.tmp 19)), none, none⟩]) (.seq (.seq (.ops [⟨(.assign (.const (.int .i64 0))), (some 7), none⟩]) (.block 0 (.loop (.seq (.seq (.ops [⟨.move (.tmp 7), some 20, none⟩, ⟨.move (.tmp 1), some 21, none⟩, ⟨.call { callee := (.builtin .len), args := #[.tmp 21], argTypes := #[36] }, some 22, none⟩, ⟨.binOp .lss 3 (.tmp 20) (.tmp 22) 3, some 23, none⟩]) (.cond (.tmp 23) .skip (.exit 0))) (.seq (.block 1 (.seq (.ops [⟨.load 25 (.tmp 5), some 26, none⟩, ⟨(.call { callee := (.value (.func 18)), args := #[.tmp 26], argTypes := #[25] }), (some 27), none⟩, ⟨.alloc 25, some 8, none⟩, ⟨(.store 25 (.tmp 8) (.tmp 27)), none, none⟩]) (.seq .bad (.seq (.seq (.ops [⟨.move (.tmp 11), some 39, none⟩, ⟨.unOp .not 4 (.tmp 39), some 40, none⟩, ⟨.move (.tmp 40), some 41, none⟩, ⟨(.load 25 (.tmp 9)), (some 42), some ((some 41), false)⟩, ⟨(.load 25 (.tmp 10)), (some 43), some ((some 41), false)⟩, ⟨(.call { callee := (.value (.func 17)), args := #[.tmp 42, .tmp 43], argTypes := #[25, 25] }), (some 44), some ((some 41), false)⟩, ⟨(.unOp .not 4 (.tmp 44)), (some 45), some ((some 41), false)⟩, ⟨(.pick (.tmp 41) (.const (.bool true)) (.tmp 45)), (some 46), none⟩, ⟨.move (.tmp 46), some 47, none⟩, ⟨(.load 25 (.tmp 8)), (some 48), some ((some 47), false)⟩, ⟨(.load 25 (.tmp 5)), (some 49), some ((some 47), false)⟩, ⟨(.call { callee := (.value (.func 17)), args := #[.tmp 48, .tmp 49], argTypes := #[25, 25] }), (some 50), some ((some 47), false)⟩, ⟨(.unOp .not 4 (.tmp 50)), (some 51), some ((some 47), false)⟩, ⟨(.pick (.tmp 47) (.const (.bool true)) (.tmp 51)), (some 52), none⟩, ⟨.move (.tmp 52), some 53, none⟩, ⟨(.load 25 (.tmp 9)), (some 54), some ((some 53), false)⟩, ⟨(.call { callee := (.value (.func 15)), args := #[.tmp 54], argTypes := #[25] }), (some 55), some ((some 53), false)⟩, ⟨(.unOp .not 4 (.tmp 55)), (some 56), some ((some 53), false)⟩, ⟨(.pick (.tmp 53) (.const (.bool true)) (.tmp 56)), (some 57), none⟩]) (.cond (.tmp 57) (.seq (.ops [⟨(.assign (.const (.bool false))), (some 4), none⟩]) .ret) .skip)) (.seq (.ops [⟨.load 25 (.tmp 9), some 58, none⟩, ⟨(.store 25 (.tmp 5) (.tmp 58)), none, none⟩]) (.ops [⟨.load 25 (.tmp 10), some 59, none⟩, ⟨(.store 25 (.tmp 6) (.tmp 59)), none, none⟩])))))) (.ops [⟨.move (.tmp 7), some 24, none⟩, ⟨(.binOp .add 3 (.tmp 24) (.const (.int .i64 1)) 3), (some 25), none⟩, ⟨.assign (.tmp 25), some 7, none⟩])))))) (.seq (.ops [⟨(.call { callee := (.value (.func 9)), args := #[], argTypes := #[] }), (some 60), none⟩, ⟨.assign (.tmp 60), some 4, none⟩]) .ret))))))
noncomputable def k8 : LC := (.seq (.ops [⟨.box 25 (.tmp 0), some 1, none⟩, ⟨(.assign (.const (.bool false))), (some 2), none⟩]) (.seq (.seq (.ops [⟨.fieldAddr 25 (.tmp 1) 0, some 6, none⟩, ⟨.load 2 (.tmp 6), some 7, none⟩, ⟨(.binOp .lss 2 (.tmp 7) (.const (.int .i64 0)) 2), (some 8), none⟩, ⟨.move (.tmp 8), some 9, none⟩, ⟨(.fieldAddr 25 (.tmp 1) 0), (some 10), some ((some 9), false)⟩, ⟨(.load 2 (.tmp 10)), (some 11), some ((some 9), false)⟩, ⟨(.binOp .gtr 2 (.tmp 11) (.const (.int .i64 4611686018427387904)) 2), (some 12), some ((some 9), false)⟩, ⟨(.pick (.tmp 9) (.const (.bool true)) (.tmp 12)), (some 13), none⟩, ⟨.move (.tmp 13), some 14, none⟩, ⟨(.fieldAddr 25 (.tmp 1) 1), (some 15), some ((some 14), false)⟩, ⟨(.load 22 (.tmp 15)), (some 16), some ((some 14), false)⟩, ⟨(.call { callee := (.builtin .len), args := #[.tmp 16], argTypes := #[22] }), (some 17), some ((some 14), false)⟩, ⟨(.binOp .gtr 3 (.tmp 17) (.const (.int .i64 65536)) 3), (some 18), some ((some 14), false)⟩, ⟨(.pick (.tmp 14) (.const (.bool true)) (.tmp 18)), (some 19), none⟩]) (.cond (.tmp 19) (.seq (.ops [⟨(.assign (.const (.bool false))), (some 2), none⟩]) .ret) .skip)) (.seq (.seq (.ops [⟨(.assign (.const (.int .i64 0))), (some 3), none⟩]) (.block 0 (.loop (.seq (.seq (.ops [⟨.move (.tmp 3), some 20, none⟩, ⟨.fieldAddr 25 (.tmp 1) 1, some 21, none⟩, ⟨.load 22 (.tmp 21), some 22, none⟩, ⟨.call { callee := (.builtin .len), args := #[.tmp 22], argTypes := #[22] }, some 23, none⟩, ⟨.binOp .lss 3 (.tmp 20) (.tmp 23) 3, some 24, none⟩]) (.cond (.tmp 24) .skip (.exit 0))) (.seq (.block 1 (.seq (.ops [⟨.fieldAddr 25 (.tmp 1) 1, some 27, none⟩, ⟨.load 22 (.tmp 27), some 28, none⟩, ⟨.move (.tmp 3), some 29, none⟩, ⟨.indexAddr 22 (.tmp 28) (.tmp 29), some 30, none⟩, ⟨.fieldAddr 44 (.tmp 30) 0, some 31, none⟩, ⟨.load 2 (.tmp 31), some 32, none⟩, ⟨.assign (.tmp 32), some 4, none⟩]) (.seq (.ops [⟨.move (.tmp 4), some 33, none⟩, ⟨(.binOp .lss 2 (.tmp 33) (.const (.int .i64 1)) 2), (some 34), none⟩, ⟨.move (.tmp 34), some 35, none⟩, ⟨(.move (.tmp 4)), (some 36), some ((some 35), false)⟩, ⟨(.fieldAddr 25 (.tmp 1) 0), (some 37), some ((some 35), false)⟩, ⟨(.load 2 (.tmp 37)), (some 38), some ((some 35), false)⟩, ⟨(.binOp .gtr 2 (.tmp 36) (.tmp 38) 2), (some 39), some ((some 35), false)⟩, ⟨(.pick (.tmp 35) (.const (.bool true)) (.tmp 39)), (some 40), none⟩, ⟨.move (.tmp 40), some 41, none⟩, ⟨(.move (.tmp 3)), (some 42), some ((some 41), false)⟩, ⟨(.binOp .gtr 3 (.tmp 42) (.const (.int .i64 0)) 3), (some 43), some ((some 41), false)⟩, ⟨(.move (.tmp 43)), (some 44), some ((some 41), false)⟩, ⟨(.move (.tmp 4)), (some 45), some ((some 44), true)⟩, ⟨(.fieldAddr 25 (.tmp 1) 1), (some 46), some ((some 44), true)⟩, ⟨(.load 22 (.tmp 46)), (some 47), some ((some 44), true)⟩, ⟨(.move (.tmp 3)), (some 48), some ((some 44), true)⟩, ⟨(.binOp .sub 3 (.tmp 48) (.const (.int .i64 1)) 3), (some 49), some ((some 44), true)⟩, ⟨(.indexAddr 22 (.tmp 47) (.tmp 49)), (some 50), some ((some 44), true)⟩, ⟨(.fieldAddr 44 (.tmp 50) 0), (some 51), some ((some 44), true)⟩, ⟨(.load 2 (.tmp 51)), (some 52), some ((some 44), true)⟩, ⟨(.binOp .leq 2 (.tmp 45) (.tmp 52) 2), (some 53), some ((some 44), true)⟩, ⟨(.pick (.tmp 44) (.tmp 53) (.const (.bool false))), (some 54), some ((some 41), false)⟩, ⟨(.pick (.tmp 41) (.const (.bool true)) (.tmp 54)), (some 55), none⟩]) (.cond (.tmp 55) (.seq (.ops [⟨(.assign (.const (.bool false))), (some 2), none⟩]) .ret) .skip)))) (.ops [⟨.move (.tmp 3), some 25, none⟩, ⟨(.binOp .add 3 (.tmp 25) (.const (.int .i64 1)) 3), (some 26), none⟩, ⟨.assign (.tmp 26), some 3, none⟩])))))) (.seq (.seq (.ops [⟨(.assign (.const (.int .i64 0))), (some 5), none⟩]) (.block 2 (.loop (.seq (.seq (.ops [⟨.move (.tmp 5), some 56, none⟩, ⟨.fieldAddr 25 (.tmp 1) 2, some 57, none⟩, ⟨.load 23 (.tmp 57), some 58, none⟩, ⟨.call { callee := (.builtin .len), args := #[.tmp 58], argTypes := #[23] }, some 59, none⟩, ⟨.binOp .lss 3 (.tmp 56) (.tmp 59) 3, some 60, none⟩]) (.cond (.tmp 60) .skip (.exit 2))) (.seq (.block 3 (.seq (.any [(⟨.fieldAddr 25 (.tmp 1) 2, some 63, none⟩, true, none), (⟨.load 23 (.tmp 63), some 64, none⟩, true, none), (⟨.move (.tmp 5), some 65, none⟩, true, none), (⟨.indexAddr 23 (.tmp 64) (.tmp 65), some 66, none⟩, true, none), (⟨.fieldAddr 60 (.tmp 66) 0, some 67, none⟩, true, none), (⟨.load 3 (.tmp 67), some 68, none⟩, true, none), (⟨.fieldAddr 25 (.tmp 1) 2, some 69, none⟩, true, none), (⟨.load 23 (.tmp 69), some 70, none⟩, true, none), (⟨.move (.tmp 5), some 71, none⟩, true, none), (⟨.indexAddr 23 (.tmp 70) (.tmp 71), some 72, none⟩, true, none), (⟨.fieldAddr 60 (.tmp 72) 1, some 73, none⟩, true, none), (⟨.load 3 (.tmp 73), some 74, none⟩, true, none), (⟨.binOp .eql 3 (.tmp 68) (.tmp 74) 3, some 75, none⟩, true, none), (⟨.move (.tmp 75), some 76, none⟩, true, none), (⟨(.move (.tmp 5)), (some 77), some ((some 76), false)⟩, true, none), (⟨(.binOp .gtr 3 (.tmp 77) (.const (.int .i64 0)) 3), (some 78), some ((some 76), false)⟩, true, none), (⟨(.move (.tmp 78)), (some 79), some ((some 76), false)⟩, true, none), (⟨(.fieldAddr 25 (.tmp 1) 2), (some 80), some ((some 79), true)⟩, true, none), (⟨(.load 23 (.tmp 80)), (some 81), some ((some 79), true)⟩, true, none), (⟨(.move (.tmp 5)), (some 82), some ((some 79), true)⟩, true, none), (⟨(.binOp .sub 3 (.tmp 82) (.const (.int .i64 1)) 3), (some 83), some ((some 79), true)⟩, true, none), (⟨(.indexAddr 23 (.tmp 81) (.tmp 83)), (some 84), some ((some 79), true)⟩, true, none), (⟨(.load 60 (.tmp 84)), (some 85), some ((some 79), true)⟩, true, none), (⟨(.fieldAddr 25 (.tmp 1) 2), (some 86), some ((some 79), true)⟩, true, none), (⟨(.load 23 (.tmp 86)), (some 87), some ((some 79), true)⟩, true, none), (⟨(.move (.tmp 5)), (some 88), some ((some 79), true)⟩, true, none), (⟨(.indexAddr 23 (.tmp 87) (.tmp 88)), (some 89), some ((some 79), true)⟩, true, none), (⟨(.load 60 (.tmp 89)), (some 90), some ((some 79), true)⟩, true, none), (⟨(.call { callee := (.value (.func 26)), args := #[.tmp 85, .tmp 90], argTypes := #[60, 60] }), (some 91), some ((some 79), true)⟩, false, none), (⟨(.unOp .not 4 (.tmp 91)), (some 92), some ((some 79), true)⟩, true, none), (⟨(.pick (.tmp 79) (.tmp 92) (.const (.bool false))), (some 93), some ((some 76), false)⟩, true, none), (⟨(.pick (.tmp 76) (.const (.bool true)) (.tmp 93)), (some 94), none⟩, true, none)]) (.cond (.tmp 94) (.seq (.ops [⟨(.assign (.const (.bool false))), (some 2), none⟩]) .ret) .skip))) (.ops [⟨.move (.tmp 5), some 61, none⟩, ⟨(.binOp .add 3 (.tmp 61) (.const (.int .i64 1)) 3), (some 62), none⟩, ⟨.assign (.tmp 62), some 5, none⟩])))))) (.seq (.ops [⟨(.assign (.const (.bool true))), (some 2), none⟩]) .ret)))))
theorem k8_is : Try.f8.body.map leanC = some k8 := by kernel_rfl
theorem F8_of {args : List AV} {R : AV} (h : V Try.prog none k8 (fun e env m => endK e (got (resL Try.prog m env [.tmp 2]) (hid (fun r => New m r R) .mk))) (args ++ List.replicate (95 - args.length) (.tup [])) nomem) : F Try.prog 8 args R := F.of_code Try.func8 k8_is Try.ntmps8 Try.results8 rfl mixed rfl h
noncomputable def k9 : LC := (.seq (.ops [⟨(.assign (.const (.bool false))), (some 0), none⟩]) (.seq (.ops [⟨.build 25 #[], some 15, none⟩, ⟨(.call { callee := (.value (.func 19)), args := #[.tmp 15, (.const (.int .i64 1)), (.const (.int .i64 2)), (.const (.string { data := #[97] }))], argTypes := #[25, 3, 3, 9] }), (some 16), none⟩, ⟨.move (.tmp 16), some 14, none⟩, ⟨.extract (.tmp 14) 0, some 17, none⟩, ⟨.extract (.tmp 14) 1, some 18, none⟩, ⟨.extract (.tmp 14) 2, some 19, none⟩, ⟨.alloc 25, some 1, none⟩, ⟨(.store 25 (.tmp 1) (.tmp 17)), none, none⟩, ⟨.assign (.tmp 18), some 2, none⟩, ⟨.assign (.tmp 19), some 3, none⟩]) (.seq (.ops [⟨.load 25 (.tmp 1), some 21, none⟩, ⟨(.call { callee := (.value (.func 19)), args := #[.tmp 21, (.const (.int .i64 2)), (.const (.int .i64 1)), (.const (.string { data := #[98] }))], argTypes := #[25, 3, 3, 9] }), (some 22), none⟩, ⟨.move (.tmp 22), some 20, none⟩, ⟨.extract (.tmp 20) 0, some 23, none⟩, ⟨.extract (.tmp 20) 1, some 24, none⟩, ⟨.extract (.tmp 20) 2, some 25, none⟩, ⟨(.store 25 (.tmp 1) (.tmp 23)), none, none⟩]) (.seq (.ops [⟨.load 25 (.tmp 1), some 27, none⟩, ⟨(.call { callee := (.value (.func 27)), args := #[.tmp 27, (.const (.int .i64 1))], argTypes := #[25, 2] }), (some 28), none⟩, ⟨.move (.tmp 28), some 26, none⟩, ⟨.extract (.tmp 26) 0, some 29, none⟩, ⟨.extract (.tmp 26) 1, some 30, none⟩, ⟨.extract (.tmp 26) 2, some 31, none⟩, ⟨(.store 25 (.tmp 1) (.tmp 29)), none, none⟩, ⟨.assign (.tmp 30), some 4, none⟩, ⟨.assign (.tmp 31), some 5, none⟩]) (.seq (.ops [⟨.load 25 (.tmp 1), some 32, none⟩, ⟨(.call { callee := (.value (.func 13)), args := #[.tmp 32, (.const (.int .i64 1)), (.const (.int .i64 2))], argTypes := #[25, 3, 3] }), (some 33), none⟩, ⟨.assign (.tmp 33), some 6, none⟩]) (.seq (.ops [⟨.load 25 (.tmp 1), some 35, none⟩, ⟨(.call { callee := (.value (.func 10)), args := #[.tmp 35, (.const (.int .i64 1))], argTypes := #[25, 3] }), (some 36), none⟩, ⟨.move (.tmp 36), some 34, none⟩, ⟨.extract (.tmp 34) 0, some 37, none⟩, ⟨.extract (.tmp 34) 1, some 38, none⟩, ⟨.assign (.tmp 37), some 7, none⟩, ⟨.assign (.tmp 38), some 8, none⟩]) (.seq (.ops [⟨.load 25 (.tmp 1), some 40, none⟩, ⟨(.call { callee := (.value (.func 21)), args := #[.tmp 40, (.const (.int .i64 1)), (.const (.int .i64 2))], argTypes := #[25, 3, 3] }), (some 41), none⟩, ⟨.move (.tmp 41), some 39, none⟩, ⟨.extract (.tmp 39) 0, some 42, none⟩, ⟨.extract (.tmp 39) 1, some 43, none⟩, ⟨.alloc 25, some 9, none⟩, ⟨(.store 25 (.tmp 9) (.tmp 42)), none, none⟩, ⟨.assign (.tmp 43), some 10, none⟩]) (.seq (.ops [⟨.load 25 (.tmp 9), some 45, none⟩, ⟨(.call { callee := (.value (.func 19)), args := #[.tmp 45, (.const (.int .i64 1)), (.const (.int .i64 2)), (.const (.string { data := #[99] }))], argTypes := #[25, 3, 3, 9] }), (some 46), none⟩, ⟨.move (.tmp 46), some 44, none⟩, ⟨.extract (.tmp 44) 0, some 47, none⟩, ⟨.extract (.tmp 44) 1, some 48, none⟩, ⟨.extract (.tmp 44) 2, some 49, none⟩, ⟨.alloc 25, some 11, none⟩, ⟨(.store 25 (.tmp 11) (.tmp 47)), none, none⟩, ⟨.assign (.tmp 48), some 12, none⟩, ⟨.assign (.tmp 49), some 13, none⟩]) (.seq (.ops [⟨.move (.tmp 2), some 50, none⟩, ⟨(.binOp .eql 2 (.tmp 50) (.const (.int .i64 1)) 2), (some 51), none⟩, ⟨.move (.tmp 51), some 52, none⟩, ⟨(.move (.tmp 3)), (some 53), some ((some 52), true)⟩, ⟨(.binOp .eql 40 (.tmp 53) (.const (.int .i64 0)) 40), (some 54), some ((some 52), true)⟩, ⟨(.pick (.tmp 52) (.tmp 54) (.const (.bool false))), (some 55), none⟩, ⟨.move (.tmp 55), some 56, none⟩, ⟨(.move (.tmp 4)), (some 57), some ((some 56), true)⟩, ⟨(.binOp .eql 2 (.tmp 57) (.const (.int .i64 3)) 2), (some 58), some ((some 56), true)⟩, ⟨(.pick (.tmp 56) (.tmp 58) (.const (.bool false))), (some 59), none⟩, ⟨.move (.tmp 59), some 60, none⟩, ⟨(.move (.tmp 6)), (some 61), some ((some 60), true)⟩, ⟨(.buildSlice 31 2 #[(0, (.const (.int .i64 1))), (1, (.const (.int .i64 3)))]), (some 62), some ((some 60), true)⟩, ⟨(.call { callee := (.value (.func 12)), args := #[.tmp 61, .tmp 62], argTypes := #[31, 31] }), (some 63), some ((some 60), true)⟩, ⟨(.pick (.tmp 60) (.tmp 63) (.const (.bool false))), (some 64), none⟩, ⟨.move (.tmp 64), some 65, none⟩, ⟨(.move (.tmp 7)), (some 66), some ((some 65), true)⟩, ⟨(.binOp .eql 2 (.tmp 66) (.const (.int .i64 2)) 2), (some 67), some ((some 65), true)⟩, ⟨(.pick (.tmp 65) (.tmp 67) (.const (.bool false))), (some 68), none⟩, ⟨.move (.tmp 68), some 69, none⟩, ⟨(.move (.tmp 8)), (some 70), some ((some 69), true)⟩, ⟨(.pick (.tmp 69) (.tmp 70) (.const (.bool false))), (some 71), none⟩, ⟨.move (.tmp 71), some 72, none⟩, ⟨(.move (.tmp 10)), (some 73), some ((some 72), true)⟩, ⟨(.binOp .eql 3 (.tmp 73) (.const (.int .i64 2)) 3), (some 74), some ((some 72), true)⟩, ⟨(.pick (.tmp 72) (.tmp 74) (.const (.bool false))), (some 75), none⟩, ⟨.move (.tmp 75), some 76, none⟩, ⟨(.move (.tmp 13)), (some 77), some ((some 76), true)⟩, ⟨(.binOp .eql 40 (.tmp 77) (.const (.int .i64 40)) 40), (some 78), some ((some 76), true)⟩, ⟨(.pick (.tmp 76) (.tmp 78) (.const (.bool false))), (some 79), none⟩, ⟨.move (.tmp 79), some 80, none⟩, ⟨(.load 25 (.tmp 1)), (some 81), some ((some 80), true)⟩, ⟨(.call { callee := (.value (.func 15)), args := #[.tmp 81], argTypes := #[25] }), (some 82), some ((some 80), true)⟩, ⟨(.pick (.tmp 80) (.tmp 82) (.const (.bool false))), (some 83), none⟩, ⟨.assign (.tmp 83), some 0, none⟩]) .ret)))))))))
theorem k9_is : Try.f9.body.map leanC = some k9 := by kernel_rfl
theorem F9_of {args : List AV} {R : AV} (h : V Try.prog none k9 (fun e env m => endK e (got (resL Try.prog m env [.tmp 0]) (hid (fun r => New m r R) .mk))) (args ++ List.replicate (84 - args.length) (.tup [])) nomem) : F Try.prog 9 args R := F.of_code Try.func9 k9_is Try.ntmps9 Try.results9 rfl mixed rfl h
noncomputable def asg10_0 : Code := (rangeAt Try.f10 0).1
noncomputable def body10_0 : Code := (rangeAt Try.f10 0).2
noncomputable def k10 : LC := (.seq (.ops [⟨.box 25 (.tmp 0), some 2, none⟩, ⟨.alloc 2, some 4, none⟩, ⟨.alloc 4, some 5, none⟩]) (.seq (.seq (.ops [⟨.load 25 (.tmp 2), some 8, none⟩, ⟨.move (.tmp 1), some 9, none⟩, ⟨(.build 60 #[(1, (.tmp 9))]), (some 10), none⟩, ⟨(.call { callee := (.value (.func 28)), args := #[.tmp 8, .tmp 10, (.const (.bool true))], argTypes := #[25, 60, 4] }), (some 11), none⟩]) (.block 0 (.range (.tmp 11) #[12, 13] asg10_0 body10_0))) (.seq (.ops [⟨(.store 2 (.tmp 4) (.const (.int .i64 0))), none, none⟩, ⟨(.store 4 (.tmp 5) (.const (.bool false))), none, none⟩]) .ret)))
theorem k10_is : Try.f10.body.map leanC = some k10 := by kernel_rfl
noncomputable def la10_0 : LC := (.ops [⟨.alloc 44, some 7, none⟩, ⟨(.store 44 (.tmp 7) (.tmp 13)), none, none⟩])
theorem la10_0_is : leanC asg10_0 = la10_0 := by kernel_rfl
noncomputable def lb10_0 : LC := (.block 1 (.seq (.ops [⟨.fieldAddr 44 (.tmp 7) 0, some 14, none⟩, ⟨.load 2 (.tmp 14), some 15, none⟩, ⟨(.store 2 (.tmp 4) (.tmp 15)), none, none⟩, ⟨(.store 4 (.tmp 5) (.const (.bool true))), none, none⟩]) .ret))
theorem lb10_0_is : leanC body10_0 = lb10_0 := by kernel_rfl
theorem F10_of {args : List AV} {R : AV} (h : V Try.prog none k10 (fun e env m => endK e (got (resL Try.prog m env [(.cell 4 2), (.cell 5 4)]) (hid (fun r => New m r R) .mk))) (args ++ List.replicate (16 - args.length) (.tup [])) nomem) : F Try.prog 10 args R := F.of_code Try.func10 k10_is Try.ntmps10 Try.results10 rfl mixed rfl h
noncomputable def k12 : LC := (.seq (.ops [⟨(.assign (.const (.bool false))), (some 4), none⟩]) (.seq (.seq (.ops [⟨.move (.tmp 0), some 6, none⟩, ⟨.call { callee := (.builtin .len), args := #[.tmp 6], argTypes := #[31] }, some 7, none⟩, ⟨.move (.tmp 1), some 8, none⟩, ⟨.call { callee := (.builtin .len), args := #[.tmp 8], argTypes := #[31] }, some 9, none⟩, ⟨.binOp .neq 3 (.tmp 7) (.tmp 9) 3, some 10, none⟩]) (.cond (.tmp 10) (.seq (.ops [⟨(.assign (.const (.bool false))), (some 4), none⟩]) .ret) .skip)) (.seq (.seq (.ops [⟨(.assign (.const (.int .i64 0))), (some 5), none⟩]) (.block 0 (.loop (.seq (.seq (.ops [⟨.move (.tmp 5), some 11, none⟩, ⟨.move (.tmp 0), some 12, none⟩, ⟨.call { callee := (.builtin .len), args := #[.tmp 12], argTypes := #[31] }, some 13, none⟩, ⟨.binOp .lss 3 (.tmp 11) (.tmp 13) 3, some 14, none⟩]) (.cond (.tmp 14) .skip (.exit 0))) (.seq (.block 1 (.seq (.any [(⟨.move (.tmp 0), some 17, none⟩, true, none), (⟨.move (.tmp 5), some 18, none⟩, true, none), (⟨.indexAddr 31 (.tmp 17) (.tmp 18), some 19, none⟩, true, none), (⟨.load 2 (.tmp 19), some 20, none⟩, true, none), (⟨.move (.tmp 1), some 21, none⟩, true, none), (⟨.move (.tmp 5), some 22, none⟩, true, none), (⟨.indexAddr 31 (.tmp 21) (.tmp 22), some 23, none⟩, true, none), (⟨.load 2 (.tmp 23), some 24, none⟩, true, none), (⟨.binOp .neq 2 (.tmp 20) (.tmp 24) 2, some 25, none⟩, true, none)]) (.cond (.tmp 25) (.seq (.ops [⟨(.assign (.const (.bool false))), (some 4), none⟩]) .ret) .skip))) (.ops [⟨.move (.tmp 5), some 15, none⟩, ⟨(.binOp .add 3 (.tmp 15) (.const (.int .i64 1)) 3), (some 16), none⟩, ⟨.assign (.tmp 16), some 5, none⟩])))))) (.seq (.ops [⟨(.assign (.const (.bool true))), (some 4), none⟩]) .ret))))
theorem k12_is : Try.f12.body.map leanC = some k12 := by kernel_rfl
theorem F12_of {args : List AV} {R : AV} (h : V Try.prog none k12 (fun e env m => endK e (got (resL Try.prog m env [.tmp 4]) (hid (fun r => New m r R) .mk))) (args ++ List.replicate (26 - args.length) (.tup [])) nomem) : F Try.prog 12 args R := F.of_code Try.func12 k12_is Try.ntmps12 Try.results12 rfl mixed rfl h
noncomputable def asg13_0 : Code := (rangeAt Try.f13 0).1
noncomputable def body13_0 : Code := (rangeAt Try.f13 0).2
noncomputable def k13 : LC := (.seq (.ops [⟨.box 25 (.tmp 0), some 3, none⟩, ⟨(.assign (.const (.slice none 0 0))), (some 6), none⟩]) (.seq (.ops [⟨.alloc 31, some 7, none⟩]) (.seq (.seq (.ops [⟨.load 25 (.tmp 3), some 10, none⟩, ⟨.move (.tmp 1), some 11, none⟩, ⟨.move (.tmp 2), some 12, none⟩, ⟨(.build 60 #[(0, (.tmp 11)), (1, (.tmp 12))]), (some 13), none⟩, ⟨(.call { callee := (.value (.func 28)), args := #[.tmp 10, .tmp 13, (.const (.bool false))], argTypes := #[25, 60, 4] }), (some 14), none⟩]) (.block 0 (.range (.tmp 14) #[15, 16] asg13_0 body13_0))) (.seq (.ops [⟨.load 31 (.tmp 7), some 22, none⟩, ⟨.assign (.tmp 22), some 6, none⟩]) .ret))))
theorem k13_is : Try.f13.body.map leanC = some k13 := by kernel_rfl
noncomputable def la13_0 : LC := (.ops [⟨.alloc 44, some 9, none⟩, ⟨(.store 44 (.tmp 9) (.tmp 16)), none, none⟩])
theorem la13_0_is : leanC asg13_0 = la13_0 := by kernel_rfl
noncomputable def lb13_0 : LC := (.block 1 (.ops [⟨.load 31 (.tmp 7), some 17, none⟩, ⟨.fieldAddr 44 (.tmp 9) 0, some 18, none⟩, ⟨.load 2 (.tmp 18), some 19, none⟩, ⟨(.buildSlice 31 1 #[(0, (.tmp 19))]), (some 20), none⟩, ⟨.call { callee := (.builtin .append), args := #[.tmp 17, .tmp 20], argTypes := #[31, 31] }, some 21, none⟩, ⟨(.store 31 (.tmp 7) (.tmp 21)), none, none⟩]))
theorem lb13_0_is : leanC body13_0 = lb13_0 := by kernel_rfl
theorem F13_of {args : List AV} {R : AV} (h : V Try.prog none k13 (fun e env m => endK e (got (resL Try.prog m env [.tmp 6]) (hid (fun r => New m r R) .mk))) (args ++ List.replicate (23 - args.length) (.tup [])) nomem) : F Try.prog 13 args R := F.of_code Try.func13 k13_is Try.ntmps13 Try.results13 rfl mixed rfl h
noncomputable def k15 : LC := (.seq (.ops [⟨.box 25 (.tmp 0), some 1, none⟩, ⟨(.assign (.const (.bool false))), (some 2), none⟩]) (.seq (.seq (.ops [⟨.fieldAddr 25 (.tmp 1) 0, some 8, none⟩, ⟨.load 2 (.tmp 8), some 9, none⟩, ⟨(.binOp .lss 2 (.tmp 9) (.const (.int .i64 0)) 2), (some 10), none⟩, ⟨.move (.tmp 10), some 11, none⟩, ⟨(.fieldAddr 25 (.tmp 1) 0), (some 12), some ((some 11), false)⟩, ⟨(.load 2 (.tmp 12)), (some 13), some ((some 11), false)⟩, ⟨(.binOp .gtr 2 (.tmp 13) (.const (.int .i64 4611686018427387904)) 2), (some 14), some ((some 11), false)⟩, ⟨(.pick (.tmp 11) (.const (.bool true)) (.tmp 14)), (some 15), none⟩, ⟨.move (.tmp 15), some 16, none⟩, ⟨(.fieldAddr 25 (.tmp 1) 1), (some 17), some ((some 16), false)⟩, ⟨(.load 22 (.tmp 17)), (some 18), some ((some 16), false)⟩, ⟨(.call { callee := (.builtin .len), args := #[.tmp 18], argTypes := #[22] }), (some 19), some ((some 16), false)⟩, ⟨(.binOp .gtr 3 (.tmp 19) (.const (.int .i64 65536)) 3), (some 20), some ((some 16), false)⟩, ⟨(.pick (.tmp 16) (.const (.bool true)) (.tmp 20)), (some 21), none⟩]) (.cond (.tmp 21) (.seq (.ops [⟨(.assign (.const (.bool false))), (some 2), none⟩]) .ret) .skip)) (.seq (.ops [⟨(.assign (.const (.int .i64 0))), (some 3), none⟩]) (.seq (.seq (.ops [⟨.fieldAddr 25 (.tmp 1) 1, some 22, none⟩, ⟨.load 22 (.tmp 22), some 23, none⟩, ⟨.call { callee := (.builtin .len), args := #[.tmp 23], argTypes := #[22] }, some 24, none⟩, ⟨(.move (.const (.int .i64 0))), (some 25), none⟩]) (.block 0 (.loop (.seq (.ops [⟨.binOp .lss 3 (.tmp 25) (.tmp 24) 3, some 26, none⟩]) (.seq (.cond (.tmp 26) .skip (.exit 0)) (.seq (.block 1 (.seq (.ops [⟨.indexAddr 22 (.tmp 23) (.tmp 25), some 27, none⟩, ⟨.load 44 (.tmp 27), some 28, none⟩, ⟨.alloc 44, some 5, none⟩, ⟨(.store 44 (.tmp 5) (.tmp 28)), none, none⟩]) (.seq (.seq (.ops [⟨.fieldAddr 44 (.tmp 5) 0, some 29, none⟩, ⟨.load 2 (.tmp 29), some 30, none⟩, ⟨.move (.tmp 3), some 31, none⟩, ⟨.binOp .leq 2 (.tmp 30) (.tmp 31) 2, some 32, none⟩, ⟨.move (.tmp 32), some 33, none⟩, ⟨(.fieldAddr 44 (.tmp 5) 0), (some 34), some ((some 33), false)⟩, ⟨(.load 2 (.tmp 34)), (some 35), some ((some 33), false)⟩, ⟨(.fieldAddr 25 (.tmp 1) 0), (some 36), some ((some 33), false)⟩, ⟨(.load 2 (.tmp 36)), (some 37), some ((some 33), false)⟩, ⟨(.binOp .gtr 2 (.tmp 35) (.tmp 37) 2), (some 38), some ((some 33), false)⟩, ⟨(.pick (.tmp 33) (.const (.bool true)) (.tmp 38)), (some 39), none⟩]) (.cond (.tmp 39) (.seq (.ops [⟨(.assign (.const (.bool false))), (some 2), none⟩]) .ret) .skip)) (.ops [⟨.fieldAddr 44 (.tmp 5) 0, some 40, none⟩, ⟨.load 2 (.tmp 40), some 41, none⟩, ⟨.assign (.tmp 41), some 3, none⟩])))) (.ops [⟨(.binOp .add 3 (.tmp 25) (.const (.int .i64 1)) 3), (some 42), none⟩, ⟨.move (.tmp 42), some 25, none⟩]))))))) (.seq (.seq (.ops [⟨.fieldAddr 25 (.tmp 1) 2, some 43, none⟩, ⟨.load 23 (.tmp 43), some 44, none⟩, ⟨.call { callee := (.builtin .len), args := #[.tmp 44], argTypes := #[23] }, some 45, none⟩, ⟨(.move (.const (.int .i64 0))), (some 46), none⟩]) (.block 2 (.loop (.seq (.ops [⟨.binOp .lss 3 (.tmp 46) (.tmp 45) 3, some 47, none⟩]) (.seq (.cond (.tmp 47) .skip (.exit 2)) (.seq (.block 3 (.seq (.ops [⟨.move (.tmp 46), some 48, none⟩, ⟨.indexAddr 23 (.tmp 44) (.tmp 46), some 49, none⟩, ⟨.load 60 (.tmp 49), some 50, none⟩, ⟨.alloc 60, some 7, none⟩, ⟨.assign (.tmp 48), some 6, none⟩, ⟨(.store 60 (.tmp 7) (.tmp 50)), none, none⟩]) (.seq (.any [(⟨.fieldAddr 60 (.tmp 7) 0, some 51, none⟩, true, none), (⟨.load 3 (.tmp 51), some 52, none⟩, true, none), (⟨.fieldAddr 60 (.tmp 7) 1, some 53, none⟩, true, none), (⟨.load 3 (.tmp 53), some 54, none⟩, true, none), (⟨.binOp .eql 3 (.tmp 52) (.tmp 54) 3, some 55, none⟩, true, none), (⟨.move (.tmp 55), some 56, none⟩, true, none), (⟨(.move (.tmp 6)), (some 57), some ((some 56), false)⟩, true, none), (⟨(.binOp .gtr 3 (.tmp 57) (.const (.int .i64 0)) 3), (some 58), some ((some 56), false)⟩, true, none), (⟨(.move (.tmp 58)), (some 59), some ((some 56), false)⟩, true, none), (⟨(.load 60 (.tmp 7)), (some 60), some ((some 59), true)⟩, true, none), (⟨(.fieldAddr 25 (.tmp 1) 2), (some 61), some ((some 59), true)⟩, true, none), (⟨(.load 23 (.tmp 61)), (some 62), some ((some 59), true)⟩, true, none), (⟨(.move (.tmp 6)), (some 63), some ((some 59), true)⟩, true, none), (⟨(.binOp .sub 3 (.tmp 63) (.const (.int .i64 1)) 3), (some 64), some ((some 59), true)⟩, true, none), (⟨(.indexAddr 23 (.tmp 62) (.tmp 64)), (some 65), some ((some 59), true)⟩, true, none), (⟨(.load 60 (.tmp 65)), (some 66), some ((some 59), true)⟩, true, none), (⟨(.binOp .eql 60 (.tmp 60) (.tmp 66) 60), (some 67), some ((some 59), true)⟩, true, none), (⟨(.move (.tmp 67)), (some 68), some ((some 59), true)⟩, true, none), (⟨(.load 60 (.tmp 7)), (some 69), some ((some 68), false)⟩, true, none), (⟨(.fieldAddr 25 (.tmp 1) 2), (some 70), some ((some 68), false)⟩, true, none), (⟨(.load 23 (.tmp 70)), (some 71), some ((some 68), false)⟩, true, none), (⟨(.move (.tmp 6)), (some 72), some ((some 68), false)⟩, true, none), (⟨(.binOp .sub 3 (.tmp 72) (.const (.int .i64 1)) 3), (some 73), some ((some 68), false)⟩, true, none), (⟨(.indexAddr 23 (.tmp 71) (.tmp 73)), (some 74), some ((some 68), false)⟩, true, none), (⟨(.load 60 (.tmp 74)), (some 75), some ((some 68), false)⟩, true, none), (⟨(.call { callee := (.value (.func 29)), args := #[.tmp 69, .tmp 75], argTypes := #[60, 60] }), (some 76), some ((some 68), false)⟩, false, none), (⟨(.unOp .not 4 (.tmp 76)), (some 77), some ((some 68), false)⟩, true, none), (⟨(.pick (.tmp 68) (.const (.bool true)) (.tmp 77)), (some 78), some ((some 59), true)⟩, true, none), (⟨(.pick (.tmp 59) (.tmp 78) (.const (.bool false))), (some 79), some ((some 56), false)⟩, true, none), (⟨(.pick (.tmp 56) (.const (.bool true)) (.tmp 79)), (some 80), none⟩, true, none)]) (.cond (.tmp 80) (.seq (.ops [⟨(.assign (.const (.bool false))), (some 2), none⟩]) .ret) .skip)))) (.ops [⟨(.binOp .add 3 (.tmp 46) (.const (.int .i64 1)) 3), (some 81), none⟩, ⟨.move (.tmp 81), some 46, none⟩]))))))) (.seq (.ops [⟨(.assign (.const (.bool true))), (some 2), none⟩]) .ret))))))
theorem k15_is : Try.f15.body.map leanC = some k15 := by kernel_rfl
theorem F15_of {args : List AV} {R : AV} (h : V Try.prog none k15 (fun e env m => endK e (got (resL Try.prog m env [.tmp 2]) (hid (fun r => New m r R) .mk))) (args ++ List.replicate (82 - args.length) (.tup [])) nomem) : F Try.prog 15 args R := F.of_code Try.func15 k15_is Try.ntmps15 Try.results15 rfl mixed rfl h
noncomputable def k16 : LC := (.seq (.ops [⟨.box 25 (.tmp 0), some 2, none⟩, ⟨.box 25 (.tmp 1), some 3, none⟩, ⟨(.assign (.const (.bool false))), (some 4), none⟩]) (.seq (.ops [⟨.fieldAddr 25 (.tmp 2) 0, some 5, none⟩, ⟨.load 2 (.tmp 5), some 6, none⟩, ⟨.fieldAddr 25 (.tmp 3) 0, some 7, none⟩, ⟨.load 2 (.tmp 7), some 8, none⟩, ⟨.binOp .eql 2 (.tmp 6) (.tmp 8) 2, some 9, none⟩, ⟨.move (.tmp 9), some 10, none⟩, ⟨(.fieldAddr 25 (.tmp 2) 1), (some 11), some ((some 10), true)⟩, ⟨(.load 22 (.tmp 11)), (some 12), some ((some 10), true)⟩, ⟨(.fieldAddr 25 (.tmp 3) 1), (some 13), some ((some 10), true)⟩, ⟨(.load 22 (.tmp 13)), (some 14), some ((some 10), true)⟩, ⟨(.call { callee := (.value (.func 30)), args := #[.tmp 12, .tmp 14], argTypes := #[22, 22] }), (some 15), some ((some 10), true)⟩, ⟨(.pick (.tmp 10) (.tmp 15) (.const (.bool false))), (some 16), none⟩, ⟨.move (.tmp 16), some 17, none⟩, ⟨(.fieldAddr 25 (.tmp 2) 2), (some 18), some ((some 17), true)⟩, ⟨(.load 23 (.tmp 18)), (some 19), some ((some 17), true)⟩, ⟨(.fieldAddr 25 (.tmp 3) 2), (some 20), some ((some 17), true)⟩, ⟨(.load 23 (.tmp 20)), (some 21), some ((some 17), true)⟩, ⟨(.call { callee := (.value (.func 31)), args := #[.tmp 19, .tmp 21], argTypes := #[23, 23] }), (some 22), some ((some 17), true)⟩, ⟨(.pick (.tmp 17) (.tmp 22) (.const (.bool false))), (some 23), none⟩, ⟨.assign (.tmp 23), some 4, none⟩]) .ret))
theorem k16_is : Try.f16.body.map leanC = some k16 := by kernel_rfl
theorem F16_of {args : List AV} {R : AV} (h : V Try.prog none k16 (fun e env m => endK e (got (resL Try.prog m env [.tmp 4]) (hid (fun r => New m r R) .mk))) (args ++ List.replicate (24 - args.length) (.tup [])) nomem) : F Try.prog 16 args R := F.of_code Try.func16 k16_is Try.ntmps16 Try.results16 rfl mixed rfl h
noncomputable def k19 : LC := (.seq (.ops [⟨.box 25 (.tmp 0), some 4, none⟩, ⟨.alloc 25, some 8, none⟩, ⟨(.assign (.const (.int .i64 0))), (some 9), none⟩, ⟨(.assign (.const (.int .i64 0))), (some 10), none⟩]) (.seq (.ops [⟨.load 25 (.tmp 4), some 12, none⟩, ⟨(.call { callee := (.value (.func 32)), args := #[.tmp 12], argTypes := #[25] }), (some 13), none⟩, ⟨.alloc 25, some 11, none⟩, ⟨(.store 25 (.tmp 11) (.tmp 13)), none, none⟩]) (.seq (.block 0 (.seq (.ops [⟨.load 25 (.tmp 4), some 15, none⟩, ⟨(.call { callee := (.value (.func 33)), args := #[.tmp 15], argTypes := #[25] }), (some 16), none⟩, ⟨.move (.tmp 1), some 17, none⟩, ⟨.move (.tmp 2), some 18, none⟩, ⟨(.build 60 #[(0, (.tmp 17)), (1, (.tmp 18))]), (some 19), none⟩, ⟨.lookup 68 (.tmp 16) (.tmp 19) false, some 20, none⟩, ⟨(.binOp .gtr 3 (.tmp 20) (.const (.int .i64 0)) 3), (some 21), none⟩, ⟨.assign (.tmp 21), some 14, none⟩]) (.cond (.tmp 14) (.seq (.ops [⟨.load 25 (.tmp 11), some 22, none⟩, ⟨(.store 25 (.tmp 8) (.tmp 22)), none, none⟩, ⟨(.assign (.const (.int .i64 0))), (some 9), none⟩, ⟨(.assign (.const (.int .i64 40))), (some 10), none⟩]) .ret) (.seq (.ops [⟨.fieldAddr 25 (.tmp 4) 1, some 24, none⟩, ⟨.load 22 (.tmp 24), some 25, none⟩, ⟨.call { callee := (.builtin .len), args := #[.tmp 25], argTypes := #[22] }, some 26, none⟩, ⟨(.binOp .geq 3 (.tmp 26) (.const (.int .i64 65536)) 3), (some 27), none⟩, ⟨.move (.tmp 27), some 28, none⟩, ⟨(.fieldAddr 25 (.tmp 4) 0), (some 29), some ((some 28), false)⟩, ⟨(.load 2 (.tmp 29)), (some 30), some ((some 28), false)⟩, ⟨(.binOp .eql 2 (.tmp 30) (.const (.int .i64 4611686018427387904)) 2), (some 31), some ((some 28), false)⟩, ⟨(.pick (.tmp 28) (.const (.bool true)) (.tmp 31)), (some 32), none⟩, ⟨.assign (.tmp 32), some 23, none⟩]) (.cond (.tmp 23) (.seq (.ops [⟨.load 25 (.tmp 11), some 33, none⟩, ⟨(.store 25 (.tmp 8) (.tmp 33)), none, none⟩, ⟨(.assign (.const (.int .i64 0))), (some 9), none⟩, ⟨(.assign (.const (.int .i64 21))), (some 10), none⟩]) .ret) .skip))))) (.seq (.ops [⟨.fieldAddr 25 (.tmp 11) 0, some 34, none⟩, ⟨.load 2 (.tmp 34), some 35, none⟩, ⟨(.binOp .add 2 (.tmp 35) (.const (.int .i64 1)) 2), (some 36), none⟩, ⟨.fieldAddr 25 (.tmp 11) 0, some 37, none⟩, ⟨(.store 2 (.tmp 37) (.tmp 36)), none, none⟩]) (.seq (.ops [⟨.fieldAddr 25 (.tmp 11) 1, some 38, none⟩, ⟨.load 22 (.tmp 38), some 39, none⟩, ⟨.fieldAddr 25 (.tmp 11) 0, some 40, none⟩, ⟨.load 2 (.tmp 40), some 41, none⟩, ⟨.move (.tmp 1), some 42, none⟩, ⟨.move (.tmp 2), some 43, none⟩, ⟨.move (.tmp 3), some 44, none⟩, ⟨(.build 44 #[(0, (.tmp 41)), (1, (.tmp 42)), (2, (.tmp 43)), (3, (.tmp 44))]), (some 45), none⟩, ⟨(.buildSlice 22 1 #[(0, (.tmp 45))]), (some 46), none⟩, ⟨.call { callee := (.builtin .append), args := #[.tmp 39, .tmp 46], argTypes := #[22, 22] }, some 47, none⟩, ⟨.fieldAddr 25 (.tmp 11) 1, some 48, none⟩, ⟨(.store 22 (.tmp 48) (.tmp 47)), none, none⟩]) (.seq (.any [(⟨.load 25 (.tmp 11), some 49, none⟩, true, none), (⟨.fieldAddr 25 (.tmp 11) 0, some 50, none⟩, true, none), (⟨.load 2 (.tmp 50), some 51, none⟩, true, none), (⟨(.store 25 (.tmp 8) (.tmp 49)), none, none⟩, false, some [⟨.load 2 (.tmp 50), some 51, none⟩, ⟨.fieldAddr 25 (.tmp 11) 0, some 50, none⟩]), (⟨.assign (.tmp 51), some 9, none⟩, true, none), (⟨(.assign (.const (.int .i64 0))), (some 10), none⟩, true, none)]) .ret))))))
theorem k19_is : Try.f19.body.map leanC = some k19 := by kernel_rfl
theorem C19_of {args : List AV} {m : Mem} {K' : AV → Mem → Prop} (h : V Try.prog none k19 (fun e env m => endK e (got (resL Try.prog m env [(.cell 8 25), .tmp 9, .tmp 10]) (hid (fun r => K' r m) .mk))) (args ++ List.replicate (52 - args.length) (.tup [])) m) : C Try.prog 19 args m K' := C.of_code Try.func19 k19_is Try.ntmps19 Try.results19 rfl mixed rfl h
noncomputable def k21 : LC := (.seq (.ops [⟨.box 25 (.tmp 0), some 3, none⟩, ⟨.alloc 25, some 6, none⟩, ⟨(.assign (.const (.int .i64 0))), (some 7), none⟩]) (.seq (.ops [⟨.load 25 (.tmp 3), some 12, none⟩, ⟨(.call { callee := (.value (.func 32)), args := #[.tmp 12], argTypes := #[25] }), (some 13), none⟩, ⟨.alloc 25, some 8, none⟩, ⟨(.store 25 (.tmp 8) (.tmp 13)), none, none⟩]) (.seq (.seq (.ops [⟨.move (.tmp 1), some 14, none⟩, ⟨.move (.tmp 2), some 15, none⟩, ⟨.binOp .eql 3 (.tmp 14) (.tmp 15) 3, some 16, none⟩]) (.cond (.tmp 16) (.seq (.ops [⟨.load 25 (.tmp 8), some 17, none⟩, ⟨(.store 25 (.tmp 6) (.tmp 17)), none, none⟩, ⟨(.assign (.const (.int .i64 0))), (some 7), none⟩]) .ret) .skip)) (.seq (.ops [⟨.move (.tmp 1), some 18, none⟩, ⟨.move (.tmp 2), some 19, none⟩, ⟨(.build 60 #[(0, (.tmp 18)), (1, (.tmp 19))]), (some 20), none⟩, ⟨.alloc 60, some 9, none⟩, ⟨(.store 60 (.tmp 9) (.tmp 20)), none, none⟩]) (.seq (.seq (.any [(⟨.load 25 (.tmp 3), some 21, none⟩, true, none), (⟨.load 60 (.tmp 9), some 23, none⟩, true, none), (⟨(.call { callee := (.value (.func 33)), args := #[.tmp 21], argTypes := #[25] }), (some 22), none⟩, false, some [⟨.load 60 (.tmp 9), some 23, none⟩]), (⟨.lookup 68 (.tmp 22) (.tmp 23) false, some 24, none⟩, true, none), (⟨(.binOp .eql 3 (.tmp 24) (.const (.int .i64 0)) 3), (some 25), none⟩, true, none)]) (.cond (.tmp 25) (.seq (.ops [⟨(.assign (.const (.int .i64 0))), (some 10), none⟩]) (.seq (.block 0 (.loop (.seq (.seq (.any [(⟨.move (.tmp 10), some 26, none⟩, true, none), (⟨.fieldAddr 25 (.tmp 8) 2, some 27, none⟩, true, none), (⟨.load 23 (.tmp 27), some 28, none⟩, true, none), (⟨.call { callee := (.builtin .len), args := #[.tmp 28], argTypes := #[23] }, some 29, none⟩, true, none), (⟨.binOp .lss 3 (.tmp 26) (.tmp 29) 3, some 30, none⟩, true, none), (⟨.move (.tmp 30), some 31, none⟩, true, none), (⟨(.load 60 (.tmp 9)), (some 32), some ((some 31), true)⟩, true, none), (⟨(.fieldAddr 25 (.tmp 8) 2), (some 33), some ((some 31), true)⟩, true, none), (⟨(.load 23 (.tmp 33)), (some 34), some ((some 31), true)⟩, true, none), (⟨(.move (.tmp 10)), (some 35), some ((some 31), true)⟩, true, none), (⟨(.indexAddr 23 (.tmp 34) (.tmp 35)), (some 36), some ((some 31), true)⟩, true, none), (⟨(.load 60 (.tmp 36)), (some 37), some ((some 31), true)⟩, true, none), (⟨(.call { callee := (.value (.func 29)), args := #[.tmp 32, .tmp 37], argTypes := #[60, 60] }), (some 38), some ((some 31), true)⟩, false, none), (⟨(.pick (.tmp 31) (.tmp 38) (.const (.bool false))), (some 39), none⟩, true, none)]) (.cond (.tmp 39) .skip (.exit 0))) (.block 1 (.ops [⟨.move (.tmp 10), some 40, none⟩, ⟨(.binOp .add 3 (.tmp 40) (.const (.int .i64 1)) 3), (some 41), none⟩, ⟨.assign (.tmp 41), some 10, none⟩]))))) (.ops [⟨.fieldAddr 25 (.tmp 8) 2, some 42, none⟩, ⟨.load 23 (.tmp 42), some 43, none⟩, ⟨.move (.tmp 10), some 44, none⟩, ⟨.load 60 (.tmp 9), some 45, none⟩, ⟨(.buildSlice 23 1 #[(0, (.tmp 45))]), (some 46), none⟩, ⟨(.call { callee := (.value (.func 36)), args := #[.tmp 43, .tmp 44, .tmp 46], argTypes := #[23, 3, 23] }), (some 47), none⟩, ⟨.fieldAddr 25 (.tmp 8) 2, some 48, none⟩, ⟨(.store 23 (.tmp 48) (.tmp 47)), none, none⟩]))) .skip)) (.seq (.ops [⟨.load 60 (.tmp 9), some 49, none⟩, ⟨(.call { callee := (.value (.func 37)), args := #[.tmp 8, .tmp 49, (.const (.bool false))], argTypes := #[74, 60, 4] }), (some 50), none⟩, ⟨.assign (.tmp 50), some 11, none⟩]) (.seq (.ops [⟨.load 25 (.tmp 8), some 51, none⟩, ⟨.move (.tmp 11), some 52, none⟩, ⟨(.store 25 (.tmp 6) (.tmp 51)), none, none⟩, ⟨.assign (.tmp 52), some 7, none⟩]) .ret)))))))
theorem k21_is : Try.f21.body.map leanC = some k21 := by kernel_rfl
theorem C21_of {args : List AV} {m : Mem} {K' : AV → Mem → Prop} (h : V Try.prog none k21 (fun e env m => endK e (got (resL Try.prog m env [(.cell 6 25), .tmp 7]) (hid (fun r => K' r m) .mk))) (args ++ List.replicate (53 - args.length) (.tup [])) m) : C Try.prog 21 args m K' := C.of_code Try.func21 k21_is Try.ntmps21 Try.results21 rfl mixed rfl h
noncomputable def k22 : LC := (.seq (.ops [⟨.box 25 (.tmp 0), some 3, none⟩, ⟨.alloc 25, some 6, none⟩, ⟨(.assign (.const (.bool false))), (some 7), none⟩]) (.seq (.ops [⟨.load 25 (.tmp 3), some 10, none⟩, ⟨(.call { callee := (.value (.func 32)), args := #[.tmp 10], argTypes := #[25] }), (some 11), none⟩, ⟨.alloc 25, some 8, none⟩, ⟨(.store 25 (.tmp 8) (.tmp 11)), none, none⟩]) (.seq (.ops [⟨.load 25 (.tmp 3), some 12, none⟩, ⟨(.call { callee := (.value (.func 33)), args := #[.tmp 12], argTypes := #[25] }), (some 13), none⟩, ⟨.move (.tmp 1), some 14, none⟩, ⟨.move (.tmp 2), some 15, none⟩, ⟨(.build 60 #[(0, (.tmp 14)), (1, (.tmp 15))]), (some 16), none⟩, ⟨.lookup 68 (.tmp 13) (.tmp 16) false, some 17, none⟩, ⟨.assign (.tmp 17), some 9, none⟩]) (.seq (.seq (.ops [⟨.move (.tmp 9), some 18, none⟩, ⟨(.binOp .eql 3 (.tmp 18) (.const (.int .i64 0)) 3), (some 19), none⟩]) (.cond (.tmp 19) (.seq (.ops [⟨.load 25 (.tmp 8), some 20, none⟩, ⟨(.store 25 (.tmp 6) (.tmp 20)), none, none⟩, ⟨(.assign (.const (.bool false))), (some 7), none⟩]) .ret) .skip)) (.seq (.ops [⟨.fieldAddr 25 (.tmp 8) 2, some 21, none⟩, ⟨.load 23 (.tmp 21), some 22, none⟩, ⟨.move (.tmp 9), some 23, none⟩, ⟨(.binOp .sub 3 (.tmp 23) (.const (.int .i64 1)) 3), (some 24), none⟩, ⟨.move (.tmp 9), some 25, none⟩, ⟨(.call { callee := (.value (.func 38)), args := #[.tmp 22, .tmp 24, .tmp 25], argTypes := #[23, 3, 3] }), (some 26), none⟩, ⟨.fieldAddr 25 (.tmp 8) 2, some 27, none⟩, ⟨(.store 23 (.tmp 27) (.tmp 26)), none, none⟩]) (.seq (.ops [⟨.load 25 (.tmp 8), some 28, none⟩, ⟨(.store 25 (.tmp 6) (.tmp 28)), none, none⟩, ⟨(.assign (.const (.bool true))), (some 7), none⟩]) .ret))))))
theorem k22_is : Try.f22.body.map leanC = some k22 := by kernel_rfl
theorem C22_of {args : List AV} {m : Mem} {K' : AV → Mem → Prop} (h : V Try.prog none k22 (fun e env m => endK e (got (resL Try.prog m env [(.cell 6 25), .tmp 7]) (hid (fun r => K' r m) .mk))) (args ++ List.replicate (29 - args.length) (.tup [])) m) : C Try.prog 22 args m K' := C.of_code Try.func22 k22_is Try.ntmps22 Try.results22 rfl mixed rfl h
noncomputable def k24 : LC := (.seq (.ops [⟨.box 25 (.tmp 0), some 3, none⟩, ⟨.alloc 25, some 6, none⟩, ⟨(.assign (.const (.int .i64 0))), (some 7), none⟩]) (.seq (.ops [⟨.load 25 (.tmp 3), some 17, none⟩, ⟨(.call { callee := (.value (.func 32)), args := #[.tmp 17], argTypes := #[25] }), (some 18), none⟩, ⟨.alloc 25, some 8, none⟩, ⟨(.store 25 (.tmp 8) (.tmp 18)), none, none⟩]) (.seq (.ops [⟨(.assign (.const (.int .i64 0))), (some 9), none⟩]) (.seq (.seq (.ops [⟨.move (.tmp 1), some 19, none⟩, ⟨.call { callee := (.builtin .len), args := #[.tmp 19], argTypes := #[37] }, some 20, none⟩, ⟨(.move (.const (.int .i64 0))), (some 21), none⟩]) (.block 0 (.loop (.seq (.ops [⟨.binOp .lss 3 (.tmp 21) (.tmp 20) 3, some 22, none⟩]) (.seq (.cond (.tmp 22) .skip (.exit 0)) (.seq (.block 1 (.seq (.ops [⟨.indexAddr 37 (.tmp 19) (.tmp 21), some 23, none⟩, ⟨.load 3 (.tmp 23), some 24, none⟩, ⟨.assign (.tmp 24), some 11, none⟩]) (.seq (.ops [⟨.move (.tmp 2), some 25, none⟩, ⟨.call { callee := (.builtin .len), args := #[.tmp 25], argTypes := #[37] }, some 26, none⟩, ⟨(.move (.const (.int .i64 0))), (some 27), none⟩]) (.block 2 (.loop (.seq (.ops [⟨.binOp .lss 3 (.tmp 27) (.tmp 26) 3, some 28, none⟩]) (.seq (.cond (.tmp 28) .skip (.exit 2)) (.seq (.block 3 (.seq (.ops [⟨.indexAddr 37 (.tmp 25) (.tmp 27), some 29, none⟩, ⟨.load 3 (.tmp 29), some 30, none⟩, ⟨.assign (.tmp 30), some 13, none⟩]) (.seq (.ops [⟨.move (.tmp 11), some 31, none⟩, ⟨.move (.tmp 13), some 32, none⟩, ⟨(.build 60 #[(0, (.tmp 31)), (1, (.tmp 32))]), (some 33), none⟩, ⟨.move (.tmp 13), some 34, none⟩, ⟨.move (.tmp 11), some 35, none⟩, ⟨(.build 60 #[(0, (.tmp 34)), (1, (.tmp 35))]), (some 36), none⟩, ⟨(.buildSlice 23 2 #[(0, (.tmp 33)), (1, (.tmp 36))]), (some 37), none⟩, ⟨.call { callee := (.builtin .len), args := #[.tmp 37], argTypes := #[23] }, some 38, none⟩, ⟨(.move (.const (.int .i64 0))), (some 39), none⟩]) (.block 4 (.loop (.seq (.ops [⟨.binOp .lss 3 (.tmp 39) (.tmp 38) 3, some 40, none⟩]) (.seq (.cond (.tmp 40) .skip (.exit 4)) (.seq (.block 5 (.seq (.ops [⟨.indexAddr 23 (.tmp 37) (.tmp 39), some 41, none⟩, ⟨.load 60 (.tmp 41), some 42, none⟩, ⟨.alloc 60, some 15, none⟩, ⟨(.store 60 (.tmp 15) (.tmp 42)), none, none⟩]) (.seq (.ops [⟨(.assign (.const (.int .i64 0))), (some 16), none⟩]) (.seq (.ops [⟨.load 25 (.tmp 8), some 44, none⟩, ⟨.fieldAddr 60 (.tmp 15) 0, some 45, none⟩, ⟨.load 3 (.tmp 45), some 46, none⟩, ⟨.fieldAddr 60 (.tmp 15) 1, some 47, none⟩, ⟨.load 3 (.tmp 47), some 48, none⟩, ⟨(.call { callee := (.value (.func 21)), args := #[.tmp 44, .tmp 46, .tmp 48], argTypes := #[25, 3, 3] }), (some 49), none⟩, ⟨.move (.tmp 49), some 43, none⟩, ⟨.extract (.tmp 43) 0, some 50, none⟩, ⟨.extract (.tmp 43) 1, some 51, none⟩, ⟨(.store 25 (.tmp 8) (.tmp 50)), none, none⟩, ⟨.assign (.tmp 51), some 16, none⟩]) (.ops [⟨.move (.tmp 9), some 52, none⟩, ⟨.move (.tmp 16), some 53, none⟩, ⟨.binOp .add 3 (.tmp 52) (.tmp 53) 3, some 54, none⟩, ⟨.assign (.tmp 54), some 9, none⟩]))))) (.ops [⟨(.binOp .add 3 (.tmp 39) (.const (.int .i64 1)) 3), (some 55), none⟩, ⟨.move (.tmp 55), some 39, none⟩]))))))))) (.ops [⟨(.binOp .add 3 (.tmp 27) (.const (.int .i64 1)) 3), (some 56), none⟩, ⟨.move (.tmp 56), some 27, none⟩]))))))))) (.ops [⟨(.binOp .add 3 (.tmp 21) (.const (.int .i64 1)) 3), (some 57), none⟩, ⟨.move (.tmp 57), some 21, none⟩]))))))) (.seq (.ops [⟨.load 25 (.tmp 8), some 58, none⟩, ⟨.move (.tmp 9), some 59, none⟩, ⟨(.store 25 (.tmp 6) (.tmp 58)), none, none⟩, ⟨.assign (.tmp 59), some 7, none⟩]) .ret)))))
theorem k24_is : Try.f24.body.map leanC = some k24 := by kernel_rfl
theorem C24_of {args : List AV} {m : Mem} {K' : AV → Mem → Prop} (h : V Try.prog none k24 (fun e env m => endK e (got (resL Try.prog m env [(.cell 6 25), .tmp 7]) (hid (fun r => K' r m) .mk))) (args ++ List.replicate (60 - args.length) (.tup [])) m) : C Try.prog 24 args m K' := C.of_code Try.func24 k24_is Try.ntmps24 Try.results24 rfl mixed rfl h
noncomputable def k26 : LC := (.seq (.ops [⟨.box 60 (.tmp 0), some 2, none⟩, ⟨.box 60 (.tmp 1), some 3, none⟩, ⟨(.assign (.const (.bool false))), (some 4), none⟩]) (.seq (.ops [⟨.fieldAddr 60 (.tmp 2) 0, some 5, none⟩, ⟨.load 3 (.tmp 5), some 6, none⟩, ⟨.fieldAddr 60 (.tmp 3) 0, some 7, none⟩, ⟨.load 3 (.tmp 7), some 8, none⟩, ⟨.binOp .lss 3 (.tmp 6) (.tmp 8) 3, some 9, none⟩, ⟨.move (.tmp 9), some 10, none⟩, ⟨(.fieldAddr 60 (.tmp 2) 0), (some 11), some ((some 10), false)⟩, ⟨(.load 3 (.tmp 11)), (some 12), some ((some 10), false)⟩, ⟨(.fieldAddr 60 (.tmp 3) 0), (some 13), some ((some 10), false)⟩, ⟨(.load 3 (.tmp 13)), (some 14), some ((some 10), false)⟩, ⟨(.binOp .eql 3 (.tmp 12) (.tmp 14) 3), (some 15), some ((some 10), false)⟩, ⟨(.move (.tmp 15)), (some 16), some ((some 10), false)⟩, ⟨(.fieldAddr 60 (.tmp 2) 1), (some 17), some ((some 16), true)⟩, ⟨(.load 3 (.tmp 17)), (some 18), some ((some 16), true)⟩, ⟨(.fieldAddr 60 (.tmp 3) 1), (some 19), some ((some 16), true)⟩, ⟨(.load 3 (.tmp 19)), (some 20), some ((some 16), true)⟩, ⟨(.binOp .lss 3 (.tmp 18) (.tmp 20) 3), (some 21), some ((some 16), true)⟩, ⟨(.pick (.tmp 16) (.tmp 21) (.const (.bool false))), (some 22), some ((some 10), false)⟩, ⟨(.pick (.tmp 10) (.const (.bool true)) (.tmp 22)), (some 23), none⟩, ⟨.assign (.tmp 23), some 4, none⟩]) .ret))
theorem k26_is : Try.f26.body.map leanC = some k26 := by kernel_rfl
theorem F26_of {args : List AV} {R : AV} (h : V Try.prog none k26 (fun e env m => endK e (got (resL Try.prog m env [.tmp 4]) (hid (fun r => New m r R) .mk))) (args ++ List.replicate (24 - args.length) (.tup [])) nomem) : F Try.prog 26 args R := F.of_code Try.func26 k26_is Try.ntmps26 Try.results26 rfl mixed rfl h
noncomputable def k27 : LC := (.seq (.ops [⟨.box 25 (.tmp 0), some 2, none⟩, ⟨.alloc 25, some 4, none⟩, ⟨(.assign (.const (.int .i64 0))), (some 5), none⟩, ⟨(.assign (.const (.int .i64 0))), (some 6), none⟩]) (.seq (.ops [⟨.load 25 (.tmp 2), some 9, none⟩, ⟨.move (.tmp 1), some 10, none⟩, ⟨(.call { callee := (.value (.func 34)), args := #[.tmp 9, .tmp 10], argTypes := #[25, 2] }), (some 11), none⟩, ⟨.assign (.tmp 11), some 7, none⟩]) (.seq (.seq (.ops [⟨.move (.tmp 7), some 12, none⟩, ⟨(.binOp .lss 3 (.tmp 12) (.const (.int .i64 0)) 3), (some 13), none⟩]) (.cond (.tmp 13) (.seq (.ops [⟨.load 25 (.tmp 2), some 14, none⟩, ⟨(.call { callee := (.value (.func 32)), args := #[.tmp 14], argTypes := #[25] }), (some 15), none⟩, ⟨(.store 25 (.tmp 4) (.tmp 15)), none, none⟩, ⟨(.assign (.const (.int .i64 0))), (some 5), none⟩, ⟨(.assign (.const (.int .i64 24))), (some 6), none⟩]) .ret) .skip)) (.seq (.ops [⟨.fieldAddr 25 (.tmp 2) 1, some 16, none⟩, ⟨.load 22 (.tmp 16), some 17, none⟩, ⟨.move (.tmp 7), some 18, none⟩, ⟨.indexAddr 22 (.tmp 17) (.tmp 18), some 19, none⟩, ⟨.load 44 (.tmp 19), some 20, none⟩, ⟨.alloc 44, some 8, none⟩, ⟨(.store 44 (.tmp 8) (.tmp 20)), none, none⟩]) (.seq (.ops [⟨.load 25 (.tmp 2), some 21, none⟩, ⟨.fieldAddr 44 (.tmp 8) 1, some 22, none⟩, ⟨.load 3 (.tmp 22), some 23, none⟩, ⟨.fieldAddr 44 (.tmp 8) 2, some 24, none⟩, ⟨.load 3 (.tmp 24), some 25, none⟩, ⟨.fieldAddr 44 (.tmp 8) 3, some 26, none⟩, ⟨.load 9 (.tmp 26), some 27, none⟩, ⟨(.call { callee := (.value (.func 19)), args := #[.tmp 21, .tmp 23, .tmp 25, .tmp 27], argTypes := #[25, 3, 3, 9] }), (some 28), none⟩, ⟨.extract (.tmp 28) 0, some 29, none⟩, ⟨.extract (.tmp 28) 1, some 30, none⟩, ⟨.extract (.tmp 28) 2, some 31, none⟩, ⟨(.store 25 (.tmp 4) (.tmp 29)), none, none⟩, ⟨.assign (.tmp 30), some 5, none⟩, ⟨.assign (.tmp 31), some 6, none⟩]) .ret)))))
theorem k27_is : Try.f27.body.map leanC = some k27 := by kernel_rfl
theorem C27_of {args : List AV} {m : Mem} {K' : AV → Mem → Prop} (h : V Try.prog none k27 (fun e env m => endK e (got (resL Try.prog m env [(.cell 4 25), .tmp 5, .tmp 6]) (hid (fun r => K' r m) .mk))) (args ++ List.replicate (32 - args.length) (.tup [])) m) : C Try.prog 27 args m K' := C.of_code Try.func27 k27_is Try.ntmps27 Try.results27 rfl mixed rfl h
noncomputable def k28 : LC := (.seq (.ops [⟨.box 25 (.tmp 0), some 3, none⟩, ⟨.box 60 (.tmp 1), some 4, none⟩, ⟨.box 4 (.tmp 2), some 5, none⟩, ⟨.assign (.const .nilFunc), some 6, none⟩]) (.seq (.ops [⟨.makeFunc (.func 46) #[] #[.tmp 3, .tmp 4, .tmp 5], some 7, none⟩, ⟨.assign (.tmp 7), some 6, none⟩]) .ret))
theorem k28_is : Try.f28.body.map leanC = some k28 := by kernel_rfl
theorem C28_of {args : List AV} {m : Mem} {K' : AV → Mem → Prop} (h : V Try.prog none k28 (fun e env m => endK e (got (resL Try.prog m env [.tmp 6]) (hid (fun r => K' r m) .mk))) (args ++ List.replicate (8 - args.length) (.tup [])) m) : C Try.prog 28 args m K' := C.of_code Try.func28 k28_is Try.ntmps28 Try.results28 rfl mixed rfl h
noncomputable def k29 : LC := (.seq (.ops [⟨.box 60 (.tmp 0), some 2, none⟩, ⟨.box 60 (.tmp 1), some 3, none⟩, ⟨(.assign (.const (.bool false))), (some 4), none⟩]) (.seq (.ops [⟨.fieldAddr 60 (.tmp 2) 0, some 5, none⟩, ⟨.load 3 (.tmp 5), some 6, none⟩, ⟨.fieldAddr 60 (.tmp 3) 0, some 7, none⟩, ⟨.load 3 (.tmp 7), some 8, none⟩, ⟨.binOp .gtr 3 (.tmp 6) (.tmp 8) 3, some 9, none⟩, ⟨.move (.tmp 9), some 10, none⟩, ⟨(.fieldAddr 60 (.tmp 2) 0), (some 11), some ((some 10), false)⟩, ⟨(.load 3 (.tmp 11)), (some 12), some ((some 10), false)⟩, ⟨(.fieldAddr 60 (.tmp 3) 0), (some 13), some ((some 10), false)⟩, ⟨(.load 3 (.tmp 13)), (some 14), some ((some 10), false)⟩, ⟨(.binOp .eql 3 (.tmp 12) (.tmp 14) 3), (some 15), some ((some 10), false)⟩, ⟨(.move (.tmp 15)), (some 16), some ((some 10), false)⟩, ⟨(.fieldAddr 60 (.tmp 2) 1), (some 17), some ((some 16), true)⟩, ⟨(.load 3 (.tmp 17)), (some 18), some ((some 16), true)⟩, ⟨(.fieldAddr 60 (.tmp 3) 1), (some 19), some ((some 16), true)⟩, ⟨(.load 3 (.tmp 19)), (some 20), some ((some 16), true)⟩, ⟨(.binOp .gtr 3 (.tmp 18) (.tmp 20) 3), (some 21), some ((some 16), true)⟩, ⟨(.pick (.tmp 16) (.tmp 21) (.const (.bool false))), (some 22), some ((some 10), false)⟩, ⟨(.pick (.tmp 10) (.const (.bool true)) (.tmp 22)), (some 23), none⟩, ⟨.assign (.tmp 23), some 4, none⟩]) .ret))
theorem k29_is : Try.f29.body.map leanC = some k29 := by kernel_rfl
theorem F29_of {args : List AV} {R : AV} (h : V Try.prog none k29 (fun e env m => endK e (got (resL Try.prog m env [.tmp 4]) (hid (fun r => New m r R) .mk))) (args ++ List.replicate (24 - args.length) (.tup [])) nomem) : F Try.prog 29 args R := F.of_code Try.func29 k29_is Try.ntmps29 Try.results29 rfl mixed rfl h
noncomputable def k30 : LC := (.seq (.ops [⟨(.assign (.const (.bool false))), (some 4), none⟩]) (.seq (.seq (.ops [⟨.move (.tmp 0), some 6, none⟩, ⟨.call { callee := (.builtin .len), args := #[.tmp 6], argTypes := #[22] }, some 7, none⟩, ⟨.move (.tmp 1), some 8, none⟩, ⟨.call { callee := (.builtin .len), args := #[.tmp 8], argTypes := #[22] }, some 9, none⟩, ⟨.binOp .neq 3 (.tmp 7) (.tmp 9) 3, some 10, none⟩]) (.cond (.tmp 10) (.seq (.ops [⟨(.assign (.const (.bool false))), (some 4), none⟩]) .ret) .skip)) (.seq (.seq (.ops [⟨.move (.tmp 0), some 11, none⟩, ⟨.call { callee := (.builtin .len), args := #[.tmp 11], argTypes := #[22] }, some 12, none⟩, ⟨(.move (.const (.int .i64 0))), (some 13), none⟩]) (.block 0 (.loop (.seq (.ops [⟨.binOp .lss 3 (.tmp 13) (.tmp 12) 3, some 14, none⟩]) (.seq (.cond (.tmp 14) .skip (.exit 0)) (.seq (.block 1 (.seq (.ops [⟨.move (.tmp 13), some 15, none⟩, ⟨.assign (.tmp 15), some 5, none⟩]) (.seq (.any [(⟨.move (.tmp 0), some 16, none⟩, true, none), (⟨.move (.tmp 5), some 17, none⟩, true, none), (⟨.indexAddr 22 (.tmp 16) (.tmp 17), some 18, none⟩, true, none), (⟨.load 44 (.tmp 18), some 19, none⟩, true, none), (⟨.move (.tmp 1), some 20, none⟩, true, none), (⟨.move (.tmp 5), some 21, none⟩, true, none), (⟨.indexAddr 22 (.tmp 20) (.tmp 21), some 22, none⟩, true, none), (⟨.load 44 (.tmp 22), some 23, none⟩, true, none), (⟨.binOp .neq 44 (.tmp 19) (.tmp 23) 44, some 24, none⟩, true, none)]) (.cond (.tmp 24) (.seq (.ops [⟨(.assign (.const (.bool false))), (some 4), none⟩]) .ret) .skip)))) (.ops [⟨(.binOp .add 3 (.tmp 13) (.const (.int .i64 1)) 3), (some 25), none⟩, ⟨.move (.tmp 25), some 13, none⟩]))))))) (.seq (.ops [⟨(.assign (.const (.bool true))), (some 4), none⟩]) .ret))))
theorem k30_is : Try.f30.body.map leanC = some k30 := by kernel_rfl
theorem F30_of {args : List AV} {R : AV} (h : V Try.prog none k30 (fun e env m => endK e (got (resL Try.prog m env [.tmp 4]) (hid (fun r => New m r R) .mk))) (args ++ List.replicate (26 - args.length) (.tup [])) nomem) : F Try.prog 30 args R := F.of_code Try.func30 k30_is Try.ntmps30 Try.results30 rfl mixed rfl h
noncomputable def k31 : LC := (.seq (.ops [⟨(.assign (.const (.bool false))), (some 4), none⟩]) (.seq (.seq (.ops [⟨.move (.tmp 0), some 6, none⟩, ⟨.call { callee := (.builtin .len), args := #[.tmp 6], argTypes := #[23] }, some 7, none⟩, ⟨.move (.tmp 1), some 8, none⟩, ⟨.call { callee := (.builtin .len), args := #[.tmp 8], argTypes := #[23] }, some 9, none⟩, ⟨.binOp .neq 3 (.tmp 7) (.tmp 9) 3, some 10, none⟩]) (.cond (.tmp 10) (.seq (.ops [⟨(.assign (.const (.bool false))), (some 4), none⟩]) .ret) .skip)) (.seq (.seq (.ops [⟨.move (.tmp 0), some 11, none⟩, ⟨.call { callee := (.builtin .len), args := #[.tmp 11], argTypes := #[23] }, some 12, none⟩, ⟨(.move (.const (.int .i64 0))), (some 13), none⟩]) (.block 0 (.loop (.seq (.ops [⟨.binOp .lss 3 (.tmp 13) (.tmp 12) 3, some 14, none⟩]) (.seq (.cond (.tmp 14) .skip (.exit 0)) (.seq (.block 1 (.seq (.ops [⟨.move (.tmp 13), some 15, none⟩, ⟨.assign (.tmp 15), some 5, none⟩]) (.seq (.any [(⟨.move (.tmp 0), some 16, none⟩, true, none), (⟨.move (.tmp 5), some 17, none⟩, true, none), (⟨.indexAddr 23 (.tmp 16) (.tmp 17), some 18, none⟩, true, none), (⟨.load 60 (.tmp 18), some 19, none⟩, true, none), (⟨.move (.tmp 1), some 20, none⟩, true, none), (⟨.move (.tmp 5), some 21, none⟩, true, none), (⟨.indexAddr 23 (.tmp 20) (.tmp 21), some 22, none⟩, true, none), (⟨.load 60 (.tmp 22), some 23, none⟩, true, none), (⟨.binOp .neq 60 (.tmp 19) (.tmp 23) 60, some 24, none⟩, true, none)]) (.cond (.tmp 24) (.seq (.ops [⟨(.assign (.const (.bool false))), (some 4), none⟩]) .ret) .skip)))) (.ops [⟨(.binOp .add 3 (.tmp 13) (.const (.int .i64 1)) 3), (some 25), none⟩, ⟨.move (.tmp 25), some 13, none⟩]))))))) (.seq (.ops [⟨(.assign (.const (.bool true))), (some 4), none⟩]) .ret))))
theorem k31_is : Try.f31.body.map leanC = some k31 := by kernel_rfl
theorem F31_of {args : List AV} {R : AV} (h : V Try.prog none k31 (fun e env m => endK e (got (resL Try.prog m env [.tmp 4]) (hid (fun r => New m r R) .mk))) (args ++ List.replicate (26 - args.length) (.tup [])) nomem) : F Try.prog 31 args R := F.of_code Try.func31 k31_is Try.ntmps31 Try.results31 rfl mixed rfl h
noncomputable def k32 : LC := (.seq (.ops [⟨.box 25 (.tmp 0), some 1, none⟩, ⟨.alloc 25, some 2, none⟩]) (.seq (.any [(⟨.fieldAddr 25 (.tmp 1) 0, some 3, none⟩, true, none), (⟨.load 2 (.tmp 3), some 4, none⟩, true, none), (⟨.fieldAddr 25 (.tmp 1) 1, some 5, none⟩, true, none), (⟨.load 22 (.tmp 5), some 6, none⟩, true, none), (⟨.fieldAddr 25 (.tmp 1) 2, some 8, none⟩, true, none), (⟨.load 23 (.tmp 8), some 9, none⟩, true, none), (⟨(.call { callee := (.value (.func 47)), args := #[.tmp 6], argTypes := #[22] }), (some 7), none⟩, false, some [⟨.load 23 (.tmp 8), some 9, none⟩, ⟨.fieldAddr 25 (.tmp 1) 2, some 8, none⟩, ⟨.load 2 (.tmp 3), some 4, none⟩, ⟨.fieldAddr 25 (.tmp 1) 0, some 3, none⟩]), (⟨(.call { callee := (.value (.func 48)), args := #[.tmp 9], argTypes := #[23] }), (some 10), none⟩, false, some [⟨.load 2 (.tmp 3), some 4, none⟩, ⟨.fieldAddr 25 (.tmp 1) 0, some 3, none⟩]), (⟨(.build 25 #[(0, (.tmp 4)), (1, (.tmp 7)), (2, (.tmp 10))]), (some 11), none⟩, true, none), (⟨(.store 25 (.tmp 2) (.tmp 11)), none, none⟩, false, none)]) .ret))
theorem k32_is : Try.f32.body.map leanC = some k32 := by kernel_rfl
theorem C32_of {args : List AV} {m : Mem} {K' : AV → Mem → Prop} (h : V Try.prog none k32 (fun e env m => endK e (got (resL Try.prog m env [(.cell 2 25)]) (hid (fun r => K' r m) .mk))) (args ++ List.replicate (12 - args.length) (.tup [])) m) : C Try.prog 32 args m K' := C.of_code Try.func32 k32_is Try.ntmps32 Try.results32 rfl mixed rfl h
noncomputable def k33 : LC := (.seq (.ops [⟨.box 25 (.tmp 0), some 1, none⟩, ⟨(.assign (.const (.map none))), (some 2), none⟩]) (.seq (.ops [⟨.makeMap 68 none, some 6, none⟩, ⟨.assign (.tmp 6), some 3, none⟩]) (.seq (.seq (.ops [⟨.fieldAddr 25 (.tmp 1) 2, some 7, none⟩, ⟨.load 23 (.tmp 7), some 8, none⟩, ⟨.call { callee := (.builtin .len), args := #[.tmp 8], argTypes := #[23] }, some 9, none⟩, ⟨(.move (.const (.int .i64 0))), (some 10), none⟩]) (.block 0 (.loop (.seq (.ops [⟨.binOp .lss 3 (.tmp 10) (.tmp 9) 3, some 11, none⟩]) (.seq (.cond (.tmp 11) .skip (.exit 0)) (.seq (.block 1 (.seq (.ops [⟨.move (.tmp 10), some 12, none⟩, ⟨.indexAddr 23 (.tmp 8) (.tmp 10), some 13, none⟩, ⟨.load 60 (.tmp 13), some 14, none⟩, ⟨.alloc 60, some 5, none⟩, ⟨.assign (.tmp 12), some 4, none⟩, ⟨(.store 60 (.tmp 5) (.tmp 14)), none, none⟩]) (.ops [⟨.move (.tmp 3), some 15, none⟩, ⟨.load 60 (.tmp 5), some 16, none⟩, ⟨.move (.tmp 4), some 17, none⟩, ⟨(.binOp .add 3 (.tmp 17) (.const (.int .i64 1)) 3), (some 18), none⟩, ⟨(.mapUpdate 68 (.tmp 15) (.tmp 16) (.tmp 18)), none, none⟩]))) (.ops [⟨(.binOp .add 3 (.tmp 10) (.const (.int .i64 1)) 3), (some 19), none⟩, ⟨.move (.tmp 19), some 10, none⟩]))))))) (.seq (.ops [⟨.move (.tmp 3), some 20, none⟩, ⟨.assign (.tmp 20), some 2, none⟩]) .ret))))
theorem k33_is : Try.f33.body.map leanC = some k33 := by kernel_rfl
theorem C33_of {args : List AV} {m : Mem} {K' : AV → Mem → Prop} (h : V Try.prog none k33 (fun e env m => endK e (got (resL Try.prog m env [.tmp 2]) (hid (fun r => K' r m) .mk))) (args ++ List.replicate (21 - args.length) (.tup [])) m) : C Try.prog 33 args m K' := C.of_code Try.func33 k33_is Try.ntmps33 Try.results33 rfl mixed rfl h
noncomputable def k34 : LC := (.seq (.ops [⟨.box 25 (.tmp 0), some 2, none⟩, ⟨.box 2 (.tmp 1), some 3, none⟩, ⟨(.assign (.const (.int .i64 0))), (some 4), none⟩]) (.seq (.ops [⟨.fieldAddr 25 (.tmp 2) 1, some 5, none⟩, ⟨.load 22 (.tmp 5), some 6, none⟩, ⟨.makeFunc (.func 50) #[] #[.tmp 3], some 7, none⟩, ⟨(.call { callee := (.value (.func 49)), args := #[.tmp 6, .tmp 7], argTypes := #[22, 85] }), (some 8), none⟩, ⟨.assign (.tmp 8), some 4, none⟩]) .ret))
theorem k34_is : Try.f34.body.map leanC = some k34 := by kernel_rfl
theorem F34_of {args : List AV} {R : AV} (h : V Try.prog none k34 (fun e env m => endK e (got (resL Try.prog m env [.tmp 4]) (hid (fun r => New m r R) .mk))) (args ++ List.replicate (9 - args.length) (.tup [])) nomem) : F Try.prog 34 args R := F.of_code Try.func34 k34_is Try.ntmps34 Try.results34 rfl mixed rfl h
noncomputable def k36 : LC := (.seq (.ops [⟨(.assign (.const (.slice none 0 0))), (some 6), none⟩]) (.seq (.ops [⟨.move (.tmp 0), some 10, none⟩, ⟨.move (.tmp 1), some 11, none⟩, ⟨(.slice 23 (.tmp 10) (some (.tmp 11)) none none), (some 12), none⟩]) (.seq (.ops [⟨.move (.tmp 2), some 13, none⟩, ⟨.call { callee := (.builtin .len), args := #[.tmp 13], argTypes := #[23] }, some 14, none⟩, ⟨.assign (.tmp 14), some 7, none⟩]) (.seq (.seq (.ops [⟨.move (.tmp 7), some 15, none⟩, ⟨(.binOp .eql 3 (.tmp 15) (.const (.int .i64 0)) 3), (some 16), none⟩]) (.cond (.tmp 16) (.seq (.ops [⟨.move (.tmp 0), some 17, none⟩, ⟨.assign (.tmp 17), some 6, none⟩]) .ret) .skip)) (.seq (.ops [⟨.move (.tmp 0), some 18, none⟩, ⟨.call { callee := (.builtin .len), args := #[.tmp 18], argTypes := #[23] }, some 19, none⟩, ⟨.assign (.tmp 19), some 8, none⟩]) (.seq (.seq (.ops [⟨.move (.tmp 1), some 20, none⟩, ⟨.move (.tmp 8), some 21, none⟩, ⟨.binOp .eql 3 (.tmp 20) (.tmp 21) 3, some 22, none⟩]) (.cond (.tmp 22) (.seq (.ops [⟨.move (.tmp 0), some 23, none⟩, ⟨.move (.tmp 2), some 24, none⟩, ⟨.call { callee := (.builtin .append), args := #[.tmp 23, .tmp 24], argTypes := #[23, 23] }, some 25, none⟩, ⟨.assign (.tmp 25), some 6, none⟩]) .ret) .skip)) (.seq (.seq (.ops [⟨.move (.tmp 8), some 26, none⟩, ⟨.move (.tmp 7), some 27, none⟩, ⟨.binOp .add 3 (.tmp 26) (.tmp 27) 3, some 28, none⟩, ⟨.move (.tmp 0), some 29, none⟩, ⟨.call { callee := (.builtin .cap), args := #[.tmp 29], argTypes := #[23] }, some 30, none⟩, ⟨.binOp .gtr 3 (.tmp 28) (.tmp 30) 3, some 31, none⟩]) (.cond (.tmp 31) (.seq (.ops [⟨.move (.tmp 0), some 32, none⟩, ⟨.move (.tmp 1), some 33, none⟩, ⟨(.slice 23 (.tmp 32) none (some (.tmp 33)) none), (some 34), none⟩, ⟨.move (.tmp 8), some 35, none⟩, ⟨.move (.tmp 7), some 36, none⟩, ⟨.binOp .add 3 (.tmp 35) (.tmp 36) 3, some 37, none⟩, ⟨.move (.tmp 1), some 38, none⟩, ⟨.binOp .sub 3 (.tmp 37) (.tmp 38) 3, some 39, none⟩, ⟨.call { callee := (.builtin .append), args := #[.tmp 34, .tmp 39], argTypes := #[23, 3] }, some 40, none⟩, ⟨.assign (.tmp 40), some 9, none⟩]) (.seq (.ops [⟨.move (.tmp 9), some 41, none⟩, ⟨.move (.tmp 1), some 42, none⟩, ⟨(.slice 23 (.tmp 41) (some (.tmp 42)) none none), (some 43), none⟩, ⟨.move (.tmp 2), some 44, none⟩, ⟨.call { callee := (.builtin .copy), args := #[.tmp 43, .tmp 44], argTypes := #[23, 23] }, some 45, none⟩]) (.seq (.any [(⟨.move (.tmp 9), some 46, none⟩, true, none), (⟨.move (.tmp 1), some 47, none⟩, true, none), (⟨.move (.tmp 7), some 48, none⟩, true, none), (⟨.binOp .add 3 (.tmp 47) (.tmp 48) 3, some 49, none⟩, true, none), (⟨(.slice 23 (.tmp 46) (some (.tmp 49)) none none), (some 50), none⟩, true, none), (⟨.move (.tmp 0), some 51, none⟩, true, none), (⟨.move (.tmp 1), some 52, none⟩, true, none), (⟨(.slice 23 (.tmp 51) (some (.tmp 52)) none none), (some 53), none⟩, true, none), (⟨.call { callee := (.builtin .copy), args := #[.tmp 50, .tmp 53], argTypes := #[23, 23] }, some 54, none⟩, false, none)]) (.seq (.ops [⟨.move (.tmp 9), some 55, none⟩, ⟨.assign (.tmp 55), some 6, none⟩]) .ret)))) .skip)) (.seq (.ops [⟨.move (.tmp 0), some 56, none⟩, ⟨.move (.tmp 8), some 57, none⟩, ⟨.move (.tmp 7), some 58, none⟩, ⟨.binOp .add 3 (.tmp 57) (.tmp 58) 3, some 59, none⟩, ⟨(.slice 23 (.tmp 56) none (some (.tmp 59)) none), (some 60), none⟩, ⟨.assign (.tmp 60), some 0, none⟩]) (.seq (.seq (.ops [⟨.move (.tmp 2), some 61, none⟩, ⟨.move (.tmp 0), some 62, none⟩, ⟨.move (.tmp 1), some 63, none⟩, ⟨.move (.tmp 7), some 64, none⟩, ⟨.binOp .add 3 (.tmp 63) (.tmp 64) 3, some 65, none⟩, ⟨(.slice 23 (.tmp 62) (some (.tmp 65)) none none), (some 66), none⟩, ⟨(.call { callee := (.value (.func 51)), args := #[.tmp 61, .tmp 66], argTypes := #[23, 23] }), (some 67), none⟩, ⟨.unOp .not 4 (.tmp 67), some 68, none⟩]) (.cond (.tmp 68) (.seq (.any [(⟨.move (.tmp 0), some 69, none⟩, true, none), (⟨.move (.tmp 1), some 70, none⟩, true, none), (⟨.move (.tmp 7), some 71, none⟩, true, none), (⟨.binOp .add 3 (.tmp 70) (.tmp 71) 3, some 72, none⟩, true, none), (⟨(.slice 23 (.tmp 69) (some (.tmp 72)) none none), (some 73), none⟩, true, none), (⟨.move (.tmp 0), some 74, none⟩, true, none), (⟨.move (.tmp 1), some 75, none⟩, true, none), (⟨(.slice 23 (.tmp 74) (some (.tmp 75)) none none), (some 76), none⟩, true, none), (⟨.call { callee := (.builtin .copy), args := #[.tmp 73, .tmp 76], argTypes := #[23, 23] }, some 77, none⟩, false, none)]) (.seq (.ops [⟨.move (.tmp 0), some 78, none⟩, ⟨.move (.tmp 1), some 79, none⟩, ⟨(.slice 23 (.tmp 78) (some (.tmp 79)) none none), (some 80), none⟩, ⟨.move (.tmp 2), some 81, none⟩, ⟨.call { callee := (.builtin .copy), args := #[.tmp 80, .tmp 81], argTypes := #[23, 23] }, some 82, none⟩]) (.seq (.ops [⟨.move (.tmp 0), some 83, none⟩, ⟨.assign (.tmp 83), some 6, none⟩]) .ret))) .skip)) (.seq (.ops [⟨.move (.tmp 0), some 84, none⟩, ⟨.move (.tmp 8), some 85, none⟩, ⟨(.slice 23 (.tmp 84) (some (.tmp 85)) none none), (some 86), none⟩, ⟨.move (.tmp 2), some 87, none⟩, ⟨.call { callee := (.builtin .copy), args := #[.tmp 86, .tmp 87], argTypes := #[23, 23] }, some 88, none⟩]) (.seq (.ops [⟨.move (.tmp 0), some 89, none⟩, ⟨.move (.tmp 1), some 90, none⟩, ⟨(.slice 23 (.tmp 89) (some (.tmp 90)) none none), (some 91), none⟩, ⟨.move (.tmp 7), some 92, none⟩, ⟨(.call { callee := (.value (.func 52)), args := #[.tmp 91, .tmp 92], argTypes := #[23, 3] }), (some 93), none⟩]) (.seq (.ops [⟨.move (.tmp 0), some 94, none⟩, ⟨.assign (.tmp 94), some 6, none⟩]) .ret))))))))))))
theorem k36_is : Try.f36.body.map leanC = some k36 := by kernel_rfl
theorem is36 : Is Try.prog 36 k36 95 [.tmp 6] := ⟨⟨_, Try.func36, k36_is, Try.ntmps36, by rw [Try.results36], rfl⟩, mixed⟩
noncomputable def asg37_0 : Code := (rangeAt Try.f37 0).1
noncomputable def body37_0 : Code := (rangeAt Try.f37 0).2
noncomputable def k37 : LC := (.seq (.ops [⟨.box 60 (.tmp 1), some 4, none⟩, ⟨(.assign (.const (.int .i64 0))), (some 6), none⟩]) (.seq (.ops [⟨.alloc 3, some 7, none⟩, ⟨(.store 3 (.tmp 7) (.const (.int .i64 0))), none, none⟩]) (.seq (.ops [⟨.alloc 31, some 8, none⟩]) (.seq (.seq (.any [(⟨.move (.tmp 0), some 11, none⟩, true, none), (⟨.nilCheck (.tmp 11), some 12, none⟩, true, none), (⟨.load 25 (.tmp 12), some 13, none⟩, true, none), (⟨.load 60 (.tmp 4), some 14, none⟩, true, none), (⟨.move (.tmp 2), some 15, none⟩, true, none), (⟨(.call { callee := (.value (.func 28)), args := #[.tmp 13, .tmp 14, .tmp 15], argTypes := #[25, 60, 4] }), (some 16), none⟩, false, none)]) (.block 0 (.range (.tmp 16) #[17, 18] asg37_0 body37_0))) (.seq (.ops [⟨.move (.tmp 0), some 26, none⟩, ⟨.move (.tmp 0), some 27, none⟩, ⟨.nilCheck (.tmp 27), some 28, none⟩, ⟨.fieldAddr 25 (.tmp 28) 1, some 29, none⟩, ⟨.load 22 (.tmp 29), some 30, none⟩, ⟨.makeFunc (.func 54) #[] #[.tmp 8], some 31, none⟩, ⟨(.call { callee := (.value (.func 53)), args := #[.tmp 30, .tmp 31], argTypes := #[22, 85] }), (some 32), none⟩, ⟨.nilCheck (.tmp 26), some 33, none⟩, ⟨.fieldAddr 25 (.tmp 33) 1, some 34, none⟩, ⟨(.store 22 (.tmp 34) (.tmp 32)), none, none⟩]) (.seq (.ops [⟨.load 3 (.tmp 7), some 35, none⟩, ⟨.assign (.tmp 35), some 6, none⟩]) .ret))))))
theorem k37_is : Try.f37.body.map leanC = some k37 := by kernel_rfl
noncomputable def la37_0 : LC := (.ops [⟨.alloc 44, some 10, none⟩, ⟨(.store 44 (.tmp 10) (.tmp 18)), none, none⟩])
theorem la37_0_is : leanC asg37_0 = la37_0 := by kernel_rfl
noncomputable def lb37_0 : LC := (.block 1 (.seq (.ops [⟨.load 31 (.tmp 8), some 19, none⟩, ⟨.fieldAddr 44 (.tmp 10) 0, some 20, none⟩, ⟨.load 2 (.tmp 20), some 21, none⟩, ⟨(.buildSlice 31 1 #[(0, (.tmp 21))]), (some 22), none⟩, ⟨.call { callee := (.builtin .append), args := #[.tmp 19, .tmp 22], argTypes := #[31, 31] }, some 23, none⟩, ⟨(.store 31 (.tmp 8) (.tmp 23)), none, none⟩]) (.ops [⟨.load 3 (.tmp 7), some 24, none⟩, ⟨(.binOp .add 3 (.tmp 24) (.const (.int .i64 1)) 3), (some 25), none⟩, ⟨(.store 3 (.tmp 7) (.tmp 25)), none, none⟩])))
theorem lb37_0_is : leanC body37_0 = lb37_0 := by kernel_rfl
theorem C37_of {args : List AV} {m : Mem} {K' : AV → Mem → Prop} (h : V Try.prog none k37 (fun e env m => endK e (got (resL Try.prog m env [.tmp 6]) (hid (fun r => K' r m) .mk))) (args ++ List.replicate (36 - args.length) (.tup [])) m) : C Try.prog 37 args m K' := C.of_code Try.func37 k37_is Try.ntmps37 Try.results37 rfl mixed rfl h
noncomputable def k38 : LC := (.seq (.ops [⟨(.assign (.const (.slice none 0 0))), (some 6), none⟩]) (.seq (.ops [⟨.move (.tmp 0), some 8, none⟩, ⟨.move (.tmp 1), some 9, none⟩, ⟨.move (.tmp 2), some 10, none⟩, ⟨.move (.tmp 0), some 11, none⟩, ⟨.call { callee := (.builtin .len), args := #[.tmp 11], argTypes := #[23] }, some 12, none⟩, ⟨(.slice 23 (.tmp 8) (some (.tmp 9)) (some (.tmp 10)) (some (.tmp 12))), (some 13), none⟩]) (.seq (.seq (.ops [⟨.move (.tmp 1), some 14, none⟩, ⟨.move (.tmp 2), some 15, none⟩, ⟨.binOp .eql 3 (.tmp 14) (.tmp 15) 3, some 16, none⟩]) (.cond (.tmp 16) (.seq (.ops [⟨.move (.tmp 0), some 17, none⟩, ⟨.assign (.tmp 17), some 6, none⟩]) .ret) .skip)) (.seq (.ops [⟨.move (.tmp 0), some 18, none⟩, ⟨.call { callee := (.builtin .len), args := #[.tmp 18], argTypes := #[23] }, some 19, none⟩, ⟨.assign (.tmp 19), some 7, none⟩]) (.seq (.any [(⟨.move (.tmp 0), some 20, none⟩, true, none), (⟨.move (.tmp 1), some 21, none⟩, true, none), (⟨(.slice 23 (.tmp 20) none (some (.tmp 21)) none), (some 22), none⟩, true, none), (⟨.move (.tmp 0), some 23, none⟩, true, none), (⟨.move (.tmp 2), some 24, none⟩, true, none), (⟨(.slice 23 (.tmp 23) (some (.tmp 24)) none none), (some 25), none⟩, true, none), (⟨.call { callee := (.builtin .append), args := #[.tmp 22, .tmp 25], argTypes := #[23, 23] }, some 26, none⟩, false, none), (⟨.assign (.tmp 26), some 0, none⟩, true, none)]) (.seq (.ops [⟨.move (.tmp 0), some 27, none⟩, ⟨.move (.tmp 0), some 28, none⟩, ⟨.call { callee := (.builtin .len), args := #[.tmp 28], argTypes := #[23] }, some 29, none⟩, ⟨.move (.tmp 7), some 30, none⟩, ⟨(.slice 23 (.tmp 27) (some (.tmp 29)) (some (.tmp 30)) none), (some 31), none⟩, ⟨(.call { callee := (.builtin .clear), args := #[.tmp 31], argTypes := #[23] }), none, none⟩]) (.seq (.ops [⟨.move (.tmp 0), some 32, none⟩, ⟨.assign (.tmp 32), some 6, none⟩]) .ret)))))))
theorem k38_is : Try.f38.body.map leanC = some k38 := by kernel_rfl
theorem is38 : Is Try.prog 38 k38 33 [.tmp 6] := ⟨⟨_, Try.func38, k38_is, Try.ntmps38, by rw [Try.results38], rfl⟩, mixed⟩
noncomputable def k46 : LC := (.seq (.ops [⟨.fieldAddr 25 (.tmp 1) 1, some 7, none⟩, ⟨.load 22 (.tmp 7), some 8, none⟩, ⟨.call { callee := (.builtin .len), args := #[.tmp 8], argTypes := #[22] }, some 9, none⟩, ⟨(.move (.const (.int .i64 0))), (some 10), none⟩]) (.block 0 (.loop (.seq (.ops [⟨.binOp .lss 3 (.tmp 10) (.tmp 9) 3, some 11, none⟩]) (.seq (.cond (.tmp 11) .skip (.exit 0)) (.seq (.block 1 (.seq (.ops [⟨.move (.tmp 10), some 12, none⟩, ⟨.indexAddr 22 (.tmp 8) (.tmp 10), some 13, none⟩, ⟨.load 44 (.tmp 13), some 14, none⟩, ⟨.alloc 44, some 6, none⟩, ⟨.assign (.tmp 12), some 5, none⟩, ⟨(.store 44 (.tmp 6) (.tmp 14)), none, none⟩]) (.seq (.ops [⟨.fieldAddr 44 (.tmp 6) 2, some 15, none⟩, ⟨.load 3 (.tmp 15), some 16, none⟩, ⟨.fieldAddr 60 (.tmp 2) 1, some 17, none⟩, ⟨.load 3 (.tmp 17), some 18, none⟩, ⟨.binOp .eql 3 (.tmp 16) (.tmp 18) 3, some 19, none⟩, ⟨.move (.tmp 19), some 20, none⟩, ⟨(.load 4 (.tmp 3)), (some 21), some ((some 20), true)⟩, ⟨(.move (.tmp 21)), (some 22), some ((some 20), true)⟩, ⟨(.fieldAddr 44 (.tmp 6) 1), (some 23), some ((some 22), false)⟩, ⟨(.load 3 (.tmp 23)), (some 24), some ((some 22), false)⟩, ⟨(.fieldAddr 60 (.tmp 2) 0), (some 25), some ((some 22), false)⟩, ⟨(.load 3 (.tmp 25)), (some 26), some ((some 22), false)⟩, ⟨(.binOp .eql 3 (.tmp 24) (.tmp 26) 3), (some 27), some ((some 22), false)⟩, ⟨(.pick (.tmp 22) (.const (.bool true)) (.tmp 27)), (some 28), some ((some 20), true)⟩, ⟨(.pick (.tmp 20) (.tmp 28) (.const (.bool false))), (some 29), none⟩, ⟨.move (.tmp 29), some 30, none⟩, ⟨(.move (.tmp 0)), (some 31), some ((some 30), true)⟩, ⟨(.move (.tmp 5)), (some 32), some ((some 30), true)⟩, ⟨(.load 44 (.tmp 6)), (some 33), some ((some 30), true)⟩, ⟨(.call { callee := (.value (.tmp 31)), args := #[.tmp 32, .tmp 33], argTypes := #[3, 44] }), (some 34), some ((some 30), true)⟩, ⟨(.unOp .not 4 (.tmp 34)), (some 35), some ((some 30), true)⟩, ⟨(.pick (.tmp 30) (.tmp 35) (.const (.bool false))), (some 36), none⟩]) (.cond (.tmp 36) .ret .skip)))) (.ops [⟨(.binOp .add 3 (.tmp 10) (.const (.int .i64 1)) 3), (some 37), none⟩, ⟨.move (.tmp 37), some 10, none⟩])))))))
theorem k46_is : Try.f46.body.map leanC = some k46 := by kernel_rfl
theorem C46_of {args : List AV} {m : Mem} {K' : AV → Mem → Prop} (h : V Try.prog none k46 (fun e env m => endK e (got (resL Try.prog m env []) (hid (fun r => K' r m) .mk))) (args ++ List.replicate (38 - args.length) (.tup [])) m) : C Try.prog 46 args m K' := C.of_code Try.func46 k46_is Try.ntmps46 Try.results46 rfl mixed rfl h
noncomputable def k47 : LC := (.seq (.ops [⟨(.assign (.const (.slice none 0 0))), (some 2), none⟩]) (.seq (.seq (.ops [⟨.move (.tmp 0), some 3, none⟩, ⟨(.binOp .eql 22 (.tmp 3) (.const (.slice none 0 0)) 22), (some 4), none⟩]) (.cond (.tmp 4) (.seq (.ops [⟨(.assign (.const (.slice none 0 0))), (some 2), none⟩]) .ret) .skip)) (.seq (.ops [⟨.buildSlice 22 0 #[], some 5, none⟩, ⟨.move (.tmp 0), some 6, none⟩, ⟨.call { callee := (.builtin .append), args := #[.tmp 5, .tmp 6], argTypes := #[22, 22] }, some 7, none⟩, ⟨.assign (.tmp 7), some 2, none⟩]) .ret)))
theorem k47_is : Try.f47.body.map leanC = some k47 := by kernel_rfl
theorem is47 : Is Try.prog 47 k47 8 [.tmp 2] := ⟨⟨_, Try.func47, k47_is, Try.ntmps47, by rw [Try.results47], rfl⟩, mixed⟩
noncomputable def k48 : LC := (.seq (.ops [⟨(.assign (.const (.slice none 0 0))), (some 2), none⟩]) (.seq (.seq (.ops [⟨.move (.tmp 0), some 3, none⟩, ⟨(.binOp .eql 23 (.tmp 3) (.const (.slice none 0 0)) 23), (some 4), none⟩]) (.cond (.tmp 4) (.seq (.ops [⟨(.assign (.const (.slice none 0 0))), (some 2), none⟩]) .ret) .skip)) (.seq (.ops [⟨.buildSlice 23 0 #[], some 5, none⟩, ⟨.move (.tmp 0), some 6, none⟩, ⟨.call { callee := (.builtin .append), args := #[.tmp 5, .tmp 6], argTypes := #[23, 23] }, some 7, none⟩, ⟨.assign (.tmp 7), some 2, none⟩]) .ret)))
theorem k48_is : Try.f48.body.map leanC = some k48 := by kernel_rfl
theorem is48 : Is Try.prog 48 k48 8 [.tmp 2] := ⟨⟨_, Try.func48, k48_is, Try.ntmps48, by rw [Try.results48], rfl⟩, mixed⟩
noncomputable def k49 : LC := (.seq (.ops [⟨(.assign (.const (.int .i64 0))), (some 4), none⟩]) (.seq (.seq (.ops [⟨.move (.tmp 0), some 6, none⟩, ⟨.call { callee := (.builtin .len), args := #[.tmp 6], argTypes := #[22] }, some 7, none⟩, ⟨(.move (.const (.int .i64 0))), (some 8), none⟩]) (.block 0 (.loop (.seq (.ops [⟨.binOp .lss 3 (.tmp 8) (.tmp 7) 3, some 9, none⟩]) (.seq (.cond (.tmp 9) .skip (.exit 0)) (.seq (.block 1 (.seq (.ops [⟨.move (.tmp 8), some 10, none⟩, ⟨.assign (.tmp 10), some 5, none⟩]) (.seq (.ops [⟨.move (.tmp 1), some 11, none⟩, ⟨.move (.tmp 0), some 12, none⟩, ⟨.move (.tmp 5), some 13, none⟩, ⟨.indexAddr 22 (.tmp 12) (.tmp 13), some 14, none⟩, ⟨.load 44 (.tmp 14), some 15, none⟩, ⟨(.call { callee := (.value (.tmp 11)), args := #[.tmp 15], argTypes := #[44] }), (some 16), none⟩]) (.cond (.tmp 16) (.seq (.ops [⟨.move (.tmp 5), some 17, none⟩, ⟨.assign (.tmp 17), some 4, none⟩]) .ret) .skip)))) (.ops [⟨(.binOp .add 3 (.tmp 8) (.const (.int .i64 1)) 3), (some 18), none⟩, ⟨.move (.tmp 18), some 8, none⟩]))))))) (.seq (.ops [⟨(.assign (.const (.int .i64 (-1)))), (some 4), none⟩]) .ret)))
theorem k49_is : Try.f49.body.map leanC = some k49 := by kernel_rfl
theorem F49_of {args : List AV} {R : AV} (h : V Try.prog none k49 (fun e env m => endK e (got (resL Try.prog m env [.tmp 4]) (hid (fun r => New m r R) .mk))) (args ++ List.replicate (19 - args.length) (.tup [])) nomem) : F Try.prog 49 args R := F.of_code Try.func49 k49_is Try.ntmps49 Try.results49 rfl mixed rfl h
noncomputable def k50 : LC := (.seq (.ops [⟨.box 44 (.tmp 0), some 2, none⟩, ⟨(.assign (.const (.bool false))), (some 3), none⟩]) (.seq (.ops [⟨.fieldAddr 44 (.tmp 2) 0, some 4, none⟩, ⟨.load 2 (.tmp 4), some 5, none⟩, ⟨.load 2 (.tmp 1), some 6, none⟩, ⟨.binOp .eql 2 (.tmp 5) (.tmp 6) 2, some 7, none⟩, ⟨.assign (.tmp 7), some 3, none⟩]) .ret))
theorem k50_is : Try.f50.body.map leanC = some k50 := by kernel_rfl
theorem F50_of {args : List AV} {R : AV} (h : V Try.prog none k50 (fun e env m => endK e (got (resL Try.prog m env [.tmp 3]) (hid (fun r => New m r R) .mk))) (args ++ List.replicate (8 - args.length) (.tup [])) nomem) : F Try.prog 50 args R := F.of_code Try.func50 k50_is Try.ntmps50 Try.results50 rfl mixed rfl h
noncomputable def k53 : LC := (.seq (.ops [⟨(.assign (.const (.slice none 0 0))), (some 4), none⟩]) (.seq (.ops [⟨.move (.tmp 0), some 8, none⟩, ⟨.move (.tmp 1), some 9, none⟩, ⟨(.call { callee := (.value (.func 49)), args := #[.tmp 8, .tmp 9], argTypes := #[22, 85] }), (some 10), none⟩, ⟨.assign (.tmp 10), some 5, none⟩]) (.seq (.seq (.ops [⟨.move (.tmp 5), some 11, none⟩, ⟨(.binOp .eql 3 (.tmp 11) (.const (.int .i64 (-1))) 3), (some 12), none⟩]) (.cond (.tmp 12) (.seq (.ops [⟨.move (.tmp 0), some 13, none⟩, ⟨.assign (.tmp 13), some 4, none⟩]) .ret) .skip)) (.seq (.seq (.ops [⟨.move (.tmp 5), some 14, none⟩, ⟨(.binOp .add 3 (.tmp 14) (.const (.int .i64 1)) 3), (some 15), none⟩, ⟨.assign (.tmp 15), some 6, none⟩]) (.block 0 (.loop (.seq (.seq (.ops [⟨.move (.tmp 6), some 16, none⟩, ⟨.move (.tmp 0), some 17, none⟩, ⟨.call { callee := (.builtin .len), args := #[.tmp 17], argTypes := #[22] }, some 18, none⟩, ⟨.binOp .lss 3 (.tmp 16) (.tmp 18) 3, some 19, none⟩]) (.cond (.tmp 19) .skip (.exit 0))) (.seq (.block 1 (.seq (.ops [⟨.move (.tmp 0), some 22, none⟩, ⟨.move (.tmp 6), some 23, none⟩, ⟨.indexAddr 22 (.tmp 22) (.tmp 23), some 24, none⟩, ⟨.load 44 (.tmp 24), some 25, none⟩, ⟨.alloc 44, some 7, none⟩, ⟨(.store 44 (.tmp 7) (.tmp 25)), none, none⟩]) (.seq (.ops [⟨.move (.tmp 1), some 26, none⟩, ⟨.load 44 (.tmp 7), some 27, none⟩, ⟨(.call { callee := (.value (.tmp 26)), args := #[.tmp 27], argTypes := #[44] }), (some 28), none⟩, ⟨.unOp .not 4 (.tmp 28), some 29, none⟩]) (.cond (.tmp 29) (.seq (.ops [⟨.move (.tmp 0), some 30, none⟩, ⟨.move (.tmp 5), some 31, none⟩, ⟨.load 44 (.tmp 7), some 32, none⟩, ⟨.indexAddr 22 (.tmp 30) (.tmp 31), some 33, none⟩, ⟨(.store 44 (.tmp 33) (.tmp 32)), none, none⟩]) (.ops [⟨.move (.tmp 5), some 34, none⟩, ⟨(.binOp .add 3 (.tmp 34) (.const (.int .i64 1)) 3), (some 35), none⟩, ⟨.assign (.tmp 35), some 5, none⟩])) .skip)))) (.ops [⟨.move (.tmp 6), some 20, none⟩, ⟨(.binOp .add 3 (.tmp 20) (.const (.int .i64 1)) 3), (some 21), none⟩, ⟨.assign (.tmp 21), some 6, none⟩])))))) (.seq (.ops [⟨.move (.tmp 0), some 36, none⟩, ⟨.move (.tmp 5), some 37, none⟩, ⟨(.slice 22 (.tmp 36) (some (.tmp 37)) none none), (some 38), none⟩, ⟨(.call { callee := (.builtin .clear), args := #[.tmp 38], argTypes := #[22] }), none, none⟩]) (.seq (.ops [⟨.move (.tmp 0), some 39, none⟩, ⟨.move (.tmp 5), some 40, none⟩, ⟨(.slice 22 (.tmp 39) none (some (.tmp 40)) none), (some 41), none⟩, ⟨.assign (.tmp 41), some 4, none⟩]) .ret))))))
theorem k53_is : Try.f53.body.map leanC = some k53 := by kernel_rfl
theorem is53 : Is Try.prog 53 k53 42 [.tmp 4] := ⟨⟨_, Try.func53, k53_is, Try.ntmps53, by rw [Try.results53], rfl⟩, mixed⟩
theorem C53_of {args : List AV} {m : Mem} {K' : AV → Mem → Prop} (h : V Try.prog none k53 (fun e env m => endK e (got (resL Try.prog m env [.tmp 4]) (hid (fun r => K' r m) .mk))) (args ++ List.replicate (42 - args.length) (.tup [])) m) : C Try.prog 53 args m K' := C.of_code Try.func53 k53_is Try.ntmps53 Try.results53 rfl mixed rfl h
noncomputable def k54 : LC := (.seq (.ops [⟨.box 44 (.tmp 0), some 2, none⟩, ⟨(.assign (.const (.bool false))), (some 3), none⟩]) (.seq (.ops [⟨.load 31 (.tmp 1), some 7, none⟩, ⟨.fieldAddr 44 (.tmp 2) 0, some 8, none⟩, ⟨.load 2 (.tmp 8), some 9, none⟩, ⟨(.call { callee := (.value (.func 55)), args := #[.tmp 7, .tmp 9], argTypes := #[31, 2] }), (some 10), none⟩, ⟨.move (.tmp 10), some 6, none⟩, ⟨.extract (.tmp 6) 0, some 11, none⟩, ⟨.extract (.tmp 6) 1, some 12, none⟩, ⟨.assign (.tmp 11), some 4, none⟩, ⟨.assign (.tmp 12), some 5, none⟩]) (.seq (.ops [⟨.move (.tmp 5), some 13, none⟩, ⟨.assign (.tmp 13), some 3, none⟩]) .ret)))
theorem k54_is : Try.f54.body.map leanC = some k54 := by kernel_rfl
theorem F54_of {args : List AV} {R : AV} (h : V Try.prog none k54 (fun e env m => endK e (got (resL Try.prog m env [.tmp 3]) (hid (fun r => New m r R) .mk))) (args ++ List.replicate (14 - args.length) (.tup [])) nomem) : F Try.prog 54 args R := F.of_code Try.func54 k54_is Try.ntmps54 Try.results54 rfl mixed rfl h
noncomputable def k55 : LC := (.seq (.ops [⟨(.assign (.const (.int .i64 0))), (some 4), none⟩, ⟨(.assign (.const (.bool false))), (some 5), none⟩]) (.seq (.ops [⟨.move (.tmp 0), some 10, none⟩, ⟨.call { callee := (.builtin .len), args := #[.tmp 10], argTypes := #[31] }, some 11, none⟩, ⟨.assign (.tmp 11), some 6, none⟩]) (.seq (.ops [⟨.move (.tmp 6), some 12, none⟩, ⟨(.assign (.const (.int .i64 0))), (some 7), none⟩, ⟨.assign (.tmp 12), some 8, none⟩]) (.seq (.block 0 (.loop (.seq (.seq (.ops [⟨.move (.tmp 7), some 13, none⟩, ⟨.move (.tmp 8), some 14, none⟩, ⟨.binOp .lss 3 (.tmp 13) (.tmp 14) 3, some 15, none⟩]) (.cond (.tmp 15) .skip (.exit 0))) (.block 1 (.seq (.ops [⟨.move (.tmp 7), some 16, none⟩, ⟨.move (.tmp 8), some 17, none⟩, ⟨.binOp .add 3 (.tmp 16) (.tmp 17) 3, some 18, none⟩, ⟨.convert 3 92 (.tmp 18), some 19, none⟩, ⟨(.binOp .shr 92 (.tmp 19) (.const (.int .u64 1)) 92), (some 20), none⟩, ⟨.convert 92 3 (.tmp 20), some 21, none⟩, ⟨.assign (.tmp 21), some 9, none⟩]) (.seq (.ops [⟨.move (.tmp 0), some 22, none⟩, ⟨.move (.tmp 9), some 23, none⟩, ⟨.indexAddr 31 (.tmp 22) (.tmp 23), some 24, none⟩, ⟨.load 2 (.tmp 24), some 25, none⟩, ⟨.move (.tmp 1), some 26, none⟩, ⟨(.call { callee := (.value (.func 59)), args := #[.tmp 25, .tmp 26], argTypes := #[2, 2] }), (some 27), none⟩]) (.cond (.tmp 27) (.ops [⟨.move (.tmp 9), some 28, none⟩, ⟨(.binOp .add 3 (.tmp 28) (.const (.int .i64 1)) 3), (some 29), none⟩, ⟨.assign (.tmp 29), some 7, none⟩]) (.ops [⟨.move (.tmp 9), some 30, none⟩, ⟨.assign (.tmp 30), some 8, none⟩])))))))) (.seq (.ops [⟨.move (.tmp 7), some 31, none⟩, ⟨.move (.tmp 7), some 32, none⟩, ⟨.move (.tmp 6), some 33, none⟩, ⟨.binOp .lss 3 (.tmp 32) (.tmp 33) 3, some 34, none⟩, ⟨.move (.tmp 34), some 35, none⟩, ⟨(.move (.tmp 0)), (some 36), some ((some 35), true)⟩, ⟨(.move (.tmp 7)), (some 37), some ((some 35), true)⟩, ⟨(.indexAddr 31 (.tmp 36) (.tmp 37)), (some 38), some ((some 35), true)⟩, ⟨(.load 2 (.tmp 38)), (some 39), some ((some 35), true)⟩, ⟨(.move (.tmp 1)), (some 40), some ((some 35), true)⟩, ⟨(.binOp .eql 2 (.tmp 39) (.tmp 40) 2), (some 41), some ((some 35), true)⟩, ⟨(.move (.tmp 41)), (some 42), some ((some 35), true)⟩, ⟨(.move (.tmp 0)), (some 43), some ((some 42), false)⟩, ⟨(.move (.tmp 7)), (some 44), some ((some 42), false)⟩, ⟨(.indexAddr 31 (.tmp 43) (.tmp 44)), (some 45), some ((some 42), false)⟩, ⟨(.load 2 (.tmp 45)), (some 46), some ((some 42), false)⟩, ⟨(.call { callee := (.value (.func 60)), args := #[.tmp 46], argTypes := #[2] }), (some 47), some ((some 42), false)⟩, ⟨(.move (.tmp 47)), (some 48), some ((some 42), false)⟩, ⟨(.move (.tmp 1)), (some 49), some ((some 48), true)⟩, ⟨(.call { callee := (.value (.func 60)), args := #[.tmp 49], argTypes := #[2] }), (some 50), some ((some 48), true)⟩, ⟨(.pick (.tmp 48) (.tmp 50) (.const (.bool false))), (some 51), some ((some 42), false)⟩, ⟨(.pick (.tmp 42) (.const (.bool true)) (.tmp 51)), (some 52), some ((some 35), true)⟩, ⟨(.pick (.tmp 35) (.tmp 52) (.const (.bool false))), (some 53), none⟩, ⟨.assign (.tmp 31), some 4, none⟩, ⟨.assign (.tmp 53), some 5, none⟩]) .ret)))))
theorem k55_is : Try.f55.body.map leanC = some k55 := by kernel_rfl
theorem F55_of {args : List AV} {R : AV} (h : V Try.prog none k55 (fun e env m => endK e (got (resL Try.prog m env [.tmp 4, .tmp 5]) (hid (fun r => New m r R) .mk))) (args ++ List.replicate (54 - args.length) (.tup [])) nomem) : F Try.prog 55 args R := F.of_code Try.func55 k55_is Try.ntmps55 Try.results55 rfl mixed rfl h
noncomputable def k59 : LC := (.seq (.ops [⟨(.assign (.const (.bool false))), (some 4), none⟩]) (.seq (.ops [⟨.move (.tmp 0), some 5, none⟩, ⟨(.call { callee := (.value (.func 62)), args := #[.tmp 5], argTypes := #[2] }), (some 6), none⟩, ⟨.move (.tmp 6), some 7, none⟩, ⟨(.move (.tmp 1)), (some 8), some ((some 7), true)⟩, ⟨(.call { callee := (.value (.func 62)), args := #[.tmp 8], argTypes := #[2] }), (some 9), some ((some 7), true)⟩, ⟨(.unOp .not 4 (.tmp 9)), (some 10), some ((some 7), true)⟩, ⟨(.pick (.tmp 7) (.tmp 10) (.const (.bool false))), (some 11), none⟩, ⟨.move (.tmp 11), some 12, none⟩, ⟨(.move (.tmp 0)), (some 13), some ((some 12), false)⟩, ⟨(.move (.tmp 1)), (some 14), some ((some 12), false)⟩, ⟨(.binOp .lss 2 (.tmp 13) (.tmp 14) 2), (some 15), some ((some 12), false)⟩, ⟨(.pick (.tmp 12) (.const (.bool true)) (.tmp 15)), (some 16), none⟩, ⟨.assign (.tmp 16), some 4, none⟩]) .ret))
theorem k59_is : Try.f59.body.map leanC = some k59 := by kernel_rfl
theorem F59_of {args : List AV} {R : AV} (h : V Try.prog none k59 (fun e env m => endK e (got (resL Try.prog m env [.tmp 4]) (hid (fun r => New m r R) .mk))) (args ++ List.replicate (17 - args.length) (.tup [])) nomem) : F Try.prog 59 args R := F.of_code Try.func59 k59_is Try.ntmps59 Try.results59 rfl mixed rfl h
noncomputable def k60 : LC := (.seq (.ops [⟨(.assign (.const (.bool false))), (some 2), none⟩]) (.seq (.ops [⟨.move (.tmp 0), some 3, none⟩, ⟨.move (.tmp 0), some 4, none⟩, ⟨.binOp .neq 2 (.tmp 3) (.tmp 4) 2, some 5, none⟩, ⟨.assign (.tmp 5), some 2, none⟩]) .ret))
theorem k60_is : Try.f60.body.map leanC = some k60 := by kernel_rfl
theorem F60_of {args : List AV} {R : AV} (h : V Try.prog none k60 (fun e env m => endK e (got (resL Try.prog m env [.tmp 2]) (hid (fun r => New m r R) .mk))) (args ++ List.replicate (6 - args.length) (.tup [])) nomem) : F Try.prog 60 args R := F.of_code Try.func60 k60_is Try.ntmps60 Try.results60 rfl mixed rfl h
noncomputable def k62 : LC := (.seq (.ops [⟨(.assign (.const (.bool false))), (some 2), none⟩]) (.seq (.ops [⟨.move (.tmp 0), some 3, none⟩, ⟨.move (.tmp 0), some 4, none⟩, ⟨.binOp .neq 2 (.tmp 3) (.tmp 4) 2, some 5, none⟩, ⟨.assign (.tmp 5), some 2, none⟩]) .ret))
theorem k62_is : Try.f62.body.map leanC = some k62 := by kernel_rfl
theorem F62_of {args : List AV} {R : AV} (h : V Try.prog none k62 (fun e env m => endK e (got (resL Try.prog m env [.tmp 2]) (hid (fun r => New m r R) .mk))) (args ++ List.replicate (6 - args.length) (.tup [])) nomem) : F Try.prog 62 args R := F.of_code Try.func62 k62_is Try.ntmps62 Try.results62 rfl mixed rfl h
end Go.Proofs.Ytdhbonjbjnodhaa

set_option maxRecDepth 100000
set_option maxHeartbeats 1000000
set_option linter.unusedSimpArgs false
set_option linter.unusedVariables false
namespace Go.Proofs.Ytdhbonjbjnodhaa
open Go.Abs
attribute [local irreducible] C X CC Y CV CW binK litK AppK PureC PureCV againK loopV rangeV allK ifK got onB condK V stepsK planK opK firstK seeE keepsK
def Kept (p : Prop) : Prop := p
theorem laidOut : laidOutB Try.prog = true := by kernel_rfl
structure Way where
  from_ : Int
  to_ : Int
instance : DecidableEq Way := fun d e => decidable_of_iff (d.from_ = e.from_ ∧ d.to_ = e.to_) (by cases d; cases e; simp)
instance : Inhabited Way := ⟨⟨0, 0⟩⟩
def Way.cells (d : Way) : List AV := [.val (.int .i64 d.from_), .val (.int .i64 d.to_)]
theorem Way.g0 (d : Way) : d.cells[0]? = some (.val (.int .i64 d.from_)) := rfl
theorem Way.g1 (d : Way) : d.cells[1]? = some (.val (.int .i64 d.to_)) := rfl
theorem Way.s1 (d : Way) (v : Int) : setRange d.cells 1 [.val (.int .i64 v)] = ({ d with to_ := v } : Way).cells := rfl
theorem Way.len (d : Way) : d.cells.length = 2 := rfl
theorem Way.take (d : Way) : d.cells.take 2 = d.cells := rfl
theorem Way.rlen (l : List Way) : (l.map Way.cells).flatten.length = l.length * 2 := row_len Way.cells (fun _ => rfl) l
theorem Way.rpart (l : List Way) (k : Nat) (hk : k < l.length) : ((l.map Way.cells).flatten.drop (k * 2)).take 2 = (l.getD k default).cells := row_part Way.cells (fun _ => rfl) l hk
theorem Way.rin (l : List Way) (k j : Nat) (hk : k < l.length) (hj : j ≤ 2) : (k * 2 + j ≤ (l.map Way.cells).flatten.length) = True := eq_true (row_in Way.cells (fun _ => rfl) l hk hj)
theorem Way.rset (l : List Way) (k : Nat) (hk : k < l.length) (d : Way) : setRange (l.map Way.cells).flatten (k * 2) d.cells = ((l.set k d).map Way.cells).flatten := row_set Way.cells (fun _ => rfl) l hk d
theorem Way.sall (d e : Way) : setRange d.cells 0 e.cells = e.cells := rfl
theorem Way.drop (d : Way) : d.cells.drop 2 = [] := rfl
theorem Way.all (d : Way) : d.cells.all AV.one = true := rfl
theorem Way.mk_agg (from_ : Int) (to_ : Int) : AV.agg [.val (.int .i64 from_), .val (.int .i64 to_)] = .agg (Way.cells ⟨from_, to_⟩) := rfl
def Way.ok (d : Way) : Prop := (-9223372036854775808 ≤ d.from_ ∧ d.from_ ≤ 9223372036854775807) ∧ (-9223372036854775808 ≤ d.to_ ∧ d.to_ ≤ 9223372036854775807)
theorem Way.of_shaped {cs : List AV} (h : Shaped Try.prog 60 cs) (hc : cs.length = 2) : ∃ d : Way, cs = d.cells ∧ d.ok := by
  have h := Shaped.leaves laidOut 8 60 [3, 3] cs (of_decide_eq_true (by kernel_rfl)) (by kernel_rfl) h (hc.trans (cells_size ti_60).symm)
  match cs, h with
  | [c0, c1], ⟨h0, h1, _⟩ =>
    obtain ⟨x0, rfl, w0⟩ := h0.i64 ti_3 rfl
    obtain ⟨x1, rfl, w1⟩ := h1.i64 ti_3 rfl
    exact ⟨⟨x0, x1⟩, rfl, w0, w1⟩
structure Frame where
  number : Int
  from_ : Int
  to_ : Int
  body : List UInt8
instance : DecidableEq Frame := fun d e => decidable_of_iff (d.number = e.number ∧ d.from_ = e.from_ ∧ d.to_ = e.to_ ∧ d.body = e.body) (by cases d; cases e; simp)
instance : Inhabited Frame := ⟨⟨0, 0, 0, []⟩⟩
def Frame.cells (d : Frame) : List AV := [.val (.int .i64 d.number), .val (.int .i64 d.from_), .val (.int .i64 d.to_), .val (.string (.mk (List.toArray d.body)))]
theorem Frame.g0 (d : Frame) : d.cells[0]? = some (.val (.int .i64 d.number)) := rfl
theorem Frame.g1 (d : Frame) : d.cells[1]? = some (.val (.int .i64 d.from_)) := rfl
theorem Frame.s1 (d : Frame) (v : Int) : setRange d.cells 1 [.val (.int .i64 v)] = ({ d with from_ := v } : Frame).cells := rfl
theorem Frame.g2 (d : Frame) : d.cells[2]? = some (.val (.int .i64 d.to_)) := rfl
theorem Frame.s2 (d : Frame) (v : Int) : setRange d.cells 2 [.val (.int .i64 v)] = ({ d with to_ := v } : Frame).cells := rfl
theorem Frame.g3 (d : Frame) : d.cells[3]? = some (.val (.string (.mk (List.toArray d.body)))) := rfl
theorem Frame.len (d : Frame) : d.cells.length = 4 := rfl
theorem Frame.take (d : Frame) : d.cells.take 4 = d.cells := rfl
theorem Frame.rlen (l : List Frame) : (l.map Frame.cells).flatten.length = l.length * 4 := row_len Frame.cells (fun _ => rfl) l
theorem Frame.rpart (l : List Frame) (k : Nat) (hk : k < l.length) : ((l.map Frame.cells).flatten.drop (k * 4)).take 4 = (l.getD k default).cells := row_part Frame.cells (fun _ => rfl) l hk
theorem Frame.rin (l : List Frame) (k j : Nat) (hk : k < l.length) (hj : j ≤ 4) : (k * 4 + j ≤ (l.map Frame.cells).flatten.length) = True := eq_true (row_in Frame.cells (fun _ => rfl) l hk hj)
theorem Frame.rset (l : List Frame) (k : Nat) (hk : k < l.length) (d : Frame) : setRange (l.map Frame.cells).flatten (k * 4) d.cells = ((l.set k d).map Frame.cells).flatten := row_set Frame.cells (fun _ => rfl) l hk d
theorem Frame.sall (d e : Frame) : setRange d.cells 0 e.cells = e.cells := rfl
theorem Frame.drop (d : Frame) : d.cells.drop 4 = [] := rfl
theorem Frame.all (d : Frame) : d.cells.all AV.one = true := rfl
theorem Frame.mk_agg (number : Int) (from_ : Int) (to_ : Int) (body : List UInt8) : AV.agg [.val (.int .i64 number), .val (.int .i64 from_), .val (.int .i64 to_), .val (.string (.mk (List.toArray body)))] = .agg (Frame.cells ⟨number, from_, to_, body⟩) := rfl
def Frame.ok (d : Frame) : Prop := (-9223372036854775808 ≤ d.number ∧ d.number ≤ 9223372036854775807) ∧ (-9223372036854775808 ≤ d.from_ ∧ d.from_ ≤ 9223372036854775807) ∧ (-9223372036854775808 ≤ d.to_ ∧ d.to_ ≤ 9223372036854775807) ∧ d.body.length ≤ 140737488351232
theorem Frame.of_shaped {cs : List AV} (h : Shaped Try.prog 44 cs) (hc : cs.length = 4) : ∃ d : Frame, cs = d.cells ∧ d.ok := by
  have h := Shaped.leaves laidOut 8 44 [2, 3, 3, 9] cs (of_decide_eq_true (by kernel_rfl)) (by kernel_rfl) h (hc.trans (cells_size ti_44).symm)
  match cs, h with
  | [c0, c1, c2, c3], ⟨h0, h1, h2, h3, _⟩ =>
    obtain ⟨x0, rfl, w0⟩ := h0.i64 ti_2 rfl
    obtain ⟨x1, rfl, w1⟩ := h1.i64 ti_3 rfl
    obtain ⟨x2, rfl, w2⟩ := h2.i64 ti_3 rfl
    obtain ⟨x3, rfl, w3⟩ := h3.txt ti_9 rfl
    exact ⟨⟨x0, x1, x2, x3⟩, rfl, w0, w1, w2, w3⟩
def Way.same (d e : Way) : Bool := (d.from_ == e.from_) && ((d.to_ == e.to_))
theorem Way.same_is (d e : Way) : d.same e = decide (d = e) := by
  cases d; cases e; unfold Way.same; rw [Bool.eq_iff_iff]; simp [text_beq, text_inj]
theorem guard_60 : Try.prog.eqGuardType Try.prog.depth 60 = false := by kernel_rfl
theorem eqA_60 (d e : Way) : eqA Try.prog 20 60 (.agg d.cells) (.agg e.cells) = some (d.same e) := by kernel_rfl
theorem eq_60 (d e : Way) : cmpA Try.prog 60 .eql (.agg d.cells) (.agg e.cells) = some (.val (.bool (decide (d = e)))) := by
  rw [← Way.same_is]; simp only [cmpA, ti_60, binA, nilBin, isNilA, guard_60, eqA_60]
  rfl
theorem ne_60 (d e : Way) : cmpA Try.prog 60 .neq (.agg d.cells) (.agg e.cells) = some (.val (.bool (!decide (d = e)))) := by
  rw [← Way.same_is]; simp only [cmpA, ti_60, binA, nilBin, isNilA, guard_60, eqA_60]
  rfl
def Frame.same (d e : Frame) : Bool := (d.number == e.number) && ((d.from_ == e.from_) && ((d.to_ == e.to_) && (((⟨d.body.toArray⟩ : ByteArray).toList == (⟨e.body.toArray⟩ : ByteArray).toList))))
theorem Frame.same_is (d e : Frame) : d.same e = decide (d = e) := by
  cases d; cases e; unfold Frame.same; rw [Bool.eq_iff_iff]; simp [text_beq, text_inj]
theorem guard_44 : Try.prog.eqGuardType Try.prog.depth 44 = false := by kernel_rfl
theorem eqA_44 (d e : Frame) : eqA Try.prog 20 44 (.agg d.cells) (.agg e.cells) = some (d.same e) := by kernel_rfl
theorem ne_44 (d e : Frame) : cmpA Try.prog 44 .neq (.agg d.cells) (.agg e.cells) = some (.val (.bool (!decide (d = e)))) := by
  rw [← Frame.same_is]; simp only [cmpA, ti_44, binA, nilBin, isNilA, guard_44, eqA_44]
  rfl
structure Fl where
  next : Int
  list : List Frame
  cut : List Way
def Fl.rc (f : Fl) (x y : Bool) : List AV := [.val (.int .i64 f.next), .vs (f.list.map Frame.cells) x, .vs (f.cut.map Way.cells) y]
theorem Fl.g0 (f : Fl) (x y : Bool) : (f.rc x y)[0]? = some (.val (.int .i64 f.next)) := rfl
theorem Fl.g1 (f : Fl) (x y : Bool) : (f.rc x y)[1]? = some (.vs (f.list.map Frame.cells) x) := rfl
theorem Fl.g2 (f : Fl) (x y : Bool) : (f.rc x y)[2]? = some (.vs (f.cut.map Way.cells) y) := rfl
theorem Fl.len (f : Fl) (x y : Bool) : (f.rc x y).length = 3 := rfl
theorem Fl.all (f : Fl) (x y : Bool) : (f.rc x y).all AV.one = true := rfl
theorem Fl.take (f : Fl) (x y : Bool) : (f.rc x y).take 3 = f.rc x y := rfl
theorem Fl.drop (f : Fl) (x y : Bool) : (f.rc x y).drop 3 = [] := rfl
theorem Fl.sall (f g : Fl) (x y x' y' : Bool) : setRange (f.rc x y) 0 (g.rc x' y') = g.rc x' y' := rfl
theorem ix_22 (l : List Frame) (x : Bool) (kk : IntKind) (k : Int) (h0 : 0 ≤ k) (h1 : k < l.length) : indexAddrA Try.prog 22 (.vs (l.map Frame.cells) x) (.val (.int kk k)) = some (.vp (l.getD k.toNat default).cells 0) := index_vs Frame.cells ti_22 rfl ti_44 (fun _ => rfl) l x kk k h0 h1
theorem ix_23 (l : List Way) (x : Bool) (kk : IntKind) (k : Int) (h0 : 0 ≤ k) (h1 : k < l.length) : indexAddrA Try.prog 23 (.vs (l.map Way.cells) x) (.val (.int kk k)) = some (.vp (l.getD k.toNat default).cells 0) := index_vs Way.cells ti_23 rfl ti_60 (fun _ => rfl) l x kk k h0 h1
def lessW (a b : Way) : Bool := decide (a.from_ < b.from_) || (decide (a.from_ = b.from_) && decide (a.to_ < b.to_))
theorem F26 (a b : Way) : F Try.prog 26 [.agg a.cells, .agg b.cells] (.val (.bool (lessW a b))) := by
  refine F26_of ?_
  unfold k26 lessW
  repeat' first
    | simp -dsimp (disch := omega) only [↓rulesA, rulesB, rulesC, Int.reduceLT, nth, upd, put, storeN, AV.one, Nat.reduceBEq, Nat.reduceBNe, Int.reduceBEq, Int.reduceBNe, Int.reduceLE, Int.reduceEq, Int.reduceMod, Int.reduceNeg, boolBin, strBin, intBin, unA, fillA, ne_eq, reduceCtorEq, Nat.reduceAdd, Nat.reduceSub, Nat.reduceLeDiff, Nat.reduceLT, Nat.reduceEqDiff, Int.reduceToNat, eq_self, rulesT, rulesD, Way.g0, Way.g1, Way.len, Way.all, Way.take, Way.drop, Way.sall, *]
    | (refine allK_intro fun n hn => ?_; try simp only [fresh_set] at hn)
    | (refine ifK_intro (fun h => ?_) (fun h => ?_) <;> (try simp only [rulesE] at h) <;> try (exfalso; (try simp only [rulesF] at h); omega))
    | (refine keeps_sub (Mem.sub_set ?_) ?_; focus (simp [Mem.set_at, nomem, *]; done))
  all_goals exact New.eq (by simp_all) rfl
theorem F29 (a b : Way) : F Try.prog 29 [.agg a.cells, .agg b.cells] (.val (.bool (lessW b a))) := by
  refine F29_of ?_
  unfold k29 lessW
  repeat' first
    | simp -dsimp (disch := omega) only [↓rulesA, rulesB, rulesC, Int.reduceLT, nth, upd, put, storeN, AV.one, Nat.reduceBEq, Nat.reduceBNe, Int.reduceBEq, Int.reduceBNe, Int.reduceLE, Int.reduceEq, Int.reduceMod, Int.reduceNeg, boolBin, strBin, intBin, unA, fillA, ne_eq, reduceCtorEq, Nat.reduceAdd, Nat.reduceSub, Nat.reduceLeDiff, Nat.reduceLT, Nat.reduceEqDiff, Int.reduceToNat, eq_self, rulesT, rulesD, Way.g0, Way.g1, Way.len, Way.all, Way.take, Way.drop, Way.sall, *]
    | (refine allK_intro fun n hn => ?_; try simp only [fresh_set] at hn)
    | (refine ifK_intro (fun h => ?_) (fun h => ?_) <;> (try simp only [rulesE] at h) <;> try (exfalso; (try simp only [rulesF] at h); omega))
    | (refine keeps_sub (Mem.sub_set ?_) ?_; focus (simp [Mem.set_at, nomem, *]; done))
  all_goals
    refine New.eq (congrArg (fun b => AV.val (.bool b)) ?_) rfl
    first | (rw [Bool.eq_iff_iff]; done) | (rw [Bool.eq_iff_iff]; simp at *; done) | (rw [Bool.eq_iff_iff]; simp at *; omega)
end Go.Proofs.Ytdhbonjbjnodhaa

set_option maxRecDepth 100000
set_option maxHeartbeats 1000000
set_option linter.unusedSimpArgs false
set_option linter.unusedVariables false
namespace Go.Proofs.Ytdhbonjbjnodhaa
open Go.Abs
attribute [local irreducible] C X CC Y CV CW binK litK AppK PureC PureCV againK loopV rangeV allK ifK got onB condK V stepsK planK opK firstK seeE keepsK
def prevN (f : Fl) (i : Nat) : Int := if i = 0 then 0 else (f.list.getD (i - 1) default).number
def numOk (f : Fl) (i : Nat) : Bool := decide (prevN f i < (f.list.getD i default).number) && decide ((f.list.getD i default).number ≤ f.next)
def numTo (f : Fl) : Nat → Bool
  | 0 => true
  | i + 1 => numTo f i && numOk f i
def cutOk (l : List Way) (i : Nat) : Bool := !decide ((l.getD i default).from_ = (l.getD i default).to_) && (decide (i = 0) || lessW (l.getD (i - 1) default) (l.getD i default))
def cutTo (l : List Way) : Nat → Bool
  | 0 => true
  | i + 1 => cutTo l i && cutOk l i
theorem numTo_false {f : Fl} {i : Nat} (h : numOk f i = false) : ∀ n, i < n → numTo f n = false
  | n + 1, hi => by
    unfold numTo
    by_cases e : i = n
    · subst e; rw [h, Bool.and_false]
    · rw [numTo_false h n (by omega)]; rfl
theorem cutTo_false {l : List Way} {i : Nat} (h : cutOk l i = false) : ∀ n, i < n → cutTo l n = false
  | n + 1, hi => by
    unfold cutTo
    by_cases e : i = n
    · subst e; rw [h, Bool.and_false]
    · rw [cutTo_false h n (by omega)]; rfl
def fitB (f : Fl) : Bool := decide (0 ≤ f.next) && decide (f.next ≤ 4611686018427387904) && decide (f.list.length ≤ 65536) && numTo f f.list.length && cutTo f.cut f.cut.length
theorem fit_no {f : Fl} (h : ¬ (0 ≤ f.next ∧ f.next ≤ 4611686018427387904 ∧ f.list.length ≤ 65536)) : fitB f = false := by
  unfold fitB
  cases h1 : decide (0 ≤ f.next) with
  | false => rfl
  | true =>
    cases h2 : decide (f.next ≤ 4611686018427387904) with
    | false => rfl
    | true =>
      have : ¬ f.list.length ≤ 65536 := fun h3 => h ⟨of_decide_eq_true h1, of_decide_eq_true h2, h3⟩
      rw [decide_eq_false this]; rfl
theorem fit_yes {f : Fl} (h : 0 ≤ f.next ∧ f.next ≤ 4611686018427387904 ∧ f.list.length ≤ 65536) : fitB f = (numTo f f.list.length && cutTo f.cut f.cut.length) := by
  unfold fitB
  rw [decide_eq_true h.1, decide_eq_true h.2.1, decide_eq_true h.2.2]; rfl
theorem lessW_irrefl (a : Way) : lessW a a = false := by unfold lessW; simp
theorem F15 (f : Fl) (x y : Bool) (hcl : f.cut.length ≤ 140737488355328) : F Try.prog 15 [.agg (f.rc x y)] (.val (.bool (fitB f))) := by
  refine F15_of ?_
  unfold k15
  by_cases hh : 0 ≤ f.next ∧ f.next ≤ 4611686018427387904 ∧ f.list.length ≤ 65536
  · obtain ⟨h1, h2, h3⟩ := hh
    rw [fit_yes ⟨h1, h2, h3⟩]
    repeat' first
      | simp -dsimp (disch := omega) only [↓rulesA, rulesB, rulesC, Int.reduceLT, nth, upd, put, storeN, AV.one, Nat.reduceBEq, Nat.reduceBNe, Int.reduceBEq, Int.reduceBNe, Int.reduceLE, Int.reduceEq, Int.reduceMod, Int.reduceNeg, boolBin, strBin, intBin, unA, fillA, ne_eq, reduceCtorEq, Nat.reduceAdd, Nat.reduceSub, Nat.reduceLeDiff, Nat.reduceLT, Nat.reduceEqDiff, Int.reduceToNat, eq_self, rulesT, rulesD, Fl.g0, Fl.g1, Fl.g2, Fl.len, Fl.all, Fl.take, Fl.drop, Fl.sall, *]
      | (refine allK_intro fun n hn => ?_; try simp only [fresh_set] at hn)
      | (refine ifK_intro (fun h => ?_) (fun h => ?_) <;> (try simp only [rulesE] at h) <;> try (exfalso; (try simp only [rulesF] at h); omega))
      | (refine keeps_sub (Mem.sub_set ?_) ?_; focus (simp [Mem.set_at, nomem, *]; done))
    revert n
    intro a ha
    refine loop_intro (fun j env m => ∃ i : Nat, i ≤ f.list.length ∧ j = f.list.length - i ∧ m = nomem.set a (.cells false 25 (f.rc x y)) ∧ numTo f i = true ∧ env.length = 82 ∧ nth env 1 = .ptr a 0 ∧ nth env 3 = .val (.int .i64 (prevN f i)) ∧ nth env 23 = .vs (f.list.map Frame.cells) x ∧ nth env 24 = .val (.int .i64 f.list.length) ∧ nth env 25 = .val (.int .i64 i)) f.list.length _ (Mem.sub.refl _) ⟨0, by omega, rfl, rfl, rfl, rfl, rfl, rfl, rfl, rfl, rfl⟩ ?_
    rintro j env m ⟨i, hi, rfl, rfl, ht, hlen, e1, e3, e23, e24, e25⟩
    replace ht : Kept _ := ht
    by_cases hil : i < f.list.length
    · by_cases hk : numOk f i = true
      · have hk2 : prevN f i < (f.list.getD i default).number ∧ (f.list.getD i default).number ≤ f.next := by unfold numOk at hk; simpa using hk
        obtain ⟨k1, k2⟩ := hk2
        have ht' : Kept (numTo f (i + 1) = true) := by show _ = _; unfold numTo; rw [(ht : _ = _), hk]; rfl
        have hp : prevN f (i + 1) = (f.list.getD i default).number := by unfold prevN; rw [if_neg (by omega)]; rfl
        clear hk ht
        repeat' first
          | simp -dsimp (disch := omega) only [↓rulesA, rulesB, rulesC, Int.reduceLT, nth, upd, put, storeN, AV.one, Nat.reduceBEq, Nat.reduceBNe, Int.reduceBEq, Int.reduceBNe, Int.reduceLE, Int.reduceEq, Int.reduceMod, Int.reduceNeg, boolBin, strBin, intBin, unA, fillA, ne_eq, reduceCtorEq, Nat.reduceAdd, Nat.reduceSub, Nat.reduceLeDiff, Nat.reduceLT, Nat.reduceEqDiff, Int.reduceToNat, eq_self, rulesT, rulesD, ix_22, Fl.g0, Fl.g1, Fl.g2, Fl.len, Fl.all, Fl.take, Fl.drop, Fl.sall, Frame.g0, Frame.g1, Frame.g2, Frame.g3, Frame.len, Frame.all, Frame.take, Frame.drop, Frame.sall, *]
          | (refine allK_intro fun n hn => ?_; try simp only [fresh_set] at hn)
          | (refine ifK_intro (fun h => ?_) (fun h => ?_) <;> (try simp only [rulesE] at h) <;> try (exfalso; (try simp only [rulesF] at h); omega))
          | (refine keeps_sub (Mem.sub_set ?_) ?_; focus (simp [Mem.set_at, nomem, *]; done))
        refine again_intro (f.list.length - (i + 1)) (by omega) (nomem.set a (.cells false 25 (f.rc x y))) (nomem_set_sub (by simp [Mem.set_at, *])) ⟨i + 1, by omega, rfl, rfl, ht', ?_, ?_, ?_, ?_, ?_, ?_⟩
        all_goals try (simp (disch := omega) only [nth_upd, pickB_true, pickB_false, inB_lt, upd_len, cast_succ, Int.cast_ofNat_Int, Nat.reduceBEq, beq_self_eq_true, reduceCtorEq, *]; done)
      · have hk' : numOk f i = false := by simpa using hk
        have hk2 : ¬ (prevN f i < (f.list.getD i default).number ∧ (f.list.getD i default).number ≤ f.next) := fun h => hk (by unfold numOk; rw [decide_eq_true h.1, decide_eq_true h.2]; rfl)
        rw [numTo_false hk' _ hil, Bool.false_and]
        clear hk hk'
        replace hk2 : Kept _ := hk2
        repeat' first
          | simp -dsimp (disch := omega) only [↓rulesA, rulesB, rulesC, Int.reduceLT, nth, upd, put, storeN, AV.one, Nat.reduceBEq, Nat.reduceBNe, Int.reduceBEq, Int.reduceBNe, Int.reduceLE, Int.reduceEq, Int.reduceMod, Int.reduceNeg, boolBin, strBin, intBin, unA, fillA, ne_eq, reduceCtorEq, Nat.reduceAdd, Nat.reduceSub, Nat.reduceLeDiff, Nat.reduceLT, Nat.reduceEqDiff, Int.reduceToNat, eq_self, rulesT, rulesD, ix_22, Fl.g0, Fl.g1, Fl.g2, Fl.len, Fl.all, Fl.take, Fl.drop, Fl.sall, Frame.g0, Frame.g1, Frame.g2, Frame.g3, Frame.len, Frame.all, Frame.take, Frame.drop, Frame.sall, *]
          | (refine allK_intro fun n hn => ?_; try simp only [fresh_set] at hn)
          | (refine ifK_intro (fun h => ?_) (fun h => ?_) <;> (try simp only [rulesE] at h) <;> try (exfalso; (try simp only [rulesF] at h); omega))
          | (refine keeps_sub (Mem.sub_set ?_) ?_; focus (simp [Mem.set_at, nomem, *]; done))
        all_goals first | exact .val | (exfalso; exact (hk2 : ¬ _) ⟨by omega, by omega⟩)
    · have hi' : i = f.list.length := by omega
      subst hi'
      rw [(ht : _ = _), Bool.true_and]
      clear ht hil
      repeat' first
        | simp -dsimp (disch := omega) only [↓rulesA, rulesB, rulesC, Int.reduceLT, nth, upd, put, storeN, AV.one, Nat.reduceBEq, Nat.reduceBNe, Int.reduceBEq, Int.reduceBNe, Int.reduceLE, Int.reduceEq, Int.reduceMod, Int.reduceNeg, boolBin, strBin, intBin, unA, fillA, ne_eq, reduceCtorEq, Nat.reduceAdd, Nat.reduceSub, Nat.reduceLeDiff, Nat.reduceLT, Nat.reduceEqDiff, Int.reduceToNat, eq_self, rulesT, rulesD, Fl.g0, Fl.g1, Fl.g2, Fl.len, Fl.all, Fl.take, Fl.drop, Fl.sall, *]
        | (refine allK_intro fun n hn => ?_; try simp only [fresh_set] at hn)
        | (refine ifK_intro (fun h => ?_) (fun h => ?_) <;> (try simp only [rulesE] at h) <;> try (exfalso; (try simp only [rulesF] at h); omega))
        | (refine keeps_sub (Mem.sub_set ?_) ?_; focus (simp [Mem.set_at, nomem, *]; done))
      refine loop_intro (fun j env m => ∃ i : Nat, i ≤ f.cut.length ∧ j = f.cut.length - i ∧ m = nomem.set a (.cells false 25 (f.rc x y)) ∧ cutTo f.cut i = true ∧ env.length = 82 ∧ nth env 1 = .ptr a 0 ∧ nth env 44 = .vs (f.cut.map Way.cells) y ∧ nth env 45 = .val (.int .i64 f.cut.length) ∧ nth env 46 = .val (.int .i64 i)) f.cut.length _ (Mem.sub.refl _) ⟨0, by omega, rfl, rfl, rfl, ?_, ?_, ?_, ?_, ?_⟩ ?_
      · all_goals try (simp (disch := omega) only [nth_upd, pickB_true, pickB_false, inB_lt, upd_len, cast_succ, Int.cast_ofNat_Int, Nat.reduceBEq, beq_self_eq_true, reduceCtorEq, *]; done)
      · all_goals try (simp (disch := omega) only [nth_upd, pickB_true, pickB_false, inB_lt, upd_len, cast_succ, Int.cast_ofNat_Int, Nat.reduceBEq, beq_self_eq_true, reduceCtorEq, *]; done)
      · all_goals try (simp (disch := omega) only [nth_upd, pickB_true, pickB_false, inB_lt, upd_len, cast_succ, Int.cast_ofNat_Int, Nat.reduceBEq, beq_self_eq_true, reduceCtorEq, *]; done)
      · all_goals try (simp (disch := omega) only [nth_upd, pickB_true, pickB_false, inB_lt, upd_len, cast_succ, Int.cast_ofNat_Int, Nat.reduceBEq, beq_self_eq_true, reduceCtorEq, *]; done)
      · all_goals try (simp (disch := omega) only [nth_upd, pickB_true, pickB_false, inB_lt, upd_len, cast_succ, Int.cast_ofNat_Int, Nat.reduceBEq, beq_self_eq_true, reduceCtorEq, *]; done)
      clear hlen e1 e3 e23 e24 e25
      rintro j env m ⟨i, hi, rfl, rfl, ht, hlen, e1, e44, e45, e46⟩
      replace ht : Kept _ := ht
      by_cases hil : i < f.cut.length
      · have f29 := F29 (f.cut.getD i default) (f.cut.getD (i - 1) default)
        have eI : ((i : Int) - 1).toNat = i - 1 := by omega
        have hir := lessW_irrefl (f.cut.getD i default)
        have hok : cutOk f.cut i = (!decide ((f.cut.getD i default).from_ = (f.cut.getD i default).to_) && (decide (i = 0) || lessW (f.cut.getD (i - 1) default) (f.cut.getD i default))) := rfl
        have hnx : ∀ b, cutOk f.cut i = b → Kept (cutTo f.cut (i + 1) = b) := fun b hb => by show _ = _; unfold cutTo; rw [(ht : _ = _), hb]; rfl
        have hno : cutOk f.cut i = false → Kept (cutTo f.cut f.cut.length = false) := fun hb => cutTo_false hb _ hil
        replace hok : Kept _ := hok
        clear ht
        repeat' first
          | simp -dsimp (disch := omega) only [↓rulesA, rulesB, rulesC, Int.reduceLT, nth, upd, put, storeN, AV.one, Nat.reduceBEq, Nat.reduceBNe, Int.reduceBEq, Int.reduceBNe, Int.reduceLE, Int.reduceEq, Int.reduceMod, Int.reduceNeg, boolBin, strBin, intBin, unA, fillA, ne_eq, reduceCtorEq, Nat.reduceAdd, Nat.reduceSub, Nat.reduceLeDiff, Nat.reduceLT, Nat.reduceEqDiff, Int.reduceToNat, eq_self, rulesT, rulesD, ix_23, eq_60, eI, Fl.g0, Fl.g1, Fl.g2, Fl.len, Fl.all, Fl.take, Fl.drop, Fl.sall, Way.g0, Way.g1, Way.len, Way.all, Way.take, Way.drop, Way.sall, *]
          | (refine allK_intro fun n hn => ?_; try simp only [fresh_set] at hn)
          | (refine ifK_intro (fun h => ?_) (fun h => ?_) <;> (try simp only [rulesE] at h) <;> try (exfalso; (try simp only [rulesF] at h); omega))
          | (refine keeps_sub (Mem.sub_set ?_) ?_; focus (simp [Mem.set_at, nomem, *]; done))
          | (refine call_F (f29) (Seens.refl _ _) ?_)
          | (refine pure_F (f29) (Seens.refl _ _) ?_)
        all_goals try simp only [beq_iff_eq, beq_eq_false_iff_ne, ne_eq] at *
        all_goals first
          | (have hk : cutOk f.cut i = false := by
              rw [(hok : _ = _)]
              clear hok hnx hno f29 e1 e44 e45 e46 hlen
              generalize f.cut.getD i default = w at *
              generalize f.cut.getD (i - 1) default = w' at *
              grind
             rw [show cutTo f.cut f.cut.length = false from hno hk]
             exact .val)
          | (have hk : cutOk f.cut i = true := by
              rw [(hok : _ = _)]
              clear hok hnx hno f29 e1 e44 e45 e46 hlen
              generalize f.cut.getD i default = w at *
              generalize f.cut.getD (i - 1) default = w' at *
              grind
             have ht' := hnx _ hk
             clear hnx hno hok hk f29
             refine again_intro (f.cut.length - (i + 1)) (by omega) (nomem.set a (.cells false 25 (f.rc x y))) (nomem_set_sub (by simp [Mem.set_at, *])) ⟨i + 1, by omega, rfl, rfl, ht', ?_, ?_, ?_, ?_, ?_⟩
             all_goals try (simp (disch := omega) only [nth_upd, pickB_true, pickB_false, inB_lt, upd_len, cast_succ, Int.cast_ofNat_Int, Nat.reduceBEq, beq_self_eq_true, reduceCtorEq, *]; done)
             done)
      · have hi' : i = f.cut.length := by omega
        subst hi'
        rw [show cutTo f.cut f.cut.length = true from ht]
        repeat' first
          | simp -dsimp (disch := omega) only [↓rulesA, rulesB, rulesC, Int.reduceLT, nth, upd, put, storeN, AV.one, Nat.reduceBEq, Nat.reduceBNe, Int.reduceBEq, Int.reduceBNe, Int.reduceLE, Int.reduceEq, Int.reduceMod, Int.reduceNeg, boolBin, strBin, intBin, unA, fillA, ne_eq, reduceCtorEq, Nat.reduceAdd, Nat.reduceSub, Nat.reduceLeDiff, Nat.reduceLT, Nat.reduceEqDiff, Int.reduceToNat, eq_self, rulesT, rulesD, Fl.g0, Fl.g1, Fl.g2, Fl.len, Fl.all, Fl.take, Fl.drop, Fl.sall, *]
          | (refine allK_intro fun n hn => ?_; try simp only [fresh_set] at hn)
          | (refine ifK_intro (fun h => ?_) (fun h => ?_) <;> (try simp only [rulesE] at h) <;> try (exfalso; (try simp only [rulesF] at h); omega))
          | (refine keeps_sub (Mem.sub_set ?_) ?_; focus (simp [Mem.set_at, nomem, *]; done))
        exact .val
  · rw [fit_no hh]
    replace hh : Kept _ := hh
    repeat' first
      | simp -dsimp (disch := omega) only [↓rulesA, rulesB, rulesC, Int.reduceLT, nth, upd, put, storeN, AV.one, Nat.reduceBEq, Nat.reduceBNe, Int.reduceBEq, Int.reduceBNe, Int.reduceLE, Int.reduceEq, Int.reduceMod, Int.reduceNeg, boolBin, strBin, intBin, unA, fillA, ne_eq, reduceCtorEq, Nat.reduceAdd, Nat.reduceSub, Nat.reduceLeDiff, Nat.reduceLT, Nat.reduceEqDiff, Int.reduceToNat, eq_self, rulesT, rulesD, Fl.g0, Fl.g1, Fl.g2, Fl.len, Fl.all, Fl.take, Fl.drop, Fl.sall, *]
      | (refine allK_intro fun n hn => ?_; try simp only [fresh_set] at hn)
      | (refine ifK_intro (fun h => ?_) (fun h => ?_) <;> (try simp only [rulesE] at h) <;> try (exfalso; (try simp only [rulesF] at h); omega))
      | (refine keeps_sub (Mem.sub_set ?_) ?_; focus (simp [Mem.set_at, nomem, *]; done))
    all_goals first | exact .val | (exfalso; exact (hh : ¬ _) ⟨by omega, by omega, by omega⟩)
end Go.Proofs.Ytdhbonjbjnodhaa

set_option maxRecDepth 100000
set_option maxHeartbeats 1000000
set_option linter.unusedSimpArgs false
set_option linter.unusedVariables false
namespace Go.Proofs.Ytdhbonjbjnodhaa
open Go.Abs
attribute [local irreducible] C X CC Y CV CW binK litK AppK PureC PureCV againK loopV rangeV allK ifK got onB condK V stepsK planK opK firstK seeE keepsK
theorem F8 (f : Fl) (x y : Bool) (hcl : f.cut.length ≤ 140737488355328) : F Try.prog 8 [.agg (f.rc x y)] (.val (.bool (fitB f))) := by
  refine F8_of ?_
  unfold k8
  by_cases hh : 0 ≤ f.next ∧ f.next ≤ 4611686018427387904 ∧ f.list.length ≤ 65536
  · obtain ⟨h1, h2, h3⟩ := hh
    rw [fit_yes ⟨h1, h2, h3⟩]
    repeat' first
      | simp -dsimp (disch := omega) only [↓rulesA, rulesB, rulesC, Int.reduceLT, nth, upd, put, storeN, AV.one, Nat.reduceBEq, Nat.reduceBNe, Int.reduceBEq, Int.reduceBNe, Int.reduceLE, Int.reduceEq, Int.reduceMod, Int.reduceNeg, boolBin, strBin, intBin, unA, fillA, ne_eq, reduceCtorEq, Nat.reduceAdd, Nat.reduceSub, Nat.reduceLeDiff, Nat.reduceLT, Nat.reduceEqDiff, Int.reduceToNat, eq_self, rulesT, rulesD, Fl.g0, Fl.g1, Fl.g2, Fl.len, Fl.all, Fl.take, Fl.drop, Fl.sall, *]
      | (refine allK_intro fun n hn => ?_; try simp only [fresh_set] at hn)
      | (refine ifK_intro (fun h => ?_) (fun h => ?_) <;> (try simp only [rulesE] at h) <;> try (exfalso; (try simp only [rulesF] at h); omega))
      | (refine keeps_sub (Mem.sub_set ?_) ?_; focus (simp [Mem.set_at, nomem, *]; done))
    revert n
    intro a ha
    refine loop_intro (fun j env m => ∃ i : Nat, i ≤ f.list.length ∧ j = f.list.length - i ∧ m = nomem.set a (.cells false 25 (f.rc x y)) ∧ numTo f i = true ∧ env.length = 95 ∧ nth env 1 = .ptr a 0 ∧ nth env 3 = .val (.int .i64 i)) f.list.length _ (Mem.sub.refl _) ⟨0, by omega, rfl, rfl, rfl, rfl, rfl, rfl⟩ ?_
    rintro j env m ⟨i, hi, rfl, rfl, ht, hlen, e1, e3⟩
    replace ht : Kept _ := ht
    by_cases hil : i < f.list.length
    · have eI : ((i : Int) - 1).toNat = i - 1 := by omega
      have hok : numOk f i = (decide (prevN f i < (f.list.getD i default).number) && decide ((f.list.getD i default).number ≤ f.next)) := rfl
      have hp : prevN f i = if i = 0 then 0 else (f.list.getD (i - 1) default).number := rfl
      have hnx : ∀ b, numOk f i = b → Kept (numTo f (i + 1) = b) := fun b hb => by show _ = _; unfold numTo; rw [(ht : _ = _), hb]; rfl
      have hno : numOk f i = false → Kept (numTo f f.list.length = false) := fun hb => numTo_false hb _ hil
      have hpos : 0 < i → numOk f (i - 1) = true := fun h0 => by
        have := (ht : numTo f i = true)
        obtain ⟨q, rfl⟩ : ∃ q, i = q + 1 := ⟨i - 1, by omega⟩
        unfold numTo at this
        simp only [Bool.and_eq_true] at this
        exact this.2
      have hge : 0 ≤ prevN f i := by
        have : ∀ k, numTo f k = true → 0 ≤ prevN f k := by
          intro k
          induction k with
          | zero => intro _; exact Int.le_refl 0
          | succ k ih =>
            intro h
            unfold numTo numOk at h
            simp only [Bool.and_eq_true, decide_eq_true_eq] at h
            have := ih h.1
            show 0 ≤ if k + 1 = 0 then 0 else (f.list.getD (k + 1 - 1) default).number
            rw [if_neg (by omega), Nat.add_sub_cancel]; omega
        exact this i ht
      replace hok : Kept _ := hok
      replace hp : Kept _ := hp
      clear ht hpos
      replace hge : Kept _ := hge
      repeat' first
        | simp -dsimp (disch := omega) only [↓rulesA, rulesB, rulesC, Int.reduceLT, nth, upd, put, storeN, AV.one, Nat.reduceBEq, Nat.reduceBNe, Int.reduceBEq, Int.reduceBNe, Int.reduceLE, Int.reduceEq, Int.reduceMod, Int.reduceNeg, boolBin, strBin, intBin, unA, fillA, ne_eq, reduceCtorEq, Nat.reduceAdd, Nat.reduceSub, Nat.reduceLeDiff, Nat.reduceLT, Nat.reduceEqDiff, Int.reduceToNat, eq_self, rulesT, rulesD, ix_22, eI, Fl.g0, Fl.g1, Fl.g2, Fl.len, Fl.all, Fl.take, Fl.drop, Fl.sall, Frame.g0, Frame.g1, Frame.g2, Frame.g3, Frame.len, Frame.all, Frame.take, Frame.drop, Frame.sall, *]
        | (refine allK_intro fun n hn => ?_; try simp only [fresh_set] at hn)
        | (refine ifK_intro (fun h => ?_) (fun h => ?_) <;> (try simp only [rulesE] at h) <;> try (exfalso; (try simp only [rulesF] at h); omega))
        | (refine keeps_sub (Mem.sub_set ?_) ?_; focus (simp [Mem.set_at, nomem, *]; done))
      all_goals first
        | (have hk : numOk f i = false := by
            have hge' : 0 ≤ prevN f i := hge
            rw [(hok : _ = _), Bool.and_eq_false_iff, decide_eq_false_iff_not, decide_eq_false_iff_not]
            rw [(hp : _ = _)] at hge' ⊢
            clear hok hnx hno e1 e3 hlen hge hp
            by_cases hi0 : i = 0
            · rw [if_pos hi0] at hge' ⊢; omega
            · rw [if_neg hi0] at hge' ⊢; omega
           rw [show numTo f f.list.length = false from hno hk]
           exact .val)
        | (have hk : numOk f i = true := by
            have hge' : 0 ≤ prevN f i := hge
            rw [(hok : _ = _), Bool.and_eq_true, decide_eq_true_eq, decide_eq_true_eq]
            rw [(hp : _ = _)] at hge' ⊢
            clear hok hnx hno e1 e3 hlen hge hp
            by_cases hi0 : i = 0
            · rw [if_pos hi0] at hge' ⊢; omega
            · rw [if_neg hi0] at hge' ⊢; omega
           have ht' := hnx _ hk
           clear hnx hno hok hk
           refine again_intro (f.list.length - (i + 1)) (by omega) (nomem.set a (.cells false 25 (f.rc x y))) (nomem_set_sub (by simp [Mem.set_at, *])) ⟨i + 1, by omega, rfl, rfl, ht', ?_, ?_, ?_⟩
           all_goals try (simp (disch := omega) only [nth_upd, pickB_true, pickB_false, inB_lt, upd_len, cast_succ, Int.cast_ofNat_Int, Nat.reduceBEq, beq_self_eq_true, reduceCtorEq, *]; done)
           done)
    · have hi' : i = f.list.length := by omega
      subst hi'
      rw [(ht : _ = _), Bool.true_and]
      clear ht hil
      repeat' first
        | simp -dsimp (disch := omega) only [↓rulesA, rulesB, rulesC, Int.reduceLT, nth, upd, put, storeN, AV.one, Nat.reduceBEq, Nat.reduceBNe, Int.reduceBEq, Int.reduceBNe, Int.reduceLE, Int.reduceEq, Int.reduceMod, Int.reduceNeg, boolBin, strBin, intBin, unA, fillA, ne_eq, reduceCtorEq, Nat.reduceAdd, Nat.reduceSub, Nat.reduceLeDiff, Nat.reduceLT, Nat.reduceEqDiff, Int.reduceToNat, eq_self, rulesT, rulesD, Fl.g0, Fl.g1, Fl.g2, Fl.len, Fl.all, Fl.take, Fl.drop, Fl.sall, *]
        | (refine allK_intro fun n hn => ?_; try simp only [fresh_set] at hn)
        | (refine ifK_intro (fun h => ?_) (fun h => ?_) <;> (try simp only [rulesE] at h) <;> try (exfalso; (try simp only [rulesF] at h); omega))
        | (refine keeps_sub (Mem.sub_set ?_) ?_; focus (simp [Mem.set_at, nomem, *]; done))
      refine loop_intro (fun j env m => ∃ i : Nat, i ≤ f.cut.length ∧ j = f.cut.length - i ∧ m = nomem.set a (.cells false 25 (f.rc x y)) ∧ cutTo f.cut i = true ∧ env.length = 95 ∧ nth env 1 = .ptr a 0 ∧ nth env 5 = .val (.int .i64 i)) f.cut.length _ (Mem.sub.refl _) ⟨0, by omega, rfl, rfl, rfl, ?_, ?_, ?_⟩ ?_
      · all_goals try (simp (disch := omega) only [nth_upd, pickB_true, pickB_false, inB_lt, upd_len, cast_succ, Int.cast_ofNat_Int, Nat.reduceBEq, beq_self_eq_true, reduceCtorEq, *]; done)
      · all_goals try (simp (disch := omega) only [nth_upd, pickB_true, pickB_false, inB_lt, upd_len, cast_succ, Int.cast_ofNat_Int, Nat.reduceBEq, beq_self_eq_true, reduceCtorEq, *]; done)
      · all_goals try (simp (disch := omega) only [nth_upd, pickB_true, pickB_false, inB_lt, upd_len, cast_succ, Int.cast_ofNat_Int, Nat.reduceBEq, beq_self_eq_true, reduceCtorEq, *]; done)
      clear hlen e1 e3
      rintro j env m ⟨i, hi, rfl, rfl, ht, hlen, e1, e5⟩
      replace ht : Kept _ := ht
      by_cases hil : i < f.cut.length
      · have f26 := F26 (f.cut.getD (i - 1) default) (f.cut.getD i default)
        have eI : ((i : Int) - 1).toNat = i - 1 := by omega
        have hok : cutOk f.cut i = (!decide ((f.cut.getD i default).from_ = (f.cut.getD i default).to_) && (decide (i = 0) || lessW (f.cut.getD (i - 1) default) (f.cut.getD i default))) := rfl
        have hnx : ∀ b, cutOk f.cut i = b → Kept (cutTo f.cut (i + 1) = b) := fun b hb => by show _ = _; unfold cutTo; rw [(ht : _ = _), hb]; rfl
        have hno : cutOk f.cut i = false → Kept (cutTo f.cut f.cut.length = false) := fun hb => cutTo_false hb _ hil
        replace hok : Kept _ := hok
        clear ht
        repeat' first
          | simp -dsimp (disch := omega) only [↓rulesA, rulesB, rulesC, Int.reduceLT, nth, upd, put, storeN, AV.one, Nat.reduceBEq, Nat.reduceBNe, Int.reduceBEq, Int.reduceBNe, Int.reduceLE, Int.reduceEq, Int.reduceMod, Int.reduceNeg, boolBin, strBin, intBin, unA, fillA, ne_eq, reduceCtorEq, Nat.reduceAdd, Nat.reduceSub, Nat.reduceLeDiff, Nat.reduceLT, Nat.reduceEqDiff, Int.reduceToNat, eq_self, rulesT, rulesD, ix_23, eq_60, eI, Fl.g0, Fl.g1, Fl.g2, Fl.len, Fl.all, Fl.take, Fl.drop, Fl.sall, Way.g0, Way.g1, Way.len, Way.all, Way.take, Way.drop, Way.sall, *]
          | (refine allK_intro fun n hn => ?_; try simp only [fresh_set] at hn)
          | (refine ifK_intro (fun h => ?_) (fun h => ?_) <;> (try simp only [rulesE] at h) <;> try (exfalso; (try simp only [rulesF] at h); omega))
          | (refine keeps_sub (Mem.sub_set ?_) ?_; focus (simp [Mem.set_at, nomem, *]; done))
          | (refine call_F (f26) (Seens.refl _ _) ?_)
          | (refine pure_F (f26) (Seens.refl _ _) ?_)
        all_goals try simp only [beq_iff_eq, beq_eq_false_iff_ne, ne_eq] at *
        all_goals first
          | (have hk : cutOk f.cut i = false := by
              rw [(hok : _ = _)]
              clear hok hnx hno f26 e1 e5 hlen
              generalize f.cut.getD i default = w at *
              generalize f.cut.getD (i - 1) default = w' at *
              grind
             rw [show cutTo f.cut f.cut.length = false from hno hk]
             exact .val)
          | (have hk : cutOk f.cut i = true := by
              rw [(hok : _ = _)]
              clear hok hnx hno f26 e1 e5 hlen
              generalize f.cut.getD i default = w at *
              generalize f.cut.getD (i - 1) default = w' at *
              grind
             have ht' := hnx _ hk
             clear hnx hno hok hk f26
             refine again_intro (f.cut.length - (i + 1)) (by omega) (nomem.set a (.cells false 25 (f.rc x y))) (nomem_set_sub (by simp [Mem.set_at, *])) ⟨i + 1, by omega, rfl, rfl, ht', ?_, ?_, ?_⟩
             all_goals try (simp (disch := omega) only [nth_upd, pickB_true, pickB_false, inB_lt, upd_len, cast_succ, Int.cast_ofNat_Int, Nat.reduceBEq, beq_self_eq_true, reduceCtorEq, *]; done)
             done)
      · have hi' : i = f.cut.length := by omega
        subst hi'
        rw [show cutTo f.cut f.cut.length = true from ht]
        repeat' first
          | simp -dsimp (disch := omega) only [↓rulesA, rulesB, rulesC, Int.reduceLT, nth, upd, put, storeN, AV.one, Nat.reduceBEq, Nat.reduceBNe, Int.reduceBEq, Int.reduceBNe, Int.reduceLE, Int.reduceEq, Int.reduceMod, Int.reduceNeg, boolBin, strBin, intBin, unA, fillA, ne_eq, reduceCtorEq, Nat.reduceAdd, Nat.reduceSub, Nat.reduceLeDiff, Nat.reduceLT, Nat.reduceEqDiff, Int.reduceToNat, eq_self, rulesT, rulesD, Fl.g0, Fl.g1, Fl.g2, Fl.len, Fl.all, Fl.take, Fl.drop, Fl.sall, *]
          | (refine allK_intro fun n hn => ?_; try simp only [fresh_set] at hn)
          | (refine ifK_intro (fun h => ?_) (fun h => ?_) <;> (try simp only [rulesE] at h) <;> try (exfalso; (try simp only [rulesF] at h); omega))
          | (refine keeps_sub (Mem.sub_set ?_) ?_; focus (simp [Mem.set_at, nomem, *]; done))
        exact .val
  · rw [fit_no hh]
    replace hh : Kept _ := hh
    repeat' first
      | simp -dsimp (disch := omega) only [↓rulesA, rulesB, rulesC, Int.reduceLT, nth, upd, put, storeN, AV.one, Nat.reduceBEq, Nat.reduceBNe, Int.reduceBEq, Int.reduceBNe, Int.reduceLE, Int.reduceEq, Int.reduceMod, Int.reduceNeg, boolBin, strBin, intBin, unA, fillA, ne_eq, reduceCtorEq, Nat.reduceAdd, Nat.reduceSub, Nat.reduceLeDiff, Nat.reduceLT, Nat.reduceEqDiff, Int.reduceToNat, eq_self, rulesT, rulesD, Fl.g0, Fl.g1, Fl.g2, Fl.len, Fl.all, Fl.take, Fl.drop, Fl.sall, *]
      | (refine allK_intro fun n hn => ?_; try simp only [fresh_set] at hn)
      | (refine ifK_intro (fun h => ?_) (fun h => ?_) <;> (try simp only [rulesE] at h) <;> try (exfalso; (try simp only [rulesF] at h); omega))
      | (refine keeps_sub (Mem.sub_set ?_) ?_; focus (simp [Mem.set_at, nomem, *]; done))
    all_goals first | exact .val | (exfalso; exact (hh : ¬ _) ⟨by omega, by omega, by omega⟩)
theorem tk_next {α : Type} [Inhabited α] (L : List α) (k : Nat) (h : k < L.length) : L.take (k + 1) = L.take k ++ [L.getD k default] := by
  rw [List.take_add_one, List.getD_eq_getElem?_getD, List.getElem?_eq_getElem h]; rfl
theorem F30 (a b : List Frame) (x y : Bool) (ha : a.length ≤ 140737488355328) : F Try.prog 30 [.vs (a.map Frame.cells) x, .vs (b.map Frame.cells) y] (.val (.bool (decide (a = b)))) := by
  refine F30_of ?_
  unfold k30
  by_cases hl : a.length = b.length
  · repeat' first
      | simp -dsimp (disch := omega) only [↓rulesA, rulesB, rulesC, Int.reduceLT, nth, upd, put, storeN, AV.one, Nat.reduceBEq, Nat.reduceBNe, Int.reduceBEq, Int.reduceBNe, Int.reduceLE, Int.reduceEq, Int.reduceMod, Int.reduceNeg, boolBin, strBin, intBin, unA, fillA, ne_eq, reduceCtorEq, Nat.reduceAdd, Nat.reduceSub, Nat.reduceLeDiff, Nat.reduceLT, Nat.reduceEqDiff, Int.reduceToNat, eq_self, rulesT, rulesD, *]
      | (refine allK_intro fun n hn => ?_; try simp only [fresh_set] at hn)
      | (refine ifK_intro (fun h => ?_) (fun h => ?_) <;> (try simp only [rulesE] at h) <;> try (exfalso; (try simp only [rulesF] at h); omega))
      | (refine keeps_sub (Mem.sub_set ?_) ?_; focus (simp [Mem.set_at, nomem, *]; done))
    refine loop_intro (fun j env m => ∃ i : Nat, i ≤ a.length ∧ j = a.length - i ∧ m = nomem ∧ a.take i = b.take i ∧ env.length = 26 ∧ nth env 0 = .vs (a.map Frame.cells) x ∧ nth env 1 = .vs (b.map Frame.cells) y ∧ nth env 12 = .val (.int .i64 a.length) ∧ nth env 13 = .val (.int .i64 i)) a.length _ (Mem.sub.refl _) ⟨0, by omega, rfl, rfl, rfl, rfl, rfl, rfl, by rw [hl]; rfl, rfl⟩ ?_
    rintro j env m ⟨i, hi, rfl, rfl, ht, hlen, e0, e1, e12, e13⟩
    replace ht : Kept _ := ht
    rw [hl] at e12
    repeat' first
      | simp -dsimp (disch := omega) only [↓rulesA, rulesB, rulesC, Int.reduceLT, nth, upd, put, storeN, AV.one, Nat.reduceBEq, Nat.reduceBNe, Int.reduceBEq, Int.reduceBNe, Int.reduceLE, Int.reduceEq, Int.reduceMod, Int.reduceNeg, boolBin, strBin, intBin, unA, fillA, ne_eq, reduceCtorEq, Nat.reduceAdd, Nat.reduceSub, Nat.reduceLeDiff, Nat.reduceLT, Nat.reduceEqDiff, Int.reduceToNat, eq_self, rulesT, rulesD, ix_22, ne_44, Frame.g0, Frame.g1, Frame.g2, Frame.g3, Frame.len, Frame.all, Frame.take, Frame.drop, Frame.sall, *]
      | (refine allK_intro fun n hn => ?_; try simp only [fresh_set] at hn)
      | (refine ifK_intro (fun h => ?_) (fun h => ?_) <;> (try simp only [rulesE] at h) <;> try (exfalso; (try simp only [rulesF] at h); omega))
      | (refine keeps_sub (Mem.sub_set ?_) ?_; focus (simp [Mem.set_at, nomem, *]; done))
    · have hne : a.getD i default ≠ b.getD i default := by simpa using h
      rw [decide_eq_false fun e => hne (by rw [e])]
      exact .val
    · have heq : a.getD i default = b.getD i default := by simpa using h
      have ht' : a.take (i + 1) = b.take (i + 1) := by rw [tk_next a i (by omega), tk_next b i (by omega), heq, (ht : _ = _)]
      clear h
      refine again_intro (b.length - (i + 1)) (by omega) _ (Mem.sub.refl _) ⟨i + 1, by omega, by omega, rfl, ht', ?_, ?_, ?_, ?_, ?_⟩
      all_goals try (simp (disch := omega) only [nth_upd, pickB_true, pickB_false, inB_lt, upd_len, cast_succ, Int.cast_ofNat_Int, Nat.reduceBEq, beq_self_eq_true, reduceCtorEq, *]; done)
    · have hi' : i = b.length := by omega
      have e : a = b := by
        have ht' : a.take i = b.take i := ht
        rw [List.take_of_length_le (by omega), List.take_of_length_le (by omega)] at ht'
        exact ht'
      rw [decide_eq_true e]
      exact .val
  · have e : ¬ a = b := fun h => hl (congrArg _ h)
    rw [decide_eq_false e]
    have hne : ((a.length : Int) != b.length) = true := by rw [bne_iff_ne]; omega
    repeat' first
      | simp -dsimp (disch := omega) only [↓rulesA, rulesB, rulesC, Int.reduceLT, nth, upd, put, storeN, AV.one, Nat.reduceBEq, Nat.reduceBNe, Int.reduceBEq, Int.reduceBNe, Int.reduceLE, Int.reduceEq, Int.reduceMod, Int.reduceNeg, boolBin, strBin, intBin, unA, fillA, ne_eq, reduceCtorEq, Nat.reduceAdd, Nat.reduceSub, Nat.reduceLeDiff, Nat.reduceLT, Nat.reduceEqDiff, Int.reduceToNat, eq_self, rulesT, rulesD, *]
      | (refine allK_intro fun n hn => ?_; try simp only [fresh_set] at hn)
      | (refine ifK_intro (fun h => ?_) (fun h => ?_) <;> (try simp only [rulesE] at h) <;> try (exfalso; (try simp only [rulesF] at h); omega))
      | (refine keeps_sub (Mem.sub_set ?_) ?_; focus (simp [Mem.set_at, nomem, *]; done))
    exact .val
theorem F31 (a b : List Way) (x y : Bool) (ha : a.length ≤ 140737488355328) : F Try.prog 31 [.vs (a.map Way.cells) x, .vs (b.map Way.cells) y] (.val (.bool (decide (a = b)))) := by
  refine F31_of ?_
  unfold k31
  by_cases hl : a.length = b.length
  · repeat' first
      | simp -dsimp (disch := omega) only [↓rulesA, rulesB, rulesC, Int.reduceLT, nth, upd, put, storeN, AV.one, Nat.reduceBEq, Nat.reduceBNe, Int.reduceBEq, Int.reduceBNe, Int.reduceLE, Int.reduceEq, Int.reduceMod, Int.reduceNeg, boolBin, strBin, intBin, unA, fillA, ne_eq, reduceCtorEq, Nat.reduceAdd, Nat.reduceSub, Nat.reduceLeDiff, Nat.reduceLT, Nat.reduceEqDiff, Int.reduceToNat, eq_self, rulesT, rulesD, *]
      | (refine allK_intro fun n hn => ?_; try simp only [fresh_set] at hn)
      | (refine ifK_intro (fun h => ?_) (fun h => ?_) <;> (try simp only [rulesE] at h) <;> try (exfalso; (try simp only [rulesF] at h); omega))
      | (refine keeps_sub (Mem.sub_set ?_) ?_; focus (simp [Mem.set_at, nomem, *]; done))
    refine loop_intro (fun j env m => ∃ i : Nat, i ≤ a.length ∧ j = a.length - i ∧ m = nomem ∧ a.take i = b.take i ∧ env.length = 26 ∧ nth env 0 = .vs (a.map Way.cells) x ∧ nth env 1 = .vs (b.map Way.cells) y ∧ nth env 12 = .val (.int .i64 a.length) ∧ nth env 13 = .val (.int .i64 i)) a.length _ (Mem.sub.refl _) ⟨0, by omega, rfl, rfl, rfl, rfl, rfl, rfl, by rw [hl]; rfl, rfl⟩ ?_
    rintro j env m ⟨i, hi, rfl, rfl, ht, hlen, e0, e1, e12, e13⟩
    replace ht : Kept _ := ht
    rw [hl] at e12
    repeat' first
      | simp -dsimp (disch := omega) only [↓rulesA, rulesB, rulesC, Int.reduceLT, nth, upd, put, storeN, AV.one, Nat.reduceBEq, Nat.reduceBNe, Int.reduceBEq, Int.reduceBNe, Int.reduceLE, Int.reduceEq, Int.reduceMod, Int.reduceNeg, boolBin, strBin, intBin, unA, fillA, ne_eq, reduceCtorEq, Nat.reduceAdd, Nat.reduceSub, Nat.reduceLeDiff, Nat.reduceLT, Nat.reduceEqDiff, Int.reduceToNat, eq_self, rulesT, rulesD, ix_23, ne_60, Way.g0, Way.g1, Way.len, Way.all, Way.take, Way.drop, Way.sall, *]
      | (refine allK_intro fun n hn => ?_; try simp only [fresh_set] at hn)
      | (refine ifK_intro (fun h => ?_) (fun h => ?_) <;> (try simp only [rulesE] at h) <;> try (exfalso; (try simp only [rulesF] at h); omega))
      | (refine keeps_sub (Mem.sub_set ?_) ?_; focus (simp [Mem.set_at, nomem, *]; done))
    · have hne : a.getD i default ≠ b.getD i default := by simpa using h
      rw [decide_eq_false fun e => hne (by rw [e])]
      exact .val
    · have heq : a.getD i default = b.getD i default := by simpa using h
      have ht' : a.take (i + 1) = b.take (i + 1) := by rw [tk_next a i (by omega), tk_next b i (by omega), heq, (ht : _ = _)]
      clear h
      refine again_intro (b.length - (i + 1)) (by omega) _ (Mem.sub.refl _) ⟨i + 1, by omega, by omega, rfl, ht', ?_, ?_, ?_, ?_, ?_⟩
      all_goals try (simp (disch := omega) only [nth_upd, pickB_true, pickB_false, inB_lt, upd_len, cast_succ, Int.cast_ofNat_Int, Nat.reduceBEq, beq_self_eq_true, reduceCtorEq, *]; done)
    · have hi' : i = b.length := by omega
      have e : a = b := by
        have ht' : a.take i = b.take i := ht
        rw [List.take_of_length_le (by omega), List.take_of_length_le (by omega)] at ht'
        exact ht'
      rw [decide_eq_true e]
      exact .val
  · have e : ¬ a = b := fun h => hl (congrArg _ h)
    rw [decide_eq_false e]
    have hne : ((a.length : Int) != b.length) = true := by rw [bne_iff_ne]; omega
    repeat' first
      | simp -dsimp (disch := omega) only [↓rulesA, rulesB, rulesC, Int.reduceLT, nth, upd, put, storeN, AV.one, Nat.reduceBEq, Nat.reduceBNe, Int.reduceBEq, Int.reduceBNe, Int.reduceLE, Int.reduceEq, Int.reduceMod, Int.reduceNeg, boolBin, strBin, intBin, unA, fillA, ne_eq, reduceCtorEq, Nat.reduceAdd, Nat.reduceSub, Nat.reduceLeDiff, Nat.reduceLT, Nat.reduceEqDiff, Int.reduceToNat, eq_self, rulesT, rulesD, *]
      | (refine allK_intro fun n hn => ?_; try simp only [fresh_set] at hn)
      | (refine ifK_intro (fun h => ?_) (fun h => ?_) <;> (try simp only [rulesE] at h) <;> try (exfalso; (try simp only [rulesF] at h); omega))
      | (refine keeps_sub (Mem.sub_set ?_) ?_; focus (simp [Mem.set_at, nomem, *]; done))
    exact .val
end Go.Proofs.Ytdhbonjbjnodhaa

set_option maxRecDepth 100000
set_option maxHeartbeats 1000000
set_option linter.unusedSimpArgs false
set_option linter.unusedVariables false
namespace Go.Proofs.Ytdhbonjbjnodhaa
open Go.Abs
attribute [local irreducible] C X CC Y CV CW binK litK AppK PureC PureCV againK loopV rangeV allK ifK got onB condK V stepsK planK opK firstK seeE keepsK
def sameB (f g : Fl) : Bool := decide (f.next = g.next) && decide (f.list = g.list) && decide (f.cut = g.cut)
theorem F16 (f g : Fl) (x y x' y' : Bool) (h1 : f.list.length ≤ 140737488355328) (h2 : f.cut.length ≤ 140737488355328) : F Try.prog 16 [.agg (f.rc x y), .agg (g.rc x' y')] (.val (.bool (sameB f g))) := by
  have f30 := F30 f.list g.list x x' h1
  have f31 := F31 f.cut g.cut y y' h2
  refine F16_of ?_
  unfold k16 sameB
  repeat' first
    | simp -dsimp (disch := omega) only [↓rulesA, rulesB, rulesC, Int.reduceLT, nth, upd, put, storeN, AV.one, Nat.reduceBEq, Nat.reduceBNe, Int.reduceBEq, Int.reduceBNe, Int.reduceLE, Int.reduceEq, Int.reduceMod, Int.reduceNeg, boolBin, strBin, intBin, unA, fillA, ne_eq, reduceCtorEq, Nat.reduceAdd, Nat.reduceSub, Nat.reduceLeDiff, Nat.reduceLT, Nat.reduceEqDiff, Int.reduceToNat, eq_self, rulesT, rulesD, Fl.g0, Fl.g1, Fl.g2, Fl.len, Fl.all, Fl.take, Fl.drop, Fl.sall, *]
    | (refine allK_intro fun n hn => ?_; try simp only [fresh_set] at hn)
    | (refine ifK_intro (fun h => ?_) (fun h => ?_) <;> (try simp only [rulesE] at h) <;> try (exfalso; (try simp only [rulesF] at h); omega))
    | (refine keeps_sub (Mem.sub_set ?_) ?_; focus (simp [Mem.set_at, nomem, *]; done))
    | (refine call_F (f30) (Seens.refl _ _) ?_)
    | (refine pure_F (f30) (Seens.refl _ _) ?_)
    | (refine call_F (f31) (Seens.refl _ _) ?_)
    | (refine pure_F (f31) (Seens.refl _ _) ?_)
  all_goals
    refine New.eq (congrArg (fun b => AV.val (.bool b)) ?_) rfl
    first | simp_all
theorem wcell (d : Way) : d.cells.length = 2 ∧ d.cells.all AV.one = true := ⟨rfl, rfl⟩
theorem wflat (d : Way) : AV.flat.flats d.cells = true := rfl
theorem fcell (d : Frame) : d.cells.length = 4 ∧ d.cells.all AV.one = true := ⟨rfl, rfl⟩
theorem fflat (d : Frame) : AV.flat.flats d.cells = true := rfl
theorem way_vals (l : List Way) : ∀ c ∈ (l.map Way.cells).flatten, ∃ v, c = .val v := vals_row Way.cells (fun a c hc => by
  simp only [Way.cells, List.mem_cons, List.not_mem_nil, or_false] at hc
  rcases hc with h | h <;> exact ⟨_, h⟩) l
theorem frame_vals (l : List Frame) : ∀ c ∈ (l.map Frame.cells).flatten, ∃ v, c = .val v := vals_row Frame.cells (fun a c hc => by
  simp only [Frame.cells, List.mem_cons, List.not_mem_nil, or_false] at hc
  rcases hc with h | h | h | h <;> exact ⟨_, h⟩) l
theorem O47 (l : List Frame) (x : Bool) (hl : l.length * 40 ≤ 140737488355328) : O Try.prog 47 [.vs (l.map Frame.cells) x] 44 l.length (l.map Frame.cells).flatten := clone_O Frame.cells is47 T_22 fcell l x hl
theorem O48 (l : List Way) (x : Bool) (hl : l.length * 16 ≤ 140737488355328) : O Try.prog 48 [.vs (l.map Way.cells) x] 60 l.length (l.map Way.cells).flatten := clone_O Way.cells is48 T_23 wcell l x hl
def Fl.oc (f : Fl) (N M : Nat) : List AV := [.val (.int .i64 f.next), .sl N 0 f.list.length f.list.length, .sl M 0 f.cut.length f.cut.length]
structure Fl.Own (f : Fl) (N M : Nat) (m : Mem) : Prop where
  ne : N ≠ M
  list : m N = some (.cells true 44 (f.list.map Frame.cells).flatten)
  cut : m M = some (.cells true 60 (f.cut.map Way.cells).flatten)
theorem Fl.Own.new {f : Fl} {N M : Nat} {m : Mem} (h : f.Own N M m) : New m (.agg (f.oc N M)) (.agg (f.rc false false)) :=
  .agg rfl fun i a b => by
    match i, a with
    | 0, _ => exact .val
    | 1, _ => exact New.row Frame.cells (s := 4) (fun _ => rfl) fflat f.list h.list
    | 2, _ => exact New.row Way.cells (s := 2) (fun _ => rfl) wflat f.cut h.cut
theorem C32 (f : Fl) (x y : Bool) (h1 : f.list.length * 40 ≤ 140737488355328) (h2 : f.cut.length * 16 ≤ 140737488355328) : C Try.prog 32 [.agg (f.rc x y)] nomem (fun r m' => ∃ N M, r = .agg (f.oc N M) ∧ f.Own N M m') := by
  refine C32_of ?_
  unfold k32
  repeat' first
    | simp -dsimp (disch := omega) only [↓rulesA, rulesB, rulesC, Int.reduceLT, nth, upd, put, storeN, AV.one, Nat.reduceBEq, Nat.reduceBNe, Int.reduceBEq, Int.reduceBNe, Int.reduceLE, Int.reduceEq, Int.reduceMod, Int.reduceNeg, boolBin, strBin, intBin, unA, fillA, ne_eq, reduceCtorEq, Nat.reduceAdd, Nat.reduceSub, Nat.reduceLeDiff, Nat.reduceLT, Nat.reduceEqDiff, Int.reduceToNat, eq_self, rulesT, rulesD, Fl.g0, Fl.g1, Fl.g2, Fl.len, Fl.all, Fl.take, Fl.drop, Fl.sall, *]
    | (refine allK_intro fun n hn => ?_; try simp only [fresh_set] at hn)
    | (refine ifK_intro (fun h => ?_) (fun h => ?_) <;> (try simp only [rulesE] at h) <;> try (exfalso; (try simp only [rulesF] at h); omega))
    | (refine keeps_sub (Mem.sub_set ?_) ?_; focus (simp [Mem.set_at, nomem, *]; done))
  refine call_O (O47 f.list x h1) (Seens.refl _ _) (frame_vals _) fun N hN => ?_
  simp only [fresh_set] at hN
  repeat' first
    | simp -dsimp (disch := omega) only [↓rulesA, rulesB, rulesC, Int.reduceLT, nth, upd, put, storeN, AV.one, Nat.reduceBEq, Nat.reduceBNe, Int.reduceBEq, Int.reduceBNe, Int.reduceLE, Int.reduceEq, Int.reduceMod, Int.reduceNeg, boolBin, strBin, intBin, unA, fillA, ne_eq, reduceCtorEq, Nat.reduceAdd, Nat.reduceSub, Nat.reduceLeDiff, Nat.reduceLT, Nat.reduceEqDiff, Int.reduceToNat, eq_self, rulesT, rulesD, Fl.g0, Fl.g1, Fl.g2, Fl.len, Fl.all, Fl.take, Fl.drop, Fl.sall, *]
    | (refine allK_intro fun n hn => ?_; try simp only [fresh_set] at hn)
    | (refine ifK_intro (fun h => ?_) (fun h => ?_) <;> (try simp only [rulesE] at h) <;> try (exfalso; (try simp only [rulesF] at h); omega))
    | (refine keeps_sub (Mem.sub_set ?_) ?_; focus (simp [Mem.set_at, nomem, *]; done))
  refine call_O (O48 f.cut y h2) (Seens.refl _ _) (way_vals _) fun M hM => ?_
  simp only [fresh_set] at hM
  repeat' first
    | simp -dsimp (disch := omega) only [↓rulesA, rulesB, rulesC, Int.reduceLT, nth, upd, put, storeN, AV.one, Nat.reduceBEq, Nat.reduceBNe, Int.reduceBEq, Int.reduceBNe, Int.reduceLE, Int.reduceEq, Int.reduceMod, Int.reduceNeg, boolBin, strBin, intBin, unA, fillA, ne_eq, reduceCtorEq, Nat.reduceAdd, Nat.reduceSub, Nat.reduceLeDiff, Nat.reduceLT, Nat.reduceEqDiff, Int.reduceToNat, eq_self, rulesT, rulesD, Fl.g0, Fl.g1, Fl.g2, Fl.len, Fl.all, Fl.take, Fl.drop, Fl.sall, *]
    | (refine allK_intro fun n hn => ?_; try simp only [fresh_set] at hn)
    | (refine ifK_intro (fun h => ?_) (fun h => ?_) <;> (try simp only [rulesE] at h) <;> try (exfalso; (try simp only [rulesF] at h); omega))
    | (refine keeps_sub (Mem.sub_set ?_) ?_; focus (simp [Mem.set_at, nomem, *]; done))
  exact ⟨N, M, rfl, ⟨by simp [*], by simp [Mem.set_at, *], by simp [Mem.set_at, *]⟩⟩
end Go.Proofs.Ytdhbonjbjnodhaa

set_option maxRecDepth 100000
set_option maxHeartbeats 1000000
set_option linter.unusedSimpArgs false
set_option linter.unusedVariables false
namespace Go.Proofs.Ytdhbonjbjnodhaa
open Go.Abs
attribute [local irreducible] C X CC Y CV CW binK litK AppK PureC PureCV againK loopV rangeV allK ifK got onB condK V stepsK planK opK firstK seeE keepsK
def esL : List Way → Nat → List (AV × AV)
  | [], _ => []
  | w :: l, i => (.agg w.cells, .val (.int .i64 ((i : Int) + 1))) :: esL l (i + 1)
def posW (w : Way) : List Way → Nat → Option Nat
  | [], _ => none
  | a :: l, i => if w = a then some i else posW w l (i + 1)
theorem esL_snoc (w : Way) : ∀ (l : List Way) (i : Nat), esL (l ++ [w]) i = esL l i ++ [(.agg w.cells, .val (.int .i64 (((i + l.length : Nat) : Int) + 1)))]
  | [], i => rfl
  | a :: l, i => by
    show _ :: esL (l ++ [w]) (i + 1) = _ :: (esL l (i + 1) ++ _)
    rw [esL_snoc w l (i + 1)]
    simp only [List.length_cons]
    rw [show i + 1 + l.length = i + (l.length + 1) by omega]
theorem find_esL (w : Way) : ∀ (l : List Way) (i : Nat), findA Try.prog 60 (.agg w.cells) (esL l i) i = some ((posW w l i).map fun k => (k, .val (.int .i64 ((k : Int) + 1))))
  | [], i => rfl
  | a :: l, i => by
    unfold esL findA posW
    rw [eqA_60, Way.same_is]
    by_cases h : w = a
    · rw [decide_eq_true h, if_pos h]; rfl
    · rw [decide_eq_false h, if_neg h]; exact find_esL w l (i + 1)
theorem posW_none {w : Way} : ∀ {l : List Way} {i : Nat}, posW w l i = none ↔ w ∉ l
  | [], i => by simp [posW]
  | a :: l, i => by
    unfold posW
    by_cases h : w = a
    · rw [if_pos h]; simp [h]
    · rw [if_neg h, posW_none]; simp [h]
theorem posW_some {w : Way} : ∀ {l : List Way} {i k : Nat}, posW w l i = some k → i ≤ k ∧ ∃ h : k - i < l.length, l[k - i] = w
  | [], i, k, h => by cases h
  | a :: l, i, k, h => by
    unfold posW at h
    by_cases hw : w = a
    · rw [if_pos hw] at h; cases h
      exact ⟨Nat.le_refl _, by simp, by simp [hw]⟩
    · rw [if_neg hw] at h
      obtain ⟨h1, h2, h3⟩ := posW_some h
      refine ⟨by omega, by simp; omega, ?_⟩
      have : k - i = (k - (i + 1)) + 1 := by omega
      simp only [this, List.getElem_cons_succ]
      exact h3
def wayN (l : List Way) (w : Way) : Int := match posW w l 0 with
  | some k => (k : Int) + 1
  | none => 0
theorem und_68 : Try.prog.underlying 68 = some (.map 60 3) := by kernel_rfl
theorem key_60 (w : Way) : keyOkA Try.prog 60 (.agg w.cells) = true := by kernel_rfl
theorem zero_3 : (ti Try.prog 3).bind (·.zero) = some (.int .i64 0) := by kernel_rfl
theorem leaf_3 : leafT Try.prog 3 = true := by kernel_rfl
theorem look_ways {m : Mem} {N : Nat} {l : List Way} (h : m N = some (.map (esL l 0))) (w : Way) : lookA Try.prog m 68 (.map N) (.agg w.cells) false = some (.val (.int .i64 (wayN l w))) := by
  unfold lookA wayN
  simp only [und_68, h, key_60, if_true, find_esL, zero_3, leaf_3]
  cases posW w l 0 <;> rfl
theorem put_ways {m : Mem} {N : Nat} {l : List Way} (h : m N = some (.map (esL l 0))) (w : Way) (hw : w ∉ l) (v : AV) : mapPutA Try.prog m 68 (.map N) (.agg w.cells) v = some (m.set N (.map (esL l 0 ++ [(.agg w.cells, v)]))) := by
  unfold mapPutA
  simp only [und_68, h, key_60, if_true, find_esL, posW_none.2 hw, Option.map_none]
theorem C33 (f : Fl) (x y : Bool) (hnd : f.cut.Nodup) (hl : f.cut.length ≤ 140737488355328) : C Try.prog 33 [.agg (f.rc x y)] nomem (fun r m' => ∃ N, r = .map N ∧ m' N = some (.map (esL f.cut 0))) := by
  refine C33_of ?_
  unfold k33
  repeat' first
    | simp -dsimp (disch := omega) only [↓rulesA, rulesB, rulesC, Int.reduceLT, nth, upd, put, storeN, AV.one, Nat.reduceBEq, Nat.reduceBNe, Int.reduceBEq, Int.reduceBNe, Int.reduceLE, Int.reduceEq, Int.reduceMod, Int.reduceNeg, boolBin, strBin, intBin, unA, fillA, ne_eq, reduceCtorEq, Nat.reduceAdd, Nat.reduceSub, Nat.reduceLeDiff, Nat.reduceLT, Nat.reduceEqDiff, Int.reduceToNat, eq_self, rulesT, rulesD, Fl.g0, Fl.g1, Fl.g2, Fl.len, Fl.all, Fl.take, Fl.drop, Fl.sall, *]
    | (refine allK_intro fun n hn => ?_; try simp only [fresh_set] at hn)
    | (refine ifK_intro (fun h => ?_) (fun h => ?_) <;> (try simp only [rulesE] at h) <;> try (exfalso; (try simp only [rulesF] at h); omega))
    | (refine keeps_sub (Mem.sub_set ?_) ?_; focus (simp [Mem.set_at, nomem, *]; done))
  rename_i a ha
  revert n
  intro b hb
  refine loop_intro (fun j env m => ∃ i : Nat, i ≤ f.cut.length ∧ j = f.cut.length - i ∧ m = (nomem.set a (.cells false 25 (f.rc x y))).set b (.map (esL (f.cut.take i) 0)) ∧ env.length = 21 ∧ nth env 3 = .map b ∧ nth env 8 = .vs (f.cut.map Way.cells) y ∧ nth env 9 = .val (.int .i64 f.cut.length) ∧ nth env 10 = .val (.int .i64 i)) f.cut.length _ (Mem.sub.refl _) ⟨0, by omega, rfl, rfl, rfl, rfl, rfl, rfl, rfl⟩ ?_
  rintro j env m ⟨i, hi, rfl, rfl, hlen, e3, e8, e9, e10⟩
  by_cases hil : i < f.cut.length
  · have hw : f.cut.getD i default ∉ f.cut.take i := by
      intro hm
      rw [List.getD_eq_getElem?_getD, List.getElem?_eq_getElem hil] at hm
      obtain ⟨k, hk, he⟩ := List.getElem_of_mem hm
      rw [List.length_take] at hk
      rw [List.getElem_take] at he
      exact absurd he (fun e => by
        have := (List.pairwise_iff_getElem.1 hnd) k i (by omega) hil (by omega)
        exact this e)
    have hput := fun (m : Mem) (h : m b = some (.map (esL (f.cut.take i) 0))) (v : AV) => put_ways h (f.cut.getD i default) hw v
    have hsn := esL_snoc (f.cut.getD i default) (f.cut.take i) 0
    rw [← tk_next f.cut i hil, List.length_take, Nat.min_eq_left hi, Nat.zero_add] at hsn
    clear hw
    repeat' first
      | simp -dsimp (disch := omega) only [↓rulesA, rulesB, rulesC, Int.reduceLT, nth, upd, put, storeN, AV.one, Nat.reduceBEq, Nat.reduceBNe, Int.reduceBEq, Int.reduceBNe, Int.reduceLE, Int.reduceEq, Int.reduceMod, Int.reduceNeg, boolBin, strBin, intBin, unA, fillA, ne_eq, reduceCtorEq, Nat.reduceAdd, Nat.reduceSub, Nat.reduceLeDiff, Nat.reduceLT, Nat.reduceEqDiff, Int.reduceToNat, eq_self, rulesT, rulesD, ix_23, Fl.g0, Fl.g1, Fl.g2, Fl.len, Fl.all, Fl.take, Fl.drop, Fl.sall, Way.g0, Way.g1, Way.len, Way.all, Way.take, Way.drop, Way.sall, *]
      | (refine allK_intro fun n hn => ?_; try simp only [fresh_set] at hn)
      | (refine ifK_intro (fun h => ?_) (fun h => ?_) <;> (try simp only [rulesE] at h) <;> try (exfalso; (try simp only [rulesF] at h); omega))
      | (refine keeps_sub (Mem.sub_set ?_) ?_; focus (simp [Mem.set_at, nomem, *]; done))
    rw [hput _ (by simp [Mem.set_at, *])]
    repeat' first
      | simp -dsimp (disch := omega) only [↓rulesA, rulesB, rulesC, Int.reduceLT, nth, upd, put, storeN, AV.one, Nat.reduceBEq, Nat.reduceBNe, Int.reduceBEq, Int.reduceBNe, Int.reduceLE, Int.reduceEq, Int.reduceMod, Int.reduceNeg, boolBin, strBin, intBin, unA, fillA, ne_eq, reduceCtorEq, Nat.reduceAdd, Nat.reduceSub, Nat.reduceLeDiff, Nat.reduceLT, Nat.reduceEqDiff, Int.reduceToNat, eq_self, rulesT, rulesD, ix_23, Fl.g0, Fl.g1, Fl.g2, Fl.len, Fl.all, Fl.take, Fl.drop, Fl.sall, Way.g0, Way.g1, Way.len, Way.all, Way.take, Way.drop, Way.sall, *]
      | (refine allK_intro fun n hn => ?_; try simp only [fresh_set] at hn)
      | (refine ifK_intro (fun h => ?_) (fun h => ?_) <;> (try simp only [rulesE] at h) <;> try (exfalso; (try simp only [rulesF] at h); omega))
      | (refine keeps_sub (Mem.sub_set ?_) ?_; focus (simp [Mem.set_at, nomem, *]; done))
    rw [← hsn]
    refine again_intro (f.cut.length - (i + 1)) (by omega) ((nomem.set a (.cells false 25 (f.rc x y))).set b (.map (esL (f.cut.take (i + 1)) 0))) ?_ ⟨i + 1, by omega, rfl, rfl, ?_, ?_, ?_, ?_, ?_⟩
    · ((repeat' first | exact Mem.sub.refl _ | exact nomem_sub _ | refine Mem.set_sub ?_ ?_ | refine Mem.sub_set_new ?_ ?_ | refine Mem.sub_del ?_ ?_) <;> simp [Mem.set_at, Mem.del_at, nomem, *])
    all_goals try (simp (disch := omega) only [nth_upd, pickB_true, pickB_false, inB_lt, upd_len, cast_succ, Int.cast_ofNat_Int, Nat.reduceBEq, beq_self_eq_true, reduceCtorEq, *]; done)
  · have hi' : i = f.cut.length := by omega
    subst hi'
    rw [List.take_length]
    repeat' first
      | simp -dsimp (disch := omega) only [↓rulesA, rulesB, rulesC, Int.reduceLT, nth, upd, put, storeN, AV.one, Nat.reduceBEq, Nat.reduceBNe, Int.reduceBEq, Int.reduceBNe, Int.reduceLE, Int.reduceEq, Int.reduceMod, Int.reduceNeg, boolBin, strBin, intBin, unA, fillA, ne_eq, reduceCtorEq, Nat.reduceAdd, Nat.reduceSub, Nat.reduceLeDiff, Nat.reduceLT, Nat.reduceEqDiff, Int.reduceToNat, eq_self, rulesT, rulesD, Fl.g0, Fl.g1, Fl.g2, Fl.len, Fl.all, Fl.take, Fl.drop, Fl.sall, *]
      | (refine allK_intro fun n hn => ?_; try simp only [fresh_set] at hn)
      | (refine ifK_intro (fun h => ?_) (fun h => ?_) <;> (try simp only [rulesE] at h) <;> try (exfalso; (try simp only [rulesF] at h); omega))
      | (refine keeps_sub (Mem.sub_set ?_) ?_; focus (simp [Mem.set_at, nomem, *]; done))
    exact ⟨b, rfl, if_pos rfl⟩
end Go.Proofs.Ytdhbonjbjnodhaa

set_option maxRecDepth 100000
set_option maxHeartbeats 1000000
set_option linter.unusedSimpArgs false
set_option linter.unusedVariables false
namespace Go.Proofs.Ytdhbonjbjnodhaa
open Go.Abs
attribute [local irreducible] C X CC Y CV CW binK litK AppK PureC PureCV againK loopV rangeV allK ifK got onB condK V stepsK planK opK firstK seeE keepsK
theorem src_22 (m : Mem) (l : List Frame) (x : Bool) : srcA Try.prog m 22 4 (.vs (l.map Frame.cells) x) = some (l.length, (l.map Frame.cells).flatten) := src_vs Frame.cells ti_22 rfl (fun _ => ⟨rfl, rfl⟩) m l x
def posN (n : Int) : List Frame → Nat → Option Nat
  | [], _ => none
  | a :: l, i => if a.number = n then some i else posN n l (i + 1)
def placeN (l : List Frame) (n : Int) : Int := match posN n l 0 with
  | some k => k
  | none => -1
theorem posN_at {n : Int} : ∀ {l : List Frame} {i k : Nat}, posN n l i = some k ↔ i ≤ k ∧ ∃ h : k - i < l.length, l[k - i].number = n ∧ ∀ q (hq : q < k - i), (l[q]'(by omega)).number ≠ n
  | [], i, k => by simp [posN]
  | a :: l, i, k => by
    unfold posN
    by_cases hw : a.number = n
    · rw [if_pos hw]
      constructor
      · intro h; cases h
        exact ⟨Nat.le_refl _, by simp, by simp [hw], fun q hq => by omega⟩
      · rintro ⟨h1, h2, h3, h4⟩
        rcases Nat.eq_zero_or_pos (k - i) with h0 | h0
        · congr 1; omega
        · exact absurd hw (by have := h4 0 h0; simpa using this)
    · rw [if_neg hw, posN_at]
      constructor
      · rintro ⟨h1, h2, h3, h4⟩
        have e : k - i = (k - (i + 1)) + 1 := by omega
        refine ⟨by omega, by simp; omega, by simp only [e, List.getElem_cons_succ]; exact h3, fun q hq => ?_⟩
        cases q with
        | zero => simpa using hw
        | succ q => simpa using h4 q (by omega)
      · rintro ⟨h1, h2, h3, h4⟩
        have h0 : 0 < k - i := by
          rcases Nat.eq_zero_or_pos (k - i) with h0 | h0
          · exfalso
            simp only [h0, List.getElem_cons_zero] at h3
            exact hw h3
          · exact h0
        have e : k - i = (k - (i + 1)) + 1 := by omega
        refine ⟨by omega, by simp at h2; omega, ?_, fun q hq => ?_⟩
        · simp only [e, List.getElem_cons_succ] at h3; exact h3
        · have := h4 (q + 1) (by omega); simpa using this
theorem posN_none {n : Int} : ∀ {l : List Frame} {i : Nat}, posN n l i = none ↔ ∀ x ∈ l, x.number ≠ n
  | [], i => by simp [posN]
  | a :: l, i => by
    unfold posN
    by_cases hw : a.number = n
    · rw [if_pos hw]; simp [hw]
    · rw [if_neg hw, posN_none]; simp [hw]
theorem placeN_at {l : List Frame} {n : Int} {k : Nat} (hk : k < l.length) (h : (l.getD k default).number = n) (hn : ∀ q, q < k → (l.getD q default).number ≠ n) : placeN l n = k := by
  have : posN n l 0 = some k := posN_at.2 ⟨Nat.zero_le _, by simpa using hk, by
    rw [List.getD_eq_getElem?_getD, List.getElem?_eq_getElem hk] at h; simpa using h, fun q hq => by
    have := hn q (by simpa using hq)
    rw [List.getD_eq_getElem?_getD, List.getElem?_eq_getElem (by simp at hq; omega)] at this
    simpa using this⟩
  unfold placeN
  rw [this]
theorem placeN_no {l : List Frame} {n : Int} (h : ∀ q, q < l.length → (l.getD q default).number ≠ n) : placeN l n = -1 := by
  have : posN n l 0 = none := posN_none.2 fun x hx => by
    obtain ⟨q, hq, rfl⟩ := List.getElem_of_mem hx
    have := h q hq
    rwa [List.getD_eq_getElem?_getD, List.getElem?_eq_getElem hq] at this
  unfold placeN
  rw [this]
theorem seen_ptr {m : Mem} {n off : Nat} {opn : Bool} {t : TypeId} {cs : List AV} (h : m n = some (.cells opn t cs)) (h0 : 0 < cs.length) : Seen m (.ptr n off) (.vp cs off) := .ptr h h0 rfl fun i a b => .same
theorem seen_fn1 {m : Mem} {f : Fn} {n off : Nat} {opn : Bool} {t : TypeId} {cs : List AV} (h : m n = some (.cells opn t cs)) (h0 : 0 < cs.length) : Seen m (.fn f [] [.ptr n off]) (.fn f [] [.vp cs off]) :=
  .fn rfl (fun i a b => by cases a) rfl fun i a b => by
    match i, a with
    | 0, _ => exact seen_ptr h h0
theorem F50 (a : Frame) (n : Int) : F Try.prog 50 [.agg a.cells, .vp [.val (.int .i64 n)] 0] (.val (.bool (a.number == n))) := by
  refine F50_of ?_
  unfold k50
  repeat' first
    | simp -dsimp (disch := omega) only [↓rulesA, rulesB, rulesC, Int.reduceLT, nth, upd, put, storeN, AV.one, Nat.reduceBEq, Nat.reduceBNe, Int.reduceBEq, Int.reduceBNe, Int.reduceLE, Int.reduceEq, Int.reduceMod, Int.reduceNeg, boolBin, strBin, intBin, unA, fillA, ne_eq, reduceCtorEq, Nat.reduceAdd, Nat.reduceSub, Nat.reduceLeDiff, Nat.reduceLT, Nat.reduceEqDiff, Int.reduceToNat, eq_self, rulesT, rulesD, Frame.g0, Frame.g1, Frame.g2, Frame.g3, Frame.len, Frame.all, Frame.take, Frame.drop, Frame.sall, *]
    | (refine allK_intro fun n hn => ?_; try simp only [fresh_set] at hn)
    | (refine ifK_intro (fun h => ?_) (fun h => ?_) <;> (try simp only [rulesE] at h) <;> try (exfalso; (try simp only [rulesF] at h); omega))
    | (refine keeps_sub (Mem.sub_set ?_) ?_; focus (simp [Mem.set_at, nomem, *]; done))
  exact .val
theorem F49 (l : List Frame) (x : Bool) (n : Int) (hl : l.length ≤ 140737488355328) : F Try.prog 49 [.vs (l.map Frame.cells) x, .fn (.func 50) [] [.vp [.val (.int .i64 n)] 0]] (.val (.int .i64 (placeN l n))) := by
  refine F49_of ?_
  unfold k49
  repeat' first
    | simp -dsimp (disch := omega) only [↓rulesA, rulesB, rulesC, Int.reduceLT, nth, upd, put, storeN, AV.one, Nat.reduceBEq, Nat.reduceBNe, Int.reduceBEq, Int.reduceBNe, Int.reduceLE, Int.reduceEq, Int.reduceMod, Int.reduceNeg, boolBin, strBin, intBin, unA, fillA, ne_eq, reduceCtorEq, Nat.reduceAdd, Nat.reduceSub, Nat.reduceLeDiff, Nat.reduceLT, Nat.reduceEqDiff, Int.reduceToNat, eq_self, rulesT, rulesD, *]
    | (refine allK_intro fun n hn => ?_; try simp only [fresh_set] at hn)
    | (refine ifK_intro (fun h => ?_) (fun h => ?_) <;> (try simp only [rulesE] at h) <;> try (exfalso; (try simp only [rulesF] at h); omega))
    | (refine keeps_sub (Mem.sub_set ?_) ?_; focus (simp [Mem.set_at, nomem, *]; done))
  refine loop_intro (fun j env m => ∃ i : Nat, i ≤ l.length ∧ j = l.length - i ∧ m = nomem ∧ Kept (∀ q, q < i → (l.getD q default).number ≠ n) ∧ env.length = 19 ∧ nth env 0 = .vs (l.map Frame.cells) x ∧ nth env 1 = .fn (.func 50) [] [.vp [.val (.int .i64 n)] 0] ∧ nth env 7 = .val (.int .i64 l.length) ∧ nth env 8 = .val (.int .i64 i)) l.length _ (Mem.sub.refl _) ⟨0, by omega, rfl, rfl, fun q hq => absurd hq (Nat.not_lt_zero _), rfl, rfl, rfl, rfl, rfl⟩ ?_
  rintro j env m ⟨i, hi, rfl, rfl, hno, hlen, e0, e1, e7, e8⟩
  by_cases hil : i < l.length
  · have f50 := F50 (l.getD i default) n
    by_cases hn : (l.getD i default).number = n
    · rw [placeN_at hil hn hno]
      have hb : ((l.getD i default).number == n) = true := by rw [hn]; exact beq_self_eq_true n
      rw [hb] at f50
      clear hno hn hb
      repeat' first
        | simp -dsimp (disch := omega) only [↓rulesA, rulesB, rulesC, Int.reduceLT, nth, upd, put, storeN, AV.one, Nat.reduceBEq, Nat.reduceBNe, Int.reduceBEq, Int.reduceBNe, Int.reduceLE, Int.reduceEq, Int.reduceMod, Int.reduceNeg, boolBin, strBin, intBin, unA, fillA, ne_eq, reduceCtorEq, Nat.reduceAdd, Nat.reduceSub, Nat.reduceLeDiff, Nat.reduceLT, Nat.reduceEqDiff, Int.reduceToNat, eq_self, rulesT, rulesD, ix_22, Frame.g0, Frame.g1, Frame.g2, Frame.g3, Frame.len, Frame.all, Frame.take, Frame.drop, Frame.sall, *]
        | (refine allK_intro fun n hn => ?_; try simp only [fresh_set] at hn)
        | (refine ifK_intro (fun h => ?_) (fun h => ?_) <;> (try simp only [rulesE] at h) <;> try (exfalso; (try simp only [rulesF] at h); omega))
        | (refine keeps_sub (Mem.sub_set ?_) ?_; focus (simp [Mem.set_at, nomem, *]; done))
        | (refine call_F (f50) (Seens.refl _ _) ?_)
        | (refine pure_F (f50) (Seens.refl _ _) ?_)
      exact .val
    · have hb : ((l.getD i default).number == n) = false := beq_eq_false_iff_ne.2 hn
      rw [hb] at f50
      have hno' : Kept (∀ q, q < i + 1 → (l.getD q default).number ≠ n) := fun q hq => by
        rcases Nat.lt_or_ge q i with h | h
        · exact (hno : ∀ q, _) q h
        · rw [show q = i by omega]; exact hn
      clear hno hn hb
      repeat' first
        | simp -dsimp (disch := omega) only [↓rulesA, rulesB, rulesC, Int.reduceLT, nth, upd, put, storeN, AV.one, Nat.reduceBEq, Nat.reduceBNe, Int.reduceBEq, Int.reduceBNe, Int.reduceLE, Int.reduceEq, Int.reduceMod, Int.reduceNeg, boolBin, strBin, intBin, unA, fillA, ne_eq, reduceCtorEq, Nat.reduceAdd, Nat.reduceSub, Nat.reduceLeDiff, Nat.reduceLT, Nat.reduceEqDiff, Int.reduceToNat, eq_self, rulesT, rulesD, ix_22, Frame.g0, Frame.g1, Frame.g2, Frame.g3, Frame.len, Frame.all, Frame.take, Frame.drop, Frame.sall, *]
        | (refine allK_intro fun n hn => ?_; try simp only [fresh_set] at hn)
        | (refine ifK_intro (fun h => ?_) (fun h => ?_) <;> (try simp only [rulesE] at h) <;> try (exfalso; (try simp only [rulesF] at h); omega))
        | (refine keeps_sub (Mem.sub_set ?_) ?_; focus (simp [Mem.set_at, nomem, *]; done))
        | (refine call_F (f50) (Seens.refl _ _) ?_)
        | (refine pure_F (f50) (Seens.refl _ _) ?_)
      refine again_intro (l.length - (i + 1)) (by omega) nomem (nomem_sub _) ⟨i + 1, by omega, rfl, rfl, hno', ?_, ?_, ?_, ?_, ?_⟩
      all_goals try (simp (disch := omega) only [nth_upd, pickB_true, pickB_false, inB_lt, upd_len, cast_succ, Int.cast_ofNat_Int, Nat.reduceBEq, beq_self_eq_true, reduceCtorEq, *]; done)
  · have : placeN l n = -1 := placeN_no fun q hq => (hno : ∀ q, _) q (by omega)
    rw [this]
    clear this hno
    repeat' first
      | simp -dsimp (disch := omega) only [↓rulesA, rulesB, rulesC, Int.reduceLT, nth, upd, put, storeN, AV.one, Nat.reduceBEq, Nat.reduceBNe, Int.reduceBEq, Int.reduceBNe, Int.reduceLE, Int.reduceEq, Int.reduceMod, Int.reduceNeg, boolBin, strBin, intBin, unA, fillA, ne_eq, reduceCtorEq, Nat.reduceAdd, Nat.reduceSub, Nat.reduceLeDiff, Nat.reduceLT, Nat.reduceEqDiff, Int.reduceToNat, eq_self, rulesT, rulesD, *]
      | (refine allK_intro fun n hn => ?_; try simp only [fresh_set] at hn)
      | (refine ifK_intro (fun h => ?_) (fun h => ?_) <;> (try simp only [rulesE] at h) <;> try (exfalso; (try simp only [rulesF] at h); omega))
      | (refine keeps_sub (Mem.sub_set ?_) ?_; focus (simp [Mem.set_at, nomem, *]; done))
    exact .val
theorem F34 (f : Fl) (x y : Bool) (n : Int) (hl : f.list.length ≤ 140737488355328) : F Try.prog 34 [.agg (f.rc x y), .val (.int .i64 n)] (.val (.int .i64 (placeN f.list n))) := by
  refine F34_of ?_
  unfold k34
  repeat' first
    | simp -dsimp (disch := omega) only [↓rulesA, rulesB, rulesC, Int.reduceLT, nth, upd, put, storeN, AV.one, Nat.reduceBEq, Nat.reduceBNe, Int.reduceBEq, Int.reduceBNe, Int.reduceLE, Int.reduceEq, Int.reduceMod, Int.reduceNeg, boolBin, strBin, intBin, unA, fillA, ne_eq, reduceCtorEq, Nat.reduceAdd, Nat.reduceSub, Nat.reduceLeDiff, Nat.reduceLT, Nat.reduceEqDiff, Int.reduceToNat, eq_self, rulesT, rulesD, Fl.g0, Fl.g1, Fl.g2, Fl.len, Fl.all, Fl.take, Fl.drop, Fl.sall, mkFnA, staticFn, *]
    | (refine allK_intro fun n hn => ?_; try simp only [fresh_set] at hn)
    | (refine ifK_intro (fun h => ?_) (fun h => ?_) <;> (try simp only [rulesE] at h) <;> try (exfalso; (try simp only [rulesF] at h); omega))
    | (refine keeps_sub (Mem.sub_set ?_) ?_; focus (simp [Mem.set_at, nomem, *]; done))
  refine call_F (F49 f.list x _ hl) (.cons .same (.cons (seen_fn1 (by simp [Mem.set_at, *]; exact ⟨rfl, rfl, rfl⟩) (Nat.succ_pos _)) (.nil _))) ?_
  repeat' first
    | simp -dsimp (disch := omega) only [↓rulesA, rulesB, rulesC, Int.reduceLT, nth, upd, put, storeN, AV.one, Nat.reduceBEq, Nat.reduceBNe, Int.reduceBEq, Int.reduceBNe, Int.reduceLE, Int.reduceEq, Int.reduceMod, Int.reduceNeg, boolBin, strBin, intBin, unA, fillA, ne_eq, reduceCtorEq, Nat.reduceAdd, Nat.reduceSub, Nat.reduceLeDiff, Nat.reduceLT, Nat.reduceEqDiff, Int.reduceToNat, eq_self, rulesT, rulesD, *]
    | (refine allK_intro fun n hn => ?_; try simp only [fresh_set] at hn)
    | (refine ifK_intro (fun h => ?_) (fun h => ?_) <;> (try simp only [rulesE] at h) <;> try (exfalso; (try simp only [rulesF] at h); omega))
    | (refine keeps_sub (Mem.sub_set ?_) ?_; focus (simp [Mem.set_at, nomem, *]; done))
  exact .val
end Go.Proofs.Ytdhbonjbjnodhaa

set_option maxRecDepth 100000
set_option maxHeartbeats 1000000
set_option linter.unusedSimpArgs false
set_option linter.unusedVariables false
namespace Go.Proofs.Ytdhbonjbjnodhaa
open Go.Abs
attribute [local irreducible] C X CC Y CV CW binK litK AppK PureC PureCV againK loopV rangeV allK ifK got onB condK V stepsK planK opK firstK seeE keepsK
def hitB (w : Way) (any : Bool) (x : Frame) : Bool := decide (x.to_ = w.to_) && (any || decide (x.from_ = w.from_))
def hitTo (l : List Frame) (w : Way) (any : Bool) : Nat → List (Nat × Frame)
  | 0 => []
  | i + 1 => if hitB w any (l.getD i default) then hitTo l w any i ++ [(i, l.getD i default)] else hitTo l w any i
def hrow (p : Nat × Frame) : List AV := [.val (.int .i64 p.1), .agg p.2.cells]
theorem hitTo_yes {l : List Frame} {w : Way} {any : Bool} {i : Nat} (h : hitB w any (l.getD i default) = true) : hitTo l w any (i + 1) = hitTo l w any i ++ [(i, l.getD i default)] := if_pos h
theorem hitTo_no {l : List Frame} {w : Way} {any : Bool} {i : Nat} (h : hitB w any (l.getD i default) = false) : hitTo l w any (i + 1) = hitTo l w any i := if_neg (by rw [h]; decide)
theorem hitTo_pre (l : List Frame) (w : Way) (any : Bool) {i : Nat} : ∀ j, ∃ t, hitTo l w any (i + j) = hitTo l w any i ++ t
  | 0 => ⟨[], by simp⟩
  | j + 1 => by
    obtain ⟨t, ht⟩ := hitTo_pre l w any (i := i) j
    cases h : hitB w any (l.getD (i + j) default) with
    | true => exact ⟨t ++ [(i + j, l.getD (i + j) default)], by rw [← Nat.add_assoc, hitTo_yes h, ht, List.append_assoc]⟩
    | false => exact ⟨t, by rw [← Nat.add_assoc, hitTo_no h, ht]⟩
theorem hit_next {l : List Frame} {w : Way} {any : Bool} {i : Nat} (hi : i < l.length) (h : hitB w any (l.getD i default) = true) :
    ∃ hk : (hitTo l w any i).length < ((hitTo l w any l.length).map hrow).length, ((hitTo l w any l.length).map hrow)[(hitTo l w any i).length] = hrow (i, l.getD i default) := by
  obtain ⟨t, ht⟩ := hitTo_pre l w any (i := i + 1) (l.length - (i + 1))
  rw [show i + 1 + (l.length - (i + 1)) = l.length by omega, hitTo_yes h] at ht
  have hk : (hitTo l w any i).length < (hitTo l w any l.length).length := by rw [ht]; simp
  refine ⟨by simpa using hk, ?_⟩
  rw [List.getElem_map]
  congr 1
  have : (hitTo l w any l.length)[(hitTo l w any i).length]? = some (i, l.getD i default) := by rw [ht]; simp
  exact (List.getElem?_eq_some_iff.1 this).2
theorem C28 (f : Fl) (x y : Bool) (w : Way) (any : Bool) : C Try.prog 28 [.agg (f.rc x y), .agg w.cells, .val (.bool any)] nomem (fun q m' => q = .fn (.func 46) [] [.vp (f.rc x y) 0, .vp w.cells 0, .vp [.val (.bool any)] 0] ∧ m' = nomem) := by
  refine C.turn (C28_of ?_)
  unfold k28
  repeat' first
    | simp -dsimp (disch := omega) only [↓rulesA, rulesB, rulesC, Int.reduceLT, nth, upd, put, storeN, AV.one, Nat.reduceBEq, Nat.reduceBNe, Int.reduceBEq, Int.reduceBNe, Int.reduceLE, Int.reduceEq, Int.reduceMod, Int.reduceNeg, boolBin, strBin, intBin, unA, fillA, ne_eq, reduceCtorEq, Nat.reduceAdd, Nat.reduceSub, Nat.reduceLeDiff, Nat.reduceLT, Nat.reduceEqDiff, Int.reduceToNat, eq_self, rulesT, rulesD, mkFnA, staticFn, Fl.g0, Fl.g1, Fl.g2, Fl.len, Fl.all, Fl.take, Fl.drop, Fl.sall, Way.g0, Way.g1, Way.len, Way.all, Way.take, Way.drop, Way.sall, *]
    | (refine allK_intro fun n hn => ?_; try simp only [fresh_set] at hn)
    | (refine ifK_intro (fun h => ?_) (fun h => ?_) <;> (try simp only [rulesE] at h) <;> try (exfalso; (try simp only [rulesF] at h); omega))
    | (refine keeps_sub (Mem.sub_set ?_) ?_; focus (simp [Mem.set_at, nomem, *]; done))
  refine Turns.freeze (.fnOf (Seens.refl _ _) (.three (seen_ptr (opn := false) (t := 25) (cs := f.rc x y) ?_ (Nat.succ_pos _)) (seen_ptr (opn := false) (t := 60) (cs := w.cells) ?_ (Nat.succ_pos _)) (.var (Mem.set_same _ _ _)))) ⟨rfl, rfl⟩
  · simp [Mem.set_at, *]
  · simp [Mem.set_at, *]
theorem I46 (f : Fl) (x y : Bool) (w : Way) (any : Bool) (hl : f.list.length ≤ 140737488355328) : Iter Try.prog 46 [] [.vp (f.rc x y) 0, .vp w.cells 0, .vp [.val (.bool any)] 0] nomem ((hitTo f.list w any f.list.length).map hrow) := by
  intro ny M I S K' _ h0 hY hend hstop
  refine C.turn (C46_of ?_)
  unfold k46
  repeat' first
    | simp -dsimp (disch := omega) only [↓rulesA, rulesB, rulesC, Int.reduceLT, nth, upd, put, storeN, AV.one, Nat.reduceBEq, Nat.reduceBNe, Int.reduceBEq, Int.reduceBNe, Int.reduceLE, Int.reduceEq, Int.reduceMod, Int.reduceNeg, boolBin, strBin, intBin, unA, fillA, ne_eq, reduceCtorEq, Nat.reduceAdd, Nat.reduceSub, Nat.reduceLeDiff, Nat.reduceLT, Nat.reduceEqDiff, Int.reduceToNat, eq_self, rulesT, rulesD, Fl.g0, Fl.g1, Fl.g2, Fl.len, Fl.all, Fl.take, Fl.drop, Fl.sall, *]
    | (refine allK_intro fun n hn => ?_; try simp only [fresh_set] at hn)
    | (refine ifK_intro (fun h => ?_) (fun h => ?_) <;> (try simp only [rulesE] at h) <;> try (exfalso; (try simp only [rulesF] at h); omega))
    | (refine keeps_sub (Mem.sub_set ?_) ?_; focus (simp [Mem.set_at, nomem, *]; done))
  refine loop_intro (fun j env m => ∃ (i : Nat) (mI : Mem), i ≤ f.list.length ∧ j = f.list.length - i ∧ I (hitTo f.list w any i).length mI ∧ mI.sub m ∧ env.length = 38 ∧ nth env 0 = .yld ny ∧ nth env 1 = .vp (f.rc x y) 0 ∧ nth env 2 = .vp w.cells 0 ∧ nth env 3 = .vp [.val (.bool any)] 0 ∧ nth env 8 = .vs (f.list.map Frame.cells) x ∧ nth env 9 = .val (.int .i64 f.list.length) ∧ nth env 10 = .val (.int .i64 i)) f.list.length _ (Mem.sub.refl _) ⟨0, M, by omega, by omega, h0, Mem.sub.refl _, rfl, rfl, rfl, rfl, rfl, rfl, rfl, rfl⟩ ?_
  rintro j env m ⟨i, mI, hi, rfl, hI, hsub, hlen, e0, e1, e2, e3, e8, e9, e10⟩
  by_cases hil : i < f.list.length
  · have hhit : hitB w any (f.list.getD i default) = (decide ((f.list.getD i default).to_ = w.to_) && (any || decide ((f.list.getD i default).from_ = w.from_))) := rfl
    cases hw : hitB w any (f.list.getD i default) with
    | true =>
      have hst := hitTo_yes (l := f.list) hw
      have ho := hit_next (l := f.list) hil hw
      rw [hw] at hhit
      have b1 : ((f.list.getD i default).to_ == w.to_) = true := by
        have := hhit.symm; simp only [Bool.and_eq_true, decide_eq_true_eq] at this; rw [this.1]; exact beq_self_eq_true _
      have b2 : any = false → ((f.list.getD i default).from_ == w.from_) = true := fun ha => by
        have := hhit.symm; rw [ha] at this; simp only [Bool.and_eq_true, Bool.false_or, decide_eq_true_eq] at this; rw [this.2]; exact beq_self_eq_true _
      clear hhit hw
      obtain ⟨hk, ek⟩ := ho
      have hY' := hY _ hk mI hI
      rw [ek] at hY'
      unfold hrow at hY'
      clear hY ek hk
      cases any
      · have b3 := b2 rfl
        clear b2
        repeat' first
          | simp -dsimp (disch := omega) only [↓rulesA, rulesB, rulesC, Int.reduceLT, nth, upd, put, storeN, AV.one, Nat.reduceBEq, Nat.reduceBNe, Int.reduceBEq, Int.reduceBNe, Int.reduceLE, Int.reduceEq, Int.reduceMod, Int.reduceNeg, boolBin, strBin, intBin, unA, fillA, ne_eq, reduceCtorEq, Nat.reduceAdd, Nat.reduceSub, Nat.reduceLeDiff, Nat.reduceLT, Nat.reduceEqDiff, Int.reduceToNat, eq_self, rulesT, rulesD, ix_22, Fl.g0, Fl.g1, Fl.g2, Fl.len, Fl.all, Fl.take, Fl.drop, Fl.sall, Frame.g0, Frame.g1, Frame.g2, Frame.g3, Frame.len, Frame.all, Frame.take, Frame.drop, Frame.sall, Way.g0, Way.g1, Way.len, Way.all, Way.take, Way.drop, Way.sall, *]
          | (refine allK_intro fun n hn => ?_; try simp only [fresh_set] at hn)
          | (refine ifK_intro (fun h => ?_) (fun h => ?_) <;> (try simp only [rulesE] at h) <;> try (exfalso; (try simp only [rulesF] at h); omega))
          | (refine keeps_sub (Mem.sub_set ?_) ?_; focus (simp [Mem.set_at, nomem, *]; done))
        refine yield_on hY' (hsub.trans (Mem.sub_set hn)) fun rr m' M' hh hs' hf => ?_
        rcases hh with ⟨rfl, hh⟩ | ⟨rfl, hh⟩
        · repeat' first
            | simp -dsimp (disch := omega) only [↓rulesA, rulesB, rulesC, Int.reduceLT, nth, upd, put, storeN, AV.one, Nat.reduceBEq, Nat.reduceBNe, Int.reduceBEq, Int.reduceBNe, Int.reduceLE, Int.reduceEq, Int.reduceMod, Int.reduceNeg, boolBin, strBin, intBin, unA, fillA, ne_eq, reduceCtorEq, Nat.reduceAdd, Nat.reduceSub, Nat.reduceLeDiff, Nat.reduceLT, Nat.reduceEqDiff, Int.reduceToNat, eq_self, rulesT, rulesD, *]
            | (refine allK_intro fun n hn => ?_; try simp only [fresh_set] at hn)
            | (refine ifK_intro (fun h => ?_) (fun h => ?_) <;> (try simp only [rulesE] at h) <;> try (exfalso; (try simp only [rulesF] at h); omega))
            | (refine keeps_sub (Mem.sub_set ?_) ?_; focus (simp [Mem.set_at, nomem, *]; done))
          refine again_intro (f.list.length - (i + 1)) (by omega) M' (Mem.sub.refl _) ⟨i + 1, m', by omega, rfl, by rw [hst, List.length_append]; exact hh, hs', ?_, ?_, ?_, ?_, ?_, ?_, ?_, ?_⟩
          all_goals try (simp (disch := omega) only [nth_upd, pickB_true, pickB_false, inB_lt, upd_len, cast_succ, Int.cast_ofNat_Int, Nat.reduceBEq, beq_self_eq_true, reduceCtorEq, *]; done)
        · repeat' first
            | simp -dsimp (disch := omega) only [↓rulesA, rulesB, rulesC, Int.reduceLT, nth, upd, put, storeN, AV.one, Nat.reduceBEq, Nat.reduceBNe, Int.reduceBEq, Int.reduceBNe, Int.reduceLE, Int.reduceEq, Int.reduceMod, Int.reduceNeg, boolBin, strBin, intBin, unA, fillA, ne_eq, reduceCtorEq, Nat.reduceAdd, Nat.reduceSub, Nat.reduceLeDiff, Nat.reduceLT, Nat.reduceEqDiff, Int.reduceToNat, eq_self, rulesT, rulesD, *]
            | (refine allK_intro fun n hn => ?_; try simp only [fresh_set] at hn)
            | (refine ifK_intro (fun h => ?_) (fun h => ?_) <;> (try simp only [rulesE] at h) <;> try (exfalso; (try simp only [rulesF] at h); omega))
            | (refine keeps_sub (Mem.sub_set ?_) ?_; focus (simp [Mem.set_at, nomem, *]; done))
          exact Turns.sub hs' (hstop _ hh)
      · clear b2
        repeat' first
          | simp -dsimp (disch := omega) only [↓rulesA, rulesB, rulesC, Int.reduceLT, nth, upd, put, storeN, AV.one, Nat.reduceBEq, Nat.reduceBNe, Int.reduceBEq, Int.reduceBNe, Int.reduceLE, Int.reduceEq, Int.reduceMod, Int.reduceNeg, boolBin, strBin, intBin, unA, fillA, ne_eq, reduceCtorEq, Nat.reduceAdd, Nat.reduceSub, Nat.reduceLeDiff, Nat.reduceLT, Nat.reduceEqDiff, Int.reduceToNat, eq_self, rulesT, rulesD, ix_22, Fl.g0, Fl.g1, Fl.g2, Fl.len, Fl.all, Fl.take, Fl.drop, Fl.sall, Frame.g0, Frame.g1, Frame.g2, Frame.g3, Frame.len, Frame.all, Frame.take, Frame.drop, Frame.sall, Way.g0, Way.g1, Way.len, Way.all, Way.take, Way.drop, Way.sall, *]
          | (refine allK_intro fun n hn => ?_; try simp only [fresh_set] at hn)
          | (refine ifK_intro (fun h => ?_) (fun h => ?_) <;> (try simp only [rulesE] at h) <;> try (exfalso; (try simp only [rulesF] at h); omega))
          | (refine keeps_sub (Mem.sub_set ?_) ?_; focus (simp [Mem.set_at, nomem, *]; done))
        refine yield_on hY' (hsub.trans (Mem.sub_set hn)) fun rr m' M' hh hs' hf => ?_
        rcases hh with ⟨rfl, hh⟩ | ⟨rfl, hh⟩
        · repeat' first
            | simp -dsimp (disch := omega) only [↓rulesA, rulesB, rulesC, Int.reduceLT, nth, upd, put, storeN, AV.one, Nat.reduceBEq, Nat.reduceBNe, Int.reduceBEq, Int.reduceBNe, Int.reduceLE, Int.reduceEq, Int.reduceMod, Int.reduceNeg, boolBin, strBin, intBin, unA, fillA, ne_eq, reduceCtorEq, Nat.reduceAdd, Nat.reduceSub, Nat.reduceLeDiff, Nat.reduceLT, Nat.reduceEqDiff, Int.reduceToNat, eq_self, rulesT, rulesD, *]
            | (refine allK_intro fun n hn => ?_; try simp only [fresh_set] at hn)
            | (refine ifK_intro (fun h => ?_) (fun h => ?_) <;> (try simp only [rulesE] at h) <;> try (exfalso; (try simp only [rulesF] at h); omega))
            | (refine keeps_sub (Mem.sub_set ?_) ?_; focus (simp [Mem.set_at, nomem, *]; done))
          refine again_intro (f.list.length - (i + 1)) (by omega) M' (Mem.sub.refl _) ⟨i + 1, m', by omega, rfl, by rw [hst, List.length_append]; exact hh, hs', ?_, ?_, ?_, ?_, ?_, ?_, ?_, ?_⟩
          all_goals try (simp (disch := omega) only [nth_upd, pickB_true, pickB_false, inB_lt, upd_len, cast_succ, Int.cast_ofNat_Int, Nat.reduceBEq, beq_self_eq_true, reduceCtorEq, *]; done)
        · repeat' first
            | simp -dsimp (disch := omega) only [↓rulesA, rulesB, rulesC, Int.reduceLT, nth, upd, put, storeN, AV.one, Nat.reduceBEq, Nat.reduceBNe, Int.reduceBEq, Int.reduceBNe, Int.reduceLE, Int.reduceEq, Int.reduceMod, Int.reduceNeg, boolBin, strBin, intBin, unA, fillA, ne_eq, reduceCtorEq, Nat.reduceAdd, Nat.reduceSub, Nat.reduceLeDiff, Nat.reduceLT, Nat.reduceEqDiff, Int.reduceToNat, eq_self, rulesT, rulesD, *]
            | (refine allK_intro fun n hn => ?_; try simp only [fresh_set] at hn)
            | (refine ifK_intro (fun h => ?_) (fun h => ?_) <;> (try simp only [rulesE] at h) <;> try (exfalso; (try simp only [rulesF] at h); omega))
            | (refine keeps_sub (Mem.sub_set ?_) ?_; focus (simp [Mem.set_at, nomem, *]; done))
          exact Turns.sub hs' (hstop _ hh)
    | false =>
      have hst := hitTo_no (l := f.list) hw
      rw [hw] at hhit
      have b1 : ((f.list.getD i default).to_ == w.to_) = true → any = false ∧ ((f.list.getD i default).from_ == w.from_) = false := fun h => by
        have h' := hhit.symm
        rw [decide_eq_true (by simpa using h), Bool.true_and, Bool.or_eq_false_iff] at h'
        exact ⟨h'.1, beq_eq_false_iff_ne.2 (of_decide_eq_false h'.2)⟩
      clear hhit hw hY
      cases hb : ((f.list.getD i default).to_ == w.to_) with
      | true =>
        obtain ⟨rfl, b3⟩ := b1 hb
        clear b1
        repeat' first
          | simp -dsimp (disch := omega) only [↓rulesA, rulesB, rulesC, Int.reduceLT, nth, upd, put, storeN, AV.one, Nat.reduceBEq, Nat.reduceBNe, Int.reduceBEq, Int.reduceBNe, Int.reduceLE, Int.reduceEq, Int.reduceMod, Int.reduceNeg, boolBin, strBin, intBin, unA, fillA, ne_eq, reduceCtorEq, Nat.reduceAdd, Nat.reduceSub, Nat.reduceLeDiff, Nat.reduceLT, Nat.reduceEqDiff, Int.reduceToNat, eq_self, rulesT, rulesD, ix_22, Fl.g0, Fl.g1, Fl.g2, Fl.len, Fl.all, Fl.take, Fl.drop, Fl.sall, Frame.g0, Frame.g1, Frame.g2, Frame.g3, Frame.len, Frame.all, Frame.take, Frame.drop, Frame.sall, Way.g0, Way.g1, Way.len, Way.all, Way.take, Way.drop, Way.sall, *]
          | (refine allK_intro fun n hn => ?_; try simp only [fresh_set] at hn)
          | (refine ifK_intro (fun h => ?_) (fun h => ?_) <;> (try simp only [rulesE] at h) <;> try (exfalso; (try simp only [rulesF] at h); omega))
          | (refine keeps_sub (Mem.sub_set ?_) ?_; focus (simp [Mem.set_at, nomem, *]; done))
        refine again_intro (f.list.length - (i + 1)) (by omega) _ (Mem.sub.refl _) ⟨i + 1, mI, by omega, rfl, by rw [hst]; exact hI, hsub.trans (Mem.sub_set hn), ?_, ?_, ?_, ?_, ?_, ?_, ?_, ?_⟩
        all_goals try (simp (disch := omega) only [nth_upd, pickB_true, pickB_false, inB_lt, upd_len, cast_succ, Int.cast_ofNat_Int, Nat.reduceBEq, beq_self_eq_true, reduceCtorEq, *]; done)
      | false =>
        clear b1
        repeat' first
          | simp -dsimp (disch := omega) only [↓rulesA, rulesB, rulesC, Int.reduceLT, nth, upd, put, storeN, AV.one, Nat.reduceBEq, Nat.reduceBNe, Int.reduceBEq, Int.reduceBNe, Int.reduceLE, Int.reduceEq, Int.reduceMod, Int.reduceNeg, boolBin, strBin, intBin, unA, fillA, ne_eq, reduceCtorEq, Nat.reduceAdd, Nat.reduceSub, Nat.reduceLeDiff, Nat.reduceLT, Nat.reduceEqDiff, Int.reduceToNat, eq_self, rulesT, rulesD, ix_22, Fl.g0, Fl.g1, Fl.g2, Fl.len, Fl.all, Fl.take, Fl.drop, Fl.sall, Frame.g0, Frame.g1, Frame.g2, Frame.g3, Frame.len, Frame.all, Frame.take, Frame.drop, Frame.sall, Way.g0, Way.g1, Way.len, Way.all, Way.take, Way.drop, Way.sall, *]
          | (refine allK_intro fun n hn => ?_; try simp only [fresh_set] at hn)
          | (refine ifK_intro (fun h => ?_) (fun h => ?_) <;> (try simp only [rulesE] at h) <;> try (exfalso; (try simp only [rulesF] at h); omega))
          | (refine keeps_sub (Mem.sub_set ?_) ?_; focus (simp [Mem.set_at, nomem, *]; done))
        refine again_intro (f.list.length - (i + 1)) (by omega) _ (Mem.sub.refl _) ⟨i + 1, mI, by omega, rfl, by rw [hst]; exact hI, hsub.trans (Mem.sub_set hn), ?_, ?_, ?_, ?_, ?_, ?_, ?_, ?_⟩
        all_goals try (simp (disch := omega) only [nth_upd, pickB_true, pickB_false, inB_lt, upd_len, cast_succ, Int.cast_ofNat_Int, Nat.reduceBEq, beq_self_eq_true, reduceCtorEq, *]; done)
  · have : i = f.list.length := by omega
    subst this
    repeat' first
      | simp -dsimp (disch := omega) only [↓rulesA, rulesB, rulesC, Int.reduceLT, nth, upd, put, storeN, AV.one, Nat.reduceBEq, Nat.reduceBNe, Int.reduceBEq, Int.reduceBNe, Int.reduceLE, Int.reduceEq, Int.reduceMod, Int.reduceNeg, boolBin, strBin, intBin, unA, fillA, ne_eq, reduceCtorEq, Nat.reduceAdd, Nat.reduceSub, Nat.reduceLeDiff, Nat.reduceLT, Nat.reduceEqDiff, Int.reduceToNat, eq_self, rulesT, rulesD, *]
      | (refine allK_intro fun n hn => ?_; try simp only [fresh_set] at hn)
      | (refine ifK_intro (fun h => ?_) (fun h => ?_) <;> (try simp only [rulesE] at h) <;> try (exfalso; (try simp only [rulesF] at h); omega))
      | (refine keeps_sub (Mem.sub_set ?_) ?_; focus (simp [Mem.set_at, nomem, *]; done))
    refine Turns.sub hsub (hend _ ?_)
    simpa using hI
end Go.Proofs.Ytdhbonjbjnodhaa

set_option maxRecDepth 100000
set_option maxHeartbeats 1000000
set_option linter.unusedSimpArgs false
set_option linter.unusedVariables false
namespace Go.Proofs.Ytdhbonjbjnodhaa
open Go.Abs
attribute [local irreducible] C X CC Y CV CW binK litK AppK PureC PureCV againK loopV rangeV allK ifK got onB condK V stepsK planK opK firstK seeE keepsK
theorem startA_two (env : List AV) (t u : Nat) (v w : AV) : startA env #[t, u] [v, w] = upd (upd env t v) u w := rfl
def intC (k : Int) : List AV := [.val (.int .i64 k)]
theorem iflat (k : Int) : AV.flat.flats (intC k) = true := rfl
theorem intC_0 (k : Int) : (intC k)[0]? = some (.val (.int .i64 k)) := rfl
theorem intC_len (k : Int) : (intC k).length = 1 := rfl
theorem src_31 (m : Mem) (l : List Int) (x : Bool) : srcA Try.prog m 31 1 (.vs (l.map intC) x) = some (l.length, (l.map intC).flatten) := src_vs intC ti_31 rfl (fun _ => ⟨rfl, rfl⟩) m l x
theorem ix_31 (l : List Int) (x : Bool) (kk : IntKind) (k : Int) (h0 : 0 ≤ k) (h1 : k < l.length) : indexAddrA Try.prog 31 (.vs (l.map intC) x) (.val (.int kk k)) = some (.vp (intC (l.getD k.toNat default)) 0) := index_vs intC ti_31 rfl ti_2 (fun _ => rfl) l x kk k h0 h1
theorem lit1i (k : Int) : litA Try.prog 31 1 [(0, .val (.int .i64 k))] = some (2, 1, intC k) := by
  simp only [litA, ti_31, ti_2, z_2, fillA]
  rfl
theorem int_snoc (L : List Int) (k : Int) : (L.map intC).flatten ++ [intC k].flatten = ((L ++ [k]).map intC).flatten := by simp
theorem int_len (L : List Int) : (L.map intC).flatten.length = L.length := by
  have := row_len' intC (s := 1) (fun _ => rfl) L
  rw [this, Nat.mul_one]
def numsL (H : List (Nat × Frame)) : List Int := H.map fun p => p.2.number
theorem numsL_len (H : List (Nat × Frame)) : (numsL H).length = H.length := List.length_map _
theorem numsL_next (H : List (Nat × Frame)) (k : Nat) (hk : k < H.length) : numsL (H.take (k + 1)) = numsL (H.take k) ++ [H[k].2.number] := by
  unfold numsL
  rw [List.take_add_one, List.getElem?_eq_getElem hk, List.map_append]; rfl
def onJ (b : Nat) (H : List (Nat × Frame)) (k : Nat) (m1 : Mem) : Prop := k ≤ H.length ∧ ((k = 0 ∧ m1 = nomem.set b (.cells false 31 [.val (.slice none 0 0)])) ∨ (0 < k ∧ ∃ q, q ≠ b ∧ m1 = (nomem.set b (.cells false 31 [.sl q 0 k k])).set q (.cells true 2 ((numsL (H.take k)).map intC).flatten)))
def onL (l : List Frame) (w : Way) : List Int := numsL (hitTo l w false l.length)
theorem hit_len (l : List Frame) (w : Way) (any : Bool) : ∀ i, (hitTo l w any i).length ≤ i
  | 0 => Nat.le_refl _
  | i + 1 => by
    have := hit_len l w any i
    unfold hitTo
    split
    · simp; omega
    · omega
theorem F13 (f : Fl) (x y : Bool) (a b : Int) (hl : f.list.length ≤ 65536) : F Try.prog 13 [.agg (f.rc x y), .val (.int .i64 a), .val (.int .i64 b)] (.vs ((onL f.list ⟨a, b⟩).map intC) false) := by
  have hI := I46 f x y ⟨a, b⟩ false (by omega)
  have hHl := hit_len f.list ⟨a, b⟩ false f.list.length
  unfold onL
  generalize hitTo f.list ⟨a, b⟩ false f.list.length = H at *
  refine F13_of ?_
  unfold k13
  repeat' first
    | simp -dsimp (disch := omega) only [↓rulesA, rulesB, rulesC, Int.reduceLT, nth, upd, put, storeN, AV.one, Nat.reduceBEq, Nat.reduceBNe, Int.reduceBEq, Int.reduceBNe, Int.reduceLE, Int.reduceEq, Int.reduceMod, Int.reduceNeg, boolBin, strBin, intBin, unA, fillA, ne_eq, reduceCtorEq, Nat.reduceAdd, Nat.reduceSub, Nat.reduceLeDiff, Nat.reduceLT, Nat.reduceEqDiff, Int.reduceToNat, eq_self, rulesT, rulesD, Fl.g0, Fl.g1, Fl.g2, Fl.len, Fl.all, Fl.take, Fl.drop, Fl.sall, *]
    | (refine allK_intro fun n hn => ?_; try simp only [fresh_set] at hn)
    | (refine ifK_intro (fun h => ?_) (fun h => ?_) <;> (try simp only [rulesE] at h) <;> try (exfalso; (try simp only [rulesF] at h); omega))
    | (refine keeps_sub (Mem.sub_set ?_) ?_; focus (simp [Mem.set_at, nomem, *]; done))
  rename_i na hna
  revert n
  intro nb hnb
  refine call_on (C28 f x y ⟨a, b⟩ false) (nomem_sub _) fun q m' ⟨hq, hm⟩ _ => ?_
  subst hq
  subst hm
  rw [Mem.plus_nomem nomem _ fun n h => absurd rfl h]
  repeat' first
    | simp -dsimp (disch := omega) only [↓rulesA, rulesB, rulesC, Int.reduceLT, nth, upd, put, storeN, AV.one, Nat.reduceBEq, Nat.reduceBNe, Int.reduceBEq, Int.reduceBNe, Int.reduceLE, Int.reduceEq, Int.reduceMod, Int.reduceNeg, boolBin, strBin, intBin, unA, fillA, ne_eq, reduceCtorEq, Nat.reduceAdd, Nat.reduceSub, Nat.reduceLeDiff, Nat.reduceLT, Nat.reduceEqDiff, Int.reduceToNat, eq_self, rulesT, rulesD, *]
    | (refine allK_intro fun n hn => ?_; try simp only [fresh_set] at hn)
    | (refine ifK_intro (fun h => ?_) (fun h => ?_) <;> (try simp only [rulesE] at h) <;> try (exfalso; (try simp only [rulesF] at h); omega))
    | (refine keeps_sub (Mem.sub_set ?_) ?_; focus (simp [Mem.set_at, nomem, *]; done))
  refine range_iter mixed la13_0_is lb13_0_is hI (nomem_sub _) ?_ (fun n h => by cases h) (onJ nb H) (nomem.set nb (.cells false 31 [.val (.slice none 0 0)])) (nomem_set_sub (by simp [Mem.set_at, *])) ⟨by omega, .inl ⟨rfl, rfl⟩⟩ ?_ ?_
  · intro l hl
    obtain ⟨d, _, rfl⟩ := List.mem_map.1 hl
    rfl
  · rintro k hk nl m1 ⟨kl, hm1⟩ hnl
    have hkl : k < H.length := by simpa using hk
    have e : (H.map hrow)[k] = [.val (.int .i64 (H[k]).1), .agg (H[k]).2.cells] := by simp [hrow]
    rw [e]
    have hnx := numsL_next H k hkl
    generalize H[k] = p at *
    unfold la13_0 lb13_0
    clear hk e
    rcases hm1 with ⟨rfl, rfl⟩ | ⟨k0, q, hq, rfl⟩
    · simp only [fresh_set] at hnl
      repeat' first
        | simp -dsimp (disch := omega) only [↓rulesA, rulesB, rulesC, Int.reduceLT, nth, upd, put, storeN, AV.one, Nat.reduceBEq, Nat.reduceBNe, Int.reduceBEq, Int.reduceBNe, Int.reduceLE, Int.reduceEq, Int.reduceMod, Int.reduceNeg, boolBin, strBin, intBin, unA, fillA, ne_eq, reduceCtorEq, Nat.reduceAdd, Nat.reduceSub, Nat.reduceLeDiff, Nat.reduceLT, Nat.reduceEqDiff, Int.reduceToNat, eq_self, rulesT, rulesD, startA_two, Frame.g0, Frame.g1, Frame.g2, Frame.g3, Frame.len, Frame.all, Frame.take, Frame.drop, Frame.sall, *]
        | (refine allK_intro fun n hn => ?_; try simp only [fresh_set] at hn)
        | (refine ifK_intro (fun h => ?_) (fun h => ?_) <;> (try simp only [rulesE] at h) <;> try (exfalso; (try simp only [rulesF] at h); omega))
        | (refine keeps_sub (Mem.sub_set ?_) ?_; focus (simp [Mem.set_at, nomem, *]; done))
      refine lit_vs (lit1i _) rfl ?_
      repeat' first
        | simp -dsimp (disch := omega) only [↓rulesA, rulesB, rulesC, Int.reduceLT, nth, upd, put, storeN, AV.one, Nat.reduceBEq, Nat.reduceBNe, Int.reduceBEq, Int.reduceBNe, Int.reduceLE, Int.reduceEq, Int.reduceMod, Int.reduceNeg, boolBin, strBin, intBin, unA, fillA, ne_eq, reduceCtorEq, Nat.reduceAdd, Nat.reduceSub, Nat.reduceLeDiff, Nat.reduceLT, Nat.reduceEqDiff, Int.reduceToNat, eq_self, rulesT, rulesD, startA_two, Frame.g0, Frame.g1, Frame.g2, Frame.g3, Frame.len, Frame.all, Frame.take, Frame.drop, Frame.sall, *]
        | (refine allK_intro fun n hn => ?_; try simp only [fresh_set] at hn)
        | (refine ifK_intro (fun h => ?_) (fun h => ?_) <;> (try simp only [rulesE] at h) <;> try (exfalso; (try simp only [rulesF] at h); omega))
        | (refine keeps_sub (Mem.sub_set ?_) ?_; focus (simp [Mem.set_at, nomem, *]; done))
      refine append_nil app_31 (src_31 _ [p.2.number] _) (by simp) fun q hq => ?_
      simp only [fresh_set] at hq
      repeat' first
        | simp -dsimp (disch := omega) only [↓rulesA, rulesB, rulesC, Int.reduceLT, nth, upd, put, storeN, AV.one, Nat.reduceBEq, Nat.reduceBNe, Int.reduceBEq, Int.reduceBNe, Int.reduceLE, Int.reduceEq, Int.reduceMod, Int.reduceNeg, boolBin, strBin, intBin, unA, fillA, ne_eq, reduceCtorEq, Nat.reduceAdd, Nat.reduceSub, Nat.reduceLeDiff, Nat.reduceLT, Nat.reduceEqDiff, Int.reduceToNat, eq_self, rulesT, rulesD, startA_two, Frame.g0, Frame.g1, Frame.g2, Frame.g3, Frame.len, Frame.all, Frame.take, Frame.drop, Frame.sall, *]
        | (refine allK_intro fun n hn => ?_; try simp only [fresh_set] at hn)
        | (refine ifK_intro (fun h => ?_) (fun h => ?_) <;> (try simp only [rulesE] at h) <;> try (exfalso; (try simp only [rulesF] at h); omega))
        | (refine keeps_sub (Mem.sub_set ?_) ?_; focus (simp [Mem.set_at, nomem, *]; done))
      rw [roundV_normal]
      refine ⟨by simp [Mem.set_at, *], _, ?_, ⟨by omega, .inr ⟨by omega, q, by simp [hq], rfl⟩⟩⟩
      rw [hnx]
      refine Mem.set_sub (nomem_set_sub ?_) ?_ <;> simp [Mem.set_at, Mem.del_at, numsL, intC, *]
    · simp only [fresh_set] at hnl
      have hq' := Ne.symm hq
      repeat' first
        | simp -dsimp (disch := omega) only [↓rulesA, rulesB, rulesC, Int.reduceLT, nth, upd, put, storeN, AV.one, Nat.reduceBEq, Nat.reduceBNe, Int.reduceBEq, Int.reduceBNe, Int.reduceLE, Int.reduceEq, Int.reduceMod, Int.reduceNeg, boolBin, strBin, intBin, unA, fillA, ne_eq, reduceCtorEq, Nat.reduceAdd, Nat.reduceSub, Nat.reduceLeDiff, Nat.reduceLT, Nat.reduceEqDiff, Int.reduceToNat, eq_self, rulesT, rulesD, startA_two, Frame.g0, Frame.g1, Frame.g2, Frame.g3, Frame.len, Frame.all, Frame.take, Frame.drop, Frame.sall, *]
        | (refine allK_intro fun n hn => ?_; try simp only [fresh_set] at hn)
        | (refine ifK_intro (fun h => ?_) (fun h => ?_) <;> (try simp only [rulesE] at h) <;> try (exfalso; (try simp only [rulesF] at h); omega))
        | (refine keeps_sub (Mem.sub_set ?_) ?_; focus (simp [Mem.set_at, nomem, *]; done))
      refine lit_vs (lit1i _) rfl ?_
      repeat' first
        | simp -dsimp (disch := omega) only [↓rulesA, rulesB, rulesC, Int.reduceLT, nth, upd, put, storeN, AV.one, Nat.reduceBEq, Nat.reduceBNe, Int.reduceBEq, Int.reduceBNe, Int.reduceLE, Int.reduceEq, Int.reduceMod, Int.reduceNeg, boolBin, strBin, intBin, unA, fillA, ne_eq, reduceCtorEq, Nat.reduceAdd, Nat.reduceSub, Nat.reduceLeDiff, Nat.reduceLT, Nat.reduceEqDiff, Int.reduceToNat, eq_self, rulesT, rulesD, startA_two, Frame.g0, Frame.g1, Frame.g2, Frame.g3, Frame.len, Frame.all, Frame.take, Frame.drop, Frame.sall, *]
        | (refine allK_intro fun n hn => ?_; try simp only [fresh_set] at hn)
        | (refine ifK_intro (fun h => ?_) (fun h => ?_) <;> (try simp only [rulesE] at h) <;> try (exfalso; (try simp only [rulesF] at h); omega))
        | (refine keeps_sub (Mem.sub_set ?_) ?_; focus (simp [Mem.set_at, nomem, *]; done))
      refine append_open app_31 (src_31 _ [p.2.number] _) (cs := ((numsL (H.take k)).map intC).flatten) (bt := 2) (by simp [Mem.set_at, *]) cs_2 (by rw [int_len, numsL_len, List.length_take]; simp; omega) (by simp; omega) fun q2 hq2 => ?_
      simp only [fresh_set] at hq2
      repeat' first
        | simp -dsimp (disch := omega) only [↓rulesA, rulesB, rulesC, Int.reduceLT, nth, upd, put, storeN, AV.one, Nat.reduceBEq, Nat.reduceBNe, Int.reduceBEq, Int.reduceBNe, Int.reduceLE, Int.reduceEq, Int.reduceMod, Int.reduceNeg, boolBin, strBin, intBin, unA, fillA, ne_eq, reduceCtorEq, Nat.reduceAdd, Nat.reduceSub, Nat.reduceLeDiff, Nat.reduceLT, Nat.reduceEqDiff, Int.reduceToNat, eq_self, rulesT, rulesD, startA_two, Frame.g0, Frame.g1, Frame.g2, Frame.g3, Frame.len, Frame.all, Frame.take, Frame.drop, Frame.sall, *]
        | (refine allK_intro fun n hn => ?_; try simp only [fresh_set] at hn)
        | (refine ifK_intro (fun h => ?_) (fun h => ?_) <;> (try simp only [rulesE] at h) <;> try (exfalso; (try simp only [rulesF] at h); omega))
        | (refine keeps_sub (Mem.sub_set ?_) ?_; focus (simp [Mem.set_at, nomem, *]; done))
      rw [roundV_normal]
      refine ⟨by simp [Mem.set_at, *], (nomem.set nb (.cells false 31 [.sl q2 0 (k + 1) (k + 1)])).set q2 (.cells true 2 ((numsL (H.take (k + 1))).map intC).flatten), ?_, ⟨by omega, .inr ⟨by omega, q2, by simp [hq2], rfl⟩⟩⟩
      rw [hnx, ← int_snoc]
      refine Mem.set_sub (nomem_set_sub ?_) ?_ <;> simp [Mem.set_at, Mem.del_at, *]
  · rintro m1 ⟨kl, hm1⟩
    rw [List.length_map] at kl hm1
    rcases hm1 with ⟨h0, rfl⟩ | ⟨h0, q, hq, rfl⟩
    · have : H = [] := List.eq_nil_of_length_eq_zero h0
      subst this
      repeat' first
        | simp -dsimp (disch := omega) only [↓rulesA, rulesB, rulesC, Int.reduceLT, nth, upd, put, storeN, AV.one, Nat.reduceBEq, Nat.reduceBNe, Int.reduceBEq, Int.reduceBNe, Int.reduceLE, Int.reduceEq, Int.reduceMod, Int.reduceNeg, boolBin, strBin, intBin, unA, fillA, ne_eq, reduceCtorEq, Nat.reduceAdd, Nat.reduceSub, Nat.reduceLeDiff, Nat.reduceLT, Nat.reduceEqDiff, Int.reduceToNat, eq_self, rulesT, rulesD, *]
        | (refine allK_intro fun n hn => ?_; try simp only [fresh_set] at hn)
        | (refine ifK_intro (fun h => ?_) (fun h => ?_) <;> (try simp only [rulesE] at h) <;> try (exfalso; (try simp only [rulesF] at h); omega))
        | (refine keeps_sub (Mem.sub_set ?_) ?_; focus (simp [Mem.set_at, nomem, *]; done))
      exact .nil
    · have hq' := Ne.symm hq
      rw [List.take_length]
      repeat' first
        | simp -dsimp (disch := omega) only [↓rulesA, rulesB, rulesC, Int.reduceLT, nth, upd, put, storeN, AV.one, Nat.reduceBEq, Nat.reduceBNe, Int.reduceBEq, Int.reduceBNe, Int.reduceLE, Int.reduceEq, Int.reduceMod, Int.reduceNeg, boolBin, strBin, intBin, unA, fillA, ne_eq, reduceCtorEq, Nat.reduceAdd, Nat.reduceSub, Nat.reduceLeDiff, Nat.reduceLT, Nat.reduceEqDiff, Int.reduceToNat, eq_self, rulesT, rulesD, *]
        | (refine allK_intro fun n hn => ?_; try simp only [fresh_set] at hn)
        | (refine ifK_intro (fun h => ?_) (fun h => ?_) <;> (try simp only [rulesE] at h) <;> try (exfalso; (try simp only [rulesF] at h); omega))
        | (refine keeps_sub (Mem.sub_set ?_) ?_; focus (simp [Mem.set_at, nomem, *]; done))
      have := New.row intC (s := 1) (cap := H.length) (fun _ => rfl) iflat (numsL H) (m := (nomem.set nb (.cells false 31 [.sl q 0 H.length H.length])).set q (.cells true 2 ((numsL H).map intC).flatten)) (Mem.set_same _ _ _)
      rw [numsL_len] at this
      exact this
def oldestR (l : List Frame) (to : Int) : Int × Bool := match hitTo l ⟨0, to⟩ true l.length with
  | [] => (0, false)
  | p :: _ => (p.2.number, true)
theorem F10 (f : Fl) (x y : Bool) (b : Int) (hl : f.list.length ≤ 65536) : F Try.prog 10 [.agg (f.rc x y), .val (.int .i64 b)] (.tup [.val (.int .i64 (oldestR f.list b).1), .val (.bool (oldestR f.list b).2)]) := by
  have hI := I46 f x y ⟨0, b⟩ true (by omega)
  unfold oldestR
  generalize hitTo f.list ⟨0, b⟩ true f.list.length = H at *
  refine F10_of ?_
  unfold k10
  repeat' first
    | simp -dsimp (disch := omega) only [↓rulesA, rulesB, rulesC, Int.reduceLT, nth, upd, put, storeN, AV.one, Nat.reduceBEq, Nat.reduceBNe, Int.reduceBEq, Int.reduceBNe, Int.reduceLE, Int.reduceEq, Int.reduceMod, Int.reduceNeg, boolBin, strBin, intBin, unA, fillA, ne_eq, reduceCtorEq, Nat.reduceAdd, Nat.reduceSub, Nat.reduceLeDiff, Nat.reduceLT, Nat.reduceEqDiff, Int.reduceToNat, eq_self, rulesT, rulesD, Fl.g0, Fl.g1, Fl.g2, Fl.len, Fl.all, Fl.take, Fl.drop, Fl.sall, *]
    | (refine allK_intro fun n hn => ?_; try simp only [fresh_set] at hn)
    | (refine ifK_intro (fun h => ?_) (fun h => ?_) <;> (try simp only [rulesE] at h) <;> try (exfalso; (try simp only [rulesF] at h); omega))
    | (refine keeps_sub (Mem.sub_set ?_) ?_; focus (simp [Mem.set_at, nomem, *]; done))
  rename_i na hna n4 hn4
  revert n
  intro n5 hn5
  refine call_on (C28 f x y ⟨0, b⟩ true) (nomem_sub _) fun q m' ⟨hq, hm⟩ _ => ?_
  subst hq
  subst hm
  rw [Mem.plus_nomem nomem _ fun n h => absurd rfl h]
  repeat' first
    | simp -dsimp (disch := omega) only [↓rulesA, rulesB, rulesC, Int.reduceLT, nth, upd, put, storeN, AV.one, Nat.reduceBEq, Nat.reduceBNe, Int.reduceBEq, Int.reduceBNe, Int.reduceLE, Int.reduceEq, Int.reduceMod, Int.reduceNeg, boolBin, strBin, intBin, unA, fillA, ne_eq, reduceCtorEq, Nat.reduceAdd, Nat.reduceSub, Nat.reduceLeDiff, Nat.reduceLT, Nat.reduceEqDiff, Int.reduceToNat, eq_self, rulesT, rulesD, *]
    | (refine allK_intro fun n hn => ?_; try simp only [fresh_set] at hn)
    | (refine ifK_intro (fun h => ?_) (fun h => ?_) <;> (try simp only [rulesE] at h) <;> try (exfalso; (try simp only [rulesF] at h); omega))
    | (refine keeps_sub (Mem.sub_set ?_) ?_; focus (simp [Mem.set_at, nomem, *]; done))
  refine range_iter mixed la10_0_is lb10_0_is hI (nomem_sub _) ?_ (fun n h => by cases h) (fun k m1 => k = 0 ∧ m1 = (nomem.set n4 (.cells false 2 [.val (.int .i64 0)])).set n5 (.cells false 4 [.val (.bool false)])) _ (Mem.set_sub (nomem_set_sub ?_) ?_) ⟨rfl, rfl⟩ ?_ ?_
  · intro l hl
    obtain ⟨d, _, rfl⟩ := List.mem_map.1 hl
    rfl
  · simp [Mem.set_at, *]
  · simp [Mem.set_at, *]
  · rintro k hk nl m1 ⟨rfl, rfl⟩ hnl
    cases H with
    | nil => simp at hk
    | cons p H =>
      have e : ((p :: H).map hrow)[0] = [.val (.int .i64 p.1), .agg p.2.cells] := rfl
      rw [e]
      unfold la10_0 lb10_0
      simp only [fresh_set] at hnl
      clear e hk
      repeat' first
        | simp -dsimp (disch := omega) only [↓rulesA, rulesB, rulesC, Int.reduceLT, nth, upd, put, storeN, AV.one, Nat.reduceBEq, Nat.reduceBNe, Int.reduceBEq, Int.reduceBNe, Int.reduceLE, Int.reduceEq, Int.reduceMod, Int.reduceNeg, boolBin, strBin, intBin, unA, fillA, ne_eq, reduceCtorEq, Nat.reduceAdd, Nat.reduceSub, Nat.reduceLeDiff, Nat.reduceLT, Nat.reduceEqDiff, Int.reduceToNat, eq_self, rulesT, rulesD, startA_two, Frame.g0, Frame.g1, Frame.g2, Frame.g3, Frame.len, Frame.all, Frame.take, Frame.drop, Frame.sall, *]
        | (refine allK_intro fun n hn => ?_; try simp only [fresh_set] at hn)
        | (refine ifK_intro (fun h => ?_) (fun h => ?_) <;> (try simp only [rulesE] at h) <;> try (exfalso; (try simp only [rulesF] at h); omega))
        | (refine keeps_sub (Mem.sub_set ?_) ?_; focus (simp [Mem.set_at, nomem, *]; done))
      rw [roundV_ret]
      refine ⟨by simp [Mem.set_at, *], ?_⟩
      change inBlk 0 _ .ret _ _
      repeat' first
        | simp -dsimp (disch := omega) only [↓rulesA, rulesB, rulesC, Int.reduceLT, nth, upd, put, storeN, AV.one, Nat.reduceBEq, Nat.reduceBNe, Int.reduceBEq, Int.reduceBNe, Int.reduceLE, Int.reduceEq, Int.reduceMod, Int.reduceNeg, boolBin, strBin, intBin, unA, fillA, ne_eq, reduceCtorEq, Nat.reduceAdd, Nat.reduceSub, Nat.reduceLeDiff, Nat.reduceLT, Nat.reduceEqDiff, Int.reduceToNat, eq_self, rulesT, rulesD, *]
        | (refine allK_intro fun n hn => ?_; try simp only [fresh_set] at hn)
        | (refine ifK_intro (fun h => ?_) (fun h => ?_) <;> (try simp only [rulesE] at h) <;> try (exfalso; (try simp only [rulesF] at h); omega))
        | (refine keeps_sub (Mem.sub_set ?_) ?_; focus (simp [Mem.set_at, nomem, *]; done))
      exact New.eq rfl rfl
  · rintro m1 ⟨h0, rfl⟩
    have : H = [] := List.eq_nil_of_length_eq_zero (by simpa using h0)
    subst this
    repeat' first
      | simp -dsimp (disch := omega) only [↓rulesA, rulesB, rulesC, Int.reduceLT, nth, upd, put, storeN, AV.one, Nat.reduceBEq, Nat.reduceBNe, Int.reduceBEq, Int.reduceBNe, Int.reduceLE, Int.reduceEq, Int.reduceMod, Int.reduceNeg, boolBin, strBin, intBin, unA, fillA, ne_eq, reduceCtorEq, Nat.reduceAdd, Nat.reduceSub, Nat.reduceLeDiff, Nat.reduceLT, Nat.reduceEqDiff, Int.reduceToNat, eq_self, rulesT, rulesD, *]
      | (refine allK_intro fun n hn => ?_; try simp only [fresh_set] at hn)
      | (refine ifK_intro (fun h => ?_) (fun h => ?_) <;> (try simp only [rulesE] at h) <;> try (exfalso; (try simp only [rulesF] at h); omega))
      | (refine keeps_sub (Mem.sub_set ?_) ?_; focus (simp [Mem.set_at, nomem, *]; done))
    exact New.eq rfl rfl
theorem F12 (a b : List Int) (x y : Bool) (ha : a.length ≤ 140737488355328) : F Try.prog 12 [.vs (a.map intC) x, .vs (b.map intC) y] (.val (.bool (decide (a = b)))) := by
  refine F12_of ?_
  unfold k12
  by_cases hl : a.length = b.length
  · repeat' first
      | simp -dsimp (disch := omega) only [↓rulesA, rulesB, rulesC, Int.reduceLT, nth, upd, put, storeN, AV.one, Nat.reduceBEq, Nat.reduceBNe, Int.reduceBEq, Int.reduceBNe, Int.reduceLE, Int.reduceEq, Int.reduceMod, Int.reduceNeg, boolBin, strBin, intBin, unA, fillA, ne_eq, reduceCtorEq, Nat.reduceAdd, Nat.reduceSub, Nat.reduceLeDiff, Nat.reduceLT, Nat.reduceEqDiff, Int.reduceToNat, eq_self, rulesT, rulesD, *]
      | (refine allK_intro fun n hn => ?_; try simp only [fresh_set] at hn)
      | (refine ifK_intro (fun h => ?_) (fun h => ?_) <;> (try simp only [rulesE] at h) <;> try (exfalso; (try simp only [rulesF] at h); omega))
      | (refine keeps_sub (Mem.sub_set ?_) ?_; focus (simp [Mem.set_at, nomem, *]; done))
    refine loop_intro (fun j env m => ∃ i : Nat, i ≤ a.length ∧ j = a.length - i ∧ m = nomem ∧ Kept (a.take i = b.take i) ∧ env.length = 26 ∧ nth env 0 = .vs (a.map intC) x ∧ nth env 1 = .vs (b.map intC) y ∧ nth env 5 = .val (.int .i64 i)) a.length _ (Mem.sub.refl _) ⟨0, by omega, rfl, rfl, rfl, rfl, rfl, rfl, rfl⟩ ?_
    rintro j env m ⟨i, hi, rfl, rfl, ht, hlen, e0, e1, e5⟩
    repeat' first
      | simp -dsimp (disch := omega) only [↓rulesA, rulesB, rulesC, Int.reduceLT, nth, upd, put, storeN, AV.one, Nat.reduceBEq, Nat.reduceBNe, Int.reduceBEq, Int.reduceBNe, Int.reduceLE, Int.reduceEq, Int.reduceMod, Int.reduceNeg, boolBin, strBin, intBin, unA, fillA, ne_eq, reduceCtorEq, Nat.reduceAdd, Nat.reduceSub, Nat.reduceLeDiff, Nat.reduceLT, Nat.reduceEqDiff, Int.reduceToNat, eq_self, rulesT, rulesD, ix_31, intC_0, intC_len, *]
      | (refine allK_intro fun n hn => ?_; try simp only [fresh_set] at hn)
      | (refine ifK_intro (fun h => ?_) (fun h => ?_) <;> (try simp only [rulesE] at h) <;> try (exfalso; (try simp only [rulesF] at h); omega))
      | (refine keeps_sub (Mem.sub_set ?_) ?_; focus (simp [Mem.set_at, nomem, *]; done))
    · have hne : a.getD i default ≠ b.getD i default := by simpa using h
      rw [decide_eq_false fun e => hne (by rw [e])]
      exact .val
    · have heq : a.getD i default = b.getD i default := by simpa using h
      have ht' : Kept (a.take (i + 1) = b.take (i + 1)) := by show _ = _; rw [tk_next a i (by omega), tk_next b i (by omega), heq, (ht : _ = _)]
      clear h
      refine again_intro (b.length - (i + 1)) (by omega) _ (Mem.sub.refl _) ⟨i + 1, by omega, by omega, rfl, ht', ?_, ?_, ?_, ?_⟩
      all_goals try (simp (disch := omega) only [nth_upd, pickB_true, pickB_false, inB_lt, upd_len, cast_succ, Int.cast_ofNat_Int, Nat.reduceBEq, beq_self_eq_true, reduceCtorEq, *]; done)
    · have hi' : i = b.length := by omega
      have e : a = b := by
        have ht' : a.take i = b.take i := ht
        rw [List.take_of_length_le (by omega), List.take_of_length_le (by omega)] at ht'
        exact ht'
      rw [decide_eq_true e]
      exact .val
  · have e : ¬ a = b := fun h => hl (congrArg _ h)
    rw [decide_eq_false e]
    have hne : ((a.length : Int) != b.length) = true := by rw [bne_iff_ne]; omega
    repeat' first
      | simp -dsimp (disch := omega) only [↓rulesA, rulesB, rulesC, Int.reduceLT, nth, upd, put, storeN, AV.one, Nat.reduceBEq, Nat.reduceBNe, Int.reduceBEq, Int.reduceBNe, Int.reduceLE, Int.reduceEq, Int.reduceMod, Int.reduceNeg, boolBin, strBin, intBin, unA, fillA, ne_eq, reduceCtorEq, Nat.reduceAdd, Nat.reduceSub, Nat.reduceLeDiff, Nat.reduceLT, Nat.reduceEqDiff, Int.reduceToNat, eq_self, rulesT, rulesD, *]
      | (refine allK_intro fun n hn => ?_; try simp only [fresh_set] at hn)
      | (refine ifK_intro (fun h => ?_) (fun h => ?_) <;> (try simp only [rulesE] at h) <;> try (exfalso; (try simp only [rulesF] at h); omega))
      | (refine keeps_sub (Mem.sub_set ?_) ?_; focus (simp [Mem.set_at, nomem, *]; done))
    exact .val
theorem hitTo_nil {l : List Frame} {w : Way} {any : Bool} : ∀ {i : Nat}, (∀ q, q < i → hitB w any (l.getD q default) = false) → hitTo l w any i = []
  | 0, _ => rfl
  | i + 1, h => by rw [hitTo_no (h i (by omega)), hitTo_nil fun q hq => h q (by omega)]
end Go.Proofs.Ytdhbonjbjnodhaa
