/- The texts L1 L2 L3: what is proved on the way to the law. No conditions but those each theorem states. -/
import Derived.Test.YtdhbonjbjnodhaaM2
set_option maxRecDepth 100000
set_option maxHeartbeats 1000000
set_option linter.unusedSimpArgs false
set_option linter.unusedVariables false
namespace Go.Abs
variable {P : Program}
attribute [local irreducible] C X CC Y CV CW binK litK AppK PureC PureCV againK loopV rangeV allK ifK got onB condK V stepsK planK opK firstK seeE keepsK
noncomputable def gClone (t : Nat) : LC := (.seq (.ops [⟨(Go.Op.assign (Go.Operand.const (Go.Value.slice none 0 0))), (some 2), none⟩]) (.seq (.seq (.ops [⟨(Go.Op.move (Go.Operand.tmp 0)), (some 3), none⟩, ⟨(Go.Op.binOp Go.BinOp.eql t (Go.Operand.tmp 3) (Go.Operand.const (Go.Value.slice none 0 0)) t), (some 4), none⟩]) (.cond (Go.Operand.tmp 4) (.seq (.ops [⟨(Go.Op.assign (Go.Operand.const (Go.Value.slice none 0 0))), (some 2), none⟩]) .ret) .skip)) (.seq (.ops [⟨(Go.Op.buildSlice t 0 #[]), (some 5), none⟩, ⟨(Go.Op.move (Go.Operand.tmp 0)), (some 6), none⟩, ⟨(Go.Op.call { callee := (Go.Callee.builtin Go.Builtin.append), args := #[(Go.Operand.tmp 5), (Go.Operand.tmp 6)], argTypes := #[t, t] }), (some 7), none⟩, ⟨(Go.Op.assign (Go.Operand.tmp 7)), (some 2), none⟩]) .ret)))
noncomputable def gInsert (t it g h : Nat) : LC := (.seq (.ops [⟨(Go.Op.assign (Go.Operand.const (Go.Value.slice none 0 0))), (some 6), none⟩]) (.seq (.ops [⟨(Go.Op.move (Go.Operand.tmp 0)), (some 10), none⟩, ⟨(Go.Op.move (Go.Operand.tmp 1)), (some 11), none⟩, ⟨(Go.Op.slice t (Go.Operand.tmp 10) (some (Go.Operand.tmp 11)) none none), (some 12), none⟩]) (.seq (.ops [⟨(Go.Op.move (Go.Operand.tmp 2)), (some 13), none⟩, ⟨(Go.Op.call { callee := (Go.Callee.builtin Go.Builtin.len), args := #[(Go.Operand.tmp 13)], argTypes := #[t] }), (some 14), none⟩, ⟨(Go.Op.assign (Go.Operand.tmp 14)), (some 7), none⟩]) (.seq (.seq (.ops [⟨(Go.Op.move (Go.Operand.tmp 7)), (some 15), none⟩, ⟨(Go.Op.binOp Go.BinOp.eql it (Go.Operand.tmp 15) (Go.Operand.const (Go.Value.int Go.IntKind.i64 0)) it), (some 16), none⟩]) (.cond (Go.Operand.tmp 16) (.seq (.ops [⟨(Go.Op.move (Go.Operand.tmp 0)), (some 17), none⟩, ⟨(Go.Op.assign (Go.Operand.tmp 17)), (some 6), none⟩]) .ret) .skip)) (.seq (.ops [⟨(Go.Op.move (Go.Operand.tmp 0)), (some 18), none⟩, ⟨(Go.Op.call { callee := (Go.Callee.builtin Go.Builtin.len), args := #[(Go.Operand.tmp 18)], argTypes := #[t] }), (some 19), none⟩, ⟨(Go.Op.assign (Go.Operand.tmp 19)), (some 8), none⟩]) (.seq (.seq (.ops [⟨(Go.Op.move (Go.Operand.tmp 1)), (some 20), none⟩, ⟨(Go.Op.move (Go.Operand.tmp 8)), (some 21), none⟩, ⟨(Go.Op.binOp Go.BinOp.eql it (Go.Operand.tmp 20) (Go.Operand.tmp 21) it), (some 22), none⟩]) (.cond (Go.Operand.tmp 22) (.seq (.ops [⟨(Go.Op.move (Go.Operand.tmp 0)), (some 23), none⟩, ⟨(Go.Op.move (Go.Operand.tmp 2)), (some 24), none⟩, ⟨(Go.Op.call { callee := (Go.Callee.builtin Go.Builtin.append), args := #[(Go.Operand.tmp 23), (Go.Operand.tmp 24)], argTypes := #[t, t] }), (some 25), none⟩, ⟨(Go.Op.assign (Go.Operand.tmp 25)), (some 6), none⟩]) .ret) .skip)) (.seq (.seq (.ops [⟨(Go.Op.move (Go.Operand.tmp 8)), (some 26), none⟩, ⟨(Go.Op.move (Go.Operand.tmp 7)), (some 27), none⟩, ⟨(Go.Op.binOp Go.BinOp.add it (Go.Operand.tmp 26) (Go.Operand.tmp 27) it), (some 28), none⟩, ⟨(Go.Op.move (Go.Operand.tmp 0)), (some 29), none⟩, ⟨(Go.Op.call { callee := (Go.Callee.builtin Go.Builtin.cap), args := #[(Go.Operand.tmp 29)], argTypes := #[t] }), (some 30), none⟩, ⟨(Go.Op.binOp Go.BinOp.gtr it (Go.Operand.tmp 28) (Go.Operand.tmp 30) it), (some 31), none⟩]) (.cond (Go.Operand.tmp 31) (.seq (.ops [⟨(Go.Op.move (Go.Operand.tmp 0)), (some 32), none⟩, ⟨(Go.Op.move (Go.Operand.tmp 1)), (some 33), none⟩, ⟨(Go.Op.slice t (Go.Operand.tmp 32) none (some (Go.Operand.tmp 33)) none), (some 34), none⟩, ⟨(Go.Op.move (Go.Operand.tmp 8)), (some 35), none⟩, ⟨(Go.Op.move (Go.Operand.tmp 7)), (some 36), none⟩, ⟨(Go.Op.binOp Go.BinOp.add it (Go.Operand.tmp 35) (Go.Operand.tmp 36) it), (some 37), none⟩, ⟨(Go.Op.move (Go.Operand.tmp 1)), (some 38), none⟩, ⟨(Go.Op.binOp Go.BinOp.sub it (Go.Operand.tmp 37) (Go.Operand.tmp 38) it), (some 39), none⟩, ⟨(Go.Op.call { callee := (Go.Callee.builtin Go.Builtin.append), args := #[(Go.Operand.tmp 34), (Go.Operand.tmp 39)], argTypes := #[t, it] }), (some 40), none⟩, ⟨(Go.Op.assign (Go.Operand.tmp 40)), (some 9), none⟩]) (.seq (.ops [⟨(Go.Op.move (Go.Operand.tmp 9)), (some 41), none⟩, ⟨(Go.Op.move (Go.Operand.tmp 1)), (some 42), none⟩, ⟨(Go.Op.slice t (Go.Operand.tmp 41) (some (Go.Operand.tmp 42)) none none), (some 43), none⟩, ⟨(Go.Op.move (Go.Operand.tmp 2)), (some 44), none⟩, ⟨(Go.Op.call { callee := (Go.Callee.builtin Go.Builtin.copy), args := #[(Go.Operand.tmp 43), (Go.Operand.tmp 44)], argTypes := #[t, t] }), (some 45), none⟩]) (.seq (.any [(⟨(Go.Op.move (Go.Operand.tmp 9)), (some 46), none⟩, true, none), (⟨(Go.Op.move (Go.Operand.tmp 1)), (some 47), none⟩, true, none), (⟨(Go.Op.move (Go.Operand.tmp 7)), (some 48), none⟩, true, none), (⟨(Go.Op.binOp Go.BinOp.add it (Go.Operand.tmp 47) (Go.Operand.tmp 48) it), (some 49), none⟩, true, none), (⟨(Go.Op.slice t (Go.Operand.tmp 46) (some (Go.Operand.tmp 49)) none none), (some 50), none⟩, true, none), (⟨(Go.Op.move (Go.Operand.tmp 0)), (some 51), none⟩, true, none), (⟨(Go.Op.move (Go.Operand.tmp 1)), (some 52), none⟩, true, none), (⟨(Go.Op.slice t (Go.Operand.tmp 51) (some (Go.Operand.tmp 52)) none none), (some 53), none⟩, true, none), (⟨(Go.Op.call { callee := (Go.Callee.builtin Go.Builtin.copy), args := #[(Go.Operand.tmp 50), (Go.Operand.tmp 53)], argTypes := #[t, t] }), (some 54), none⟩, false, none)]) (.seq (.ops [⟨(Go.Op.move (Go.Operand.tmp 9)), (some 55), none⟩, ⟨(Go.Op.assign (Go.Operand.tmp 55)), (some 6), none⟩]) .ret)))) .skip)) (.seq (.ops [⟨(Go.Op.move (Go.Operand.tmp 0)), (some 56), none⟩, ⟨(Go.Op.move (Go.Operand.tmp 8)), (some 57), none⟩, ⟨(Go.Op.move (Go.Operand.tmp 7)), (some 58), none⟩, ⟨(Go.Op.binOp Go.BinOp.add it (Go.Operand.tmp 57) (Go.Operand.tmp 58) it), (some 59), none⟩, ⟨(Go.Op.slice t (Go.Operand.tmp 56) none (some (Go.Operand.tmp 59)) none), (some 60), none⟩, ⟨(Go.Op.assign (Go.Operand.tmp 60)), (some 0), none⟩]) (.seq (.seq (.ops [⟨(Go.Op.move (Go.Operand.tmp 2)), (some 61), none⟩, ⟨(Go.Op.move (Go.Operand.tmp 0)), (some 62), none⟩, ⟨(Go.Op.move (Go.Operand.tmp 1)), (some 63), none⟩, ⟨(Go.Op.move (Go.Operand.tmp 7)), (some 64), none⟩, ⟨(Go.Op.binOp Go.BinOp.add it (Go.Operand.tmp 63) (Go.Operand.tmp 64) it), (some 65), none⟩, ⟨(Go.Op.slice t (Go.Operand.tmp 62) (some (Go.Operand.tmp 65)) none none), (some 66), none⟩, ⟨(Go.Op.call { callee := (Go.Callee.value (Go.Operand.func g)), args := #[(Go.Operand.tmp 61), (Go.Operand.tmp 66)], argTypes := #[t, t] }), (some 67), none⟩, ⟨(Go.Op.unOp Go.UnOp.not 4 (Go.Operand.tmp 67)), (some 68), none⟩]) (.cond (Go.Operand.tmp 68) (.seq (.any [(⟨(Go.Op.move (Go.Operand.tmp 0)), (some 69), none⟩, true, none), (⟨(Go.Op.move (Go.Operand.tmp 1)), (some 70), none⟩, true, none), (⟨(Go.Op.move (Go.Operand.tmp 7)), (some 71), none⟩, true, none), (⟨(Go.Op.binOp Go.BinOp.add it (Go.Operand.tmp 70) (Go.Operand.tmp 71) it), (some 72), none⟩, true, none), (⟨(Go.Op.slice t (Go.Operand.tmp 69) (some (Go.Operand.tmp 72)) none none), (some 73), none⟩, true, none), (⟨(Go.Op.move (Go.Operand.tmp 0)), (some 74), none⟩, true, none), (⟨(Go.Op.move (Go.Operand.tmp 1)), (some 75), none⟩, true, none), (⟨(Go.Op.slice t (Go.Operand.tmp 74) (some (Go.Operand.tmp 75)) none none), (some 76), none⟩, true, none), (⟨(Go.Op.call { callee := (Go.Callee.builtin Go.Builtin.copy), args := #[(Go.Operand.tmp 73), (Go.Operand.tmp 76)], argTypes := #[t, t] }), (some 77), none⟩, false, none)]) (.seq (.ops [⟨(Go.Op.move (Go.Operand.tmp 0)), (some 78), none⟩, ⟨(Go.Op.move (Go.Operand.tmp 1)), (some 79), none⟩, ⟨(Go.Op.slice t (Go.Operand.tmp 78) (some (Go.Operand.tmp 79)) none none), (some 80), none⟩, ⟨(Go.Op.move (Go.Operand.tmp 2)), (some 81), none⟩, ⟨(Go.Op.call { callee := (Go.Callee.builtin Go.Builtin.copy), args := #[(Go.Operand.tmp 80), (Go.Operand.tmp 81)], argTypes := #[t, t] }), (some 82), none⟩]) (.seq (.ops [⟨(Go.Op.move (Go.Operand.tmp 0)), (some 83), none⟩, ⟨(Go.Op.assign (Go.Operand.tmp 83)), (some 6), none⟩]) .ret))) .skip)) (.seq (.ops [⟨(Go.Op.move (Go.Operand.tmp 0)), (some 84), none⟩, ⟨(Go.Op.move (Go.Operand.tmp 8)), (some 85), none⟩, ⟨(Go.Op.slice t (Go.Operand.tmp 84) (some (Go.Operand.tmp 85)) none none), (some 86), none⟩, ⟨(Go.Op.move (Go.Operand.tmp 2)), (some 87), none⟩, ⟨(Go.Op.call { callee := (Go.Callee.builtin Go.Builtin.copy), args := #[(Go.Operand.tmp 86), (Go.Operand.tmp 87)], argTypes := #[t, t] }), (some 88), none⟩]) (.seq (.ops [⟨(Go.Op.move (Go.Operand.tmp 0)), (some 89), none⟩, ⟨(Go.Op.move (Go.Operand.tmp 1)), (some 90), none⟩, ⟨(Go.Op.slice t (Go.Operand.tmp 89) (some (Go.Operand.tmp 90)) none none), (some 91), none⟩, ⟨(Go.Op.move (Go.Operand.tmp 7)), (some 92), none⟩, ⟨(Go.Op.call { callee := (Go.Callee.value (Go.Operand.func h)), args := #[(Go.Operand.tmp 91), (Go.Operand.tmp 92)], argTypes := #[t, it] }), (some 93), none⟩]) (.seq (.ops [⟨(Go.Op.move (Go.Operand.tmp 0)), (some 94), none⟩, ⟨(Go.Op.assign (Go.Operand.tmp 94)), (some 6), none⟩]) .ret))))))))))))
section
variable {t e : TypeId} {j : TI} {z : List AV} {α : Type} (F : α → List AV)
theorem clone_O {f : FuncId} (hf : Is P f (gClone t) 8 [.tmp 2]) (T : SlT P t e j z) (hF : ∀ a, (F a).length = j.size ∧ (F a).all AV.one = true) (l : List α) (x : Bool) (hl : l.length * j.bytes ≤ 140737488355328) :
    O P f [.vs (l.map F) x] e l.length (l.map F).flatten := by
  refine C.turn (C.of_is hf rfl ?_)
  unfold gClone
  cases l with
  | nil =>
    repeat' first
      | simp -dsimp (disch := omega) only [↓rulesA, rulesB, rulesC, Int.reduceLT, nth, upd, put, storeN, AV.one, Nat.reduceBEq, Nat.reduceBNe, Int.reduceBEq, Int.reduceBNe, Int.reduceLE, Int.reduceEq, Int.reduceMod, Int.reduceNeg, boolBin, strBin, intBin, unA, fillA, ne_eq, reduceCtorEq, Nat.reduceAdd, Nat.reduceSub, Nat.reduceLeDiff, Nat.reduceLT, Nat.reduceEqDiff, Int.reduceToNat, eq_self, rulesD, *]
      | (refine allK_intro fun n hn => ?_; try simp only [fresh_set] at hn)
      | (refine ifK_intro (fun h => ?_) (fun h => ?_) <;> (try simp only [rulesE] at h) <;> try (exfalso; (try simp only [rulesF] at h); omega))
      | (refine keeps_sub (Mem.sub_set ?_) ?_; focus (simp [Mem.set_at, nomem, *]; done))
    refine T.nil (.inl rfl) (.inl ⟨_, _, rfl⟩) fun b => ?_
    repeat' first
      | simp -dsimp (disch := omega) only [↓rulesA, rulesB, rulesC, Int.reduceLT, nth, upd, put, storeN, AV.one, Nat.reduceBEq, Nat.reduceBNe, Int.reduceBEq, Int.reduceBNe, Int.reduceLE, Int.reduceEq, Int.reduceMod, Int.reduceNeg, boolBin, strBin, intBin, unA, fillA, ne_eq, reduceCtorEq, Nat.reduceAdd, Nat.reduceSub, Nat.reduceLeDiff, Nat.reduceLT, Nat.reduceEqDiff, Int.reduceToNat, eq_self, rulesD, *]
      | (refine allK_intro fun n hn => ?_; try simp only [fresh_set] at hn)
      | (refine ifK_intro (fun h => ?_) (fun h => ?_) <;> (try simp only [rulesE] at h) <;> try (exfalso; (try simp only [rulesF] at h); omega))
      | (refine keeps_sub (Mem.sub_set ?_) ?_; focus (simp [Mem.set_at, nomem, *]; done))
    · exact .nil e fun n hn => ⟨n, rfl, Mem.set_same _ _ _⟩
    · refine lit_vs T.lit0 (Nat.zero_mul _).symm ?_
      repeat' first
        | simp -dsimp (disch := omega) only [↓rulesA, rulesB, rulesC, Int.reduceLT, nth, upd, put, storeN, AV.one, Nat.reduceBEq, Nat.reduceBNe, Int.reduceBEq, Int.reduceBNe, Int.reduceLE, Int.reduceEq, Int.reduceMod, Int.reduceNeg, boolBin, strBin, intBin, unA, fillA, ne_eq, reduceCtorEq, Nat.reduceAdd, Nat.reduceSub, Nat.reduceLeDiff, Nat.reduceLT, Nat.reduceEqDiff, Int.reduceToNat, eq_self, rulesD, *]
        | (refine allK_intro fun n hn => ?_; try simp only [fresh_set] at hn)
        | (refine ifK_intro (fun h => ?_) (fun h => ?_) <;> (try simp only [rulesE] at h) <;> try (exfalso; (try simp only [rulesF] at h); omega))
        | (refine keeps_sub (Mem.sub_set ?_) ?_; focus (simp [Mem.set_at, nomem, *]; done))
      refine append_vnil T.app (T.src hF _ [] _) hl fun n hn => ?_
      repeat' first
        | simp -dsimp (disch := omega) only [↓rulesA, rulesB, rulesC, Int.reduceLT, nth, upd, put, storeN, AV.one, Nat.reduceBEq, Nat.reduceBNe, Int.reduceBEq, Int.reduceBNe, Int.reduceLE, Int.reduceEq, Int.reduceMod, Int.reduceNeg, boolBin, strBin, intBin, unA, fillA, ne_eq, reduceCtorEq, Nat.reduceAdd, Nat.reduceSub, Nat.reduceLeDiff, Nat.reduceLT, Nat.reduceEqDiff, Int.reduceToNat, eq_self, rulesD, *]
        | (refine allK_intro fun n hn => ?_; try simp only [fresh_set] at hn)
        | (refine ifK_intro (fun h => ?_) (fun h => ?_) <;> (try simp only [rulesE] at h) <;> try (exfalso; (try simp only [rulesF] at h); omega))
        | (refine keeps_sub (Mem.sub_set ?_) ?_; focus (simp [Mem.set_at, nomem, *]; done))
      exact .id ⟨n, rfl, Mem.set_same _ _ _⟩
  | cons d l =>
    repeat' first
      | simp -dsimp (disch := omega) only [↓rulesA, rulesB, rulesC, Int.reduceLT, nth, upd, put, storeN, AV.one, Nat.reduceBEq, Nat.reduceBNe, Int.reduceBEq, Int.reduceBNe, Int.reduceLE, Int.reduceEq, Int.reduceMod, Int.reduceNeg, boolBin, strBin, intBin, unA, fillA, ne_eq, reduceCtorEq, Nat.reduceAdd, Nat.reduceSub, Nat.reduceLeDiff, Nat.reduceLT, Nat.reduceEqDiff, Int.reduceToNat, eq_self, rulesD, T.notNilC, *]
      | (refine allK_intro fun n hn => ?_; try simp only [fresh_set] at hn)
      | (refine ifK_intro (fun h => ?_) (fun h => ?_) <;> (try simp only [rulesE] at h) <;> try (exfalso; (try simp only [rulesF] at h); omega))
      | (refine keeps_sub (Mem.sub_set ?_) ?_; focus (simp [Mem.set_at, nomem, *]; done))
    refine lit_vs T.lit0 (Nat.zero_mul _).symm ?_
    repeat' first
      | simp -dsimp (disch := omega) only [↓rulesA, rulesB, rulesC, Int.reduceLT, nth, upd, put, storeN, AV.one, Nat.reduceBEq, Nat.reduceBNe, Int.reduceBEq, Int.reduceBNe, Int.reduceLE, Int.reduceEq, Int.reduceMod, Int.reduceNeg, boolBin, strBin, intBin, unA, fillA, ne_eq, reduceCtorEq, Nat.reduceAdd, Nat.reduceSub, Nat.reduceLeDiff, Nat.reduceLT, Nat.reduceEqDiff, Int.reduceToNat, eq_self, rulesD, *]
      | (refine allK_intro fun n hn => ?_; try simp only [fresh_set] at hn)
      | (refine ifK_intro (fun h => ?_) (fun h => ?_) <;> (try simp only [rulesE] at h) <;> try (exfalso; (try simp only [rulesF] at h); omega))
      | (refine keeps_sub (Mem.sub_set ?_) ?_; focus (simp [Mem.set_at, nomem, *]; done))
    refine append_vnil T.app (T.src hF _ (d :: l) _) hl fun n hn => ?_
    repeat' first
      | simp -dsimp (disch := omega) only [↓rulesA, rulesB, rulesC, Int.reduceLT, nth, upd, put, storeN, AV.one, Nat.reduceBEq, Nat.reduceBNe, Int.reduceBEq, Int.reduceBNe, Int.reduceLE, Int.reduceEq, Int.reduceMod, Int.reduceNeg, boolBin, strBin, intBin, unA, fillA, ne_eq, reduceCtorEq, Nat.reduceAdd, Nat.reduceSub, Nat.reduceLeDiff, Nat.reduceLT, Nat.reduceEqDiff, Int.reduceToNat, eq_self, rulesD, *]
      | (refine allK_intro fun n hn => ?_; try simp only [fresh_set] at hn)
      | (refine ifK_intro (fun h => ?_) (fun h => ?_) <;> (try simp only [rulesE] at h) <;> try (exfalso; (try simp only [rulesF] at h); omega))
      | (refine keeps_sub (Mem.sub_set ?_) ?_; focus (simp [Mem.set_at, nomem, *]; done))
    exact .id ⟨n, rfl, Mem.set_same _ _ _⟩
theorem put_in (L : List (List AV)) (d z : List AV) (k : Nat) (hk : k < L.length) : ((L.take k ++ List.replicate (L.length + 1 - k) z).take k ++ [d] ++ (L.take k ++ List.replicate (L.length + 1 - k) z).drop (k + 1)).take (k + 1) ++ L.drop k = L.take k ++ d :: L.drop k := by
  have h1 : (L.take k).length = k := by simp; omega
  have h2 : (L.take k ++ List.replicate (L.length + 1 - k) z).take k = L.take k := by
    rw [List.take_append_of_le_length (by rw [h1]; exact Nat.le_refl _), List.take_of_length_le (by rw [h1]; exact Nat.le_refl _)]
  rw [h2, List.take_append_of_le_length (by simp only [List.length_append, h1, List.length_singleton]; exact Nat.le_refl _), List.take_of_length_le (by simp only [List.length_append, h1, List.length_singleton]; exact Nat.le_refl _)]
  simp
def OvOK (P : Program) (g : FuncId) (F : α → List AV) : Prop := ∀ (m : Mem) (d : α) (x : Bool) (n off len cap : Nat) (opn : Bool) (bt : TypeId) (cs : List AV) (K' : AV → Mem → Prop), m n = some (.cells opn bt cs) → byteT P bt = false → (len = 0 ∨ off < cs.length) → K' (.val (.bool false)) m → X P g [.vs [F d] x, .sl n off len cap] m K'
theorem insert_C {f it g h : FuncId} {ii : TI} (hf : Is P f (gInsert t it g h) 95 [.tmp 6]) (T : SlT P t e j z) (hi : ti P it = some ii) (hii : ii.desc = .int .i64) (hov : OvOK P g F) (hF : ∀ a, (F a).length = j.size ∧ (F a).all AV.one = true) (l : List α) (d : α) (k : Nat) (hk : k ≤ l.length) {m : Mem} {n : Nat}
    (hm : m n = some (.cells true e (l.map F).flatten)) (hl : (l.length + 1) * j.bytes ≤ 140737488355328) (hl' : l.length + 1 ≤ 140737488355328) (hbe : byteT P e = false := by kernel_rfl) :
    C P f [.sl n 0 l.length l.length, .val (.int .i64 k), .vs [F d] true] m (fun r m' => ∃ N, r = .sl N 0 (l.length + 1) (l.length + 1) ∧ m' N = some (.cells true e ((l.take k ++ d :: l.drop k).map F).flatten)) := by
  have hF1 : ∀ a, (F a).length = j.size := fun a => (hF a).1
  rcases Nat.lt_or_ge k l.length with hk | hk'
  · refine C.reveal (pre := []) hf.fn hm (by omega) (by rw [T.cs, row_len' F hF1]) fun c N hc hN => C.turn (C.of_is hf rfl ?_)
    rw [T.cs, show List.replicate ((c - l.length) * j.size) AV.junk = (List.replicate (c - l.length) (List.replicate j.size AV.junk)).flatten by rw [List.flatten_replicate_replicate], ← List.flatten_append]
    generalize hes : l.map F ++ List.replicate (c - l.length) (List.replicate j.size AV.junk) = es
    have heslen : es.length = c := by rw [← hes]; simp; omega
    have hes7 : ∀ e ∈ es, e.length = j.size := fun e he => by
      rw [← hes, List.mem_append] at he
      rcases he with he | he
      · obtain ⟨a, _, rfl⟩ := List.mem_map.1 he; exact hF1 a
      · rw [List.mem_replicate] at he; rw [he.2]; simp
    have htk : ∀ q, q ≤ l.length → es.take q = (l.take q).map F := fun q hq => by
      rw [← hes, List.take_append_of_le_length (by simpa using hq), List.map_take]
    have htd : (es.drop k).take (l.length - k) = (l.drop k).map F := by
      rw [← hes, List.drop_append_of_le_length (by simp; omega), List.take_append_of_le_length (by simp), List.take_of_length_le (by simp), List.map_drop]
    unfold gInsert
    repeat' first
      | simp -dsimp (disch := omega) only [↓rulesA, rulesB, rulesC, Int.reduceLT, nth, upd, put, storeN, AV.one, Nat.reduceBEq, Nat.reduceBNe, Int.reduceBEq, Int.reduceBNe, Int.reduceLE, Int.reduceEq, Int.reduceMod, Int.reduceNeg, boolBin, strBin, intBin, unA, fillA, ne_eq, reduceCtorEq, Nat.reduceAdd, Nat.reduceSub, Nat.reduceLeDiff, Nat.reduceLT, Nat.reduceEqDiff, Int.reduceToNat, eq_self, rulesD, T.sl, T.len, T.lenr, T.cap, T.cs, *]
      | (refine allK_intro fun n hn => ?_; try simp only [fresh_set] at hn)
      | (refine ifK_intro (fun h => ?_) (fun h => ?_) <;> (try simp only [rulesE] at h) <;> try (exfalso; (try simp only [rulesF] at h); omega))
      | (refine keeps_sub (Mem.sub_set ?_) ?_; focus (simp [Mem.set_at, nomem, *]; done))
    · have hb : (l.length + 1 - k) * j.bytes ≤ (l.length + 1) * j.bytes := Nat.mul_le_mul_right _ (by omega)
      have hq : ((l.length : Int) + 1 - k) = ((l.length + 1 - k : Nat) : Int) := by omega
      rw [hq]
      have hsrc := srcB_zeros (P := P) (m := (m.del n).set N (.cells false e es.flatten)) (j := j) (z := z) (kk := .i64) (q := ((l.length + 1 - k : Nat) : Int)) hi hii (by omega) (by rw [← Int.natCast_mul]; omega) (by omega) T.zo
      refine appendB_full (T.appz hi hii) hsrc (Mem.set_same _ _ _) (by simp only [Int.toNat_natCast]; omega) (by rw [flatten_len hes7, Nat.zero_add]; exact Nat.mul_le_mul_right _ (by omega)) (by simp only [Int.toNat_natCast]; rw [show k + (l.length + 1 - k) = l.length + 1 by omega]; exact hl) fun N2 hN2 => ?_
      simp only [Int.toNat_natCast, List.drop_zero, flatten_take hes7, htk k (by omega), ← List.flatten_append, show k + (l.length + 1 - k) = l.length + 1 by omega]
      have hz : ∀ x ∈ (l.take k).map F ++ List.replicate (l.length + 1 - k) z, x.length = j.size := fun x hx => by
        rcases List.mem_append.1 hx with hx | hx
        · obtain ⟨a, _, rfl⟩ := List.mem_map.1 hx; exact hF1 a
        · rw [List.mem_replicate] at hx; rw [hx.2, T.zl]
      generalize hL : (l.take k).map F ++ List.replicate (l.length + 1 - k) z = L at hz ⊢
      have hLl : L.length = l.length + 1 := by rw [← hL]; simp; omega
      simp only [fresh_set] at hN2
      repeat' first
        | simp -dsimp (disch := omega) only [↓rulesA, rulesB, rulesC, Int.reduceLT, nth, upd, put, storeN, AV.one, Nat.reduceBEq, Nat.reduceBNe, Int.reduceBEq, Int.reduceBNe, Int.reduceLE, Int.reduceEq, Int.reduceMod, Int.reduceNeg, boolBin, strBin, intBin, unA, fillA, ne_eq, reduceCtorEq, Nat.reduceAdd, Nat.reduceSub, Nat.reduceLeDiff, Nat.reduceLT, Nat.reduceEqDiff, Int.reduceToNat, eq_self, rulesD, T.sl, T.len, T.lenr, T.cap, T.cs, *]
        | (refine allK_intro fun n hn => ?_; try simp only [fresh_set] at hn)
        | (refine ifK_intro (fun h => ?_) (fun h => ?_) <;> (try simp only [rulesE] at h) <;> try (exfalso; (try simp only [rulesF] at h); omega))
        | (refine keeps_sub (Mem.sub_set ?_) ?_; focus (simp [Mem.set_at, nomem, *]; done))
      have hmin : min [F d].length (l.length + 1 - k) = 1 := by simp; omega
      refine T.copy (ms := [F d]) (Mem.set_same _ _ _) hz (by omega) rfl (by rw [hmin]; exact T.src hF _ [d] false) (fun e he => by rw [List.mem_singleton.1 he]; exact hF1 d) hmin.symm ?_
      have hput := put_in (l.map F) (F d) z k (by simpa using hk)
      rw [List.length_map, ← List.map_take, hL] at hput
      have hL2 : ∀ x ∈ L.take k ++ [F d] ++ L.drop (k + 1), x.length = j.size := fun x hx => by
        simp only [List.mem_append, List.mem_singleton] at hx
        rcases hx with (hx | hx) | hx
        · exact hz x (List.mem_of_mem_take hx)
        · rw [hx]; exact hF1 d
        · exact hz x (List.mem_of_mem_drop hx)
      have hL2l : (L.take k ++ [F d] ++ L.drop (k + 1)).length = l.length + 1 := by simp; omega
      simp only [List.length_singleton]
      generalize L.take k ++ [F d] ++ L.drop (k + 1) = L2 at hput hL2 hL2l ⊢
      repeat' first
        | simp -dsimp (disch := omega) only [↓rulesA, rulesB, rulesC, Int.reduceLT, nth, upd, put, storeN, AV.one, Nat.reduceBEq, Nat.reduceBNe, Int.reduceBEq, Int.reduceBNe, Int.reduceLE, Int.reduceEq, Int.reduceMod, Int.reduceNeg, boolBin, strBin, intBin, unA, fillA, ne_eq, reduceCtorEq, Nat.reduceAdd, Nat.reduceSub, Nat.reduceLeDiff, Nat.reduceLT, Nat.reduceEqDiff, Int.reduceToNat, eq_self, rulesD, T.sl, T.len, T.lenr, T.cap, T.cs, hN2.1, hN2.2.1, *]
        | (refine allK_intro fun n hn => ?_; try simp only [fresh_set] at hn)
        | (refine ifK_intro (fun h => ?_) (fun h => ?_) <;> (try simp only [rulesE] at h) <;> try (exfalso; (try simp only [rulesF] at h); omega))
        | (refine keeps_sub (Mem.sub_set ?_) ?_; focus (simp [Mem.set_at, nomem, *]; done))
      have hmin2 : min (l.length - k) (l.length + 1 - (k + 1)) = l.length - k := by omega
      refine T.copy (q := l.length - k) (ms := (l.drop k).map F) (Mem.set_same _ _ _) hL2 (by omega) rfl ?_ (fun e he => by obtain ⟨a, _, rfl⟩ := List.mem_map.1 he; exact hF1 a) (by rw [hmin2]; simp) ?_
      · rw [hmin2]
        simp only [truncA, Nat.min_self]
        have hone : ∀ x ∈ ((es.drop k).take (l.length - k)).flatten, x.one = true := fun x hx => by
          rw [htd] at hx
          obtain ⟨y, hy, hx⟩ := List.mem_flatten.1 hx
          obtain ⟨a, _, rfl⟩ := List.mem_map.1 hy
          exact List.all_eq_true.1 (hF a).2 x hx
        have := T.srcOwn (m := ((m.del n).set N (.cells false e es.flatten)).set N2 (.cells true e L2.flatten)) (k := k) (q := l.length - k) (cap := c - k) (by rw [Mem.set_ne _ _ hN2.2.1]; exact Mem.set_same _ _ _) hes7 (by omega) hone
        rw [htd] at this
        exact this
      repeat' first
        | simp -dsimp (disch := omega) only [↓rulesA, rulesB, rulesC, Int.reduceLT, nth, upd, put, storeN, AV.one, Nat.reduceBEq, Nat.reduceBNe, Int.reduceBEq, Int.reduceBNe, Int.reduceLE, Int.reduceEq, Int.reduceMod, Int.reduceNeg, boolBin, strBin, intBin, unA, fillA, ne_eq, reduceCtorEq, Nat.reduceAdd, Nat.reduceSub, Nat.reduceLeDiff, Nat.reduceLT, Nat.reduceEqDiff, Int.reduceToNat, eq_self, rulesD, *]
        | (refine allK_intro fun n hn => ?_; try simp only [fresh_set] at hn)
        | (refine ifK_intro (fun h => ?_) (fun h => ?_) <;> (try simp only [rulesE] at h) <;> try (exfalso; (try simp only [rulesF] at h); omega))
        | (refine keeps_sub (Mem.sub_set ?_) ?_; focus (simp [Mem.set_at, nomem, *]; done))
      refine .id ⟨N2, rfl, ?_⟩
      rw [Mem.set_same]
      have hd : L2.drop (k + 1 + (l.drop k).length) = [] := List.drop_eq_nil_of_le (by simp; omega)
      rw [hd, List.append_nil]
      simp only [List.map_append, List.map_cons, List.map_take, List.map_drop] at hput ⊢
      rw [hput]
    · refine call_X (hov _ _ _ _ _ _ _ _ _ _ (fun r m' => r = .val (.bool false) ∧ m' = (m.del n).set N (.cells false e es.flatten)) (Mem.set_same _ _ _) hbe (.inr ?_) ⟨rfl, rfl⟩) ?_
      · rw [flatten_len hes7]
        have : (k + 1 + 1) * j.size ≤ es.length * j.size := Nat.mul_le_mul_right _ (by omega)
        have h2 : (k + 1 + 1) * j.size = (k + 1) * j.size + j.size := by rw [Nat.add_mul (k + 1)]; omega
        have := T.pos
        omega
      rintro r m' ⟨rfl, rfl⟩
      repeat' first
        | simp -dsimp (disch := omega) only [↓rulesA, rulesB, rulesC, Int.reduceLT, nth, upd, put, storeN, AV.one, Nat.reduceBEq, Nat.reduceBNe, Int.reduceBEq, Int.reduceBNe, Int.reduceLE, Int.reduceEq, Int.reduceMod, Int.reduceNeg, boolBin, strBin, intBin, unA, fillA, ne_eq, reduceCtorEq, Nat.reduceAdd, Nat.reduceSub, Nat.reduceLeDiff, Nat.reduceLT, Nat.reduceEqDiff, Int.reduceToNat, eq_self, rulesD, T.sl, T.len, T.lenr, T.cap, T.cs, *]
        | (refine allK_intro fun n hn => ?_; try simp only [fresh_set] at hn)
        | (refine ifK_intro (fun h => ?_) (fun h => ?_) <;> (try simp only [rulesE] at h) <;> try (exfalso; (try simp only [rulesF] at h); omega))
        | (refine keeps_sub (Mem.sub_set ?_) ?_; focus (simp [Mem.set_at, nomem, *]; done))
      have hone : ∀ x ∈ ((es.drop k).take (l.length - k)).flatten, x.one = true := fun x hx => by
        rw [htd] at hx
        obtain ⟨y, hy, hx⟩ := List.mem_flatten.1 hx
        obtain ⟨a, _, rfl⟩ := List.mem_map.1 hy
        exact List.all_eq_true.1 (hF a).2 x hx
      have hmin2 : min (l.length + 1 - k) (l.length + 1 - (k + 1)) = l.length - k := by omega
      have hml : ((l.drop k).map F).length = l.length - k := by simp
      refine T.copy (q := l.length + 1 - k) (ms := (l.drop k).map F) (Mem.set_same _ _ _) hes7 (by omega) rfl ?_ (fun e he => by obtain ⟨a, _, rfl⟩ := List.mem_map.1 he; exact hF1 a) (by rw [hmin2, hml]) ?_
      · rw [hmin2]
        simp only [truncA, show min (l.length - k) (l.length + 1 - k) = l.length - k by omega]
        have := T.srcOwn (m := (m.del n).set N (.cells false e es.flatten)) (k := k) (q := l.length - k) (cap := c - k) (Mem.set_same _ _ _) hes7 (by omega) hone
        rw [htd] at this
        exact this
      rw [hml]
      generalize hE2 : es.take (k + 1) ++ (l.drop k).map F ++ es.drop (k + 1 + (l.length - k)) = es2
      have h2l : es2.length = c := by rw [← hE2]; simp; omega
      have h27 : ∀ e ∈ es2, e.length = j.size := fun x hx => by
        rw [← hE2] at hx
        simp only [List.mem_append] at hx
        rcases hx with (hx | hx) | hx
        · exact hes7 x (List.mem_of_mem_take hx)
        · obtain ⟨a, _, rfl⟩ := List.mem_map.1 hx; exact hF1 a
        · exact hes7 x (List.mem_of_mem_drop hx)
      have ht2 : es2.take k = (l.take k).map F := by
        rw [← hE2, List.append_assoc, List.take_append_of_le_length (by simp; omega), List.take_take, Nat.min_eq_left (by omega), htk k (by omega)]
      have hd2 : es2.drop (k + 1) = (l.drop k).map F ++ es.drop (l.length + 1) := by
        have h3 : (es.take (k + 1)).length = k + 1 := by simp; omega
        rw [← hE2, List.append_assoc, List.drop_append_of_le_length (by omega), List.drop_eq_nil_of_le (by omega), List.nil_append, show k + 1 + (l.length - k) = l.length + 1 by omega]
      repeat' first
        | simp -dsimp (disch := omega) only [↓rulesA, rulesB, rulesC, Int.reduceLT, nth, upd, put, storeN, AV.one, Nat.reduceBEq, Nat.reduceBNe, Int.reduceBEq, Int.reduceBNe, Int.reduceLE, Int.reduceEq, Int.reduceMod, Int.reduceNeg, boolBin, strBin, intBin, unA, fillA, ne_eq, reduceCtorEq, Nat.reduceAdd, Nat.reduceSub, Nat.reduceLeDiff, Nat.reduceLT, Nat.reduceEqDiff, Int.reduceToNat, eq_self, rulesD, T.sl, T.len, T.lenr, T.cap, T.cs, *]
        | (refine allK_intro fun n hn => ?_; try simp only [fresh_set] at hn)
        | (refine ifK_intro (fun h => ?_) (fun h => ?_) <;> (try simp only [rulesE] at h) <;> try (exfalso; (try simp only [rulesF] at h); omega))
        | (refine keeps_sub (Mem.sub_set ?_) ?_; focus (simp [Mem.set_at, nomem, *]; done))
      have hmin : min [F d].length (l.length + 1 - k) = 1 := by simp; omega
      refine T.copy (ms := [F d]) (Mem.set_same _ _ _) h27 (by omega) rfl (by rw [hmin]; exact T.src hF _ [d] false) (fun e he => by rw [List.mem_singleton.1 he]; exact hF1 d) hmin.symm ?_
      repeat' first
        | simp -dsimp (disch := omega) only [↓rulesA, rulesB, rulesC, Int.reduceLT, nth, upd, put, storeN, AV.one, Nat.reduceBEq, Nat.reduceBNe, Int.reduceBEq, Int.reduceBNe, Int.reduceLE, Int.reduceEq, Int.reduceMod, Int.reduceNeg, boolBin, strBin, intBin, unA, fillA, ne_eq, reduceCtorEq, Nat.reduceAdd, Nat.reduceSub, Nat.reduceLeDiff, Nat.reduceLT, Nat.reduceEqDiff, Int.reduceToNat, eq_self, rulesD, *]
        | (refine allK_intro fun n hn => ?_; try simp only [fresh_set] at hn)
        | (refine ifK_intro (fun h => ?_) (fun h => ?_) <;> (try simp only [rulesE] at h) <;> try (exfalso; (try simp only [rulesF] at h); omega))
        | (refine keeps_sub (Mem.sub_set ?_) ?_; focus (simp [Mem.set_at, nomem, *]; done))
      have hfin : ((l.take k).map F ++ [F d] ++ ((l.drop k).map F ++ es.drop (l.length + 1))).flatten = ((l.take k ++ d :: l.drop k).map F).flatten ++ (es.drop (l.length + 1)).flatten := by
        rw [← List.flatten_append]
        simp [List.map_take, List.map_drop]
      refine .reopen (cs := ((l.take k ++ d :: l.drop k).map F).flatten) (rest := (es.drop (l.length + 1)).flatten) (t := e) (bt := e) (by rw [← hfin]; exact Mem.set_same _ _ _) (by omega) ?_ (by omega) ?_ fun N' hN' => ⟨N', rfl, Mem.set_same _ _ _⟩
      · rw [T.cs, row_len' F hF1]; congr 1; simp; omega
      · rw [T.cs, flatten_len (fun x hx => hes7 x (List.mem_of_mem_drop hx))]; simp [heslen]
  · have : k = l.length := by omega
    subst this
    refine C.of_is hf rfl ?_
    unfold gInsert
    repeat' first
      | simp -dsimp (disch := omega) only [↓rulesA, rulesB, rulesC, Int.reduceLT, nth, upd, put, storeN, AV.one, Nat.reduceBEq, Nat.reduceBNe, Int.reduceBEq, Int.reduceBNe, Int.reduceLE, Int.reduceEq, Int.reduceMod, Int.reduceNeg, boolBin, strBin, intBin, unA, fillA, ne_eq, reduceCtorEq, Nat.reduceAdd, Nat.reduceSub, Nat.reduceLeDiff, Nat.reduceLT, Nat.reduceEqDiff, Int.reduceToNat, eq_self, rulesD, T.sl, T.len, T.lenr, T.cap, T.cs, hm, *]
      | (refine allK_intro fun n hn => ?_; try simp only [fresh_set] at hn)
      | (refine ifK_intro (fun h => ?_) (fun h => ?_) <;> (try simp only [rulesE] at h) <;> try (exfalso; (try simp only [rulesF] at h); omega))
      | (refine keeps_sub (Mem.sub_set ?_) ?_; focus (simp [Mem.set_at, nomem, *]; done))
    refine append_open (k := 1) T.app (T.src hF _ [d] true) hm T.cs (by rw [row_len' F hF1, Nat.zero_add]) hl fun N hN => ?_
    repeat' first
      | simp -dsimp (disch := omega) only [↓rulesA, rulesB, rulesC, Int.reduceLT, nth, upd, put, storeN, AV.one, Nat.reduceBEq, Nat.reduceBNe, Int.reduceBEq, Int.reduceBNe, Int.reduceLE, Int.reduceEq, Int.reduceMod, Int.reduceNeg, boolBin, strBin, intBin, unA, fillA, ne_eq, reduceCtorEq, Nat.reduceAdd, Nat.reduceSub, Nat.reduceLeDiff, Nat.reduceLT, Nat.reduceEqDiff, Int.reduceToNat, eq_self, rulesD, *]
      | (refine allK_intro fun n hn => ?_; try simp only [fresh_set] at hn)
      | (refine ifK_intro (fun h => ?_) (fun h => ?_) <;> (try simp only [rulesE] at h) <;> try (exfalso; (try simp only [rulesF] at h); omega))
      | (refine keeps_sub (Mem.sub_set ?_) ?_; focus (simp [Mem.set_at, nomem, *]; done))
    exact ⟨N, rfl, by rw [if_pos rfl]; simp⟩
end
end Go.Abs

set_option maxRecDepth 100000
set_option maxHeartbeats 1000000
set_option linter.unusedSimpArgs false
set_option linter.unusedVariables false
namespace Go.Abs
variable {P : Program}
attribute [local irreducible] C X CC Y CV CW binK litK AppK PureC PureCV againK loopV rangeV allK ifK got onB condK V stepsK planK opK firstK seeE keepsK
noncomputable def gDelete (t it : Nat) : LC := (.seq (.ops [⟨(Go.Op.assign (Go.Operand.const (Go.Value.slice none 0 0))), (some 6), none⟩]) (.seq (.ops [⟨(Go.Op.move (Go.Operand.tmp 0)), (some 8), none⟩, ⟨(Go.Op.move (Go.Operand.tmp 1)), (some 9), none⟩, ⟨(Go.Op.move (Go.Operand.tmp 2)), (some 10), none⟩, ⟨(Go.Op.move (Go.Operand.tmp 0)), (some 11), none⟩, ⟨(Go.Op.call { callee := (Go.Callee.builtin Go.Builtin.len), args := #[(Go.Operand.tmp 11)], argTypes := #[t] }), (some 12), none⟩, ⟨(Go.Op.slice t (Go.Operand.tmp 8) (some (Go.Operand.tmp 9)) (some (Go.Operand.tmp 10)) (some (Go.Operand.tmp 12))), (some 13), none⟩]) (.seq (.seq (.ops [⟨(Go.Op.move (Go.Operand.tmp 1)), (some 14), none⟩, ⟨(Go.Op.move (Go.Operand.tmp 2)), (some 15), none⟩, ⟨(Go.Op.binOp Go.BinOp.eql it (Go.Operand.tmp 14) (Go.Operand.tmp 15) it), (some 16), none⟩]) (.cond (Go.Operand.tmp 16) (.seq (.ops [⟨(Go.Op.move (Go.Operand.tmp 0)), (some 17), none⟩, ⟨(Go.Op.assign (Go.Operand.tmp 17)), (some 6), none⟩]) .ret) .skip)) (.seq (.ops [⟨(Go.Op.move (Go.Operand.tmp 0)), (some 18), none⟩, ⟨(Go.Op.call { callee := (Go.Callee.builtin Go.Builtin.len), args := #[(Go.Operand.tmp 18)], argTypes := #[t] }), (some 19), none⟩, ⟨(Go.Op.assign (Go.Operand.tmp 19)), (some 7), none⟩]) (.seq (.any [(⟨(Go.Op.move (Go.Operand.tmp 0)), (some 20), none⟩, true, none), (⟨(Go.Op.move (Go.Operand.tmp 1)), (some 21), none⟩, true, none), (⟨(Go.Op.slice t (Go.Operand.tmp 20) none (some (Go.Operand.tmp 21)) none), (some 22), none⟩, true, none), (⟨(Go.Op.move (Go.Operand.tmp 0)), (some 23), none⟩, true, none), (⟨(Go.Op.move (Go.Operand.tmp 2)), (some 24), none⟩, true, none), (⟨(Go.Op.slice t (Go.Operand.tmp 23) (some (Go.Operand.tmp 24)) none none), (some 25), none⟩, true, none), (⟨(Go.Op.call { callee := (Go.Callee.builtin Go.Builtin.append), args := #[(Go.Operand.tmp 22), (Go.Operand.tmp 25)], argTypes := #[t, t] }), (some 26), none⟩, false, none), (⟨(Go.Op.assign (Go.Operand.tmp 26)), (some 0), none⟩, true, none)]) (.seq (.ops [⟨(Go.Op.move (Go.Operand.tmp 0)), (some 27), none⟩, ⟨(Go.Op.move (Go.Operand.tmp 0)), (some 28), none⟩, ⟨(Go.Op.call { callee := (Go.Callee.builtin Go.Builtin.len), args := #[(Go.Operand.tmp 28)], argTypes := #[t] }), (some 29), none⟩, ⟨(Go.Op.move (Go.Operand.tmp 7)), (some 30), none⟩, ⟨(Go.Op.slice t (Go.Operand.tmp 27) (some (Go.Operand.tmp 29)) (some (Go.Operand.tmp 30)) none), (some 31), none⟩, ⟨(Go.Op.call { callee := (Go.Callee.builtin Go.Builtin.clear), args := #[(Go.Operand.tmp 31)], argTypes := #[t] }), none, none⟩]) (.seq (.ops [⟨(Go.Op.move (Go.Operand.tmp 0)), (some 32), none⟩, ⟨(Go.Op.assign (Go.Operand.tmp 32)), (some 6), none⟩]) .ret)))))))
theorem clearA_own {t e : TypeId} {i : TI} {z : List AV} (hi : ti P t = some i) (hd : i.desc = .slice e) (hz : zeroA P e = some z) {m : Mem} {n off len cap : Nat} {opn : Bool} {bt : TypeId} {cs : List AV} (hm : m n = some (.cells opn bt cs)) (h0 : 0 < len) (hp : 0 < z.length) (hl : off + len * z.length ≤ cs.length) :
    clearA P m t (.sl n off len cap) = some (m.set n (.cells opn bt (setRange cs off (List.replicate len z).flatten))) := by
  simp only [clearA, hi, hd, hz, hm]
  rw [if_neg (by omega), if_pos ⟨hp, hl⟩]
theorem bnd_all (len cap : Nat) (k k' k'' : IntKind) (lo hi mx : Int) (h0 : 0 ≤ lo) (h1 : lo ≤ hi) (h2 : hi ≤ mx) (h3 : mx ≤ cap) : boundsA len cap (some (.val (.int k lo))) (some (.val (.int k' hi))) (some (.val (.int k'' mx))) = some (lo.toNat, hi.toNat, mx.toNat) := by
  simp only [boundsA, natOf]
  rw [if_pos h0, if_pos (by omega), if_pos (by omega)]
  simp only []
  rw [if_pos ⟨by omega, by omega, by omega, fun _ => rfl⟩]
theorem New.rowPre {α : Type} (f : α → List AV) {s : Nat} (hf : ∀ a, (f a).length = s) (hfl : ∀ a, AV.flat.flats (f a) = true) (l : List α) {m : Mem} {n cap : Nat} {opn : Bool} {t : TypeId} {rest : List AV} (hm : m n = some (.cells opn t ((l.map f).flatten ++ rest))) : New m (.sl n 0 l.length cap) (.vs (l.map f) false) := by
  have hall : ∀ e ∈ l.map f, e.length = s := fun e he => by obtain ⟨a, _, rfl⟩ := List.mem_map.1 he; exact hf a
  have hlen : (l.map f).flatten.length = l.length * s := by rw [flatten_len hall, List.length_map]
  refine New.sl (s := s) hm (by rw [List.length_append, hlen]; omega) (by simp) hall fun i hi j hj hk => ?_
  have hi' : i < l.length := by simpa using hi
  have hjs : j < s := by rw [hall _ (List.getElem_mem hi)] at hj; exact hj
  have hin : i * s + j < (l.map f).flatten.length := by
    rw [hlen]
    have : (i + 1) * s ≤ l.length * s := Nat.mul_le_mul_right _ hi'
    rw [Nat.add_mul] at this; omega
  have hk' : i * s + j < ((l.map f).flatten ++ rest).length := by rw [List.length_append]; omega
  have hget := flatten_get hall i hi j hj hin
  have : ((l.map f).flatten ++ rest)[0 + (i * s + j)]'(by rw [Nat.zero_add]; exact hk') = (l.map f)[i][j] := by
    simp only [Nat.zero_add]
    rw [List.getElem_append_left hin, hget]
  rw [this]
  refine New.flats ?_ j hj
  obtain ⟨a, _, e⟩ := List.mem_map.1 (List.getElem_mem hi)
  rw [← e]; exact hfl a
section
variable {t e : TypeId} {j : TI} {z : List AV} {α : Type} (F : α → List AV)
end
end Go.Abs

set_option maxRecDepth 100000
set_option maxHeartbeats 1000000
set_option linter.unusedSimpArgs false
set_option linter.unusedVariables false
namespace Go.Abs
variable {P : Program}
attribute [local irreducible] C X CC Y CV CW binK litK AppK PureC PureCV againK loopV rangeV allK ifK got onB condK V stepsK planK opK firstK seeE keepsK
theorem cleansApp : ∀ (a b : List AV), AV.clean.cleans (a ++ b) = (AV.clean.cleans a && AV.clean.cleans b)
  | [], b => rfl
  | x :: a, b => by
    show (x.clean && AV.clean.cleans (a ++ b)) = ((x.clean && AV.clean.cleans a) && AV.clean.cleans b)
    rw [cleansApp a b, Bool.and_assoc]
theorem cleansFlatten : ∀ {es : List (List AV)}, (∀ e ∈ es, AV.clean.cleans e = true) → AV.clean.cleans es.flatten = true
  | [], _ => rfl
  | e :: es, h => by
    rw [List.flatten_cons, cleansApp, h e (by simp), cleansFlatten fun x hx => h x (by simp [hx])]; rfl
theorem cleansJunk : ∀ n, AV.clean.cleans (List.replicate n AV.junk) = true
  | 0 => rfl
  | n + 1 => cleansJunk n
section
variable {t e : TypeId} {j : TI} {z : List AV} {α : Type} (F : α → List AV)
theorem delete_CC {f it : FuncId} {ii : TI} (hf : Is P f (gDelete t it) 33 [.tmp 6]) (hi : ti P it = some ii) (T : SlT P t e j z) (hF : ∀ a, (F a).length = j.size ∧ (F a).all AV.one = true) (hFc : ∀ a, AV.clean.cleans (F a) = true) (hzc : AV.clean.cleans z = true) (l : List α) {k : Nat} (hk : k < l.length) {m : Mem} {n : Nat} (hm : m n = some (.cells true e (l.map F).flatten)) (hl : l.length * j.bytes ≤ 140737488355328) (hl' : l.length ≤ 140737488355328) :
    C P f [.sl n 0 l.length l.length, .val (.int .i64 k), .val (.int .i64 ((k : Int) + 1))] m (fun r m' => ∃ N c rest, r = .sl N 0 (l.take k ++ l.drop (k + 1)).length c ∧ m' N = some (.cells false e (((l.take k ++ l.drop (k + 1)).map F).flatten ++ rest)) ∧ AV.clean.cleans rest = true) := by
  have hF1 : ∀ a, (F a).length = j.size := fun a => (hF a).1
  refine C.reveal (pre := []) hf.fn hm (by omega) (by rw [T.cs, row_len' F hF1]) fun c N hc hN => C.of_is hf rfl ?_
  rw [T.cs, show List.replicate ((c - l.length) * j.size) AV.junk = (List.replicate (c - l.length) (List.replicate j.size AV.junk)).flatten by rw [List.flatten_replicate_replicate], ← List.flatten_append]
  generalize hes : l.map F ++ List.replicate (c - l.length) (List.replicate j.size AV.junk) = es
  have heslen : es.length = c := by rw [← hes]; simp; omega
  have hes7 : ∀ e ∈ es, e.length = j.size := fun e he => by
    rw [← hes, List.mem_append] at he
    rcases he with he | he
    · obtain ⟨a, _, rfl⟩ := List.mem_map.1 he; exact hF1 a
    · rw [List.mem_replicate] at he; rw [he.2]; simp
  have hesc : ∀ e ∈ es, AV.clean.cleans e = true := fun e he => by
    rw [← hes, List.mem_append] at he
    rcases he with he | he
    · obtain ⟨a, _, rfl⟩ := List.mem_map.1 he; exact hFc a
    · rw [List.mem_replicate] at he; rw [he.2]; exact cleansJunk _
  unfold gDelete
  have hkk : ((k : Int) == (k : Int) + 1) = false := by rw [beq_eq_false_iff_ne]; omega
  have h1 : ((k : Int) + 1).toNat = k + 1 := by omega
  have htk : es.take k = (l.take k).map F := by
    rw [← hes, List.take_append_of_le_length (by simp; omega), List.map_take]
  have htd : (es.drop (k + 1)).take (l.length - (k + 1)) = (l.drop (k + 1)).map F := by
    rw [← hes, List.drop_append_of_le_length (by simp; omega), List.take_append_of_le_length (by simp), List.take_of_length_le (by simp), List.map_drop]
  have hnk : k + (l.length - (k + 1)) = l.length - 1 := by omega
  repeat' first
    | simp -dsimp (disch := omega) only [↓rulesA, rulesB, rulesC, Int.reduceLT, nth, upd, put, storeN, AV.one, Nat.reduceBEq, Nat.reduceBNe, Int.reduceBEq, Int.reduceBNe, Int.reduceLE, Int.reduceEq, Int.reduceMod, Int.reduceNeg, boolBin, strBin, intBin, unA, fillA, ne_eq, reduceCtorEq, Nat.reduceAdd, Nat.reduceSub, Nat.reduceLeDiff, Nat.reduceLT, Nat.reduceEqDiff, Int.reduceToNat, eq_self, rulesD, T.sl, T.len, T.lenr, T.cap, T.cs, bnd_all, *]
    | (refine allK_intro fun n hn => ?_; try simp only [fresh_set] at hn)
    | (refine ifK_intro (fun h => ?_) (fun h => ?_) <;> (try simp only [rulesE] at h) <;> try (exfalso; (try simp only [rulesF] at h); omega))
    | (refine keeps_sub (Mem.sub_set ?_) ?_; focus (simp [Mem.set_at, nomem, *]; done))
  have hone : ∀ x ∈ ((es.drop (k + 1)).take (l.length - (k + 1))).flatten, x.one = true := fun x hx => by
    rw [htd] at hx
    obtain ⟨y, hy, hx⟩ := List.mem_flatten.1 hx
    obtain ⟨a, _, rfl⟩ := List.mem_map.1 hy
    exact List.all_eq_true.1 (hF a).2 x hx
  have hsrc := T.srcOwn (m := (m.del n).set N (.cells false e es.flatten)) (k := k + 1) (q := l.length - (k + 1)) (cap := c - (k + 1)) (Mem.set_same _ _ _) hes7 (by omega) hone
  refine append_in T.app hsrc (Mem.set_same _ _ _) (by omega) (by rw [flatten_len hes7]; rw [Nat.zero_add]; exact Nat.mul_le_mul_right _ (by omega)) ?_
  rw [htd, hnk]
  have hdl : ((l.drop (k + 1)).map F).length = l.length - (k + 1) := by simp
  have hset := flatten_put (s := j.size) (es := es) (ms := (l.drop (k + 1)).map F) (k := k) hes7 (fun e he => by obtain ⟨a, _, rfl⟩ := List.mem_map.1 he; exact hF1 a) (by omega)
  rw [Nat.zero_add, hset, htk, hdl, hnk, ← List.map_append]
  have hrest : ∀ x ∈ es.drop (l.length - 1), x.length = j.size := fun x hx => hes7 x (List.mem_of_mem_drop hx)
  have hrl : (es.drop (l.length - 1)).length = c - (l.length - 1) := by rw [List.length_drop, heslen]
  have hrc : ∀ x ∈ es.drop (l.length - 1), AV.clean.cleans x = true := fun x hx => hesc x (List.mem_of_mem_drop hx)
  clear hesc
  generalize hrs : es.drop (l.length - 1) = rs at hrest hrl hrc ⊢
  have htl : (l.take k ++ l.drop (k + 1)).length = l.length - 1 := by simp; omega
  generalize l.take k ++ l.drop (k + 1) = L at htl ⊢
  have h2 : ((l.length - 1 : Nat) : Int) ≤ l.length := by omega
  clear hsrc hone hset htk htd hdl
  repeat' first
    | simp -dsimp (disch := omega) only [↓rulesA, rulesB, rulesC, Int.reduceLT, nth, upd, put, storeN, AV.one, Nat.reduceBEq, Nat.reduceBNe, Int.reduceBEq, Int.reduceBNe, Int.reduceLE, Int.reduceEq, Int.reduceMod, Int.reduceNeg, boolBin, strBin, intBin, unA, fillA, ne_eq, reduceCtorEq, Nat.reduceAdd, Nat.reduceSub, Nat.reduceLeDiff, Nat.reduceLT, Nat.reduceEqDiff, Int.reduceToNat, eq_self, rulesD, T.sl, T.len, T.lenr, T.cap, T.cs, bnd_all, *]
    | (refine allK_intro fun n hn => ?_; try simp only [fresh_set] at hn)
    | (refine ifK_intro (fun h => ?_) (fun h => ?_) <;> (try simp only [rulesE] at h) <;> try (exfalso; (try simp only [rulesF] at h); omega))
    | (refine keeps_sub (Mem.sub_set ?_) ?_; focus (simp [Mem.set_at, nomem, *]; done))
  obtain ⟨si, s1, s2⟩ := T.ht
  have hall : ∀ x ∈ L.map F ++ rs, x.length = j.size := fun x hx => by
    rcases List.mem_append.1 hx with hx | hx
    · obtain ⟨a, _, rfl⟩ := List.mem_map.1 hx; exact hF1 a
    · exact hrest x hx
  have hll : (L.map F ++ rs).length = c := by rw [List.length_append, List.length_map, htl, hrl]; omega
  rw [show l.length - (l.length - 1) = 1 by omega, clearA_own s1 s2 T.hz (Mem.set_same _ _ _) (by omega) (by rw [T.zl]; exact T.pos) (by
    rw [flatten_len hall, hll, T.zl, ← Nat.add_mul]; exact Nat.mul_le_mul_right _ (by omega))]
  have hset2 := flatten_put (s := j.size) (es := L.map F ++ rs) (ms := List.replicate 1 z) (k := l.length - 1) hall (fun e he => by rw [List.eq_of_mem_replicate he]; exact T.zl) (by rw [hll, List.length_replicate]; omega)
  rw [hset2, List.take_append_of_le_length (by rw [List.length_map, htl]; exact Nat.le_refl _), List.take_of_length_le (by rw [List.length_map, htl]; exact Nat.le_refl _), List.append_assoc]
  have hqc : AV.clean.cleans (List.replicate 1 z ++ List.drop (l.length - 1 + (List.replicate 1 z).length) (List.map F L ++ rs)).flatten = true := cleansFlatten fun x hx => by
    rcases List.mem_append.1 hx with hx | hx
    · rw [List.eq_of_mem_replicate hx]; exact hzc
    · rcases List.mem_append.1 (List.mem_of_mem_drop hx) with hx | hx
      · obtain ⟨a, _, rfl⟩ := List.mem_map.1 hx; exact hFc a
      · exact hrc x hx
  generalize (List.replicate 1 z ++ List.drop (l.length - 1 + (List.replicate 1 z).length) (List.map F L ++ rs)) = q at hqc ⊢
  repeat' first
    | simp -dsimp (disch := omega) only [↓rulesA, rulesB, rulesC, Int.reduceLT, nth, upd, put, storeN, AV.one, Nat.reduceBEq, Nat.reduceBNe, Int.reduceBEq, Int.reduceBNe, Int.reduceLE, Int.reduceEq, Int.reduceMod, Int.reduceNeg, boolBin, strBin, intBin, unA, fillA, ne_eq, reduceCtorEq, Nat.reduceAdd, Nat.reduceSub, Nat.reduceLeDiff, Nat.reduceLT, Nat.reduceEqDiff, Int.reduceToNat, eq_self, rulesD, *]
    | (refine allK_intro fun n hn => ?_; try simp only [fresh_set] at hn)
    | (refine ifK_intro (fun h => ?_) (fun h => ?_) <;> (try simp only [rulesE] at h) <;> try (exfalso; (try simp only [rulesF] at h); omega))
    | (refine keeps_sub (Mem.sub_set ?_) ?_; focus (simp [Mem.set_at, nomem, *]; done))
  refine ⟨N, c, q.flatten, rfl, ?_, hqc⟩
  rw [List.flatten_append]
  simp [Mem.set_at]
end
end Go.Abs
