/- Package 05: what makes and changes a device. -/
import Derived.Test.YtkfjjjjejdogbaaD3
set_option maxRecDepth 100000
set_option maxHeartbeats 1000000
set_option linter.unusedSimpArgs false
set_option linter.unusedVariables false
namespace Go.Proofs.Ytkfjjjjejdogbaa
open Go.Abs
attribute [local irreducible] C X CC Y CV CW binK litK AppK PureC PureCV againK loopV rangeV allK ifK got onB condK V stepsK planK opK firstK seeE keepsK

theorem flat_bytes : ∀ (l : List UInt8), (l.map byteC).flatten = l.map fun b => AV.val (.int .u8 b.toNat)
  | [] => rfl
  | b :: l => by
    have : ((b :: l).map byteC).flatten = .val (.int .u8 b.toNat) :: (l.map byteC).flatten := rfl
    rw [this, flat_bytes l]; rfl
/-- 64 bytes of a row, filled with zeros. -/
def fillS (l : List UInt8) : Sec := ⟨l.take 64 ++ List.replicate (64 - l.length) 0, by simp; omega⟩
theorem fill_cells (l : List UInt8) : setRange Sec.zero.cells 0 ((l.take (min l.length 64)).map byteC).flatten = (fillS l).cells := by
  unfold setRange Sec.cells fillS Sec.zero
  simp only [flat_bytes, List.take_zero, List.nil_append, Nat.zero_add, List.length_map, List.length_take, List.map_append, List.flatten_append, ← List.map_drop, List.drop_replicate]
  have h1 : l.take (min l.length 64) = l.take 64 := by
    rcases Nat.le_total l.length 64 with h | h
    · rw [Nat.min_eq_left h, List.take_length, List.take_of_length_le h]
    · rw [Nat.min_eq_right h]
  have h2 : 64 - min (min l.length 64) l.length = 64 - l.length := by omega
  rw [h1, h2]
theorem src_27 (m : Mem) (l : List UInt8) (x : Bool) : srcA Try.prog m 27 1 (.vs (l.map byteC) x) = some (l.length, (l.map byteC).flatten) := src_vs byteC ti_27 rfl (fun _ => ⟨rfl, rfl⟩) m l x
theorem F11 (l : List UInt8) (x : Bool) : F Try.prog 11 [.vs (l.map byteC) x] (.vs ((fillS l).l.map byteC) false) := by
  refine F11_of ?_
  unfold k11
  repeat' first
    | simp -dsimp (disch := omega) only [↓rulesA, rulesB, rulesC, Int.reduceLT, nth, upd, put, storeN, AV.one, Nat.reduceBEq, Nat.reduceBNe, Int.reduceBEq, Int.reduceBNe, Int.reduceLE, Int.reduceEq, Int.reduceMod, Int.reduceNeg, boolBin, strBin, intBin, unA, fillA, ne_eq, reduceCtorEq, Nat.reduceAdd, Nat.reduceSub, Nat.reduceLeDiff, Nat.reduceLT, Nat.reduceEqDiff, Int.reduceToNat, eq_self, rulesT, bne_self_eq_false, mm_min, mm_max, buOf_some, nilCheck_vp, nilCheck_ptr, nilCheck_yld, nilCheck_func, Sec.zr', *]
    | (refine allK_intro fun n hn => ?_; try simp only [fresh_set] at hn)
    | (refine ifK_intro (fun h => ?_) (fun h => ?_) <;> (try simp only [decide_eq_true_eq, decide_eq_false_iff_not, Bool.not_eq_true', Bool.not_eq_false'] at h) <;> try (exfalso; (try simp only [beq_iff_eq, beq_eq_false_iff_ne, bne_iff_ne, bne_eq_false_iff_eq, ne_eq] at h); omega))
    | (refine keeps_sub (Mem.sub_set (by simp [Mem.set_at, nomem, *])) ?_)
  refine copy_own ti_27 rfl ti_5 (src := ((l.take (min l.length 64)).map byteC).flatten) (k := l.length) (q := min l.length 64) (Mem.set_same _ _ _) (by simp [lenS]) ?_ ?_ (by rw [Sec.len]; decide) ?_
  · simp only [truncA, ← List.map_take]
    rw [src_27]; simp
  · rw [flatten_one]; simp
  · rw [fill_cells]
    repeat' first
      | simp -dsimp (disch := omega) only [↓rulesA, rulesB, rulesC, Int.reduceLT, nth, upd, put, storeN, AV.one, Nat.reduceBEq, Nat.reduceBNe, Int.reduceBEq, Int.reduceBNe, Int.reduceLE, Int.reduceEq, Int.reduceMod, Int.reduceNeg, boolBin, strBin, intBin, unA, fillA, ne_eq, reduceCtorEq, Nat.reduceAdd, Nat.reduceSub, Nat.reduceLeDiff, Nat.reduceLT, Nat.reduceEqDiff, Int.reduceToNat, eq_self, rulesT, bne_self_eq_false, mm_min, mm_max, buOf_some, nilCheck_vp, nilCheck_ptr, nilCheck_yld, nilCheck_func, *]
      | (refine allK_intro fun n hn => ?_; try simp only [fresh_set] at hn)
      | (refine ifK_intro (fun h => ?_) (fun h => ?_) <;> (try simp only [decide_eq_true_eq, decide_eq_false_iff_not, Bool.not_eq_true', Bool.not_eq_false'] at h) <;> try (exfalso; (try simp only [beq_iff_eq, beq_eq_false_iff_ne, bne_iff_ne, bne_eq_false_iff_eq, ne_eq] at h); omega))
      | (refine keeps_sub (Mem.sub_set (by simp [Mem.set_at, nomem, *])) ?_)
    exact new_sec _ (Mem.set_same _ _ _)
/-! ### New -/
def newDev (n : Nat) : Dev := ⟨[], false, 0, 0, List.replicate n Sec.zero, false, 0, 0⟩
theorem newDev_ok {n : Nat} (h : 1 ≤ n) (h' : n ≤ 4096) : (newDev n).Ok := ⟨by simpa [newDev] using h, by simpa [newDev] using h', fun w hw => by simp [newDev] at hw, by simp [newDev], fun h => by cases h⟩
theorem map_rep {α β : Type} (f : α → β) (n : Nat) (a : α) : List.replicate n (f a) = (List.replicate n a).map f := by simp
theorem mk_57 (n : Nat) (h : n ≤ 4096) : mkSliceA Try.prog 57 (.val (.int .i64 n)) (.val (.int .i64 n)) = some (68, n, n, ((List.replicate n Sec.zero).map Sec.cells).flatten) := by
  simp only [mkSliceA, ti_57, ti_68, z_68, Sec.zr]
  rw [if_pos ⟨by omega, by omega, by omega, by omega, Sec.len _, by decide⟩]
  simp only [Int.toNat_natCast, map_rep]
theorem C8 (q : Nat) (h1 : 1 ≤ q) (h2 : q ≤ 4096) : C Try.prog 8 [.val (.int .i64 q)] nomem (fun r m' => ∃ N, r = .ptr N 0 ∧ (newDev q).At N m') := by
  have mk := mk_57 q h2
  refine C.turn (C8_of ?_)
  unfold k8
  repeat' first
    | simp -dsimp (disch := omega) only [↓rulesA, rulesB, rulesC, Int.reduceLT, nth, upd, put, storeN, AV.one, Nat.reduceBEq, Nat.reduceBNe, Int.reduceBEq, Int.reduceBNe, Int.reduceLE, Int.reduceEq, Int.reduceMod, Int.reduceNeg, boolBin, strBin, intBin, unA, fillA, ne_eq, reduceCtorEq, Nat.reduceAdd, Nat.reduceSub, Nat.reduceLeDiff, Nat.reduceLT, Nat.reduceEqDiff, Int.reduceToNat, eq_self, rulesT, bne_self_eq_false, mm_min, mm_max, buOf_some, nilCheck_vp, nilCheck_ptr, nilCheck_yld, nilCheck_func, *]
    | (refine allK_intro fun n hn => ?_; try simp only [fresh_set] at hn)
    | (refine ifK_intro (fun h => ?_) (fun h => ?_) <;> (try simp only [decide_eq_true_eq, decide_eq_false_iff_not, Bool.not_eq_true', Bool.not_eq_false'] at h) <;> try (exfalso; (try simp only [beq_iff_eq, beq_eq_false_iff_ne, bne_iff_ne, bne_eq_false_iff_eq, ne_eq] at h); omega))
    | (refine keeps_sub (Mem.sub_set (by simp [Mem.set_at, nomem, *])) ?_)
  obtain ⟨hne, hne', -⟩ := hn
  refine Turns.cellNil 70 0 (Mem.set_same _ _ _) rfl fun n3 hn3 => ?_
  simp only [fresh_set] at hn3
  obtain ⟨a1, a2, a3, a4, -⟩ := hn3
  have e : (newDev q).laid.length = q := by simp [newDev]
  refine .sub (m' := (newDev q).mem n n3 _) ?_ ⟨_, rfl, n3, _, a2, hne, a3, rfl⟩
  unfold Dev.mem
  refine Mem.set_sub (Mem.set_sub (Mem.set_sub (nomem_sub _) ?_) ?_) ?_
  · simp [Mem.set_at, *, newDev]
  · simp [Mem.set_at, *, newDev]
  · simp [Mem.set_at, *, newDev, Dev.own, Dev.row]
theorem C8_no (k : Int) (h : ¬ (1 ≤ k ∧ k ≤ 4096)) : C Try.prog 8 [.val (.int .i64 k)] nomem (fun r m' => r = .val (.pointer none) ∧ m' = nomem) := by
  refine C8_of ?_
  unfold k8
  repeat' first
    | simp -dsimp (disch := omega) only [↓rulesA, rulesB, rulesC, Int.reduceLT, nth, upd, put, storeN, AV.one, Nat.reduceBEq, Nat.reduceBNe, Int.reduceBEq, Int.reduceBNe, Int.reduceLE, Int.reduceEq, Int.reduceMod, Int.reduceNeg, boolBin, strBin, intBin, unA, fillA, ne_eq, reduceCtorEq, Nat.reduceAdd, Nat.reduceSub, Nat.reduceLeDiff, Nat.reduceLT, Nat.reduceEqDiff, Int.reduceToNat, eq_self, rulesT, bne_self_eq_false, mm_min, mm_max, buOf_some, nilCheck_vp, nilCheck_ptr, nilCheck_yld, nilCheck_func, *]
    | (refine allK_intro fun n hn => ?_; try simp only [fresh_set] at hn)
    | (refine ifK_intro (fun h => ?_) (fun h => ?_) <;> (try simp only [decide_eq_true_eq, decide_eq_false_iff_not, Bool.not_eq_true', Bool.not_eq_false'] at h) <;> try (exfalso; (try simp only [beq_iff_eq, beq_eq_false_iff_ne, bne_iff_ne, bne_eq_false_iff_eq, ne_eq] at h); omega))
    | (refine keeps_sub (Mem.sub_set (by simp [Mem.set_at, nomem, *])) ?_)
  all_goals first | exact ⟨rfl, rfl⟩ | (exfalso; omega)
end Go.Proofs.Ytkfjjjjejdogbaa

