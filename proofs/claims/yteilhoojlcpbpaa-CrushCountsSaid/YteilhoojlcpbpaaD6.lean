/- Package 11: the choice. -/
import Derived.Test.YteilhoojlcpbpaaD5
set_option maxRecDepth 100000
set_option maxHeartbeats 1000000
set_option linter.unusedSimpArgs false
set_option linter.unusedVariables false
namespace Go.Proofs.Yteilhoojlcpbpaa
open Go.Abs
attribute [local irreducible] C X CC Y CV CW binK litK AppK PureC PureCV againK loopV rangeV allK ifK got onB condK V stepsK planK opK firstK seeE keepsK

theorem C21 (l : List Item) (y : Bool) (x : Nat) (r : Int) : C Try.prog 21 [.vs (l.map Item.cells) y, .val (.int .u32 x), .val (.int .i64 r)] nomem (fun q m' => q = .fn (.func 31) [] [.vp [.vs (l.map Item.cells) y] 0, .vp [.val (.int .u32 x)] 0, .vp [.val (.int .i64 r)] 0] ∧ m' = nomem) := by
  refine C.turn (C21_of ?_)
  unfold k21
  repeat' first
    | simp -dsimp (disch := omega) only [↓rulesA, rulesB, rulesC, Int.reduceLT, nth, upd, put, storeN, AV.one, Nat.reduceBEq, Nat.reduceBNe, Int.reduceBEq, Int.reduceBNe, Int.reduceLE, Int.reduceEq, Int.reduceMod, Int.reduceNeg, boolBin, strBin, intBin, unA, fillA, ne_eq, reduceCtorEq, Nat.reduceAdd, Nat.reduceSub, Nat.reduceLeDiff, Nat.reduceLT, Nat.reduceEqDiff, Int.reduceToNat, eq_self, rulesT, bne_self_eq_false, mm_min, mm_max, buOf_some, nilCheck_vp, nilCheck_ptr, nilCheck_yld, nilCheck_func, mkFnA, staticFn, *]
    | (refine allK_intro fun n hn => ?_; try simp only [fresh_set] at hn)
    | (refine ifK_intro (fun h => ?_) (fun h => ?_) <;> (try simp only [decide_eq_true_eq, decide_eq_false_iff_not, Bool.not_eq_true', Bool.not_eq_false'] at h) <;> try (exfalso; (try simp only [beq_iff_eq, beq_eq_false_iff_ne, bne_iff_ne, bne_eq_false_iff_eq, ne_eq] at h); omega))
    | (refine keeps_sub (Mem.sub_set (by simp [Mem.set_at, nomem, *])) ?_)
  refine Turns.freeze (.fnOf (Seens.refl _ _) (.three (.var (opn := false) (t := 22) ?_) (.var (opn := false) (t := 23) ?_) (.var (Mem.set_same _ _ _)))) ⟨rfl, rfl⟩
  · simp [Mem.set_at, *]
  · simp [Mem.set_at, *]
/-- The best of the first k straws. -/
def bestTo (L : List Straw) : Nat → Option Straw
  | 0 => none
  | k + 1 => match bestTo L k with
    | none => some (L.getD k default)
    | some b => if aheadI (L.getD k default) b < 0 then some (L.getD k default) else some b
theorem best_mem {L : List Straw} : ∀ k, k ≤ L.length → ∀ b, bestTo L k = some b → b ∈ L
  | 0, _, b, h => by cases h
  | k + 1, hk, b, h => by
    have hm : L.getD k default ∈ L := by
      rw [List.getD_eq_getElem?_getD, List.getElem?_eq_getElem (show k < L.length by omega)]; exact List.getElem_mem _
    unfold bestTo at h
    cases hb : bestTo L k with
    | none => rw [hb] at h; cases h; exact hm
    | some c =>
      rw [hb] at h
      simp only at h
      split at h
      · cases h; exact hm
      · cases h; exact best_mem k (by omega) _ hb
theorem best_some (L : List Straw) (k : Nat) : (bestTo L (k + 1)).isSome = true := by
  unfold bestTo
  cases bestTo L k with
  | none => rfl
  | some b => simp only; split <;> rfl
def bestC (o : Option Straw) : List AV := (o.getD default).cells
theorem F10 (l : List Item) (y : Bool) (hl : l.length ≤ 140737488355328) (x : Nat) (hx : x < 4294967296) (r : Int) : F Try.prog 10 [.vs (l.map Item.cells) y, .val (.int .u32 x), .val (.int .i64 r)] (.tup [.val (.int .i64 ((bestTo (strawTo l x r l.length) (strawTo l x r l.length).length).getD default).place), .val (.bool (bestTo (strawTo l x r l.length) (strawTo l x r l.length).length).isSome)]) := by
  obtain ⟨L, hL⟩ : ∃ L, L = strawTo l x r l.length := ⟨_, rfl⟩
  have hf : ∀ s ∈ L, s.fair := by rw [hL]; exact strawTo_fair l.length hl
  have hI := I31 l y hl x hx r
  rw [← hL] at hI ⊢
  clear hL
  refine F10_of ?_
  unfold k10
  repeat' first
    | simp -dsimp (disch := omega) only [↓rulesA, rulesB, rulesC, Int.reduceLT, nth, upd, put, storeN, AV.one, Nat.reduceBEq, Nat.reduceBNe, Int.reduceBEq, Int.reduceBNe, Int.reduceLE, Int.reduceEq, Int.reduceMod, Int.reduceNeg, boolBin, strBin, intBin, unA, fillA, ne_eq, reduceCtorEq, Nat.reduceAdd, Nat.reduceSub, Nat.reduceLeDiff, Nat.reduceLT, Nat.reduceEqDiff, Int.reduceToNat, eq_self, rulesT, bne_self_eq_false, mm_min, mm_max, buOf_some, nilCheck_vp, nilCheck_ptr, nilCheck_yld, nilCheck_func, *]
    | (refine allK_intro fun n hn => ?_; try simp only [fresh_set] at hn)
    | (refine ifK_intro (fun h => ?_) (fun h => ?_) <;> (try simp only [decide_eq_true_eq, decide_eq_false_iff_not, Bool.not_eq_true', Bool.not_eq_false'] at h) <;> try (exfalso; (try simp only [beq_iff_eq, beq_eq_false_iff_ne, bne_iff_ne, bne_eq_false_iff_eq, ne_eq] at h); omega))
    | (refine keeps_sub (Mem.sub_set (by simp [Mem.set_at, nomem, *])) ?_)
  rename_i n8 hn8
  obtain ⟨n9, e9⟩ : ∃ q, q = n := ⟨n, rfl⟩
  subst e9
  obtain ⟨b1, b2, -⟩ := hn
  refine call_on (C21 l y x r) (nomem_sub _) fun q m' ⟨hq, hm⟩ _ => ?_
  subst hq
  subst hm
  rw [Mem.plus_nomem nomem _ fun n h => absurd rfl h]
  repeat' first
    | simp -dsimp (disch := omega) only [↓rulesA, rulesB, rulesC, Int.reduceLT, nth, upd, put, storeN, AV.one, Nat.reduceBEq, Nat.reduceBNe, Int.reduceBEq, Int.reduceBNe, Int.reduceLE, Int.reduceEq, Int.reduceMod, Int.reduceNeg, boolBin, strBin, intBin, unA, fillA, ne_eq, reduceCtorEq, Nat.reduceAdd, Nat.reduceSub, Nat.reduceLeDiff, Nat.reduceLT, Nat.reduceEqDiff, Int.reduceToNat, eq_self, rulesT, bne_self_eq_false, mm_min, mm_max, buOf_some, nilCheck_vp, nilCheck_ptr, nilCheck_yld, nilCheck_func, *]
    | (refine allK_intro fun n hn => ?_; try simp only [fresh_set] at hn)
    | (refine ifK_intro (fun h => ?_) (fun h => ?_) <;> (try simp only [decide_eq_true_eq, decide_eq_false_iff_not, Bool.not_eq_true', Bool.not_eq_false'] at h) <;> try (exfalso; (try simp only [beq_iff_eq, beq_eq_false_iff_ne, bne_iff_ne, bne_eq_false_iff_eq, ne_eq] at h); omega))
    | (refine keeps_sub (Mem.sub_set (by simp [Mem.set_at, nomem, *])) ?_)
  refine range_iter mixed la10_0_is lb10_0_is hI (nomem_sub _) ?_ (fun n h => by cases h)
    (fun k m1 => k ≤ L.length ∧ m1 = (nomem.set n8 (.cells false 42 (bestC (bestTo L k)))).set n9 (.cells false 4 [.val (.bool (bestTo L k).isSome)])) _ (Mem.sub.refl _) ⟨by omega, rfl⟩ ?_ ?_
  · intro q hq
    obtain ⟨d, _, rfl⟩ := List.mem_map.1 hq
    rfl
  · rintro k hk nl m1 ⟨hk', rfl⟩ hnl
    have hkl : k < L.length := by simpa using hk
    have e : (L.map srow)[k] = [.agg (L.getD k default).cells] := by simp [srow, List.getD_eq_getElem?_getD, List.getElem?_eq_getElem hkl]
    have hfk : (L.getD k default).fair := hf _ (by rw [List.getD_eq_getElem?_getD, List.getElem?_eq_getElem hkl]; exact List.getElem_mem _)
    rw [e]
    simp only [fresh_set] at hnl
    obtain ⟨c1, c2, c3, c4, -⟩ := hnl
    unfold la10_0 lb10_0
    cases hb : bestTo L k with
    | none =>
      have hst : bestTo L (k + 1) = some (L.getD k default) := by rw [bestTo, hb]
      repeat' first
        | simp -dsimp (disch := omega) only [↓rulesA, rulesB, rulesC, Int.reduceLT, nth, upd, put, storeN, AV.one, Nat.reduceBEq, Nat.reduceBNe, Int.reduceBEq, Int.reduceBNe, Int.reduceLE, Int.reduceEq, Int.reduceMod, Int.reduceNeg, boolBin, strBin, intBin, unA, fillA, ne_eq, reduceCtorEq, Nat.reduceAdd, Nat.reduceSub, Nat.reduceLeDiff, Nat.reduceLT, Nat.reduceEqDiff, Int.reduceToNat, eq_self, rulesT, bne_self_eq_false, mm_min, mm_max, buOf_some, nilCheck_vp, nilCheck_ptr, nilCheck_yld, nilCheck_func, startA_one, bestC, Option.getD_none, Option.isSome_none, Option.isSome_some, Straw.len, Straw.take, Straw.all, Straw.drop, Straw.sall, *]
        | (refine allK_intro fun n hn => ?_; try simp only [fresh_set] at hn)
        | (refine ifK_intro (fun h => ?_) (fun h => ?_) <;> (try simp only [decide_eq_true_eq, decide_eq_false_iff_not, Bool.not_eq_true', Bool.not_eq_false'] at h) <;> try (exfalso; (try simp only [beq_iff_eq, beq_eq_false_iff_ne, bne_iff_ne, bne_eq_false_iff_eq, ne_eq] at h); omega))
        | (refine keeps_sub (Mem.sub_set (by simp [Mem.set_at, nomem, *])) ?_)
      rw [roundV_normal]
      refine ⟨by simp [Mem.set_at, *], _, ?_, ⟨hkl, rfl⟩⟩
      refine Mem.set_sub (nomem_set_sub ?_) ?_ <;> simp [Mem.set_at, Mem.del_at, bestC, *]
    | some b =>
      have hfb : b.fair := hf b (best_mem k (by omega) b hb)
      have hst : Kept (bestTo L (k + 1) = if aheadI (L.getD k default) b < 0 then some (L.getD k default) else some b) := by show bestTo L (k + 1) = _; rw [bestTo, hb]
      repeat' first
        | simp -dsimp (disch := omega) only [↓rulesA, rulesB, rulesC, Int.reduceLT, nth, upd, put, storeN, AV.one, Nat.reduceBEq, Nat.reduceBNe, Int.reduceBEq, Int.reduceBNe, Int.reduceLE, Int.reduceEq, Int.reduceMod, Int.reduceNeg, boolBin, strBin, intBin, unA, fillA, ne_eq, reduceCtorEq, Nat.reduceAdd, Nat.reduceSub, Nat.reduceLeDiff, Nat.reduceLT, Nat.reduceEqDiff, Int.reduceToNat, eq_self, rulesT, bne_self_eq_false, mm_min, mm_max, buOf_some, nilCheck_vp, nilCheck_ptr, nilCheck_yld, nilCheck_func, startA_one, bestC, Option.getD_some, Option.isSome_none, Option.isSome_some, Straw.len, Straw.take, Straw.all, Straw.drop, Straw.sall, *]
        | (refine allK_intro fun n hn => ?_; try simp only [fresh_set] at hn)
        | (refine ifK_intro (fun h => ?_) (fun h => ?_) <;> (try simp only [decide_eq_true_eq, decide_eq_false_iff_not, Bool.not_eq_true', Bool.not_eq_false'] at h) <;> try (exfalso; (try simp only [beq_iff_eq, beq_eq_false_iff_ne, bne_iff_ne, bne_eq_false_iff_eq, ne_eq] at h); omega))
        | (refine keeps_sub (Mem.sub_set (by simp [Mem.set_at, nomem, *])) ?_)
        | (refine call_F (F22 _ _ hfk hfb) (Seens.refl _ _) ?_)
        | (refine pure_F (F22 _ _ hfk hfb) (Seens.refl _ _) ?_)
      · rw [roundV_normal]
        refine ⟨by simp [Mem.set_at, *], _, ?_, ⟨hkl, rfl⟩⟩
        rw [(hst : _ = _), if_pos (by assumption)]
        refine Mem.set_sub (nomem_set_sub ?_) ?_ <;> simp [Mem.set_at, Mem.del_at, bestC, *]
      · rw [roundV_normal]
        refine ⟨by simp [Mem.set_at, *], _, ?_, ⟨hkl, rfl⟩⟩
        rw [(hst : _ = _), if_neg (by assumption)]
        refine Mem.set_sub (nomem_set_sub ?_) ?_ <;> simp [Mem.set_at, Mem.del_at, bestC, *]
  · rintro m1 ⟨-, rfl⟩
    rw [List.length_map]
    repeat' first
      | simp -dsimp (disch := omega) only [↓rulesA, rulesB, rulesC, Int.reduceLT, nth, upd, put, storeN, AV.one, Nat.reduceBEq, Nat.reduceBNe, Int.reduceBEq, Int.reduceBNe, Int.reduceLE, Int.reduceEq, Int.reduceMod, Int.reduceNeg, boolBin, strBin, intBin, unA, fillA, ne_eq, reduceCtorEq, Nat.reduceAdd, Nat.reduceSub, Nat.reduceLeDiff, Nat.reduceLT, Nat.reduceEqDiff, Int.reduceToNat, eq_self, rulesT, bne_self_eq_false, mm_min, mm_max, buOf_some, nilCheck_vp, nilCheck_ptr, nilCheck_yld, nilCheck_func, bestC, Straw.g2, *]
      | (refine allK_intro fun n hn => ?_; try simp only [fresh_set] at hn)
      | (refine ifK_intro (fun h => ?_) (fun h => ?_) <;> (try simp only [decide_eq_true_eq, decide_eq_false_iff_not, Bool.not_eq_true', Bool.not_eq_false'] at h) <;> try (exfalso; (try simp only [beq_iff_eq, beq_eq_false_iff_ne, bne_iff_ne, bne_eq_false_iff_eq, ne_eq] at h); omega))
      | (refine keeps_sub (Mem.sub_set (by simp [Mem.set_at, nomem, *])) ?_)
    exact New.flat rfl
end Go.Proofs.Yteilhoojlcpbpaa

