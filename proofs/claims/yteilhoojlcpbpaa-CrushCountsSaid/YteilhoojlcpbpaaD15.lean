/- Package 11: the reference: the choice. -/
import Derived.Test.YteilhoojlcpbpaaD14
set_option maxRecDepth 100000
set_option maxHeartbeats 1000000
set_option linter.unusedSimpArgs false
set_option linter.unusedVariables false
namespace Go.Proofs.Yteilhoojlcpbpaa
open Go.Abs
attribute [local irreducible] C X CC Y CV CW binK litK AppK PureC PureCV againK loopV rangeV allK ifK got onB condK V stepsK planK opK firstK seeE keepsK

/-- Where the best of the first i stands; -1: nowhere. -/
def Bst (l : List Item) (x : Nat) (r : Int) (i : Nat) (v : Int) : Prop :=
  (v = -1 ∧ bestTo (strawTo l x r i) (strawTo l x r i).length = none) ∨ ∃ p, v = (p : Nat) ∧ p < i ∧ Val l p ∧ bestTo (strawTo l x r i) (strawTo l x r i).length = some (strawAt l x r p)
theorem bst_skip {l : List Item} {x : Nat} {r : Int} {i : Nat} {v : Int} (h : Bst l x r i v) (hw : ¬ 1 ≤ capW (l.getD i default).weight) : Bst l x r (i + 1) v := by
  unfold Bst at *
  rw [strawTo_no hw]
  rcases h with h | ⟨p, a, b, c, d⟩
  · exact .inl h
  · exact .inr ⟨p, a, by omega, c, d⟩
theorem bst_first {l : List Item} {x : Nat} {r : Int} {i : Nat} {v : Int} (hi : i < l.length) (h : Bst l x r i v) (hv : v < 0) (hw : 1 ≤ capW (l.getD i default).weight) : Bst l x r (i + 1) i := by
  unfold Bst at *
  rw [strawTo_yes hw, best_snoc]
  rcases h with ⟨_, h⟩ | ⟨p, a, _⟩
  · rw [h]; exact .inr ⟨i, rfl, by omega, ⟨hi, hw⟩, rfl⟩
  · omega
theorem bst_next {l : List Item} {x : Nat} {r : Int} {i p : Nat} (hi : i < l.length) (h : Bst l x r i (p : Int)) (hw : 1 ≤ capW (l.getD i default).weight) :
    Bst l x r (i + 1) (if cAt l x r i * wAt l p < cAt l x r p * wAt l i then (i : Int) else (p : Int)) := by
  unfold Bst at *
  rw [strawTo_yes hw, best_snoc]
  rcases h with ⟨h, _⟩ | ⟨p', a, b, c, d⟩
  · omega
  · have e : p' = p := by omega
    subst e
    rw [d]
    have ha := ahead_less l x r i p'
    have hl : Less l x r i p' ↔ cAt l x r i * wAt l p' < cAt l x r p' * wAt l i := by
      unfold Less
      constructor
      · rintro (h | ⟨_, h⟩)
        · exact h
        · omega
      · exact .inl
    rw [hl] at ha
    simp only
    by_cases hc : cAt l x r i * wAt l p' < cAt l x r p' * wAt l i
    · rw [if_pos hc, if_pos (ha.2 hc)]
      exact .inr ⟨i, rfl, by omega, ⟨hi, hw⟩, rfl⟩
    · rw [if_neg hc, if_neg (fun h => hc (ha.1 h))]
      exact .inr ⟨p', rfl, by omega, c, rfl⟩
theorem bst_end {l : List Item} {x : Nat} {r : Int} {v : Int} (h : Bst l x r l.length v) : (v < 0 ∧ v = -1 ∧ choP l x r = 0 ∧ choB l x r = false) ∨ (∃ p : Nat, v = p ∧ p < l.length ∧ choP l x r = p ∧ choB l x r = true) := by
  rcases h with ⟨a, h⟩ | ⟨p, a, b, c, d⟩
  · refine .inl ⟨by omega, a, ?_, ?_⟩
    · unfold choP chooseS; rw [h]; rfl
    · unfold choB chooseS; rw [h]; rfl
  · refine .inr ⟨p, a, b, ?_, ?_⟩
    · unfold choP chooseS; rw [d]; rfl
    · unfold choB chooseS; rw [d]; rfl
theorem mulW {l : List Item} {x : Nat} {r : Int} {p q : Nat} (h : Val l q) : IntKind.i64.wrap ((costN x (l.getD p default).id r : Int) * capW (l.getD q default).weight) = (costN x (l.getD p default).id r : Int) * capW (l.getD q default).weight := by
  rw [← capX_eq h.2]; exact mulX ..
theorem bst_in {l : List Item} {x : Nat} {r : Int} {i : Nat} {v : Int} (h : Bst l x r i v) : v = -1 ∨ ∃ p : Nat, v = p ∧ p < i ∧ Val l p := by
  rcases h with ⟨a, h⟩ | ⟨p, a, b, c, d⟩
  · exact .inl a
  · exact .inr ⟨p, a, b, c⟩
theorem F17 (l : List Item) (y : Bool) (hl : l.length ≤ 140737488355328) (x : Nat) (hx : x < 4294967296) (r : Int) : F Try.prog 17 [.vs (l.map Item.cells) y, .val (.int .u32 x), .val (.int .i64 r)] (.tup [.val (.int .i64 (choP l x r)), .val (.bool (choB l x r))]) := by
  refine F17_of ?_
  unfold k17
  repeat' first
    | simp -dsimp (disch := omega) only [↓rulesA, rulesB, rulesC, Int.reduceLT, nth, upd, put, storeN, AV.one, Nat.reduceBEq, Nat.reduceBNe, Int.reduceBEq, Int.reduceBNe, Int.reduceLE, Int.reduceEq, Int.reduceMod, Int.reduceNeg, boolBin, strBin, intBin, unA, fillA, ne_eq, reduceCtorEq, Nat.reduceAdd, Nat.reduceSub, Nat.reduceLeDiff, Nat.reduceLT, Nat.reduceEqDiff, Int.reduceToNat, eq_self, rulesT, bne_self_eq_false, mm_min, mm_max, buOf_some, nilCheck_vp, nilCheck_ptr, nilCheck_yld, nilCheck_func, *]
    | (refine allK_intro fun n hn => ?_; try simp only [fresh_set] at hn)
    | (refine ifK_intro (fun h => ?_) (fun h => ?_) <;> (try simp only [decide_eq_true_eq, decide_eq_false_iff_not, Bool.not_eq_true', Bool.not_eq_false'] at h) <;> try (exfalso; (try simp only [beq_iff_eq, beq_eq_false_iff_ne, bne_iff_ne, bne_eq_false_iff_eq, ne_eq] at h); omega))
    | (refine keeps_sub (Mem.sub_set (by simp [Mem.set_at, nomem, *])) ?_)
  refine loop_intro (fun j env m => ∃ (i : Nat) (v : Int), i ≤ l.length ∧ j = l.length - i ∧ m = nomem ∧ Bst l x r i v ∧ env.length = 60 ∧ nth env 0 = .vs (l.map Item.cells) y ∧ nth env 1 = .val (.int .u32 x) ∧ nth env 2 = .val (.int .i64 r) ∧ nth env 8 = .val (.int .i64 v) ∧ nth env 9 = .val (.int .i64 i)) l.length _ (Mem.sub.refl _) ⟨0, -1, by omega, by omega, rfl, .inl ⟨rfl, rfl⟩, rfl, rfl, rfl, rfl, rfl, rfl⟩ ?_
  rintro j env m ⟨i, v, hi, rfl, rfl, hB, hlen, e0, e1, e2, e8, e9⟩
  by_cases hil : i < l.length
  · by_cases hw : 1 ≤ capW (l.getD i default).weight
    · have hVi : Val l i := ⟨hil, hw⟩
      have hw2 : ¬ capW (l.getD i default).weight < 1 := by omega
      rcases bst_in hB with rfl | ⟨p, rfl, hp, hV⟩
      · have hN := bst_first hil hB (by omega) hw
        replace hN : Kept _ := hN
        repeat' first
          | simp -dsimp (disch := omega) only [↓rulesA, rulesB, rulesC, Int.reduceLT, nth, upd, put, storeN, AV.one, Nat.reduceBEq, Nat.reduceBNe, Int.reduceBEq, Int.reduceBNe, Int.reduceLE, Int.reduceEq, Int.reduceMod, Int.reduceNeg, boolBin, strBin, intBin, unA, fillA, ne_eq, reduceCtorEq, Nat.reduceAdd, Nat.reduceSub, Nat.reduceLeDiff, Nat.reduceLT, Nat.reduceEqDiff, Int.reduceToNat, eq_self, rulesT, bne_self_eq_false, mm_min, mm_max, buOf_some, nilCheck_vp, nilCheck_ptr, nilCheck_yld, nilCheck_func, ix_22, Item.len, Item.take, Item.all, Item.g0, Item.g1, Item.drop, Item.sall, *]
          | (refine allK_intro fun n hn => ?_; try simp only [fresh_set] at hn)
          | (refine ifK_intro (fun h => ?_) (fun h => ?_) <;> (try simp only [decide_eq_true_eq, decide_eq_false_iff_not, Bool.not_eq_true', Bool.not_eq_false'] at h) <;> try (exfalso; (try simp only [beq_iff_eq, beq_eq_false_iff_ne, bne_iff_ne, bne_eq_false_iff_eq, ne_eq] at h); omega))
          | (refine keeps_sub (Mem.sub_set (by simp [Mem.set_at, nomem, *])) ?_)
          | (refine call_F (F26 _) (Seens.refl _ _) ?_)
          | (refine pure_F (F26 _) (Seens.refl _ _) ?_)
        refine again_intro (l.length - (i + 1)) (by omega) _ (Mem.sub.refl _) ⟨i + 1, _, by omega, rfl, rfl, hN, ?_, ?_, ?_, ?_, ?_, ?_⟩
        all_goals try (simp (disch := omega) only [nth_upd, pickB_true, pickB_false, inB_lt, upd_len, cast_succ, Int.cast_ofNat_Int, Nat.reduceBEq, beq_self_eq_true, reduceCtorEq, *]; done)
      · have hN := bst_next hil hB hw
        replace hN : Kept _ := hN
        have hpl : p < l.length := by omega
        have c1 := mulW (x := x) (r := r) (p := i) hV
        have c2 := mulW (x := x) (r := r) (p := p) hVi
        repeat' first
          | simp -dsimp (disch := omega) only [↓rulesA, rulesB, rulesC, Int.reduceLT, nth, upd, put, storeN, AV.one, Nat.reduceBEq, Nat.reduceBNe, Int.reduceBEq, Int.reduceBNe, Int.reduceLE, Int.reduceEq, Int.reduceMod, Int.reduceNeg, boolBin, strBin, intBin, unA, fillA, ne_eq, reduceCtorEq, Nat.reduceAdd, Nat.reduceSub, Nat.reduceLeDiff, Nat.reduceLT, Nat.reduceEqDiff, Int.reduceToNat, eq_self, rulesT, bne_self_eq_false, mm_min, mm_max, buOf_some, nilCheck_vp, nilCheck_ptr, nilCheck_yld, nilCheck_func, ix_22, Item.len, Item.take, Item.all, Item.g0, Item.g1, Item.drop, Item.sall, *]
          | (refine allK_intro fun n hn => ?_; try simp only [fresh_set] at hn)
          | (refine ifK_intro (fun h => ?_) (fun h => ?_) <;> (try simp only [decide_eq_true_eq, decide_eq_false_iff_not, Bool.not_eq_true', Bool.not_eq_false'] at h) <;> try (exfalso; (try simp only [beq_iff_eq, beq_eq_false_iff_ne, bne_iff_ne, bne_eq_false_iff_eq, ne_eq] at h); omega))
          | (refine keeps_sub (Mem.sub_set (by simp [Mem.set_at, nomem, *])) ?_)
          | (refine call_F (F26 _) (Seens.refl _ _) ?_)
          | (refine pure_F (F26 _) (Seens.refl _ _) ?_)
          | (refine call_F (F18 _ hx _ _) (Seens.refl _ _) ?_)
          | (refine pure_F (F18 _ hx _ _) (Seens.refl _ _) ?_)
        · rw [if_pos (show cAt l x r i * wAt l p < cAt l x r p * wAt l i by assumption)] at hN
          refine again_intro (l.length - (i + 1)) (by omega) _ (Mem.sub.refl _) ⟨i + 1, _, by omega, rfl, rfl, hN, ?_, ?_, ?_, ?_, ?_, ?_⟩
          all_goals try (simp (disch := omega) only [nth_upd, pickB_true, pickB_false, inB_lt, upd_len, cast_succ, Int.cast_ofNat_Int, Nat.reduceBEq, beq_self_eq_true, reduceCtorEq, *]; done)
        · rw [if_neg (show ¬ cAt l x r i * wAt l p < cAt l x r p * wAt l i by assumption)] at hN
          refine again_intro (l.length - (i + 1)) (by omega) _ (Mem.sub.refl _) ⟨i + 1, _, by omega, rfl, rfl, hN, ?_, ?_, ?_, ?_, ?_, ?_⟩
          all_goals try (simp (disch := omega) only [nth_upd, pickB_true, pickB_false, inB_lt, upd_len, cast_succ, Int.cast_ofNat_Int, Nat.reduceBEq, beq_self_eq_true, reduceCtorEq, *]; done)
    · have hN := bst_skip hB hw
      have hw2 : capW (l.getD i default).weight < 1 := by omega
      replace hN : Kept _ := hN
      repeat' first
        | simp -dsimp (disch := omega) only [↓rulesA, rulesB, rulesC, Int.reduceLT, nth, upd, put, storeN, AV.one, Nat.reduceBEq, Nat.reduceBNe, Int.reduceBEq, Int.reduceBNe, Int.reduceLE, Int.reduceEq, Int.reduceMod, Int.reduceNeg, boolBin, strBin, intBin, unA, fillA, ne_eq, reduceCtorEq, Nat.reduceAdd, Nat.reduceSub, Nat.reduceLeDiff, Nat.reduceLT, Nat.reduceEqDiff, Int.reduceToNat, eq_self, rulesT, bne_self_eq_false, mm_min, mm_max, buOf_some, nilCheck_vp, nilCheck_ptr, nilCheck_yld, nilCheck_func, ix_22, Item.len, Item.take, Item.all, Item.g0, Item.g1, Item.drop, Item.sall, *]
        | (refine allK_intro fun n hn => ?_; try simp only [fresh_set] at hn)
        | (refine ifK_intro (fun h => ?_) (fun h => ?_) <;> (try simp only [decide_eq_true_eq, decide_eq_false_iff_not, Bool.not_eq_true', Bool.not_eq_false'] at h) <;> try (exfalso; (try simp only [beq_iff_eq, beq_eq_false_iff_ne, bne_iff_ne, bne_eq_false_iff_eq, ne_eq] at h); omega))
        | (refine keeps_sub (Mem.sub_set (by simp [Mem.set_at, nomem, *])) ?_)
        | (refine call_F (F26 _) (Seens.refl _ _) ?_)
        | (refine pure_F (F26 _) (Seens.refl _ _) ?_)
      refine again_intro (l.length - (i + 1)) (by omega) _ (Mem.sub.refl _) ⟨i + 1, _, by omega, rfl, rfl, hN, ?_, ?_, ?_, ?_, ?_, ?_⟩
      all_goals try (simp (disch := omega) only [nth_upd, pickB_true, pickB_false, inB_lt, upd_len, cast_succ, Int.cast_ofNat_Int, Nat.reduceBEq, beq_self_eq_true, reduceCtorEq, *]; done)
  · have : i = l.length := by omega
    subst this
    rcases bst_end hB with ⟨h1, rfl, h3, h4⟩ | ⟨p, rfl, h2, h3, h4⟩
    · rw [h3, h4]
      repeat' first
        | simp -dsimp (disch := omega) only [↓rulesA, rulesB, rulesC, Int.reduceLT, nth, upd, put, storeN, AV.one, Nat.reduceBEq, Nat.reduceBNe, Int.reduceBEq, Int.reduceBNe, Int.reduceLE, Int.reduceEq, Int.reduceMod, Int.reduceNeg, boolBin, strBin, intBin, unA, fillA, ne_eq, reduceCtorEq, Nat.reduceAdd, Nat.reduceSub, Nat.reduceLeDiff, Nat.reduceLT, Nat.reduceEqDiff, Int.reduceToNat, eq_self, rulesT, bne_self_eq_false, mm_min, mm_max, buOf_some, nilCheck_vp, nilCheck_ptr, nilCheck_yld, nilCheck_func, *]
        | (refine allK_intro fun n hn => ?_; try simp only [fresh_set] at hn)
        | (refine ifK_intro (fun h => ?_) (fun h => ?_) <;> (try simp only [decide_eq_true_eq, decide_eq_false_iff_not, Bool.not_eq_true', Bool.not_eq_false'] at h) <;> try (exfalso; (try simp only [beq_iff_eq, beq_eq_false_iff_ne, bne_iff_ne, bne_eq_false_iff_eq, ne_eq] at h); omega))
        | (refine keeps_sub (Mem.sub_set (by simp [Mem.set_at, nomem, *])) ?_)
      exact New.flat rfl
    · rw [h3, h4]
      repeat' first
        | simp -dsimp (disch := omega) only [↓rulesA, rulesB, rulesC, Int.reduceLT, nth, upd, put, storeN, AV.one, Nat.reduceBEq, Nat.reduceBNe, Int.reduceBEq, Int.reduceBNe, Int.reduceLE, Int.reduceEq, Int.reduceMod, Int.reduceNeg, boolBin, strBin, intBin, unA, fillA, ne_eq, reduceCtorEq, Nat.reduceAdd, Nat.reduceSub, Nat.reduceLeDiff, Nat.reduceLT, Nat.reduceEqDiff, Int.reduceToNat, eq_self, rulesT, bne_self_eq_false, mm_min, mm_max, buOf_some, nilCheck_vp, nilCheck_ptr, nilCheck_yld, nilCheck_func, *]
        | (refine allK_intro fun n hn => ?_; try simp only [fresh_set] at hn)
        | (refine ifK_intro (fun h => ?_) (fun h => ?_) <;> (try simp only [decide_eq_true_eq, decide_eq_false_iff_not, Bool.not_eq_true', Bool.not_eq_false'] at h) <;> try (exfalso; (try simp only [beq_iff_eq, beq_eq_false_iff_ne, bne_iff_ne, bne_eq_false_iff_eq, ne_eq] at h); omega))
        | (refine keeps_sub (Mem.sub_set (by simp [Mem.set_at, nomem, *])) ?_)
      exact New.flat rfl
end Go.Proofs.Yteilhoojlcpbpaa

