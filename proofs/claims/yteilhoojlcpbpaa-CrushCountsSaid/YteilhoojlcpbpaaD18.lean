/- Package 11: the law CrushCounts. -/
import Derived.Test.YteilhoojlcpbpaaD17
set_option maxRecDepth 100000
set_option maxHeartbeats 1000000
set_option linter.unusedSimpArgs false
set_option linter.unusedVariables false
namespace Go.Proofs.Yteilhoojlcpbpaa
open Go.Abs
attribute [local irreducible] C X CC Y CV CW binK litK AppK PureC PureCV againK loopV rangeV allK ifK got onB condK V stepsK planK opK firstK seeE keepsK

theorem F5 (a b : List Item) (y z : Bool) (ha : a.length * 16 ≤ 140737488351232) (hb : b.length * 16 ≤ 140737488351232) (fr : Nat) (hfr : fr < 4294967296) (cnt : Int) : F Try.prog 5 [.vs (a.map Item.cells) y, .vs (b.map Item.cells) z, .val (.int .u32 fr), .val (.int .i64 cnt)] (.val (.bool true)) := by
  refine F5_of ?_
  unfold k5
  by_cases h1 : a.length ≤ 40
  · by_cases h2 : b.length ≤ 40
    · obtain ⟨c, hc⟩ : ∃ c, (if (60 : Int) < cnt then 60 else cnt) = c := ⟨_, rfl⟩
      have f13 := F13 a y (by omega) fr hfr c
      have f14 := F14 a y (by omega) fr hfr c
      have f15 := F15 a b y z (by omega) (by omega) fr hfr c
      have f16 := F16 a b y z (by omega) (by omega) fr hfr c
      have f12 := F12 (countTo a fr (askN c)) false false (by rw [countTo_len]; omega)
      repeat' first
        | simp -dsimp (disch := omega) only [↓rulesA, rulesB, rulesC, Int.reduceLT, nth, upd, put, storeN, AV.one, Nat.reduceBEq, Nat.reduceBNe, Int.reduceBEq, Int.reduceBNe, Int.reduceLE, Int.reduceEq, Int.reduceMod, Int.reduceNeg, boolBin, strBin, intBin, unA, fillA, ne_eq, reduceCtorEq, Nat.reduceAdd, Nat.reduceSub, Nat.reduceLeDiff, Nat.reduceLT, Nat.reduceEqDiff, Int.reduceToNat, eq_self, rulesT, bne_self_eq_false, mm_min, mm_max, buOf_some, nilCheck_vp, nilCheck_ptr, nilCheck_yld, nilCheck_func, hc, *]
        | (refine allK_intro fun n hn => ?_; try simp only [fresh_set] at hn)
        | (refine ifK_intro (fun h => ?_) (fun h => ?_) <;> (try simp only [decide_eq_true_eq, decide_eq_false_iff_not, Bool.not_eq_true', Bool.not_eq_false'] at h) <;> try (exfalso; (try simp only [beq_iff_eq, beq_eq_false_iff_ne, bne_iff_ne, bne_eq_false_iff_eq, ne_eq] at h); omega))
        | (refine keeps_sub (Mem.sub_set (by simp [Mem.set_at, nomem, *])) ?_)
        | (refine call_F (F8 a y) (Seens.refl _ _) ?_)
        | (refine pure_F (F8 a y) (Seens.refl _ _) ?_)
        | (refine call_F (F8 b z) (Seens.refl _ _) ?_)
        | (refine pure_F (F8 b z) (Seens.refl _ _) ?_)
        | (refine call_F (f13) (Seens.refl _ _) ?_)
        | (refine pure_F (f13) (Seens.refl _ _) ?_)
        | (refine call_F (f14) (Seens.refl _ _) ?_)
        | (refine pure_F (f14) (Seens.refl _ _) ?_)
        | (refine call_F (f12) (Seens.refl _ _) ?_)
        | (refine pure_F (f12) (Seens.refl _ _) ?_)
        | (refine call_F (f15) (Seens.refl _ _) ?_)
        | (refine pure_F (f15) (Seens.refl _ _) ?_)
        | (refine call_F (f16) (Seens.refl _ _) ?_)
        | (refine pure_F (f16) (Seens.refl _ _) ?_)
        | (refine call_F (F9) (Seens.refl _ _) ?_)
        | (refine pure_F (F9) (Seens.refl _ _) ?_)
      all_goals exact .val
    · repeat' first
        | simp -dsimp (disch := omega) only [↓rulesA, rulesB, rulesC, Int.reduceLT, nth, upd, put, storeN, AV.one, Nat.reduceBEq, Nat.reduceBNe, Int.reduceBEq, Int.reduceBNe, Int.reduceLE, Int.reduceEq, Int.reduceMod, Int.reduceNeg, boolBin, strBin, intBin, unA, fillA, ne_eq, reduceCtorEq, Nat.reduceAdd, Nat.reduceSub, Nat.reduceLeDiff, Nat.reduceLT, Nat.reduceEqDiff, Int.reduceToNat, eq_self, rulesT, bne_self_eq_false, mm_min, mm_max, buOf_some, nilCheck_vp, nilCheck_ptr, nilCheck_yld, nilCheck_func, *]
        | (refine allK_intro fun n hn => ?_; try simp only [fresh_set] at hn)
        | (refine ifK_intro (fun h => ?_) (fun h => ?_) <;> (try simp only [decide_eq_true_eq, decide_eq_false_iff_not, Bool.not_eq_true', Bool.not_eq_false'] at h) <;> try (exfalso; (try simp only [beq_iff_eq, beq_eq_false_iff_ne, bne_iff_ne, bne_eq_false_iff_eq, ne_eq] at h); omega))
        | (refine keeps_sub (Mem.sub_set (by simp [Mem.set_at, nomem, *])) ?_)
        | (refine call_F (F8 a y) (Seens.refl _ _) ?_)
        | (refine pure_F (F8 a y) (Seens.refl _ _) ?_)
        | (refine call_F (F8 b z) (Seens.refl _ _) ?_)
        | (refine pure_F (F8 b z) (Seens.refl _ _) ?_)
        | (refine call_F (F9) (Seens.refl _ _) ?_)
        | (refine pure_F (F9) (Seens.refl _ _) ?_)
      all_goals exact .val
  · repeat' first
      | simp -dsimp (disch := omega) only [↓rulesA, rulesB, rulesC, Int.reduceLT, nth, upd, put, storeN, AV.one, Nat.reduceBEq, Nat.reduceBNe, Int.reduceBEq, Int.reduceBNe, Int.reduceLE, Int.reduceEq, Int.reduceMod, Int.reduceNeg, boolBin, strBin, intBin, unA, fillA, ne_eq, reduceCtorEq, Nat.reduceAdd, Nat.reduceSub, Nat.reduceLeDiff, Nat.reduceLT, Nat.reduceEqDiff, Int.reduceToNat, eq_self, rulesT, bne_self_eq_false, mm_min, mm_max, buOf_some, nilCheck_vp, nilCheck_ptr, nilCheck_yld, nilCheck_func, *]
      | (refine allK_intro fun n hn => ?_; try simp only [fresh_set] at hn)
      | (refine ifK_intro (fun h => ?_) (fun h => ?_) <;> (try simp only [decide_eq_true_eq, decide_eq_false_iff_not, Bool.not_eq_true', Bool.not_eq_false'] at h) <;> try (exfalso; (try simp only [beq_iff_eq, beq_eq_false_iff_ne, bne_iff_ne, bne_eq_false_iff_eq, ne_eq] at h); omega))
      | (refine keeps_sub (Mem.sub_set (by simp [Mem.set_at, nomem, *])) ?_)
      | (refine call_F (F8 a y) (Seens.refl _ _) ?_)
      | (refine pure_F (F8 a y) (Seens.refl _ _) ?_)
      | (refine call_F (F8 b z) (Seens.refl _ _) ?_)
      | (refine pure_F (F8 b z) (Seens.refl _ _) ?_)
      | (refine call_F (F9) (Seens.refl _ _) ?_)
      | (refine pure_F (F9) (Seens.refl _ _) ?_)
    all_goals exact .val
theorem counts_law : ∀ args, ShapedAll Try.prog Try.f5.params.toList args → F Try.prog 5 args (.val (.bool true)) := by
  intro args h
  have hp : Try.f5.params.toList = [22, 22, 23, 3] := by kernel_rfl
  rw [hp] at h
  match args, h with
  | [a, b, d, e], ⟨h0, h1, h3, h4, _⟩ =>
    obtain ⟨l, rfl, l1, _, _⟩ := items_of h0
    obtain ⟨s, rfl, s1, _, _⟩ := items_of h1
    obtain ⟨z, rfl, z0, z1⟩ := (h3.one ti_23 rfl).u32 ti_23 rfl
    obtain ⟨r, rfl, _⟩ := (h4.one ti_3 rfl).i64 ti_3 rfl
    obtain ⟨q, rfl⟩ : ∃ q : Nat, z = q := ⟨z.toNat, by omega⟩
    exact F5 l s false false l1 s1 q (by omega) r
end Go.Proofs.Yteilhoojlcpbpaa

