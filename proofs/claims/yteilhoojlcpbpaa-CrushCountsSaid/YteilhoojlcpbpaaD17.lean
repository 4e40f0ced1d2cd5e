/- Package 11: how many moved; the law CrushCounts. -/
import Derived.Test.YteilhoojlcpbpaaD16
set_option maxRecDepth 100000
set_option maxHeartbeats 1000000
set_option linter.unusedSimpArgs false
set_option linter.unusedVariables false
namespace Go.Proofs.Yteilhoojlcpbpaa
open Go.Abs
attribute [local irreducible] C X CC Y CV CW binK litK AppK PureC PureCV againK loopV rangeV allK ifK got onB condK V stepsK planK opK firstK seeE keepsK

/-- Did x's holder change? -/
def mvB (a b : List Item) (x : Nat) : Bool := choB a x 0 != choB b x 0 || (choB a x 0 && (a.getD (choP a x 0) default).id != (b.getD (choP b x 0) default).id)
def movedTo (a b : List Item) (fr : Nat) : Nat → Nat
  | 0 => 0
  | k + 1 => if mvB a b (askAt fr k) = true then movedTo a b fr k + 1 else movedTo a b fr k
theorem moved_le (a b : List Item) (fr : Nat) : ∀ k, movedTo a b fr k ≤ k
  | 0 => Nat.le_refl _
  | k + 1 => by have := moved_le a b fr k; unfold movedTo; split <;> omega
theorem moved_yes {a b : List Item} {fr k : Nat} (h : mvB a b (askAt fr k) = true) : movedTo a b fr (k + 1) = movedTo a b fr k + 1 := if_pos h
theorem moved_no {a b : List Item} {fr k : Nat} (h : mvB a b (askAt fr k) = false) : movedTo a b fr (k + 1) = movedTo a b fr k := if_neg (by rw [h]; decide)
theorem mv_ne {a b : List Item} {x : Nat} {p q : Bool} (h1 : choB a x 0 = p) (h2 : choB b x 0 = q) (h : p ≠ q) : mvB a b x = true := by unfold mvB; rw [h1, h2]; cases p <;> cases q <;> simp at *
theorem mv_none {a b : List Item} {x : Nat} (h1 : choB a x 0 = false) (h2 : choB b x 0 = false) : mvB a b x = false := by unfold mvB; rw [h1, h2]; rfl
theorem mv_both {a b : List Item} {x : Nat} (h1 : choB a x 0 = true) (h2 : choB b x 0 = true) : mvB a b x = ((a.getD (choP a x 0) default).id != (b.getD (choP b x 0) default).id) := by unfold mvB; rw [h1, h2]; simp
theorem b_ft : (false == true) = false := rfl
theorem b_tf : (true == false) = false := rfl
theorem b_nf : (!false) = true := rfl
theorem b_nt : (!true) = false := rfl
theorem F16 (a b : List Item) (y z : Bool) (ha : a.length ≤ 140737488355328) (hb : b.length ≤ 140737488355328) (fr : Nat) (hfr : fr < 4294967296) (cnt : Int) : F Try.prog 16 [.vs (a.map Item.cells) y, .vs (b.map Item.cells) z, .val (.int .u32 fr), .val (.int .i64 cnt)] (.val (.int .i64 (movedTo a b fr (askN cnt)))) := by
  have hN := askN_le cnt
  refine F16_of ?_
  unfold k16
  repeat' first
    | simp -dsimp (disch := omega) only [↓rulesA, rulesB, rulesC, Int.reduceLT, nth, upd, put, storeN, AV.one, Nat.reduceBEq, Nat.reduceBNe, Int.reduceBEq, Int.reduceBNe, Int.reduceLE, Int.reduceEq, Int.reduceMod, Int.reduceNeg, boolBin, strBin, intBin, unA, fillA, ne_eq, reduceCtorEq, Nat.reduceAdd, Nat.reduceSub, Nat.reduceLeDiff, Nat.reduceLT, Nat.reduceEqDiff, Int.reduceToNat, eq_self, rulesT, bne_self_eq_false, mm_min, mm_max, buOf_some, nilCheck_vp, nilCheck_ptr, nilCheck_yld, nilCheck_func, *]
    | (refine allK_intro fun n hn => ?_; try simp only [fresh_set] at hn)
    | (refine ifK_intro (fun h => ?_) (fun h => ?_) <;> (try simp only [decide_eq_true_eq, decide_eq_false_iff_not, Bool.not_eq_true', Bool.not_eq_false'] at h) <;> try (exfalso; (try simp only [beq_iff_eq, beq_eq_false_iff_ne, bne_iff_ne, bne_eq_false_iff_eq, ne_eq] at h); omega))
    | (refine keeps_sub (Mem.sub_set (by simp [Mem.set_at, nomem, *])) ?_)
  refine loop_intro (fun j env m => ∃ (k : Nat), k ≤ askN cnt ∧ j = askN cnt - k ∧ m = nomem ∧ env.length = 64 ∧ nth env 0 = .vs (a.map Item.cells) y ∧ nth env 1 = .vs (b.map Item.cells) z ∧ nth env 2 = .val (.int .u32 fr) ∧ nth env 3 = .val (.int .i64 cnt) ∧ nth env 9 = .val (.int .i64 (movedTo a b fr k)) ∧ nth env 10 = .val (.int .i64 k)) (askN cnt) _ (Mem.sub.refl _) ⟨0, by omega, by omega, rfl, rfl, rfl, rfl, rfl, rfl, rfl, rfl⟩ ?_
  rintro j env m ⟨k, hk, rfl, rfl, hlen, e0, e1, e2, e3, e9, e10⟩
  have hle := moved_le a b fr k
  by_cases hkl : k < askN cnt
  · obtain ⟨i1, i2⟩ := ask_in hkl
    have g1 := F17 a y ha (askAt fr k) (askAt_lt fr k) 0
    have g2 := F17 b z hb (askAt fr k) (askAt_lt fr k) 0
    cases h1 : choB a (askAt fr k) 0 <;> cases h2 : choB b (askAt fr k) 0 <;> rw [h1] at g1 <;> rw [h2] at g2
    · have hst : Kept (movedTo a b fr (k + 1) = movedTo a b fr k) := moved_no (mv_none h1 h2)
      repeat' first
        | simp -dsimp (disch := omega) only [↓rulesA, rulesB, rulesC, Int.reduceLT, nth, upd, put, storeN, AV.one, Nat.reduceBEq, Nat.reduceBNe, Int.reduceBEq, Int.reduceBNe, Int.reduceLE, Int.reduceEq, Int.reduceMod, Int.reduceNeg, boolBin, strBin, intBin, unA, fillA, ne_eq, reduceCtorEq, Nat.reduceAdd, Nat.reduceSub, Nat.reduceLeDiff, Nat.reduceLT, Nat.reduceEqDiff, Int.reduceToNat, eq_self, rulesT, bne_self_eq_false, mm_min, mm_max, buOf_some, nilCheck_vp, nilCheck_ptr, nilCheck_yld, nilCheck_func, wrap32_small, add32_mod, b_ft, b_tf, b_nf, b_nt, *]
        | (refine allK_intro fun n hn => ?_; try simp only [fresh_set] at hn)
        | (refine ifK_intro (fun h => ?_) (fun h => ?_) <;> (try simp only [decide_eq_true_eq, decide_eq_false_iff_not, Bool.not_eq_true', Bool.not_eq_false'] at h) <;> try (exfalso; (try simp only [beq_iff_eq, beq_eq_false_iff_ne, bne_iff_ne, bne_eq_false_iff_eq, ne_eq] at h); omega))
        | (refine keeps_sub (Mem.sub_set (by simp [Mem.set_at, nomem, *])) ?_)
        | (refine call_F (g1) (Seens.refl _ _) ?_)
        | (refine pure_F (g1) (Seens.refl _ _) ?_)
        | (refine call_F (g2) (Seens.refl _ _) ?_)
        | (refine pure_F (g2) (Seens.refl _ _) ?_)
      unfold Kept at hst
      refine again_intro (askN cnt - (k + 1)) (by omega) _ (Mem.sub.refl _) ⟨k + 1, by omega, rfl, rfl, ?_, ?_, ?_, ?_, ?_, ?_, ?_⟩
      all_goals try (simp (disch := omega) only [nth_upd, pickB_true, pickB_false, inB_lt, upd_len, cast_succ, Int.cast_ofNat_Int, Nat.reduceBEq, beq_self_eq_true, reduceCtorEq, *]; done)
    · have hst : Kept (movedTo a b fr (k + 1) = movedTo a b fr k + 1) := moved_yes (mv_ne h1 h2 (by decide))
      repeat' first
        | simp -dsimp (disch := omega) only [↓rulesA, rulesB, rulesC, Int.reduceLT, nth, upd, put, storeN, AV.one, Nat.reduceBEq, Nat.reduceBNe, Int.reduceBEq, Int.reduceBNe, Int.reduceLE, Int.reduceEq, Int.reduceMod, Int.reduceNeg, boolBin, strBin, intBin, unA, fillA, ne_eq, reduceCtorEq, Nat.reduceAdd, Nat.reduceSub, Nat.reduceLeDiff, Nat.reduceLT, Nat.reduceEqDiff, Int.reduceToNat, eq_self, rulesT, bne_self_eq_false, mm_min, mm_max, buOf_some, nilCheck_vp, nilCheck_ptr, nilCheck_yld, nilCheck_func, wrap32_small, add32_mod, b_ft, b_tf, b_nf, b_nt, *]
        | (refine allK_intro fun n hn => ?_; try simp only [fresh_set] at hn)
        | (refine ifK_intro (fun h => ?_) (fun h => ?_) <;> (try simp only [decide_eq_true_eq, decide_eq_false_iff_not, Bool.not_eq_true', Bool.not_eq_false'] at h) <;> try (exfalso; (try simp only [beq_iff_eq, beq_eq_false_iff_ne, bne_iff_ne, bne_eq_false_iff_eq, ne_eq] at h); omega))
        | (refine keeps_sub (Mem.sub_set (by simp [Mem.set_at, nomem, *])) ?_)
        | (refine call_F (g1) (Seens.refl _ _) ?_)
        | (refine pure_F (g1) (Seens.refl _ _) ?_)
        | (refine call_F (g2) (Seens.refl _ _) ?_)
        | (refine pure_F (g2) (Seens.refl _ _) ?_)
      unfold Kept at hst
      refine again_intro (askN cnt - (k + 1)) (by omega) _ (Mem.sub.refl _) ⟨k + 1, by omega, rfl, rfl, ?_, ?_, ?_, ?_, ?_, ?_, ?_⟩
      all_goals try (simp (disch := omega) only [nth_upd, pickB_true, pickB_false, inB_lt, upd_len, cast_succ, Int.cast_ofNat_Int, Nat.reduceBEq, beq_self_eq_true, reduceCtorEq, *]; done)
    · have hst : Kept (movedTo a b fr (k + 1) = movedTo a b fr k + 1) := moved_yes (mv_ne h1 h2 (by decide))
      repeat' first
        | simp -dsimp (disch := omega) only [↓rulesA, rulesB, rulesC, Int.reduceLT, nth, upd, put, storeN, AV.one, Nat.reduceBEq, Nat.reduceBNe, Int.reduceBEq, Int.reduceBNe, Int.reduceLE, Int.reduceEq, Int.reduceMod, Int.reduceNeg, boolBin, strBin, intBin, unA, fillA, ne_eq, reduceCtorEq, Nat.reduceAdd, Nat.reduceSub, Nat.reduceLeDiff, Nat.reduceLT, Nat.reduceEqDiff, Int.reduceToNat, eq_self, rulesT, bne_self_eq_false, mm_min, mm_max, buOf_some, nilCheck_vp, nilCheck_ptr, nilCheck_yld, nilCheck_func, wrap32_small, add32_mod, b_ft, b_tf, b_nf, b_nt, *]
        | (refine allK_intro fun n hn => ?_; try simp only [fresh_set] at hn)
        | (refine ifK_intro (fun h => ?_) (fun h => ?_) <;> (try simp only [decide_eq_true_eq, decide_eq_false_iff_not, Bool.not_eq_true', Bool.not_eq_false'] at h) <;> try (exfalso; (try simp only [beq_iff_eq, beq_eq_false_iff_ne, bne_iff_ne, bne_eq_false_iff_eq, ne_eq] at h); omega))
        | (refine keeps_sub (Mem.sub_set (by simp [Mem.set_at, nomem, *])) ?_)
        | (refine call_F (g1) (Seens.refl _ _) ?_)
        | (refine pure_F (g1) (Seens.refl _ _) ?_)
        | (refine call_F (g2) (Seens.refl _ _) ?_)
        | (refine pure_F (g2) (Seens.refl _ _) ?_)
      unfold Kept at hst
      refine again_intro (askN cnt - (k + 1)) (by omega) _ (Mem.sub.refl _) ⟨k + 1, by omega, rfl, rfl, ?_, ?_, ?_, ?_, ?_, ?_, ?_⟩
      all_goals try (simp (disch := omega) only [nth_upd, pickB_true, pickB_false, inB_lt, upd_len, cast_succ, Int.cast_ofNat_Int, Nat.reduceBEq, beq_self_eq_true, reduceCtorEq, *]; done)
    · have p1 := choP_lt h1
      have p2 := choP_lt h2
      cases hid : (a.getD (choP a (askAt fr k) 0) default).id != (b.getD (choP b (askAt fr k) 0) default).id with
      | true =>
        have hst : Kept (movedTo a b fr (k + 1) = movedTo a b fr k + 1) := moved_yes ((mv_both h1 h2).trans hid)
        repeat' first
          | simp -dsimp (disch := omega) only [↓rulesA, rulesB, rulesC, Int.reduceLT, nth, upd, put, storeN, AV.one, Nat.reduceBEq, Nat.reduceBNe, Int.reduceBEq, Int.reduceBNe, Int.reduceLE, Int.reduceEq, Int.reduceMod, Int.reduceNeg, boolBin, strBin, intBin, unA, fillA, ne_eq, reduceCtorEq, Nat.reduceAdd, Nat.reduceSub, Nat.reduceLeDiff, Nat.reduceLT, Nat.reduceEqDiff, Int.reduceToNat, eq_self, rulesT, bne_self_eq_false, mm_min, mm_max, buOf_some, nilCheck_vp, nilCheck_ptr, nilCheck_yld, nilCheck_func, wrap32_small, add32_mod, ix_22, Item.len, Item.take, Item.all, Item.g0, Item.g1, *]
          | (refine allK_intro fun n hn => ?_; try simp only [fresh_set] at hn)
          | (refine ifK_intro (fun h => ?_) (fun h => ?_) <;> (try simp only [decide_eq_true_eq, decide_eq_false_iff_not, Bool.not_eq_true', Bool.not_eq_false'] at h) <;> try (exfalso; (try simp only [beq_iff_eq, beq_eq_false_iff_ne, bne_iff_ne, bne_eq_false_iff_eq, ne_eq] at h); omega))
          | (refine keeps_sub (Mem.sub_set (by simp [Mem.set_at, nomem, *])) ?_)
          | (refine call_F (g1) (Seens.refl _ _) ?_)
          | (refine pure_F (g1) (Seens.refl _ _) ?_)
          | (refine call_F (g2) (Seens.refl _ _) ?_)
          | (refine pure_F (g2) (Seens.refl _ _) ?_)
        unfold Kept at hst
        refine again_intro (askN cnt - (k + 1)) (by omega) _ (Mem.sub.refl _) ⟨k + 1, by omega, rfl, rfl, ?_, ?_, ?_, ?_, ?_, ?_, ?_⟩
        all_goals try (simp (disch := omega) only [nth_upd, pickB_true, pickB_false, inB_lt, upd_len, cast_succ, Int.cast_ofNat_Int, Nat.reduceBEq, beq_self_eq_true, reduceCtorEq, *]; done)
      | false =>
        have hst : Kept (movedTo a b fr (k + 1) = movedTo a b fr k) := moved_no ((mv_both h1 h2).trans hid)
        repeat' first
          | simp -dsimp (disch := omega) only [↓rulesA, rulesB, rulesC, Int.reduceLT, nth, upd, put, storeN, AV.one, Nat.reduceBEq, Nat.reduceBNe, Int.reduceBEq, Int.reduceBNe, Int.reduceLE, Int.reduceEq, Int.reduceMod, Int.reduceNeg, boolBin, strBin, intBin, unA, fillA, ne_eq, reduceCtorEq, Nat.reduceAdd, Nat.reduceSub, Nat.reduceLeDiff, Nat.reduceLT, Nat.reduceEqDiff, Int.reduceToNat, eq_self, rulesT, bne_self_eq_false, mm_min, mm_max, buOf_some, nilCheck_vp, nilCheck_ptr, nilCheck_yld, nilCheck_func, wrap32_small, add32_mod, ix_22, Item.len, Item.take, Item.all, Item.g0, Item.g1, *]
          | (refine allK_intro fun n hn => ?_; try simp only [fresh_set] at hn)
          | (refine ifK_intro (fun h => ?_) (fun h => ?_) <;> (try simp only [decide_eq_true_eq, decide_eq_false_iff_not, Bool.not_eq_true', Bool.not_eq_false'] at h) <;> try (exfalso; (try simp only [beq_iff_eq, beq_eq_false_iff_ne, bne_iff_ne, bne_eq_false_iff_eq, ne_eq] at h); omega))
          | (refine keeps_sub (Mem.sub_set (by simp [Mem.set_at, nomem, *])) ?_)
          | (refine call_F (g1) (Seens.refl _ _) ?_)
          | (refine pure_F (g1) (Seens.refl _ _) ?_)
          | (refine call_F (g2) (Seens.refl _ _) ?_)
          | (refine pure_F (g2) (Seens.refl _ _) ?_)
        unfold Kept at hst
        refine again_intro (askN cnt - (k + 1)) (by omega) _ (Mem.sub.refl _) ⟨k + 1, by omega, rfl, rfl, ?_, ?_, ?_, ?_, ?_, ?_, ?_⟩
        all_goals try (simp (disch := omega) only [nth_upd, pickB_true, pickB_false, inB_lt, upd_len, cast_succ, Int.cast_ofNat_Int, Nat.reduceBEq, beq_self_eq_true, reduceCtorEq, *]; done)
  · have : k = askN cnt := by omega
    have hout := ask_out hkl
    subst this
    rcases hout with h1 | ⟨h1, h2⟩
    · repeat' first
        | simp -dsimp (disch := omega) only [↓rulesA, rulesB, rulesC, Int.reduceLT, nth, upd, put, storeN, AV.one, Nat.reduceBEq, Nat.reduceBNe, Int.reduceBEq, Int.reduceBNe, Int.reduceLE, Int.reduceEq, Int.reduceMod, Int.reduceNeg, boolBin, strBin, intBin, unA, fillA, ne_eq, reduceCtorEq, Nat.reduceAdd, Nat.reduceSub, Nat.reduceLeDiff, Nat.reduceLT, Nat.reduceEqDiff, Int.reduceToNat, eq_self, rulesT, bne_self_eq_false, mm_min, mm_max, buOf_some, nilCheck_vp, nilCheck_ptr, nilCheck_yld, nilCheck_func, *]
        | (refine allK_intro fun n hn => ?_; try simp only [fresh_set] at hn)
        | (refine ifK_intro (fun h => ?_) (fun h => ?_) <;> (try simp only [decide_eq_true_eq, decide_eq_false_iff_not, Bool.not_eq_true', Bool.not_eq_false'] at h) <;> try (exfalso; (try simp only [beq_iff_eq, beq_eq_false_iff_ne, bne_iff_ne, bne_eq_false_iff_eq, ne_eq] at h); omega))
        | (refine keeps_sub (Mem.sub_set (by simp [Mem.set_at, nomem, *])) ?_)
      exact .val
    · repeat' first
        | simp -dsimp (disch := omega) only [↓rulesA, rulesB, rulesC, Int.reduceLT, nth, upd, put, storeN, AV.one, Nat.reduceBEq, Nat.reduceBNe, Int.reduceBEq, Int.reduceBNe, Int.reduceLE, Int.reduceEq, Int.reduceMod, Int.reduceNeg, boolBin, strBin, intBin, unA, fillA, ne_eq, reduceCtorEq, Nat.reduceAdd, Nat.reduceSub, Nat.reduceLeDiff, Nat.reduceLT, Nat.reduceEqDiff, Int.reduceToNat, eq_self, rulesT, bne_self_eq_false, mm_min, mm_max, buOf_some, nilCheck_vp, nilCheck_ptr, nilCheck_yld, nilCheck_func, *]
        | (refine allK_intro fun n hn => ?_; try simp only [fresh_set] at hn)
        | (refine ifK_intro (fun h => ?_) (fun h => ?_) <;> (try simp only [decide_eq_true_eq, decide_eq_false_iff_not, Bool.not_eq_true', Bool.not_eq_false'] at h) <;> try (exfalso; (try simp only [beq_iff_eq, beq_eq_false_iff_ne, bne_iff_ne, bne_eq_false_iff_eq, ne_eq] at h); omega))
        | (refine keeps_sub (Mem.sub_set (by simp [Mem.set_at, nomem, *])) ?_)
      exact .val
theorem F15 (a b : List Item) (y z : Bool) (ha : a.length ≤ 140737488355328) (hb : b.length ≤ 140737488355328) (fr : Nat) (hfr : fr < 4294967296) (cnt : Int) : F Try.prog 15 [.vs (a.map Item.cells) y, .vs (b.map Item.cells) z, .val (.int .u32 fr), .val (.int .i64 cnt)] (.val (.int .i64 (movedTo a b fr (askN cnt)))) := by
  have hN := askN_le cnt
  refine F15_of ?_
  unfold k15
  repeat' first
    | simp -dsimp (disch := omega) only [↓rulesA, rulesB, rulesC, Int.reduceLT, nth, upd, put, storeN, AV.one, Nat.reduceBEq, Nat.reduceBNe, Int.reduceBEq, Int.reduceBNe, Int.reduceLE, Int.reduceEq, Int.reduceMod, Int.reduceNeg, boolBin, strBin, intBin, unA, fillA, ne_eq, reduceCtorEq, Nat.reduceAdd, Nat.reduceSub, Nat.reduceLeDiff, Nat.reduceLT, Nat.reduceEqDiff, Int.reduceToNat, eq_self, rulesT, bne_self_eq_false, mm_min, mm_max, buOf_some, nilCheck_vp, nilCheck_ptr, nilCheck_yld, nilCheck_func, *]
    | (refine allK_intro fun n hn => ?_; try simp only [fresh_set] at hn)
    | (refine ifK_intro (fun h => ?_) (fun h => ?_) <;> (try simp only [decide_eq_true_eq, decide_eq_false_iff_not, Bool.not_eq_true', Bool.not_eq_false'] at h) <;> try (exfalso; (try simp only [beq_iff_eq, beq_eq_false_iff_ne, bne_iff_ne, bne_eq_false_iff_eq, ne_eq] at h); omega))
    | (refine keeps_sub (Mem.sub_set (by simp [Mem.set_at, nomem, *])) ?_)
  rename_i n4 _ n5 hn5
  obtain ⟨n9, e9⟩ : ∃ q, q = n := ⟨n, rfl⟩
  subst e9
  obtain ⟨a1, a2, -⟩ := hn5
  obtain ⟨b1, b2, b3, b4, -⟩ := hn
  refine call_on (C25 fr cnt) (nomem_sub _) fun q m' ⟨hq, hm⟩ _ => ?_
  subst hq
  subst hm
  rw [Mem.plus_nomem nomem _ fun n h => absurd rfl h]
  repeat' first
    | simp -dsimp (disch := omega) only [↓rulesA, rulesB, rulesC, Int.reduceLT, nth, upd, put, storeN, AV.one, Nat.reduceBEq, Nat.reduceBNe, Int.reduceBEq, Int.reduceBNe, Int.reduceLE, Int.reduceEq, Int.reduceMod, Int.reduceNeg, boolBin, strBin, intBin, unA, fillA, ne_eq, reduceCtorEq, Nat.reduceAdd, Nat.reduceSub, Nat.reduceLeDiff, Nat.reduceLT, Nat.reduceEqDiff, Int.reduceToNat, eq_self, rulesT, bne_self_eq_false, mm_min, mm_max, buOf_some, nilCheck_vp, nilCheck_ptr, nilCheck_yld, nilCheck_func, *]
    | (refine allK_intro fun n hn => ?_; try simp only [fresh_set] at hn)
    | (refine ifK_intro (fun h => ?_) (fun h => ?_) <;> (try simp only [decide_eq_true_eq, decide_eq_false_iff_not, Bool.not_eq_true', Bool.not_eq_false'] at h) <;> try (exfalso; (try simp only [beq_iff_eq, beq_eq_false_iff_ne, bne_iff_ne, bne_eq_false_iff_eq, ne_eq] at h); omega))
    | (refine keeps_sub (Mem.sub_set (by simp [Mem.set_at, nomem, *])) ?_)
  refine range_iter mixed la15_0_is lb15_0_is (I36 fr cnt) (nomem_sub _) ?_ (fun n h => by cases h)
    (fun k m1 => k ≤ askN cnt ∧ m1 = ((nomem.set n4 (.cells false 22 [.vs (a.map Item.cells) y])).set n5 (.cells false 22 [.vs (b.map Item.cells) z])).set n9 (.cells false 3 [.val (.int .i64 (movedTo a b fr k))])) _ (Mem.sub.refl _) ⟨by omega, rfl⟩ ?_ ?_
  · intro q hq
    obtain ⟨d, _, rfl⟩ := List.mem_map.1 hq
    rfl
  · rintro k hk nl m1 ⟨hk', rfl⟩ hnl
    rw [askR_at fr cnt k hk]
    rw [askR_len] at hk
    simp only [fresh_set] at hnl
    obtain ⟨c1, c2, c3, c4, c5, c6, -⟩ := hnl
    have hle := moved_le a b fr k
    have g1 := G10 a y ha (askAt fr k) (askAt_lt fr k) 0
    have g2 := G10 b z hb (askAt fr k) (askAt_lt fr k) 0
    unfold la15_0 lb15_0
    cases h1 : choB a (askAt fr k) 0 <;> cases h2 : choB b (askAt fr k) 0 <;> rw [h1] at g1 <;> rw [h2] at g2
    · have hst : Kept (movedTo a b fr (k + 1) = movedTo a b fr k) := moved_no (mv_none h1 h2)
      repeat' first
        | simp -dsimp (disch := omega) only [↓rulesA, rulesB, rulesC, Int.reduceLT, nth, upd, put, storeN, AV.one, Nat.reduceBEq, Nat.reduceBNe, Int.reduceBEq, Int.reduceBNe, Int.reduceLE, Int.reduceEq, Int.reduceMod, Int.reduceNeg, boolBin, strBin, intBin, unA, fillA, ne_eq, reduceCtorEq, Nat.reduceAdd, Nat.reduceSub, Nat.reduceLeDiff, Nat.reduceLT, Nat.reduceEqDiff, Int.reduceToNat, eq_self, rulesT, bne_self_eq_false, mm_min, mm_max, buOf_some, nilCheck_vp, nilCheck_ptr, nilCheck_yld, nilCheck_func, startA_one, b_ft, b_tf, b_nf, b_nt, *]
        | (refine allK_intro fun n hn => ?_; try simp only [fresh_set] at hn)
        | (refine ifK_intro (fun h => ?_) (fun h => ?_) <;> (try simp only [decide_eq_true_eq, decide_eq_false_iff_not, Bool.not_eq_true', Bool.not_eq_false'] at h) <;> try (exfalso; (try simp only [beq_iff_eq, beq_eq_false_iff_ne, bne_iff_ne, bne_eq_false_iff_eq, ne_eq] at h); omega))
        | (refine keeps_sub (Mem.sub_set (by simp [Mem.set_at, nomem, *])) ?_)
        | (refine call_F (g1) (Seens.refl _ _) ?_)
        | (refine pure_F (g1) (Seens.refl _ _) ?_)
        | (refine call_F (g2) (Seens.refl _ _) ?_)
        | (refine pure_F (g2) (Seens.refl _ _) ?_)
      unfold Kept at hst
      rw [roundV_normal]
      refine ⟨by simp [Mem.set_at, *], _, ?_, ⟨hk, rfl⟩⟩
      refine Mem.set_sub (Mem.set_sub (nomem_set_sub ?_) ?_) ?_ <;> simp [Mem.set_at, Mem.del_at, *]
    · have hst : Kept (movedTo a b fr (k + 1) = movedTo a b fr k + 1) := moved_yes (mv_ne h1 h2 (by decide))
      repeat' first
        | simp -dsimp (disch := omega) only [↓rulesA, rulesB, rulesC, Int.reduceLT, nth, upd, put, storeN, AV.one, Nat.reduceBEq, Nat.reduceBNe, Int.reduceBEq, Int.reduceBNe, Int.reduceLE, Int.reduceEq, Int.reduceMod, Int.reduceNeg, boolBin, strBin, intBin, unA, fillA, ne_eq, reduceCtorEq, Nat.reduceAdd, Nat.reduceSub, Nat.reduceLeDiff, Nat.reduceLT, Nat.reduceEqDiff, Int.reduceToNat, eq_self, rulesT, bne_self_eq_false, mm_min, mm_max, buOf_some, nilCheck_vp, nilCheck_ptr, nilCheck_yld, nilCheck_func, startA_one, b_ft, b_tf, b_nf, b_nt, *]
        | (refine allK_intro fun n hn => ?_; try simp only [fresh_set] at hn)
        | (refine ifK_intro (fun h => ?_) (fun h => ?_) <;> (try simp only [decide_eq_true_eq, decide_eq_false_iff_not, Bool.not_eq_true', Bool.not_eq_false'] at h) <;> try (exfalso; (try simp only [beq_iff_eq, beq_eq_false_iff_ne, bne_iff_ne, bne_eq_false_iff_eq, ne_eq] at h); omega))
        | (refine keeps_sub (Mem.sub_set (by simp [Mem.set_at, nomem, *])) ?_)
        | (refine call_F (g1) (Seens.refl _ _) ?_)
        | (refine pure_F (g1) (Seens.refl _ _) ?_)
        | (refine call_F (g2) (Seens.refl _ _) ?_)
        | (refine pure_F (g2) (Seens.refl _ _) ?_)
      unfold Kept at hst
      rw [roundV_normal]
      refine ⟨by simp [Mem.set_at, *], _, ?_, ⟨hk, rfl⟩⟩
      refine Mem.set_sub (Mem.set_sub (nomem_set_sub ?_) ?_) ?_ <;> simp [Mem.set_at, Mem.del_at, *]
    · have hst : Kept (movedTo a b fr (k + 1) = movedTo a b fr k + 1) := moved_yes (mv_ne h1 h2 (by decide))
      repeat' first
        | simp -dsimp (disch := omega) only [↓rulesA, rulesB, rulesC, Int.reduceLT, nth, upd, put, storeN, AV.one, Nat.reduceBEq, Nat.reduceBNe, Int.reduceBEq, Int.reduceBNe, Int.reduceLE, Int.reduceEq, Int.reduceMod, Int.reduceNeg, boolBin, strBin, intBin, unA, fillA, ne_eq, reduceCtorEq, Nat.reduceAdd, Nat.reduceSub, Nat.reduceLeDiff, Nat.reduceLT, Nat.reduceEqDiff, Int.reduceToNat, eq_self, rulesT, bne_self_eq_false, mm_min, mm_max, buOf_some, nilCheck_vp, nilCheck_ptr, nilCheck_yld, nilCheck_func, startA_one, b_ft, b_tf, b_nf, b_nt, *]
        | (refine allK_intro fun n hn => ?_; try simp only [fresh_set] at hn)
        | (refine ifK_intro (fun h => ?_) (fun h => ?_) <;> (try simp only [decide_eq_true_eq, decide_eq_false_iff_not, Bool.not_eq_true', Bool.not_eq_false'] at h) <;> try (exfalso; (try simp only [beq_iff_eq, beq_eq_false_iff_ne, bne_iff_ne, bne_eq_false_iff_eq, ne_eq] at h); omega))
        | (refine keeps_sub (Mem.sub_set (by simp [Mem.set_at, nomem, *])) ?_)
        | (refine call_F (g1) (Seens.refl _ _) ?_)
        | (refine pure_F (g1) (Seens.refl _ _) ?_)
        | (refine call_F (g2) (Seens.refl _ _) ?_)
        | (refine pure_F (g2) (Seens.refl _ _) ?_)
      unfold Kept at hst
      rw [roundV_normal]
      refine ⟨by simp [Mem.set_at, *], _, ?_, ⟨hk, rfl⟩⟩
      refine Mem.set_sub (Mem.set_sub (nomem_set_sub ?_) ?_) ?_ <;> simp [Mem.set_at, Mem.del_at, *]
    · have p1 := choP_lt h1
      have p2 := choP_lt h2
      cases hid : (a.getD (choP a (askAt fr k) 0) default).id != (b.getD (choP b (askAt fr k) 0) default).id with
      | true =>
        have hst : Kept (movedTo a b fr (k + 1) = movedTo a b fr k + 1) := moved_yes ((mv_both h1 h2).trans hid)
        repeat' first
          | simp -dsimp (disch := omega) only [↓rulesA, rulesB, rulesC, Int.reduceLT, nth, upd, put, storeN, AV.one, Nat.reduceBEq, Nat.reduceBNe, Int.reduceBEq, Int.reduceBNe, Int.reduceLE, Int.reduceEq, Int.reduceMod, Int.reduceNeg, boolBin, strBin, intBin, unA, fillA, ne_eq, reduceCtorEq, Nat.reduceAdd, Nat.reduceSub, Nat.reduceLeDiff, Nat.reduceLT, Nat.reduceEqDiff, Int.reduceToNat, eq_self, rulesT, bne_self_eq_false, mm_min, mm_max, buOf_some, nilCheck_vp, nilCheck_ptr, nilCheck_yld, nilCheck_func, startA_one, ix_22, Item.len, Item.take, Item.all, Item.g0, Item.g1, *]
          | (refine allK_intro fun n hn => ?_; try simp only [fresh_set] at hn)
          | (refine ifK_intro (fun h => ?_) (fun h => ?_) <;> (try simp only [decide_eq_true_eq, decide_eq_false_iff_not, Bool.not_eq_true', Bool.not_eq_false'] at h) <;> try (exfalso; (try simp only [beq_iff_eq, beq_eq_false_iff_ne, bne_iff_ne, bne_eq_false_iff_eq, ne_eq] at h); omega))
          | (refine keeps_sub (Mem.sub_set (by simp [Mem.set_at, nomem, *])) ?_)
          | (refine call_F (g1) (Seens.refl _ _) ?_)
          | (refine pure_F (g1) (Seens.refl _ _) ?_)
          | (refine call_F (g2) (Seens.refl _ _) ?_)
          | (refine pure_F (g2) (Seens.refl _ _) ?_)
        unfold Kept at hst
        rw [roundV_normal]
        refine ⟨by simp [Mem.set_at, *], _, ?_, ⟨hk, rfl⟩⟩
        refine Mem.set_sub (Mem.set_sub (nomem_set_sub ?_) ?_) ?_ <;> simp [Mem.set_at, Mem.del_at, *]
      | false =>
        have hst : Kept (movedTo a b fr (k + 1) = movedTo a b fr k) := moved_no ((mv_both h1 h2).trans hid)
        repeat' first
          | simp -dsimp (disch := omega) only [↓rulesA, rulesB, rulesC, Int.reduceLT, nth, upd, put, storeN, AV.one, Nat.reduceBEq, Nat.reduceBNe, Int.reduceBEq, Int.reduceBNe, Int.reduceLE, Int.reduceEq, Int.reduceMod, Int.reduceNeg, boolBin, strBin, intBin, unA, fillA, ne_eq, reduceCtorEq, Nat.reduceAdd, Nat.reduceSub, Nat.reduceLeDiff, Nat.reduceLT, Nat.reduceEqDiff, Int.reduceToNat, eq_self, rulesT, bne_self_eq_false, mm_min, mm_max, buOf_some, nilCheck_vp, nilCheck_ptr, nilCheck_yld, nilCheck_func, startA_one, ix_22, Item.len, Item.take, Item.all, Item.g0, Item.g1, *]
          | (refine allK_intro fun n hn => ?_; try simp only [fresh_set] at hn)
          | (refine ifK_intro (fun h => ?_) (fun h => ?_) <;> (try simp only [decide_eq_true_eq, decide_eq_false_iff_not, Bool.not_eq_true', Bool.not_eq_false'] at h) <;> try (exfalso; (try simp only [beq_iff_eq, beq_eq_false_iff_ne, bne_iff_ne, bne_eq_false_iff_eq, ne_eq] at h); omega))
          | (refine keeps_sub (Mem.sub_set (by simp [Mem.set_at, nomem, *])) ?_)
          | (refine call_F (g1) (Seens.refl _ _) ?_)
          | (refine pure_F (g1) (Seens.refl _ _) ?_)
          | (refine call_F (g2) (Seens.refl _ _) ?_)
          | (refine pure_F (g2) (Seens.refl _ _) ?_)
        unfold Kept at hst
        rw [roundV_normal]
        refine ⟨by simp [Mem.set_at, *], _, ?_, ⟨hk, rfl⟩⟩
        refine Mem.set_sub (Mem.set_sub (nomem_set_sub ?_) ?_) ?_ <;> simp [Mem.set_at, Mem.del_at, *]
  · rintro m1 ⟨-, rfl⟩
    rw [askR_len]
    repeat' first
      | simp -dsimp (disch := omega) only [↓rulesA, rulesB, rulesC, Int.reduceLT, nth, upd, put, storeN, AV.one, Nat.reduceBEq, Nat.reduceBNe, Int.reduceBEq, Int.reduceBNe, Int.reduceLE, Int.reduceEq, Int.reduceMod, Int.reduceNeg, boolBin, strBin, intBin, unA, fillA, ne_eq, reduceCtorEq, Nat.reduceAdd, Nat.reduceSub, Nat.reduceLeDiff, Nat.reduceLT, Nat.reduceEqDiff, Int.reduceToNat, eq_self, rulesT, bne_self_eq_false, mm_min, mm_max, buOf_some, nilCheck_vp, nilCheck_ptr, nilCheck_yld, nilCheck_func, *]
      | (refine allK_intro fun n hn => ?_; try simp only [fresh_set] at hn)
      | (refine ifK_intro (fun h => ?_) (fun h => ?_) <;> (try simp only [decide_eq_true_eq, decide_eq_false_iff_not, Bool.not_eq_true', Bool.not_eq_false'] at h) <;> try (exfalso; (try simp only [beq_iff_eq, beq_eq_false_iff_ne, bne_iff_ne, bne_eq_false_iff_eq, ne_eq] at h); omega))
      | (refine keeps_sub (Mem.sub_set (by simp [Mem.set_at, nomem, *])) ?_)
    exact .val
end Go.Proofs.Yteilhoojlcpbpaa

