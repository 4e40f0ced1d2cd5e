/- Package 11: the reference: counting; the rows held against each other. -/
import Derived.Test.YteilhoojlcpbpaaD15
set_option maxRecDepth 100000
set_option maxHeartbeats 1000000
set_option linter.unusedSimpArgs false
set_option linter.unusedVariables false
namespace Go.Proofs.Yteilhoojlcpbpaa
open Go.Abs
attribute [local irreducible] C X CC Y CV CW binK litK AppK PureC PureCV againK loopV rangeV allK ifK got onB condK V stepsK planK opK firstK seeE keepsK

theorem ask_in {n : Int} {k : Nat} (h : k < askN n) : (k : Int) < n ∧ k < 100000 := by unfold askN at h; omega
theorem ask_out {n : Int} {k : Nat} (h : ¬ k < askN n) : ¬ ((k : Int) < n) ∨ ((k : Int) < n ∧ ¬ ((k : Int) < 100000)) := by unfold askN at h; omega
theorem F14 (l : List Item) (y : Bool) (hl : l.length * 16 ≤ 140737488355328) (fr : Nat) (hfr : fr < 4294967296) (cnt : Int) : F Try.prog 14 [.vs (l.map Item.cells) y, .val (.int .u32 fr), .val (.int .i64 cnt)] (.vs ((countTo l fr (askN cnt)).map natC) false) := by
  have mk := mk_35 l.length (by omega) hl
  have hN := askN_le cnt
  refine F14_of ?_
  unfold k14
  repeat' first
    | simp -dsimp (disch := omega) only [↓rulesA, rulesB, rulesC, Int.reduceLT, nth, upd, put, storeN, AV.one, Nat.reduceBEq, Nat.reduceBNe, Int.reduceBEq, Int.reduceBNe, Int.reduceLE, Int.reduceEq, Int.reduceMod, Int.reduceNeg, boolBin, strBin, intBin, unA, fillA, ne_eq, reduceCtorEq, Nat.reduceAdd, Nat.reduceSub, Nat.reduceLeDiff, Nat.reduceLT, Nat.reduceEqDiff, Int.reduceToNat, eq_self, rulesT, bne_self_eq_false, mm_min, mm_max, buOf_some, nilCheck_vp, nilCheck_ptr, nilCheck_yld, nilCheck_func, *]
    | (refine allK_intro fun n hn => ?_; try simp only [fresh_set] at hn)
    | (refine ifK_intro (fun h => ?_) (fun h => ?_) <;> (try simp only [decide_eq_true_eq, decide_eq_false_iff_not, Bool.not_eq_true', Bool.not_eq_false'] at h) <;> try (exfalso; (try simp only [beq_iff_eq, beq_eq_false_iff_ne, bne_iff_ne, bne_eq_false_iff_eq, ne_eq] at h); omega))
    | (refine keeps_sub (Mem.sub_set (by simp [Mem.set_at, nomem, *])) ?_)
  obtain ⟨nO, eO⟩ : ∃ q, q = n := ⟨n, rfl⟩
  subst eO
  refine loop_intro (fun j env m => ∃ (k : Nat), k ≤ askN cnt ∧ j = askN cnt - k ∧ m = nomem.set nO (.cells false 3 ((countTo l fr k).map natC).flatten) ∧ env.length = 40 ∧ nth env 0 = .vs (l.map Item.cells) y ∧ nth env 1 = .val (.int .u32 fr) ∧ nth env 2 = .val (.int .i64 cnt) ∧ nth env 7 = .sl nO 0 l.length l.length ∧ nth env 8 = .val (.int .i64 k)) (askN cnt) _ (Mem.sub.refl _) ⟨0, by omega, by omega, rfl, rfl, rfl, rfl, rfl, rfl, rfl⟩ ?_
  rintro j env m ⟨k, hk, rfl, rfl, hlen, e0, e1, e2, e7, e8⟩
  have hclen := countTo_len l fr k
  by_cases hkl : k < askN cnt
  · obtain ⟨i1, i2⟩ := ask_in hkl
    have hle := countTo_le l fr (choP l (askAt fr k) 0) k
    have hg := F17 l y (by omega) (askAt fr k) (askAt_lt fr k) 0
    cases hb : choB l (askAt fr k) 0 with
    | false =>
      have hst : countTo l fr (k + 1) = countTo l fr k := by rw [countTo, hb]; rfl
      replace hst : Kept _ := hst
      repeat' first
        | simp -dsimp (disch := omega) only [↓rulesA, rulesB, rulesC, Int.reduceLT, nth, upd, put, storeN, AV.one, Nat.reduceBEq, Nat.reduceBNe, Int.reduceBEq, Int.reduceBNe, Int.reduceLE, Int.reduceEq, Int.reduceMod, Int.reduceNeg, boolBin, strBin, intBin, unA, fillA, ne_eq, reduceCtorEq, Nat.reduceAdd, Nat.reduceSub, Nat.reduceLeDiff, Nat.reduceLT, Nat.reduceEqDiff, Int.reduceToNat, eq_self, rulesT, bne_self_eq_false, mm_min, mm_max, buOf_some, nilCheck_vp, nilCheck_ptr, nilCheck_yld, nilCheck_func, wrap32_small, add32_mod, *]
        | (refine allK_intro fun n hn => ?_; try simp only [fresh_set] at hn)
        | (refine ifK_intro (fun h => ?_) (fun h => ?_) <;> (try simp only [decide_eq_true_eq, decide_eq_false_iff_not, Bool.not_eq_true', Bool.not_eq_false'] at h) <;> try (exfalso; (try simp only [beq_iff_eq, beq_eq_false_iff_ne, bne_iff_ne, bne_eq_false_iff_eq, ne_eq] at h); omega))
        | (refine keeps_sub (Mem.sub_set (by simp [Mem.set_at, nomem, *])) ?_)
        | (refine call_F (hg) (Seens.refl _ _) ?_)
        | (refine pure_F (hg) (Seens.refl _ _) ?_)
      refine again_intro (askN cnt - (k + 1)) (by omega) _ (Mem.sub.refl _) ⟨k + 1, by omega, rfl, by rw [hst], ?_, ?_, ?_, ?_, ?_, ?_⟩
      all_goals try (simp (disch := omega) only [nth_upd, pickB_true, pickB_false, inB_lt, upd_len, cast_succ, Int.cast_ofNat_Int, Nat.reduceBEq, beq_self_eq_true, reduceCtorEq, *]; done)
    | true =>
      have hp := choP_lt hb
      have hst : Kept (countTo l fr (k + 1) = (countTo l fr k).set (choP l (askAt fr k) 0) ((countTo l fr k).getD (choP l (askAt fr k) 0) default + 1)) := by show countTo l fr (k + 1) = _; rw [countTo, hb]; rfl
      repeat' first
        | simp -dsimp (disch := omega) only [↓rulesA, rulesB, rulesC, Int.reduceLT, nth, upd, put, storeN, AV.one, Nat.reduceBEq, Nat.reduceBNe, Int.reduceBEq, Int.reduceBNe, Int.reduceLE, Int.reduceEq, Int.reduceMod, Int.reduceNeg, boolBin, strBin, intBin, unA, fillA, ne_eq, reduceCtorEq, Nat.reduceAdd, Nat.reduceSub, Nat.reduceLeDiff, Nat.reduceLT, Nat.reduceEqDiff, Int.reduceToNat, eq_self, rulesT, bne_self_eq_false, mm_min, mm_max, buOf_some, nilCheck_vp, nilCheck_ptr, nilCheck_yld, nilCheck_func, wrap32_small, add32_mod, nat_at, nat_set, nat_len, Nat.mul_one, *]
        | (refine allK_intro fun n hn => ?_; try simp only [fresh_set] at hn)
        | (refine ifK_intro (fun h => ?_) (fun h => ?_) <;> (try simp only [decide_eq_true_eq, decide_eq_false_iff_not, Bool.not_eq_true', Bool.not_eq_false'] at h) <;> try (exfalso; (try simp only [beq_iff_eq, beq_eq_false_iff_ne, bne_iff_ne, bne_eq_false_iff_eq, ne_eq] at h); omega))
        | (refine keeps_sub (Mem.sub_set (by simp [Mem.set_at, nomem, *])) ?_)
        | (refine call_F (hg) (Seens.refl _ _) ?_)
        | (refine pure_F (hg) (Seens.refl _ _) ?_)
      refine again_intro (askN cnt - (k + 1)) (by omega) _ (Mem.sub.refl _) ⟨k + 1, by omega, rfl, by rw [hst], ?_, ?_, ?_, ?_, ?_, ?_⟩
      all_goals try (simp (disch := omega) only [nth_upd, pickB_true, pickB_false, inB_lt, upd_len, cast_succ, Int.cast_ofNat_Int, Nat.reduceBEq, beq_self_eq_true, reduceCtorEq, *]; done)
  · have : k = askN cnt := by omega
    have hout := ask_out hkl
    subst this
    have hN2 : New (nomem.set nO (.cells false 3 ((countTo l fr (askN cnt)).map natC).flatten)) (.sl nO 0 l.length l.length) (.vs ((countTo l fr (askN cnt)).map natC) false) := by
      have := New.row natC (s := 1) (fun _ => rfl) (fun _ => rfl) (countTo l fr (askN cnt)) (n := nO) (cap := l.length) (opn := false) (t := 3) (m := nomem.set nO (.cells false 3 ((countTo l fr (askN cnt)).map natC).flatten)) (Mem.set_same _ _ _)
      rwa [hclen] at this
    rcases hout with h1 | ⟨h1, h2⟩
    · repeat' first
        | simp -dsimp (disch := omega) only [↓rulesA, rulesB, rulesC, Int.reduceLT, nth, upd, put, storeN, AV.one, Nat.reduceBEq, Nat.reduceBNe, Int.reduceBEq, Int.reduceBNe, Int.reduceLE, Int.reduceEq, Int.reduceMod, Int.reduceNeg, boolBin, strBin, intBin, unA, fillA, ne_eq, reduceCtorEq, Nat.reduceAdd, Nat.reduceSub, Nat.reduceLeDiff, Nat.reduceLT, Nat.reduceEqDiff, Int.reduceToNat, eq_self, rulesT, bne_self_eq_false, mm_min, mm_max, buOf_some, nilCheck_vp, nilCheck_ptr, nilCheck_yld, nilCheck_func, *]
        | (refine allK_intro fun n hn => ?_; try simp only [fresh_set] at hn)
        | (refine ifK_intro (fun h => ?_) (fun h => ?_) <;> (try simp only [decide_eq_true_eq, decide_eq_false_iff_not, Bool.not_eq_true', Bool.not_eq_false'] at h) <;> try (exfalso; (try simp only [beq_iff_eq, beq_eq_false_iff_ne, bne_iff_ne, bne_eq_false_iff_eq, ne_eq] at h); omega))
        | (refine keeps_sub (Mem.sub_set (by simp [Mem.set_at, nomem, *])) ?_)
      all_goals exact hN2
    · repeat' first
        | simp -dsimp (disch := omega) only [↓rulesA, rulesB, rulesC, Int.reduceLT, nth, upd, put, storeN, AV.one, Nat.reduceBEq, Nat.reduceBNe, Int.reduceBEq, Int.reduceBNe, Int.reduceLE, Int.reduceEq, Int.reduceMod, Int.reduceNeg, boolBin, strBin, intBin, unA, fillA, ne_eq, reduceCtorEq, Nat.reduceAdd, Nat.reduceSub, Nat.reduceLeDiff, Nat.reduceLT, Nat.reduceEqDiff, Int.reduceToNat, eq_self, rulesT, bne_self_eq_false, mm_min, mm_max, buOf_some, nilCheck_vp, nilCheck_ptr, nilCheck_yld, nilCheck_func, *]
        | (refine allK_intro fun n hn => ?_; try simp only [fresh_set] at hn)
        | (refine ifK_intro (fun h => ?_) (fun h => ?_) <;> (try simp only [decide_eq_true_eq, decide_eq_false_iff_not, Bool.not_eq_true', Bool.not_eq_false'] at h) <;> try (exfalso; (try simp only [beq_iff_eq, beq_eq_false_iff_ne, bne_iff_ne, bne_eq_false_iff_eq, ne_eq] at h); omega))
        | (refine keeps_sub (Mem.sub_set (by simp [Mem.set_at, nomem, *])) ?_)
      all_goals exact hN2
theorem F12 (a : List Nat) (x y : Bool) (ha : a.length ≤ 140737488355328) : F Try.prog 12 [.vs (a.map natC) x, .vs (a.map natC) y] (.val (.bool true)) := by
  refine F12_of ?_
  unfold k12
  repeat' first
    | simp -dsimp (disch := omega) only [↓rulesA, rulesB, rulesC, Int.reduceLT, nth, upd, put, storeN, AV.one, Nat.reduceBEq, Nat.reduceBNe, Int.reduceBEq, Int.reduceBNe, Int.reduceLE, Int.reduceEq, Int.reduceMod, Int.reduceNeg, boolBin, strBin, intBin, unA, fillA, ne_eq, reduceCtorEq, Nat.reduceAdd, Nat.reduceSub, Nat.reduceLeDiff, Nat.reduceLT, Nat.reduceEqDiff, Int.reduceToNat, eq_self, rulesT, bne_self_eq_false, mm_min, mm_max, buOf_some, nilCheck_vp, nilCheck_ptr, nilCheck_yld, nilCheck_func, *]
    | (refine allK_intro fun n hn => ?_; try simp only [fresh_set] at hn)
    | (refine ifK_intro (fun h => ?_) (fun h => ?_) <;> (try simp only [decide_eq_true_eq, decide_eq_false_iff_not, Bool.not_eq_true', Bool.not_eq_false'] at h) <;> try (exfalso; (try simp only [beq_iff_eq, beq_eq_false_iff_ne, bne_iff_ne, bne_eq_false_iff_eq, ne_eq] at h); omega))
    | (refine keeps_sub (Mem.sub_set (by simp [Mem.set_at, nomem, *])) ?_)
  refine loop_intro (fun j env m => ∃ (k : Nat), k ≤ a.length ∧ j = a.length - k ∧ m = nomem ∧ env.length = 26 ∧ nth env 0 = .vs (a.map natC) x ∧ nth env 1 = .vs (a.map natC) y ∧ nth env 12 = .val (.int .i64 a.length) ∧ nth env 13 = .val (.int .i64 k)) a.length _ (Mem.sub.refl _) ⟨0, by omega, by omega, rfl, rfl, rfl, rfl, rfl, rfl⟩ ?_
  rintro j env m ⟨k, hk, rfl, rfl, hlen, e0, e1, e12, e13⟩
  by_cases hkl : k < a.length
  · repeat' first
      | simp -dsimp (disch := omega) only [↓rulesA, rulesB, rulesC, Int.reduceLT, nth, upd, put, storeN, AV.one, Nat.reduceBEq, Nat.reduceBNe, Int.reduceBEq, Int.reduceBNe, Int.reduceLE, Int.reduceEq, Int.reduceMod, Int.reduceNeg, boolBin, strBin, intBin, unA, fillA, ne_eq, reduceCtorEq, Nat.reduceAdd, Nat.reduceSub, Nat.reduceLeDiff, Nat.reduceLT, Nat.reduceEqDiff, Int.reduceToNat, eq_self, rulesT, bne_self_eq_false, mm_min, mm_max, buOf_some, nilCheck_vp, nilCheck_ptr, nilCheck_yld, nilCheck_func, ix_35, nat_cells, *]
      | (refine allK_intro fun n hn => ?_; try simp only [fresh_set] at hn)
      | (refine ifK_intro (fun h => ?_) (fun h => ?_) <;> (try simp only [decide_eq_true_eq, decide_eq_false_iff_not, Bool.not_eq_true', Bool.not_eq_false'] at h) <;> try (exfalso; (try simp only [beq_iff_eq, beq_eq_false_iff_ne, bne_iff_ne, bne_eq_false_iff_eq, ne_eq] at h); omega))
      | (refine keeps_sub (Mem.sub_set (by simp [Mem.set_at, nomem, *])) ?_)
    refine again_intro (a.length - (k + 1)) (by omega) _ (Mem.sub.refl _) ⟨k + 1, by omega, rfl, rfl, ?_, ?_, ?_, ?_, ?_⟩
    all_goals try (simp (disch := omega) only [nth_upd, pickB_true, pickB_false, inB_lt, upd_len, cast_succ, Int.cast_ofNat_Int, Nat.reduceBEq, beq_self_eq_true, reduceCtorEq, *]; done)
  · have : k = a.length := by omega
    subst this
    repeat' first
      | simp -dsimp (disch := omega) only [↓rulesA, rulesB, rulesC, Int.reduceLT, nth, upd, put, storeN, AV.one, Nat.reduceBEq, Nat.reduceBNe, Int.reduceBEq, Int.reduceBNe, Int.reduceLE, Int.reduceEq, Int.reduceMod, Int.reduceNeg, boolBin, strBin, intBin, unA, fillA, ne_eq, reduceCtorEq, Nat.reduceAdd, Nat.reduceSub, Nat.reduceLeDiff, Nat.reduceLT, Nat.reduceEqDiff, Int.reduceToNat, eq_self, rulesT, bne_self_eq_false, mm_min, mm_max, buOf_some, nilCheck_vp, nilCheck_ptr, nilCheck_yld, nilCheck_func, *]
      | (refine allK_intro fun n hn => ?_; try simp only [fresh_set] at hn)
      | (refine ifK_intro (fun h => ?_) (fun h => ?_) <;> (try simp only [decide_eq_true_eq, decide_eq_false_iff_not, Bool.not_eq_true', Bool.not_eq_false'] at h) <;> try (exfalso; (try simp only [beq_iff_eq, beq_eq_false_iff_ne, bne_iff_ne, bne_eq_false_iff_eq, ne_eq] at h); omega))
      | (refine keeps_sub (Mem.sub_set (by simp [Mem.set_at, nomem, *])) ?_)
    exact .val
end Go.Proofs.Yteilhoojlcpbpaa

