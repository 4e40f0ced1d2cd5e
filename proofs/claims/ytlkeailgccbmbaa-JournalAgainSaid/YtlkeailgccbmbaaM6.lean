/- Package 07: the awake example. -/
import Derived.Test.YtlkeailgccbmbaaM5
set_option maxRecDepth 100000
set_option maxHeartbeats 1000000
set_option linter.unusedSimpArgs false
set_option linter.unusedVariables false
namespace Go.Proofs.Ytlkeailgccbmbaa
open Go.Abs
attribute [local irreducible] C X CC Y CV CW binK litK AppK PureC PureCV againK loopV rangeV allK ifK got onB condK V stepsK planK opK firstK seeE keepsK

def longB : List UInt8 := List.replicate 50 0
theorem conv_long {m : Mem} {n : Nat} (h : m n = some (.cells false 5 (longB.map byteC).flatten)) : convA Try.prog m 44 9 (.sl n 0 50 50) = some (.val (.string ⟨longB.toArray⟩)) :=
  conv_own ti_44 rfl ti_9 rfl ti_5 rfl h longB (by rfl) (by rw [row_len1]; decide)
theorem mk_44 : mkSliceA Try.prog 44 (.val (.int .i64 50)) (.val (.int .i64 50)) = some (5, 50, 50, (longB.map byteC).flatten) := by
  simp only [mkSliceA, ti_44, ti_5, z_5]
  rw [if_pos ⟨by decide, by decide, by decide, by decide, rfl, by decide⟩]
  rfl
theorem fl_0 (a b : ByteArray) : ([txC a, txC b].flatten)[0]? = some (.val (.string a)) := rfl
theorem fl_1 (a b : ByteArray) : ([txC a, txC b].flatten)[1 * 1]? = some (.val (.string b)) := rfl
theorem F14 : F Try.prog 14 [] (.val (.bool true)) := by
  have i0 := new_inv (n := 8) (fr := 2) (cnt := 4) (by decide) (by decide) (by decide)
  have c8 := C8 8 (by decide) (by decide)
  refine F14_of ?_
  unfold k14
  repeat' first
    | simp -dsimp (disch := omega) only [↓rulesA, rulesB, rulesC, Int.reduceLT, nth, upd, put, storeN, AV.one, Nat.reduceBEq, Nat.reduceBNe, Int.reduceBEq, Int.reduceBNe, Int.reduceLE, Int.reduceEq, Int.reduceMod, Int.reduceNeg, boolBin, strBin, intBin, unA, fillA, ne_eq, reduceCtorEq, Nat.reduceAdd, Nat.reduceSub, Nat.reduceLeDiff, Nat.reduceLT, Nat.reduceEqDiff, Int.reduceToNat, eq_self, rulesT, bne_self_eq_false, mm_min, mm_max, buOf_some, nilCheck_vp, nilCheck_ptr, nilCheck_yld, nilCheck_func, *]
    | (refine allK_intro fun n hn => ?_; try simp only [fresh_set] at hn)
    | (refine ifK_intro (fun h => ?_) (fun h => ?_) <;> (try simp only [decide_eq_true_eq, decide_eq_false_iff_not, Bool.not_eq_true', Bool.not_eq_false'] at h) <;> try (exfalso; (try simp only [beq_iff_eq, beq_eq_false_iff_ne, bne_iff_ne, bne_eq_false_iff_eq, ne_eq] at h); omega))
    | (refine keeps_sub (Mem.sub_set (by simp [Mem.set_at, nomem, *])) ?_)
  refine call_C c8 fun r m1 ⟨N, hr, hat⟩ => ?_
  subst hr
  have c9 := C9_ok (newDev 8) i0.flat.ok.some i0.flat.ok.most (by decide) hat 2 4 1 (by decide) (by decide) (by decide) (by decide) rfl
  rw [(new_open (n := 8) (fr := 2) (cnt := 4) (by decide) (by decide)).1, (new_open (n := 8) (fr := 2) (cnt := 4) (by decide) (by decide)).2] at c9
  repeat' first
    | simp -dsimp (disch := omega) only [↓rulesA, rulesB, rulesC, Int.reduceLT, nth, upd, put, storeN, AV.one, Nat.reduceBEq, Nat.reduceBNe, Int.reduceBEq, Int.reduceBNe, Int.reduceLE, Int.reduceEq, Int.reduceMod, Int.reduceNeg, boolBin, strBin, intBin, unA, fillA, ne_eq, reduceCtorEq, Nat.reduceAdd, Nat.reduceSub, Nat.reduceLeDiff, Nat.reduceLT, Nat.reduceEqDiff, Int.reduceToNat, eq_self, rulesT, bne_self_eq_false, mm_min, mm_max, buOf_some, nilCheck_vp, nilCheck_ptr, nilCheck_yld, nilCheck_func, *]
    | (refine allK_intro fun n hn => ?_; try simp only [fresh_set] at hn)
    | (refine ifK_intro (fun h => ?_) (fun h => ?_) <;> (try simp only [decide_eq_true_eq, decide_eq_false_iff_not, Bool.not_eq_true', Bool.not_eq_false'] at h) <;> try (exfalso; (try simp only [beq_iff_eq, beq_eq_false_iff_ne, bne_iff_ne, bne_eq_false_iff_eq, ne_eq] at h); omega))
    | (refine keeps_sub (Mem.sub_set (by simp [Mem.set_at, nomem, *])) ?_)
  refine call_C c9 fun r m2 ⟨NJ, q, hN, hq, hNq, hr, hm⟩ => ?_
  subst hr hm
  repeat' first
    | simp -dsimp (disch := omega) only [↓rulesA, rulesB, rulesC, Int.reduceLT, nth, upd, put, storeN, AV.one, Nat.reduceBEq, Nat.reduceBNe, Int.reduceBEq, Int.reduceBNe, Int.reduceLE, Int.reduceEq, Int.reduceMod, Int.reduceNeg, boolBin, strBin, intBin, unA, fillA, ne_eq, reduceCtorEq, Nat.reduceAdd, Nat.reduceSub, Nat.reduceLeDiff, Nat.reduceLT, Nat.reduceEqDiff, Int.reduceToNat, eq_self, rulesT, bne_self_eq_false, mm_min, mm_max, buOf_some, nilCheck_vp, nilCheck_ptr, nilCheck_yld, nilCheck_func, *]
    | (refine allK_intro fun n hn => ?_; try simp only [fresh_set] at hn)
    | (refine ifK_intro (fun h => ?_) (fun h => ?_) <;> (try simp only [decide_eq_true_eq, decide_eq_false_iff_not, Bool.not_eq_true', Bool.not_eq_false'] at h) <;> try (exfalso; (try simp only [beq_iff_eq, beq_eq_false_iff_ne, bne_iff_ne, bne_eq_false_iff_eq, ne_eq] at h); omega))
    | (refine keeps_sub (Mem.sub_set (by simp [Mem.set_at, nomem, *])) ?_)
  have f15 := F15 ⟨2, 6, 2, 1, false⟩ (newDev 8) false false (by decide) (by decide)
  have hs1 := jseen (j := ⟨2, 6, 2, 1, false⟩) (N := NJ) hat (M := ((m1.set NJ (.cells false 36 ((⟨2, 6, 2, 1, false⟩ : Jour).own N))).set q (.cells true 9 [].flatten))) (by ((repeat' first | exact Mem.sub.refl _ | refine Mem.set_sub ?_ ?_ | refine Mem.sub_set_new ?_ ?_ | refine Mem.sub_del ?_ ?_) <;> simp [Mem.set_at, Mem.del_at, *])) (by simp [Mem.set_at, *])
  rw [show roomJ ⟨2, 6, 2, 1, false⟩ = 212 by decide] at f15
  have sh := fun m => text_hi ti_9 rfl m longB .i64 48 (by decide) (by decide)
  have f1 : ¬ fullJ ⟨2, 6, 2, 1, false⟩ [97] := by decide
  have a1 := i0.alive [97] rfl f1
  obtain ⟨i1, x1, s1⟩ := i0.done [97] (by decide) f1 a1
  repeat' first
    | simp -dsimp (disch := omega) only [↓rulesA, rulesB, rulesC, Int.reduceLT, nth, upd, put, storeN, AV.one, Nat.reduceBEq, Nat.reduceBNe, Int.reduceBEq, Int.reduceBNe, Int.reduceLE, Int.reduceEq, Int.reduceMod, Int.reduceNeg, boolBin, strBin, intBin, unA, fillA, ne_eq, reduceCtorEq, Nat.reduceAdd, Nat.reduceSub, Nat.reduceLeDiff, Nat.reduceLT, Nat.reduceEqDiff, Int.reduceToNat, eq_self, rulesT, bne_self_eq_false, mm_min, mm_max, buOf_some, nilCheck_vp, nilCheck_ptr, nilCheck_yld, nilCheck_func, mk_44, *]
    | (refine allK_intro fun n hn => ?_; try simp only [fresh_set] at hn)
    | (refine ifK_intro (fun h => ?_) (fun h => ?_) <;> (try simp only [decide_eq_true_eq, decide_eq_false_iff_not, Bool.not_eq_true', Bool.not_eq_false'] at h) <;> try (exfalso; (try simp only [beq_iff_eq, beq_eq_false_iff_ne, bne_iff_ne, bne_eq_false_iff_eq, ne_eq] at h); omega))
    | (refine keeps_sub (Mem.sub_set (by simp [Mem.set_at, nomem, *])) ?_)
    | (refine call_F (f15) (.one hs1) ?_)
    | (refine pure_F (f15) (.one hs1) ?_)
  rw [conv_long (Mem.set_same _ _ _)]
  have c10 := C10 (j := ⟨2, 6, 2, 1, false⟩) (d := newDev 8) ⟨m1, hat, hN, rfl⟩ i0.flat.ok (by decide) (by decide) (by decide) (by decide) (by decide) [97] (by decide)
  rw [x1] at c10
  clear hs1 f15
  repeat' first
    | simp -dsimp (disch := omega) only [↓rulesA, rulesB, rulesC, Int.reduceLT, nth, upd, put, storeN, AV.one, Nat.reduceBEq, Nat.reduceBNe, Int.reduceBEq, Int.reduceBNe, Int.reduceLE, Int.reduceEq, Int.reduceMod, Int.reduceNeg, boolBin, strBin, intBin, unA, fillA, ne_eq, reduceCtorEq, Nat.reduceAdd, Nat.reduceSub, Nat.reduceLeDiff, Nat.reduceLT, Nat.reduceEqDiff, Int.reduceToNat, eq_self, rulesT, bne_self_eq_false, mm_min, mm_max, buOf_some, nilCheck_vp, nilCheck_ptr, nilCheck_yld, nilCheck_func, *]
    | (refine allK_intro fun n hn => ?_; try simp only [fresh_set] at hn)
    | (refine ifK_intro (fun h => ?_) (fun h => ?_) <;> (try simp only [decide_eq_true_eq, decide_eq_false_iff_not, Bool.not_eq_true', Bool.not_eq_false'] at h) <;> try (exfalso; (try simp only [beq_iff_eq, beq_eq_false_iff_ne, bne_iff_ne, bne_eq_false_iff_eq, ne_eq] at h); omega))
    | (refine keeps_sub (Mem.sub_set (by simp [Mem.set_at, nomem, *])) ?_)
  refine call_at c10 (by ((repeat' first | exact Mem.sub.refl _ | refine Mem.set_sub ?_ ?_ | refine Mem.sub_set_new ?_ ?_ | refine Mem.sub_del ?_ ?_) <;> simp [Mem.set_at, Mem.del_at, *])) fun r m2 M2 ⟨hr, hj2⟩ s2 _ => ?_
  subst hr
  have w1 : Few (appD ⟨2, 6, 2, 1, false⟩ (newDev 8) [97]) 4096 := app_few (w := 0) ⟨Nat.le_refl _, Nat.le_refl _⟩ _ _ (by decide)
  have e1 : appJ ⟨2, 6, 2, 1, false⟩ (newDev 8) [97] = ⟨2, 6, 3, 2, false⟩ := by
    unfold appJ; rw [if_neg (by decide), if_neg (by decide), a1]; rfl
  rw [e1] at hj2 i1
  generalize appD ⟨2, 6, 2, 1, false⟩ (newDev 8) [97] = d1 at *
  have f2 : ¬ fullJ ⟨2, 6, 3, 2, false⟩ longB := by decide
  have a2 := i1.alive longB s1 f2
  obtain ⟨i2, x2, s2'⟩ := i1.done longB (by decide) f2 a2
  have e2 : appJ ⟨2, 6, 3, 2, false⟩ d1 longB = ⟨2, 6, 5, 3, false⟩ := by
    unfold appJ; rw [if_neg (by rw [i1.flat.live]; decide), if_neg (by decide), a2]; rfl
  have w2 := app_few w1 ⟨2, 6, 3, 2, false⟩ longB (by decide)
  have c10b := C10 hj2 i1.flat.ok (by rw [i1.flat.len]; decide) (by decide) (by decide) (by have := w1.w; omega) (by have := w1.f; omega) longB (by decide)
  rw [x2, e2] at c10b
  rw [e2] at i2
  generalize appD ⟨2, 6, 3, 2, false⟩ d1 longB = d2 at *
  clear c10 hat hN hq
  repeat' first
    | simp -dsimp (disch := omega) only [↓rulesA, rulesB, rulesC, Int.reduceLT, nth, upd, put, storeN, AV.one, Nat.reduceBEq, Nat.reduceBNe, Int.reduceBEq, Int.reduceBNe, Int.reduceLE, Int.reduceEq, Int.reduceMod, Int.reduceNeg, boolBin, strBin, intBin, unA, fillA, ne_eq, reduceCtorEq, Nat.reduceAdd, Nat.reduceSub, Nat.reduceLeDiff, Nat.reduceLT, Nat.reduceEqDiff, Int.reduceToNat, eq_self, rulesT, bne_self_eq_false, mm_min, mm_max, buOf_some, nilCheck_vp, nilCheck_ptr, nilCheck_yld, nilCheck_func, *]
    | (refine allK_intro fun n hn => ?_; try simp only [fresh_set] at hn)
    | (refine ifK_intro (fun h => ?_) (fun h => ?_) <;> (try simp only [decide_eq_true_eq, decide_eq_false_iff_not, Bool.not_eq_true', Bool.not_eq_false'] at h) <;> try (exfalso; (try simp only [beq_iff_eq, beq_eq_false_iff_ne, bne_iff_ne, bne_eq_false_iff_eq, ne_eq] at h); omega))
    | (refine keeps_sub (Mem.sub_set (by simp [Mem.set_at, nomem, *])) ?_)
    | (refine keeps_stab (by repeat' first | exact stabK_nil _ _ | refine stabK_cons ?_ ?_ | (simp (disch := omega) only [quietA, Option.isSome_some, ↓rulesA, rulesB, rulesC, Int.reduceLT, nth, upd, put, storeN, AV.one, Nat.reduceBEq, Nat.reduceBNe, Int.reduceBEq, Int.reduceBNe, Int.reduceLE, Int.reduceEq, Int.reduceMod, Int.reduceNeg, boolBin, strBin, intBin, unA, fillA, ne_eq, reduceCtorEq, Nat.reduceAdd, Nat.reduceSub, Nat.reduceLeDiff, Nat.reduceLT, Nat.reduceEqDiff, Int.reduceToNat, eq_self, rulesT, bne_self_eq_false, mm_min, mm_max, buOf_some, nilCheck_vp, nilCheck_ptr, nilCheck_yld, nilCheck_func, *]; done)) ?_)
  refine call_at c10b s2 fun r m3 M3 ⟨hr, hj3⟩ s3 _ => ?_
  subst hr
  have f3 : fullJ ⟨2, 6, 5, 3, false⟩ (longB.take 48) := by decide
  obtain ⟨y1, y2, y3⟩ := i2.full (longB.take 48) f3
  have c10c := C10 hj3 i2.flat.ok (by rw [i2.flat.len]; decide) (by decide) (by decide) (by have := w2.w; omega) (by have := w2.f; omega) (longB.take 48) (by decide)
  rw [y1, y2, y3] at c10c
  clear c10b hj2 y1 y2 y3
  repeat' first
    | simp -dsimp (disch := omega) only [↓rulesA, rulesB, rulesC, Int.reduceLT, nth, upd, put, storeN, AV.one, Nat.reduceBEq, Nat.reduceBNe, Int.reduceBEq, Int.reduceBNe, Int.reduceLE, Int.reduceEq, Int.reduceMod, Int.reduceNeg, boolBin, strBin, intBin, unA, fillA, ne_eq, reduceCtorEq, Nat.reduceAdd, Nat.reduceSub, Nat.reduceLeDiff, Nat.reduceLT, Nat.reduceEqDiff, Int.reduceToNat, eq_self, rulesT, bne_self_eq_false, mm_min, mm_max, buOf_some, nilCheck_vp, nilCheck_ptr, nilCheck_yld, nilCheck_func, *]
    | (refine allK_intro fun n hn => ?_; try simp only [fresh_set] at hn)
    | (refine ifK_intro (fun h => ?_) (fun h => ?_) <;> (try simp only [decide_eq_true_eq, decide_eq_false_iff_not, Bool.not_eq_true', Bool.not_eq_false'] at h) <;> try (exfalso; (try simp only [beq_iff_eq, beq_eq_false_iff_ne, bne_iff_ne, bne_eq_false_iff_eq, ne_eq] at h); omega))
    | (refine keeps_sub (Mem.sub_set (by simp [Mem.set_at, nomem, *])) ?_)
    | (refine keeps_stab (by repeat' first | exact stabK_nil _ _ | refine stabK_cons ?_ ?_ | (simp (disch := omega) only [quietA, Option.isSome_some, ↓rulesA, rulesB, rulesC, Int.reduceLT, nth, upd, put, storeN, AV.one, Nat.reduceBEq, Nat.reduceBNe, Int.reduceBEq, Int.reduceBNe, Int.reduceLE, Int.reduceEq, Int.reduceMod, Int.reduceNeg, boolBin, strBin, intBin, unA, fillA, ne_eq, reduceCtorEq, Nat.reduceAdd, Nat.reduceSub, Nat.reduceLeDiff, Nat.reduceLT, Nat.reduceEqDiff, Int.reduceToNat, eq_self, rulesT, bne_self_eq_false, mm_min, mm_max, buOf_some, nilCheck_vp, nilCheck_ptr, nilCheck_yld, nilCheck_func, *]; done)) ?_)
  refine call_at c10c s3 fun r m4 M4 ⟨hr, hj4⟩ s4 _ => ?_
  subst hr
  obtain ⟨md, hmd, hNJ, hm4⟩ := hj4
  repeat' first
    | simp -dsimp (disch := omega) only [↓rulesA, rulesB, rulesC, Int.reduceLT, nth, upd, put, storeN, AV.one, Nat.reduceBEq, Nat.reduceBNe, Int.reduceBEq, Int.reduceBNe, Int.reduceLE, Int.reduceEq, Int.reduceMod, Int.reduceNeg, boolBin, strBin, intBin, unA, fillA, ne_eq, reduceCtorEq, Nat.reduceAdd, Nat.reduceSub, Nat.reduceLeDiff, Nat.reduceLT, Nat.reduceEqDiff, Int.reduceToNat, eq_self, rulesT, bne_self_eq_false, mm_min, mm_max, buOf_some, nilCheck_vp, nilCheck_ptr, nilCheck_yld, nilCheck_func, *]
    | (refine allK_intro fun n hn => ?_; try simp only [fresh_set] at hn)
    | (refine ifK_intro (fun h => ?_) (fun h => ?_) <;> (try simp only [decide_eq_true_eq, decide_eq_false_iff_not, Bool.not_eq_true', Bool.not_eq_false'] at h) <;> try (exfalso; (try simp only [beq_iff_eq, beq_eq_false_iff_ne, bne_iff_ne, bne_eq_false_iff_eq, ne_eq] at h); omega))
    | (refine keeps_sub (Mem.sub_set (by simp [Mem.set_at, nomem, *])) ?_)
    | (refine keeps_stab (by repeat' first | exact stabK_nil _ _ | refine stabK_cons ?_ ?_ | (simp (disch := omega) only [quietA, Option.isSome_some, ↓rulesA, rulesB, rulesC, Int.reduceLT, nth, upd, put, storeN, AV.one, Nat.reduceBEq, Nat.reduceBNe, Int.reduceBEq, Int.reduceBNe, Int.reduceLE, Int.reduceEq, Int.reduceMod, Int.reduceNeg, boolBin, strBin, intBin, unA, fillA, ne_eq, reduceCtorEq, Nat.reduceAdd, Nat.reduceSub, Nat.reduceLeDiff, Nat.reduceLT, Nat.reduceEqDiff, Int.reduceToNat, eq_self, rulesT, bne_self_eq_false, mm_min, mm_max, buOf_some, nilCheck_vp, nilCheck_ptr, nilCheck_yld, nilCheck_func, *]; done)) ?_)
  have hst : openT d2 2 4 1 = [⟨[97].toArray⟩, ⟨longB.toArray⟩] := by
    have h : stand 6 d2 6 2 1 = _ := i2.stand
    unfold openT; rw [h]; rfl
  have c9b := C9_ok d2 i2.flat.ok.some i2.flat.ok.most (by rw [i2.flat.list]; decide) hmd 2 4 1 (by decide) (by rw [i2.flat.len]; decide) (by decide) (by decide) i2.flat.live
  rw [hst] at c9b
  clear hst c10c
  subst hm4
  have hsd : md.sub M4 := (Mem.sub_set hNJ).trans s4
  have hM4 : M4 NJ = some (.cells false 36 ((⟨2, 6, 5, 3, false⟩ : Jour).own N)) := s4 _ _ (Mem.set_same _ _ _)
  refine call_at c9b hsd fun r m5 M5 ⟨N5, q5, g1, g2, g3, hr, hm5⟩ s5 l5 => ?_
  subst hr
  obtain ⟨_, hM5⟩ := l5 NJ _ hNJ hM4
  have hq5 : M5 q5 = some (.cells true 9 ([(⟨[97].toArray⟩ : ByteArray), ⟨longB.toArray⟩].map txC).flatten) := s5 _ _ (by rw [hm5]; exact Mem.set_same _ _ _)
  have hsd5 : md.sub M5 := by
    refine Mem.sub.trans ?_ s5
    rw [hm5]
    ((repeat' first | exact Mem.sub.refl _ | refine Mem.set_sub ?_ ?_ | refine Mem.sub_set_new ?_ ?_ | refine Mem.sub_del ?_ ?_) <;> simp [Mem.set_at, Mem.del_at, *])
  have hs5 := jseen (j := ⟨2, 6, 5, 3, false⟩) (N := NJ) hmd hsd5 hM5
  have f15 := F15 ⟨2, 6, 5, 3, false⟩ d2 false false (by decide) (by decide)
  rw [show roomJ ⟨2, 6, 5, 3, false⟩ = 47 by decide] at f15
  have n2 := F29 102 (by decide)
  have n3 := F29 103 (by decide)
  rw [show needN 102 = 2 by decide] at n2
  rw [show needN 103 = 3 by decide] at n3
  clear l5 hm5 hsd5 c9b hM4 hsd s5 hj3
  repeat' first
    | simp -dsimp (disch := omega) only [↓rulesA, rulesB, rulesC, Int.reduceLT, nth, upd, put, storeN, AV.one, Nat.reduceBEq, Nat.reduceBNe, Int.reduceBEq, Int.reduceBNe, Int.reduceLE, Int.reduceEq, Int.reduceMod, Int.reduceNeg, boolBin, strBin, intBin, unA, fillA, ne_eq, reduceCtorEq, Nat.reduceAdd, Nat.reduceSub, Nat.reduceLeDiff, Nat.reduceLT, Nat.reduceEqDiff, Int.reduceToNat, eq_self, rulesT, bne_self_eq_false, mm_min, mm_max, buOf_some, nilCheck_vp, nilCheck_ptr, nilCheck_yld, nilCheck_func, text_inj, fl_0, fl_1, decide_true, beq_self_eq_true, *]
    | (refine allK_intro fun n hn => ?_; try simp only [fresh_set] at hn)
    | (refine ifK_intro (fun h => ?_) (fun h => ?_) <;> (try simp only [decide_eq_true_eq, decide_eq_false_iff_not, Bool.not_eq_true', Bool.not_eq_false'] at h) <;> try (exfalso; (try simp only [beq_iff_eq, beq_eq_false_iff_ne, bne_iff_ne, bne_eq_false_iff_eq, ne_eq] at h); omega))
    | (refine keeps_sub (Mem.sub_set (by simp [Mem.set_at, nomem, *])) ?_)
    | (refine call_F (f15) (.one hs5) ?_)
    | (refine pure_F (f15) (.one hs5) ?_)
    | (refine call_F (n2) (Seens.refl _ _) ?_)
    | (refine pure_F (n2) (Seens.refl _ _) ?_)
    | (refine call_F (n3) (Seens.refl _ _) ?_)
    | (refine pure_F (n3) (Seens.refl _ _) ?_)
  exact .val
end Go.Proofs.Ytlkeailgccbmbaa


/- Package 07: the law JournalNobody: a journal that nobody opened does nothing. Any rec, any choice of the two. -/
set_option maxRecDepth 100000
set_option maxHeartbeats 1000000
set_option linter.unusedSimpArgs false
set_option linter.unusedVariables false
namespace Go.Proofs.Ytlkeailgccbmbaa
open Go.Abs
attribute [local irreducible] C X CC Y CV CW binK litK AppK PureC PureCV againK loopV rangeV allK ifK got onB condK V stepsK planK opK firstK seeE keepsK

def noJ : List AV := [.val (.pointer none), .val (.int .i64 0), .val (.int .i64 0), .val (.int .i64 0), .val (.int .i64 0), .val (.bool false)]
def IsNo (z : AV) : Prop := z = .val (.pointer none) ∨ z = .vp noJ 0
theorem no_0 : noJ[0]? = some (.val (.pointer none)) := rfl
theorem N35 (z : AV) (h : IsNo z) : F Try.prog 35 [z] (.val (.bool true)) := by
  refine F35_of ?_
  unfold k35
  rcases h with rfl | rfl
  all_goals
    repeat' first
      | simp -dsimp (disch := omega) only [↓rulesA, rulesB, rulesC, Int.reduceLT, nth, upd, put, storeN, AV.one, Nat.reduceBEq, Nat.reduceBNe, Int.reduceBEq, Int.reduceBNe, Int.reduceLE, Int.reduceEq, Int.reduceMod, Int.reduceNeg, boolBin, strBin, intBin, unA, fillA, ne_eq, reduceCtorEq, Nat.reduceAdd, Nat.reduceSub, Nat.reduceLeDiff, Nat.reduceLT, Nat.reduceEqDiff, Int.reduceToNat, eq_self, rulesT, bne_self_eq_false, mm_min, mm_max, buOf_some, nilCheck_vp, nilCheck_ptr, nilCheck_yld, nilCheck_func, no_0, *]
      | (refine allK_intro fun n hn => ?_; try simp only [fresh_set] at hn)
      | (refine ifK_intro (fun h => ?_) (fun h => ?_) <;> (try simp only [decide_eq_true_eq, decide_eq_false_iff_not, Bool.not_eq_true', Bool.not_eq_false'] at h) <;> try (exfalso; (try simp only [beq_iff_eq, beq_eq_false_iff_ne, bne_iff_ne, bne_eq_false_iff_eq, ne_eq] at h); omega))
      | (refine keeps_sub (Mem.sub_set (by simp [Mem.set_at, nomem, *])) ?_)
    exact .val
theorem N10 (z : AV) (h : IsNo z) (s : ByteArray) : F Try.prog 10 [z, .val (.string s)] (.val (.int .i64 22)) := by
  refine F10_of ?_
  unfold k10
  repeat' first
    | simp -dsimp (disch := omega) only [↓rulesA, rulesB, rulesC, Int.reduceLT, nth, upd, put, storeN, AV.one, Nat.reduceBEq, Nat.reduceBNe, Int.reduceBEq, Int.reduceBNe, Int.reduceLE, Int.reduceEq, Int.reduceMod, Int.reduceNeg, boolBin, strBin, intBin, unA, fillA, ne_eq, reduceCtorEq, Nat.reduceAdd, Nat.reduceSub, Nat.reduceLeDiff, Nat.reduceLT, Nat.reduceEqDiff, Int.reduceToNat, eq_self, rulesT, bne_self_eq_false, mm_min, mm_max, buOf_some, nilCheck_vp, nilCheck_ptr, nilCheck_yld, nilCheck_func, *]
    | (refine allK_intro fun n hn => ?_; try simp only [fresh_set] at hn)
    | (refine ifK_intro (fun h => ?_) (fun h => ?_) <;> (try simp only [decide_eq_true_eq, decide_eq_false_iff_not, Bool.not_eq_true', Bool.not_eq_false'] at h) <;> try (exfalso; (try simp only [beq_iff_eq, beq_eq_false_iff_ne, bne_iff_ne, bne_eq_false_iff_eq, ne_eq] at h); omega))
    | (refine keeps_sub (Mem.sub_set (by simp [Mem.set_at, nomem, *])) ?_)
    | (refine call_F (N35 z h) (Seens.refl _ _) ?_)
    | (refine pure_F (N35 z h) (Seens.refl _ _) ?_)
  exact .val
theorem N11 (z : AV) (h : IsNo z) : F Try.prog 11 [z] (.tup []) := by
  refine F11_of ?_
  unfold k11
  repeat' first
    | simp -dsimp (disch := omega) only [↓rulesA, rulesB, rulesC, Int.reduceLT, nth, upd, put, storeN, AV.one, Nat.reduceBEq, Nat.reduceBNe, Int.reduceBEq, Int.reduceBNe, Int.reduceLE, Int.reduceEq, Int.reduceMod, Int.reduceNeg, boolBin, strBin, intBin, unA, fillA, ne_eq, reduceCtorEq, Nat.reduceAdd, Nat.reduceSub, Nat.reduceLeDiff, Nat.reduceLT, Nat.reduceEqDiff, Int.reduceToNat, eq_self, rulesT, bne_self_eq_false, mm_min, mm_max, buOf_some, nilCheck_vp, nilCheck_ptr, nilCheck_yld, nilCheck_func, *]
    | (refine allK_intro fun n hn => ?_; try simp only [fresh_set] at hn)
    | (refine ifK_intro (fun h => ?_) (fun h => ?_) <;> (try simp only [decide_eq_true_eq, decide_eq_false_iff_not, Bool.not_eq_true', Bool.not_eq_false'] at h) <;> try (exfalso; (try simp only [beq_iff_eq, beq_eq_false_iff_ne, bne_iff_ne, bne_eq_false_iff_eq, ne_eq] at h); omega))
    | (refine keeps_sub (Mem.sub_set (by simp [Mem.set_at, nomem, *])) ?_)
    | (refine call_F (N35 z h) (Seens.refl _ _) ?_)
    | (refine pure_F (N35 z h) (Seens.refl _ _) ?_)
  exact New.eq rfl rfl
theorem N12 (z : AV) (h : IsNo z) : F Try.prog 12 [z] (.val (.int .i64 0)) := by
  refine F12_of ?_
  unfold k12
  repeat' first
    | simp -dsimp (disch := omega) only [↓rulesA, rulesB, rulesC, Int.reduceLT, nth, upd, put, storeN, AV.one, Nat.reduceBEq, Nat.reduceBNe, Int.reduceBEq, Int.reduceBNe, Int.reduceLE, Int.reduceEq, Int.reduceMod, Int.reduceNeg, boolBin, strBin, intBin, unA, fillA, ne_eq, reduceCtorEq, Nat.reduceAdd, Nat.reduceSub, Nat.reduceLeDiff, Nat.reduceLT, Nat.reduceEqDiff, Int.reduceToNat, eq_self, rulesT, bne_self_eq_false, mm_min, mm_max, buOf_some, nilCheck_vp, nilCheck_ptr, nilCheck_yld, nilCheck_func, *]
    | (refine allK_intro fun n hn => ?_; try simp only [fresh_set] at hn)
    | (refine ifK_intro (fun h => ?_) (fun h => ?_) <;> (try simp only [decide_eq_true_eq, decide_eq_false_iff_not, Bool.not_eq_true', Bool.not_eq_false'] at h) <;> try (exfalso; (try simp only [beq_iff_eq, beq_eq_false_iff_ne, bne_iff_ne, bne_eq_false_iff_eq, ne_eq] at h); omega))
    | (refine keeps_sub (Mem.sub_set (by simp [Mem.set_at, nomem, *])) ?_)
    | (refine call_F (N35 z h) (Seens.refl _ _) ?_)
    | (refine pure_F (N35 z h) (Seens.refl _ _) ?_)
  exact .val
theorem N15 (z : AV) (h : IsNo z) : F Try.prog 15 [z] (.val (.int .i64 (-1))) := by
  refine F15_of ?_
  unfold k15
  repeat' first
    | simp -dsimp (disch := omega) only [↓rulesA, rulesB, rulesC, Int.reduceLT, nth, upd, put, storeN, AV.one, Nat.reduceBEq, Nat.reduceBNe, Int.reduceBEq, Int.reduceBNe, Int.reduceLE, Int.reduceEq, Int.reduceMod, Int.reduceNeg, boolBin, strBin, intBin, unA, fillA, ne_eq, reduceCtorEq, Nat.reduceAdd, Nat.reduceSub, Nat.reduceLeDiff, Nat.reduceLT, Nat.reduceEqDiff, Int.reduceToNat, eq_self, rulesT, bne_self_eq_false, mm_min, mm_max, buOf_some, nilCheck_vp, nilCheck_ptr, nilCheck_yld, nilCheck_func, *]
    | (refine allK_intro fun n hn => ?_; try simp only [fresh_set] at hn)
    | (refine ifK_intro (fun h => ?_) (fun h => ?_) <;> (try simp only [decide_eq_true_eq, decide_eq_false_iff_not, Bool.not_eq_true', Bool.not_eq_false'] at h) <;> try (exfalso; (try simp only [beq_iff_eq, beq_eq_false_iff_ne, bne_iff_ne, bne_eq_false_iff_eq, ne_eq] at h); omega))
    | (refine keeps_sub (Mem.sub_set (by simp [Mem.set_at, nomem, *])) ?_)
    | (refine call_F (N35 z h) (Seens.refl _ _) ?_)
    | (refine pure_F (N35 z h) (Seens.refl _ _) ?_)
  exact .val
theorem F4 (b : Bool) (s : ByteArray) : F Try.prog 4 [.val (.bool b), .val (.string s)] (.val (.bool true)) := by
  refine F4_of ?_
  unfold k4
  rcases b
  · have h : IsNo (.vp noJ 0) := .inr rfl
    repeat' first
      | simp -dsimp (disch := omega) only [↓rulesA, rulesB, rulesC, Int.reduceLT, nth, upd, put, storeN, AV.one, Nat.reduceBEq, Nat.reduceBNe, Int.reduceBEq, Int.reduceBNe, Int.reduceLE, Int.reduceEq, Int.reduceMod, Int.reduceNeg, boolBin, strBin, intBin, unA, fillA, ne_eq, reduceCtorEq, Nat.reduceAdd, Nat.reduceSub, Nat.reduceLeDiff, Nat.reduceLT, Nat.reduceEqDiff, Int.reduceToNat, eq_self, rulesT, bne_self_eq_false, mm_min, mm_max, buOf_some, nilCheck_vp, nilCheck_ptr, nilCheck_yld, nilCheck_func, *]
      | (refine allK_intro fun n hn => ?_; try simp only [fresh_set] at hn)
      | (refine ifK_intro (fun h => ?_) (fun h => ?_) <;> (try simp only [decide_eq_true_eq, decide_eq_false_iff_not, Bool.not_eq_true', Bool.not_eq_false'] at h) <;> try (exfalso; (try simp only [beq_iff_eq, beq_eq_false_iff_ne, bne_iff_ne, bne_eq_false_iff_eq, ne_eq] at h); omega))
      | (refine keeps_sub (Mem.sub_set (by simp [Mem.set_at, nomem, *])) ?_)
    have hs : Seen (nomem.set n (.cells false 36 noJ)) (.ptr n 0) (.vp noJ 0) := Seen.ptrOf (Mem.set_same _ _ _) (Nat.zero_lt_succ _) (Seens.refl _ _)
    unfold noJ at hs h
    repeat' first
      | simp -dsimp (disch := omega) only [↓rulesA, rulesB, rulesC, Int.reduceLT, nth, upd, put, storeN, AV.one, Nat.reduceBEq, Nat.reduceBNe, Int.reduceBEq, Int.reduceBNe, Int.reduceLE, Int.reduceEq, Int.reduceMod, Int.reduceNeg, boolBin, strBin, intBin, unA, fillA, ne_eq, reduceCtorEq, Nat.reduceAdd, Nat.reduceSub, Nat.reduceLeDiff, Nat.reduceLT, Nat.reduceEqDiff, Int.reduceToNat, eq_self, rulesT, bne_self_eq_false, mm_min, mm_max, buOf_some, nilCheck_vp, nilCheck_ptr, nilCheck_yld, nilCheck_func, *]
      | (refine allK_intro fun n hn => ?_; try simp only [fresh_set] at hn)
      | (refine ifK_intro (fun h => ?_) (fun h => ?_) <;> (try simp only [decide_eq_true_eq, decide_eq_false_iff_not, Bool.not_eq_true', Bool.not_eq_false'] at h) <;> try (exfalso; (try simp only [beq_iff_eq, beq_eq_false_iff_ne, bne_iff_ne, bne_eq_false_iff_eq, ne_eq] at h); omega))
      | (refine keeps_sub (Mem.sub_set (by simp [Mem.set_at, nomem, *])) ?_)
      | (refine call_F (N10 _ h _) (.two hs .same) ?_)
      | (refine pure_F (N10 _ h _) (.two hs .same) ?_)
      | (refine call_F (N11 _ h) (.one hs) ?_)
      | (refine pure_F (N11 _ h) (.one hs) ?_)
      | (refine call_F (N12 _ h) (.one hs) ?_)
      | (refine pure_F (N12 _ h) (.one hs) ?_)
      | (refine call_F (N15 _ h) (.one hs) ?_)
      | (refine pure_F (N15 _ h) (.one hs) ?_)
      | (refine call_F (F14) (Seens.refl _ _) ?_)
      | (refine pure_F (F14) (Seens.refl _ _) ?_)
    exact .val
  · have h : IsNo (.val (.pointer none)) := .inl rfl
    repeat' first
      | simp -dsimp (disch := omega) only [↓rulesA, rulesB, rulesC, Int.reduceLT, nth, upd, put, storeN, AV.one, Nat.reduceBEq, Nat.reduceBNe, Int.reduceBEq, Int.reduceBNe, Int.reduceLE, Int.reduceEq, Int.reduceMod, Int.reduceNeg, boolBin, strBin, intBin, unA, fillA, ne_eq, reduceCtorEq, Nat.reduceAdd, Nat.reduceSub, Nat.reduceLeDiff, Nat.reduceLT, Nat.reduceEqDiff, Int.reduceToNat, eq_self, rulesT, bne_self_eq_false, mm_min, mm_max, buOf_some, nilCheck_vp, nilCheck_ptr, nilCheck_yld, nilCheck_func, *]
      | (refine allK_intro fun n hn => ?_; try simp only [fresh_set] at hn)
      | (refine ifK_intro (fun h => ?_) (fun h => ?_) <;> (try simp only [decide_eq_true_eq, decide_eq_false_iff_not, Bool.not_eq_true', Bool.not_eq_false'] at h) <;> try (exfalso; (try simp only [beq_iff_eq, beq_eq_false_iff_ne, bne_iff_ne, bne_eq_false_iff_eq, ne_eq] at h); omega))
      | (refine keeps_sub (Mem.sub_set (by simp [Mem.set_at, nomem, *])) ?_)
      | (refine call_F (N10 _ h _) (Seens.refl _ _) ?_)
      | (refine pure_F (N10 _ h _) (Seens.refl _ _) ?_)
      | (refine call_F (N11 _ h) (Seens.refl _ _) ?_)
      | (refine pure_F (N11 _ h) (Seens.refl _ _) ?_)
      | (refine call_F (N12 _ h) (Seens.refl _ _) ?_)
      | (refine pure_F (N12 _ h) (Seens.refl _ _) ?_)
      | (refine call_F (N15 _ h) (Seens.refl _ _) ?_)
      | (refine pure_F (N15 _ h) (Seens.refl _ _) ?_)
      | (refine call_F (F14) (Seens.refl _ _) ?_)
      | (refine pure_F (F14) (Seens.refl _ _) ?_)
    exact .val
theorem nobody_law : ∀ args, ShapedAll Try.prog Try.f4.params.toList args → F Try.prog 4 args (.val (.bool true)) := by
  intro args h
  have hp : Try.f4.params.toList = [4, 9] := by kernel_rfl
  rw [hp] at h
  match args, h with
  | [a, b], ⟨h0, h1, _⟩ =>
    obtain ⟨x, rfl⟩ := (h0.one ti_4 rfl).boo ti_4 rfl
    obtain ⟨s, rfl, _⟩ := (h1.one ti_9 rfl).str ti_9 rfl
    exact F4 x s
end Go.Proofs.Ytlkeailgccbmbaa


/- Package 07: the law JournalAnew. -/
set_option maxRecDepth 100000
set_option maxHeartbeats 1000000
set_option linter.unusedSimpArgs false
set_option linter.unusedVariables false
namespace Go.Proofs.Ytlkeailgccbmbaa
open Go.Abs
attribute [local irreducible] C X CC Y CV CW binK litK AppK PureC PureCV againK loopV rangeV allK ifK got onB condK V stepsK planK opK firstK seeE keepsK

theorem strs_of {x : AV} (h : ShapedV Try.prog 22 x) : ∃ l : List ByteArray, x = .vs (l.map txC) false ∧ l.length * 16 ≤ 140737488351232 ∧ ∀ s ∈ l, s.size ≤ 140737488351232 := by
  obtain ⟨l, e, h1, _, h2⟩ := Shaped.rows txC (fun s => s.size ≤ 140737488351232) ti_22 rfl ti_9 rfl (fun x hx hl => by
    match x, hl with
    | [c], _ =>
      obtain ⟨s, rfl, hs⟩ := Shaped.str ti_9 rfl hx
      exact ⟨s, rfl, hs⟩) (h.one ti_22 rfl)
  exact ⟨l, e, h1, h2⟩
theorem txts_snoc (L : List (List UInt8 × Nat)) (rec : List UInt8) (b : Nat) : txts (L ++ [(rec, b)]) = txts L ++ [⟨rec.toArray⟩] := by simp [txts]
theorem count_of (x : Int) (k : Nat) (hk : 0 < k) (hk' : k < 1000) : ∃ c : Nat, c < k ∧ (IntKind.u64.wrap x).tmod k = c := by
  rw [IntKind.wrap_u64]
  have h0 : 0 ≤ x % 18446744073709551616 := by omega
  have h1 := Int.tmod_nonneg (k : Int) h0
  have h2 := Int.tmod_lt_of_pos (x % 18446744073709551616) (show (0 : Int) < k by omega)
  exact ⟨((x % 18446744073709551616).tmod k).toNat, by omega, by omega⟩
/-- Between the calls: the journal j on the device d, no cut set, i calls behind it. -/
structure Run (d : Dev) (j : Jour) (n first i : Nat) (L : List (List UInt8 × Nat)) : Prop where
  inv : JInv d j n first L
  fr : j.from_ = 0
  en : j.end_ = n
  n1 : 1 ≤ n
  n2 : n ≤ 100
  few : Few d (i * 4096)
  next : 1 ≤ j.next ∧ j.next ≤ 1 + i
theorem appJ_is (j : Jour) (d : Dev) (rec : List UInt8) : (appJ j d rec).from_ = j.from_ ∧ (appJ j d rec).end_ = j.end_ ∧ j.next ≤ (appJ j d rec).next ∧ (appJ j d rec).next ≤ j.next + 1 := by
  unfold appJ
  split
  · exact ⟨rfl, rfl, by omega, by omega⟩
  split
  · exact ⟨rfl, rfl, by omega, by omega⟩
  split
  · exact ⟨rfl, rfl, by show j.next ≤ j.next; omega, by show j.next ≤ _; omega⟩
  · exact ⟨rfl, rfl, by show j.next ≤ j.next + 1; omega, by show j.next + 1 ≤ _; omega⟩
/-- An append, where no cut is set. -/
theorem Run.step {d : Dev} {j : Jour} {n first i : Nat} {L : List (List UInt8 × Nat)} (h : Run d j n first i L) (hs : d.set = false) (rec : List UInt8) : ∃ L', Run (appD j d rec) (appJ j d rec) n first (i + 1) L' ∧ (appD j d rec).set = false ∧ ((appE j d rec = 0 ∧ txts L' = txts L ++ [⟨rec.toArray⟩]) ∨ (appE j d rec = 21 ∧ L' = L)) := by
  obtain ⟨a1, a2, a3, a4⟩ := appJ_is j d rec
  have hf := app_few h.few j rec (by have := h.en; have := h.n2; omega)
  have hf' : Few (appD j d rec) ((i + 1) * 4096) := by rw [Nat.add_mul]; exact hf
  have hn := h.next
  by_cases hfull : fullJ j rec
  · obtain ⟨e1, e2, e3⟩ := h.inv.full rec hfull
    refine ⟨L, ⟨by rw [e1, e2]; exact h.inv, a1.trans h.fr, a2.trans h.en, h.n1, h.n2, hf', by omega, by omega⟩, by rw [e1]; exact hs, .inr ⟨e3, rfl⟩⟩
  · have hfull' : ¬ (4611686018427387904 < j.next ∨ j.end_ < j.at_ + needN rec.length) := hfull
    have hl := need_len (n := rec.length) (e := n) (by have := h.en; omega) (by have := h.n2; omega)
    obtain ⟨i1, i2, i3⟩ := h.inv.done rec (by omega) hfull (h.inv.alive rec hs hfull)
    exact ⟨_, ⟨i1, a1.trans h.fr, a2.trans h.en, h.n1, h.n2, hf', by omega, by omega⟩, i3.trans hs, .inl ⟨i2, txts_snoc _ _ _⟩⟩
/-- Appending, in a run. -/
theorem Run.call {d : Dev} {j : Jour} {n first i : Nat} {L : List (List UInt8 × Nat)} (h : Run d j n first i L) (hi : i ≤ 140737488351232) {N Nd : Nat} {m : Mem} (hat : JAt j d N Nd m) (s : ByteArray) (hsz : s.size ≤ 140737488351232) :
    C Try.prog 10 [.ptr N 0, .val (.string s)] m (fun r m' => r = .val (.int .i64 (appE j d s.data.toList)) ∧ JAt (appJ j d s.data.toList) (appD j d s.data.toList) N Nd m') := by
  have h1 := h.few.w
  have h2 := h.few.f
  have h3 := h.inv.aten
  have h4 := h.inv.endn
  have h5 := h.n2
  have h6 := h.next
  have h7 := h.en
  have hsz' : s.data.toList.length ≤ 140737488355328 := by have : s.data.toList.length = s.size := rfl; omega
  have := C10 hat h.inv.flat.ok (by rw [h.inv.flat.len]; exact h4) (by omega) (by omega) (by omega) (by omega) s.data.toList hsz'
  rwa [text_of] at this
theorem F3 (x : Int) (a b : List ByteArray) (ha : a.length * 16 ≤ 140737488351232) (hb : b.length * 16 ≤ 140737488351232) (ha' : ∀ s ∈ a, s.size ≤ 140737488351232) (hb' : ∀ s ∈ b, s.size ≤ 140737488351232) : F Try.prog 3 [.val (.int .i64 x), .vs (a.map txC) false, .vs (b.map txC) false] (.val (.bool true)) := by
  obtain ⟨q, hq, eq⟩ := count_of x 24 (by decide) (by decide)
  obtain ⟨n, hn⟩ : ∃ n, n = 1 + q := ⟨_, rfl⟩
  have e1 : (1 : Int) + (q : Int) = (n : Int) := by omega
  have hn1 : 1 ≤ n := by omega
  have hn2 : n ≤ 24 := by omega
  clear hn
  have eq' : (IntKind.u64.wrap x).tmod 24 = (q : Int) := eq
  have c8 := C8 n hn1 (by omega)
  have i0 := new_inv (n := n) (fr := 0) (cnt := n) hn1 (by omega) (by omega)
  rw [Nat.zero_add] at i0
  refine F3_of ?_
  unfold k3
  repeat' first
    | simp -dsimp (disch := omega) only [↓rulesA, rulesB, rulesC, Int.reduceLT, nth, upd, put, storeN, AV.one, Nat.reduceBEq, Nat.reduceBNe, Int.reduceBEq, Int.reduceBNe, Int.reduceLE, Int.reduceEq, Int.reduceMod, Int.reduceNeg, boolBin, strBin, intBin, unA, fillA, ne_eq, reduceCtorEq, Nat.reduceAdd, Nat.reduceSub, Nat.reduceLeDiff, Nat.reduceLT, Nat.reduceEqDiff, Int.reduceToNat, eq_self, rulesT, bne_self_eq_false, mm_min, mm_max, buOf_some, nilCheck_vp, nilCheck_ptr, nilCheck_yld, nilCheck_func, *]
    | (refine allK_intro fun n hn => ?_; try simp only [fresh_set] at hn)
    | (refine ifK_intro (fun h => ?_) (fun h => ?_) <;> (try simp only [decide_eq_true_eq, decide_eq_false_iff_not, Bool.not_eq_true', Bool.not_eq_false'] at h) <;> try (exfalso; (try simp only [beq_iff_eq, beq_eq_false_iff_ne, bne_iff_ne, bne_eq_false_iff_eq, ne_eq] at h); omega))
    | (refine keeps_sub (Mem.sub_set (by simp [Mem.set_at, nomem, *])) ?_)
  refine call_C c8 fun r m1 ⟨Nd, hr, hat⟩ => ?_
  subst hr
  have c9 := C9_ok (newDev n) i0.flat.ok.some i0.flat.ok.most (by rw [i0.flat.list]; decide) hat 0 n 1 hn1 (by rw [i0.flat.len]; omega) (by decide) (by decide) rfl
  rw [(new_open (n := n) (fr := 0) (cnt := n) hn1 (by omega)).1, (new_open (n := n) (fr := 0) (cnt := n) hn1 (by omega)).2, Nat.zero_add] at c9
  repeat' first
    | simp -dsimp (disch := omega) only [↓rulesA, rulesB, rulesC, Int.reduceLT, nth, upd, put, storeN, AV.one, Nat.reduceBEq, Nat.reduceBNe, Int.reduceBEq, Int.reduceBNe, Int.reduceLE, Int.reduceEq, Int.reduceMod, Int.reduceNeg, boolBin, strBin, intBin, unA, fillA, ne_eq, reduceCtorEq, Nat.reduceAdd, Nat.reduceSub, Nat.reduceLeDiff, Nat.reduceLT, Nat.reduceEqDiff, Int.reduceToNat, eq_self, rulesT, bne_self_eq_false, mm_min, mm_max, buOf_some, nilCheck_vp, nilCheck_ptr, nilCheck_yld, nilCheck_func, *]
    | (refine allK_intro fun n hn => ?_; try simp only [fresh_set] at hn)
    | (refine ifK_intro (fun h => ?_) (fun h => ?_) <;> (try simp only [decide_eq_true_eq, decide_eq_false_iff_not, Bool.not_eq_true', Bool.not_eq_false'] at h) <;> try (exfalso; (try simp only [beq_iff_eq, beq_eq_false_iff_ne, bne_iff_ne, bne_eq_false_iff_eq, ne_eq] at h); omega))
    | (refine keeps_sub (Mem.sub_set (by simp [Mem.set_at, nomem, *])) ?_)
  refine call_C c9 fun r m2 ⟨N, q0, hN, hq0, hNq, hr, hm⟩ => ?_
  subst hr hm
  have r0 : Run (newDev n) ⟨0, n, 0, 1, false⟩ n 1 0 [] := ⟨i0, rfl, rfl, hn1, by omega, ⟨Nat.zero_le _, Nat.zero_le _⟩, Nat.le_refl _, Nat.le_refl _⟩
  have j0 : JAt ⟨0, n, 0, 1, false⟩ (newDev n) N Nd (m1.set N (.cells false 36 ((⟨0, n, 0, 1, false⟩ : Jour).own Nd))) := ⟨m1, hat, hN, rfl⟩
  clear c8 c9
  repeat' first
    | simp -dsimp (disch := omega) only [↓rulesA, rulesB, rulesC, Int.reduceLT, nth, upd, put, storeN, AV.one, Nat.reduceBEq, Nat.reduceBNe, Int.reduceBEq, Int.reduceBNe, Int.reduceLE, Int.reduceEq, Int.reduceMod, Int.reduceNeg, boolBin, strBin, intBin, unA, fillA, ne_eq, reduceCtorEq, Nat.reduceAdd, Nat.reduceSub, Nat.reduceLeDiff, Nat.reduceLT, Nat.reduceEqDiff, Int.reduceToNat, eq_self, rulesT, bne_self_eq_false, mm_min, mm_max, buOf_some, nilCheck_vp, nilCheck_ptr, nilCheck_yld, nilCheck_func, *]
    | (refine allK_intro fun n hn => ?_; try simp only [fresh_set] at hn)
    | (refine ifK_intro (fun h => ?_) (fun h => ?_) <;> (try simp only [decide_eq_true_eq, decide_eq_false_iff_not, Bool.not_eq_true', Bool.not_eq_false'] at h) <;> try (exfalso; (try simp only [beq_iff_eq, beq_eq_false_iff_ne, bne_iff_ne, bne_eq_false_iff_eq, ne_eq] at h); omega))
    | (refine keeps_sub (Mem.sub_set (by simp [Mem.set_at, nomem, *])) ?_)
  refine loop_intro (fun jj env m => ∃ (i : Nat) (d : Dev) (j : Jour) (L : List (List UInt8 × Nat)) (mI : Mem), i ≤ a.length ∧ jj = a.length - i ∧ Run d j n 1 i L ∧ d.set = false ∧ JAt j d N Nd mI ∧ mI.sub m ∧ env.length = 82 ∧ nth env 0 = .val (.int .i64 n) ∧ nth env 2 = .vs (b.map txC) false ∧ nth env 7 = .ptr Nd 0 ∧ nth env 8 = .ptr N 0 ∧ nth env 35 = .vs (a.map txC) false ∧ nth env 36 = .val (.int .i64 a.length) ∧ nth env 37 = .val (.int .i64 i)) a.length _ (Mem.sub.refl _) ⟨0, _, _, _, _, by omega, by omega, r0, rfl, j0, (by ((repeat' first | exact Mem.sub.refl _ | refine Mem.set_sub ?_ ?_ | refine Mem.sub_set_new ?_ ?_ | refine Mem.sub_del ?_ ?_) <;> simp [Mem.set_at, Mem.del_at, *])), rfl, rfl, rfl, rfl, rfl, rfl, rfl, rfl⟩ ?_
  clear r0 j0 hat hN hq0
  rintro jj env m ⟨i, d, j, L, mI, hi, rfl, hr, hs, hat, hsub, hlen, e0, e2, e7, e8, e35, e36, e37⟩
  repeat' first
    | simp -dsimp (disch := omega) only [↓rulesA, rulesB, rulesC, Int.reduceLT, nth, upd, put, storeN, AV.one, Nat.reduceBEq, Nat.reduceBNe, Int.reduceBEq, Int.reduceBNe, Int.reduceLE, Int.reduceEq, Int.reduceMod, Int.reduceNeg, boolBin, strBin, intBin, unA, fillA, ne_eq, reduceCtorEq, Nat.reduceAdd, Nat.reduceSub, Nat.reduceLeDiff, Nat.reduceLT, Nat.reduceEqDiff, Int.reduceToNat, eq_self, rulesT, bne_self_eq_false, mm_min, mm_max, buOf_some, nilCheck_vp, nilCheck_ptr, nilCheck_yld, nilCheck_func, ix_22, tx_g0, *]
    | (refine allK_intro fun n hn => ?_; try simp only [fresh_set] at hn)
    | (refine ifK_intro (fun h => ?_) (fun h => ?_) <;> (try simp only [decide_eq_true_eq, decide_eq_false_iff_not, Bool.not_eq_true', Bool.not_eq_false'] at h) <;> try (exfalso; (try simp only [beq_iff_eq, beq_eq_false_iff_ne, bne_iff_ne, bne_eq_false_iff_eq, ne_eq] at h); omega))
    | (refine keeps_sub (Mem.sub_set (by simp [Mem.set_at, nomem, *])) ?_)
  · have hil : i < a.length := by omega
    have hsz : (a.getD i default).size ≤ 140737488351232 := ha' _ (by rw [List.getD_eq_getElem?_getD, List.getElem?_eq_getElem hil]; exact List.getElem_mem hil)
    refine call_at (hr.call (by omega) hat _ hsz) hsub fun r m3 M3 ⟨hr', hat'⟩ hsub' _ => ?_
    subst hr'
    obtain ⟨L', g1, g2, g3⟩ := hr.step hs (a.getD i default).data.toList
    clear g3 hat hr
    repeat' first
      | simp -dsimp (disch := omega) only [↓rulesA, rulesB, rulesC, Int.reduceLT, nth, upd, put, storeN, AV.one, Nat.reduceBEq, Nat.reduceBNe, Int.reduceBEq, Int.reduceBNe, Int.reduceLE, Int.reduceEq, Int.reduceMod, Int.reduceNeg, boolBin, strBin, intBin, unA, fillA, ne_eq, reduceCtorEq, Nat.reduceAdd, Nat.reduceSub, Nat.reduceLeDiff, Nat.reduceLT, Nat.reduceEqDiff, Int.reduceToNat, eq_self, rulesT, bne_self_eq_false, mm_min, mm_max, buOf_some, nilCheck_vp, nilCheck_ptr, nilCheck_yld, nilCheck_func, *]
      | (refine allK_intro fun n hn => ?_; try simp only [fresh_set] at hn)
      | (refine ifK_intro (fun h => ?_) (fun h => ?_) <;> (try simp only [decide_eq_true_eq, decide_eq_false_iff_not, Bool.not_eq_true', Bool.not_eq_false'] at h) <;> try (exfalso; (try simp only [beq_iff_eq, beq_eq_false_iff_ne, bne_iff_ne, bne_eq_false_iff_eq, ne_eq] at h); omega))
      | (refine keeps_sub (Mem.sub_set (by simp [Mem.set_at, nomem, *])) ?_)
    refine again_intro (a.length - (i + 1)) (by omega) M3 (Mem.sub.refl _) ⟨i + 1, _, _, L', m3, by omega, rfl, g1, g2, hat', hsub', ?_, ?_, ?_, ?_, ?_, ?_, ?_, ?_⟩
    all_goals try (simp (disch := omega) only [nth_upd, pickB_true, pickB_false, inB_lt, upd_len, cast_succ, Int.cast_ofNat_Int, Nat.reduceBEq, beq_self_eq_true, reduceCtorEq, *]; done)
  · have hia : i = a.length := by omega
    subst hia
    refine call_at (C11 hat) hsub fun r m3 M3 ⟨hr', hat'⟩ hsub' _ => ?_
    subst hr'
    obtain ⟨j', hj'⟩ : ∃ j' : Jour, j' = { j with at_ := j.from_ } := ⟨_, rfl⟩
    obtain ⟨first, hf⟩ : ∃ f, f = j.next := ⟨_, rfl⟩
    have hfirst : 1 ≤ first ∧ first ≤ 1 + a.length := by rw [hf]; exact hr.next
    have hnext : j'.next = first := by rw [hj', hf]
    have r1 : Run d j' n first a.length [] := by rw [hj', hf]; exact ⟨hr.inv.restart, hr.fr, hr.en, hr.n1, hr.n2, hr.few, hr.next⟩
    rw [← hj'] at hat'
    clear hat hsub hr hf hj'
    have f12 := F12 j' d false false
    rw [hnext] at f12
    clear hnext
    repeat' first
      | simp -dsimp (disch := omega) only [↓rulesA, rulesB, rulesC, Int.reduceLT, nth, upd, put, storeN, AV.one, Nat.reduceBEq, Nat.reduceBNe, Int.reduceBEq, Int.reduceBNe, Int.reduceLE, Int.reduceEq, Int.reduceMod, Int.reduceNeg, boolBin, strBin, intBin, unA, fillA, ne_eq, reduceCtorEq, Nat.reduceAdd, Nat.reduceSub, Nat.reduceLeDiff, Nat.reduceLT, Nat.reduceEqDiff, Int.reduceToNat, eq_self, rulesT, bne_self_eq_false, mm_min, mm_max, buOf_some, nilCheck_vp, nilCheck_ptr, nilCheck_yld, nilCheck_func, *]
      | (refine allK_intro fun n hn => ?_; try simp only [fresh_set] at hn)
      | (refine ifK_intro (fun h => ?_) (fun h => ?_) <;> (try simp only [decide_eq_true_eq, decide_eq_false_iff_not, Bool.not_eq_true', Bool.not_eq_false'] at h) <;> try (exfalso; (try simp only [beq_iff_eq, beq_eq_false_iff_ne, bne_iff_ne, bne_eq_false_iff_eq, ne_eq] at h); omega))
      | (refine keeps_sub (Mem.sub_set (by simp [Mem.set_at, nomem, *])) ?_)
      | (refine call_F (f12) (.one (hat'.seen hsub')) ?_)
      | (refine pure_F (f12) (.one (hat'.seen hsub')) ?_)
    refine loop_introG (fun jj env m => ∃ (i : Nat) (d : Dev) (j : Jour) (L : List (List UInt8 × Nat)) (mI : Mem) (nD : Nat), i ≤ b.length ∧ jj = b.length - i ∧ Run d j n first (a.length + i) L ∧ d.set = false ∧ JAt j d N Nd mI ∧ mI nD = none ∧ (txts L).length ≤ i ∧ m = mI.set nD (.cells true 9 ((txts L).map txC).flatten) ∧ env.length = 82 ∧ nth env 0 = .val (.int .i64 n) ∧ nth env 7 = .ptr Nd 0 ∧ nth env 8 = .ptr N 0 ∧ nth env 13 = .val (.int .i64 first) ∧ nth env 14 = .sl nD 0 (txts L).length (txts L).length ∧ nth env 49 = .vs (b.map txC) false ∧ nth env 50 = .val (.int .i64 b.length) ∧ nth env 51 = .val (.int .i64 i)) b.length ?_ ?_
    · refine Ghosts.sub hsub' (Ghosts.nil 14 9 (by simp (disch := omega) only [upd_len, hlen]; decide) ?_ fun nD hnD => .mk ⟨0, d, j', [], m3, nD, by omega, by omega, r1, hs, hat', hnD, Nat.le_refl _, rfl, ?_, ?_, ?_, ?_, ?_, ?_, ?_, ?_, ?_⟩)
      all_goals try (simp (disch := omega) only [nth_upd, pickB_true, pickB_false, inB_lt, upd_len, cast_succ, Int.cast_ofNat_Int, Nat.reduceBEq, beq_self_eq_true, reduceCtorEq, *]; done)
      show _ = AV.sl nD 0 0 0
      simp (disch := omega) only [nth_upd, pickB_true, pickB_false, inB_lt, upd_len, Nat.reduceBEq, beq_self_eq_true, hlen]
    clear hlen e0 e2 e7 e8 e35 e36 e37 hat' hsub' f12 r1 hs
    rintro jj env m ⟨i, d, j, L, mI, nD, hi, rfl, hr, hs, hat, hnD, hLi, rfl, hlen, e0, e7, e8, e13, e14, e49, e50, e51⟩
    have hsub : mI.sub (mI.set nD (.cells true 9 ((txts L).map txC).flatten)) := Mem.sub_set hnD
    repeat' first
      | simp -dsimp (disch := omega) only [↓rulesA, rulesB, rulesC, Int.reduceLT, nth, upd, put, storeN, AV.one, Nat.reduceBEq, Nat.reduceBNe, Int.reduceBEq, Int.reduceBNe, Int.reduceLE, Int.reduceEq, Int.reduceMod, Int.reduceNeg, boolBin, strBin, intBin, unA, fillA, ne_eq, reduceCtorEq, Nat.reduceAdd, Nat.reduceSub, Nat.reduceLeDiff, Nat.reduceLT, Nat.reduceEqDiff, Int.reduceToNat, eq_self, rulesT, bne_self_eq_false, mm_min, mm_max, buOf_some, nilCheck_vp, nilCheck_ptr, nilCheck_yld, nilCheck_func, ix_22, tx_g0, *]
      | (refine allK_intro fun n hn => ?_; try simp only [fresh_set] at hn)
      | (refine ifK_intro (fun h => ?_) (fun h => ?_) <;> (try simp only [decide_eq_true_eq, decide_eq_false_iff_not, Bool.not_eq_true', Bool.not_eq_false'] at h) <;> try (exfalso; (try simp only [beq_iff_eq, beq_eq_false_iff_ne, bne_iff_ne, bne_eq_false_iff_eq, ne_eq] at h); omega))
      | (refine keeps_sub (Mem.sub_set (by simp [Mem.set_at, nomem, *])) ?_)
    · have hil : i < b.length := by omega
      have hsz : (b.getD i default).size ≤ 140737488351232 := hb' _ (by rw [List.getD_eq_getElem?_getD, List.getElem?_eq_getElem hil]; exact List.getElem_mem hil)
      refine call_at (hr.call (by omega) hat _ hsz) hsub fun r m3 M3 ⟨hr', hat'⟩ hsub' hleft => ?_
      subst hr'
      obtain ⟨hm3, hM3⟩ := hleft nD _ hnD (Mem.set_same _ _ _)
      obtain ⟨L', g1, g2, g3⟩ := hr.step hs (b.getD i default).data.toList
      rw [text_of] at g3
      generalize b.getD i default = s at *
      clear hat hr hleft hsub
      rcases g3 with ⟨g3, g4⟩ | ⟨g3, rfl⟩
      · rw [g3]
        repeat' first
          | simp -dsimp (disch := omega) only [↓rulesA, rulesB, rulesC, Int.reduceLT, nth, upd, put, storeN, AV.one, Nat.reduceBEq, Nat.reduceBNe, Int.reduceBEq, Int.reduceBNe, Int.reduceLE, Int.reduceEq, Int.reduceMod, Int.reduceNeg, boolBin, strBin, intBin, unA, fillA, ne_eq, reduceCtorEq, Nat.reduceAdd, Nat.reduceSub, Nat.reduceLeDiff, Nat.reduceLT, Nat.reduceEqDiff, Int.reduceToNat, eq_self, rulesT, bne_self_eq_false, mm_min, mm_max, buOf_some, nilCheck_vp, nilCheck_ptr, nilCheck_yld, nilCheck_func, *]
          | (refine allK_intro fun n hn => ?_; try simp only [fresh_set] at hn)
          | (refine ifK_intro (fun h => ?_) (fun h => ?_) <;> (try simp only [decide_eq_true_eq, decide_eq_false_iff_not, Bool.not_eq_true', Bool.not_eq_false'] at h) <;> try (exfalso; (try simp only [beq_iff_eq, beq_eq_false_iff_ne, bne_iff_ne, bne_eq_false_iff_eq, ne_eq] at h); omega))
          | (refine keeps_sub (Mem.sub_set (by simp [Mem.set_at, nomem, *])) ?_)
        refine lit_vs (lit1_22 _) rfl ?_
        repeat' first
          | simp -dsimp (disch := omega) only [↓rulesA, rulesB, rulesC, Int.reduceLT, nth, upd, put, storeN, AV.one, Nat.reduceBEq, Nat.reduceBNe, Int.reduceBEq, Int.reduceBNe, Int.reduceLE, Int.reduceEq, Int.reduceMod, Int.reduceNeg, boolBin, strBin, intBin, unA, fillA, ne_eq, reduceCtorEq, Nat.reduceAdd, Nat.reduceSub, Nat.reduceLeDiff, Nat.reduceLT, Nat.reduceEqDiff, Int.reduceToNat, eq_self, rulesT, bne_self_eq_false, mm_min, mm_max, buOf_some, nilCheck_vp, nilCheck_ptr, nilCheck_yld, nilCheck_func, *]
          | (refine allK_intro fun n hn => ?_; try simp only [fresh_set] at hn)
          | (refine ifK_intro (fun h => ?_) (fun h => ?_) <;> (try simp only [decide_eq_true_eq, decide_eq_false_iff_not, Bool.not_eq_true', Bool.not_eq_false'] at h) <;> try (exfalso; (try simp only [beq_iff_eq, beq_eq_false_iff_ne, bne_iff_ne, bne_eq_false_iff_eq, ne_eq] at h); omega))
          | (refine keeps_sub (Mem.sub_set (by simp [Mem.set_at, nomem, *])) ?_)
        refine append_open app_22 (src_22 _ [s] _) (cs := ((txts L).map txC).flatten) (bt := 9) hM3 cs_9 (by rw [tx_len]; simp) (by show ((txts L).length + 1) * 16 ≤ _; omega) fun n4 hn4 => ?_
        have hm4 : m3 n4 = none := Mem.sub_none hsub' hn4
        have eL : ((txts L).map txC).flatten ++ ([s].map txC).flatten = ((txts L').map txC).flatten := by rw [g4, List.map_append, List.flatten_append]
        have lL : (txts L').length = (txts L).length + 1 := by rw [g4, List.length_append]; rfl
        have eL' : List.drop 0 ((txts L).map txC).flatten ++ ([s].map txC).flatten = ((txts L').map txC).flatten := eL
        rw [eL']
        clear eL eL' g3 g4
        repeat' first
          | simp -dsimp (disch := omega) only [↓rulesA, rulesB, rulesC, Int.reduceLT, nth, upd, put, storeN, AV.one, Nat.reduceBEq, Nat.reduceBNe, Int.reduceBEq, Int.reduceBNe, Int.reduceLE, Int.reduceEq, Int.reduceMod, Int.reduceNeg, boolBin, strBin, intBin, unA, fillA, ne_eq, reduceCtorEq, Nat.reduceAdd, Nat.reduceSub, Nat.reduceLeDiff, Nat.reduceLT, Nat.reduceEqDiff, Int.reduceToNat, eq_self, rulesT, bne_self_eq_false, mm_min, mm_max, buOf_some, nilCheck_vp, nilCheck_ptr, nilCheck_yld, nilCheck_func, *]
          | (refine allK_intro fun n hn => ?_; try simp only [fresh_set] at hn)
          | (refine ifK_intro (fun h => ?_) (fun h => ?_) <;> (try simp only [decide_eq_true_eq, decide_eq_false_iff_not, Bool.not_eq_true', Bool.not_eq_false'] at h) <;> try (exfalso; (try simp only [beq_iff_eq, beq_eq_false_iff_ne, bne_iff_ne, bne_eq_false_iff_eq, ne_eq] at h); omega))
          | (refine keeps_sub (Mem.sub_set (by simp [Mem.set_at, nomem, *])) ?_)
        refine again_intro (b.length - (i + 1)) (by omega) (m3.set n4 (.cells true 9 ((txts L').map txC).flatten)) (Mem.set_mono (Mem.sub_del hsub' hm3)) ⟨i + 1, _, _, L', m3, n4, by omega, rfl, g1, g2, hat', hm4, by omega, rfl, ?_, ?_, ?_, ?_, ?_, ?_, ?_, ?_, ?_⟩
        all_goals try (simp (disch := omega) only [nth_upd, pickB_true, pickB_false, inB_lt, upd_len, cast_succ, Int.cast_ofNat_Int, Nat.reduceBEq, beq_self_eq_true, reduceCtorEq, *]; done)
      · rw [g3]
        clear g3
        repeat' first
          | simp -dsimp (disch := omega) only [↓rulesA, rulesB, rulesC, Int.reduceLT, nth, upd, put, storeN, AV.one, Nat.reduceBEq, Nat.reduceBNe, Int.reduceBEq, Int.reduceBNe, Int.reduceLE, Int.reduceEq, Int.reduceMod, Int.reduceNeg, boolBin, strBin, intBin, unA, fillA, ne_eq, reduceCtorEq, Nat.reduceAdd, Nat.reduceSub, Nat.reduceLeDiff, Nat.reduceLT, Nat.reduceEqDiff, Int.reduceToNat, eq_self, rulesT, bne_self_eq_false, mm_min, mm_max, buOf_some, nilCheck_vp, nilCheck_ptr, nilCheck_yld, nilCheck_func, *]
          | (refine allK_intro fun n hn => ?_; try simp only [fresh_set] at hn)
          | (refine ifK_intro (fun h => ?_) (fun h => ?_) <;> (try simp only [decide_eq_true_eq, decide_eq_false_iff_not, Bool.not_eq_true', Bool.not_eq_false'] at h) <;> try (exfalso; (try simp only [beq_iff_eq, beq_eq_false_iff_ne, bne_iff_ne, bne_eq_false_iff_eq, ne_eq] at h); omega))
          | (refine keeps_sub (Mem.sub_set (by simp [Mem.set_at, nomem, *])) ?_)
        refine again_intro (b.length - (i + 1)) (by omega) (m3.set nD (.cells true 9 ((txts L').map txC).flatten)) (Mem.set_sub hsub' hM3) ⟨i + 1, _, _, L', m3, nD, by omega, rfl, g1, g2, hat', hm3, by omega, rfl, ?_, ?_, ?_, ?_, ?_, ?_, ?_, ?_, ?_⟩
        all_goals try (simp (disch := omega) only [nth_upd, pickB_true, pickB_false, inB_lt, upd_len, cast_succ, Int.cast_ofNat_Int, Nat.reduceBEq, beq_self_eq_true, reduceCtorEq, *]; done)
    · obtain ⟨md, hmd, hN, rfl⟩ := hat
      have hst : openT d 0 n first = txts L := by
        have h := hr.inv.stand
        rw [hr.fr, hr.en] at h
        unfold openT; rw [Nat.zero_add, h]
      have c9 := C9_ok d hr.inv.flat.ok.some hr.inv.flat.ok.most (by rw [hr.inv.flat.list]; decide) hmd 0 n first hn1 (by rw [hr.inv.flat.len]; omega) hfirst.1 (by omega) hr.inv.flat.live
      rw [hst] at c9
      clear hst hr
      simp only [fresh_set] at hnD
      refine call_at c9 ((Mem.sub_set hN).trans hsub) fun r m4 M4 ⟨N4, q4, g1, g2, g3, hr, hm4⟩ s4 l4 => ?_
      subst hr
      have hD : M4 nD = some (.cells true 9 ((txts L).map txC).flatten) := (l4 nD _ hnD.2.2 (Mem.set_same _ _ _)).2
      have hq : M4 q4 = some (.cells true 9 ((txts L).map txC).flatten) := s4 _ _ (by rw [hm4]; exact Mem.set_same _ _ _)
      clear l4 c9
      have f13 := F13 (txts L) (txts L) false false (by omega)
      rw [decide_eq_true rfl] at f13
      have sd := Seen.row txC (s := 1) (cap := (txts L).length) (fun _ => rfl) (txts L) hD
      have sq := Seen.row txC (s := 1) (cap := (txts L).length) (fun _ => rfl) (txts L) hq
      repeat' first
        | simp -dsimp (disch := omega) only [↓rulesA, rulesB, rulesC, Int.reduceLT, nth, upd, put, storeN, AV.one, Nat.reduceBEq, Nat.reduceBNe, Int.reduceBEq, Int.reduceBNe, Int.reduceLE, Int.reduceEq, Int.reduceMod, Int.reduceNeg, boolBin, strBin, intBin, unA, fillA, ne_eq, reduceCtorEq, Nat.reduceAdd, Nat.reduceSub, Nat.reduceLeDiff, Nat.reduceLT, Nat.reduceEqDiff, Int.reduceToNat, eq_self, rulesT, bne_self_eq_false, mm_min, mm_max, buOf_some, nilCheck_vp, nilCheck_ptr, nilCheck_yld, nilCheck_func, *]
        | (refine allK_intro fun n hn => ?_; try simp only [fresh_set] at hn)
        | (refine ifK_intro (fun h => ?_) (fun h => ?_) <;> (try simp only [decide_eq_true_eq, decide_eq_false_iff_not, Bool.not_eq_true', Bool.not_eq_false'] at h) <;> try (exfalso; (try simp only [beq_iff_eq, beq_eq_false_iff_ne, bne_iff_ne, bne_eq_false_iff_eq, ne_eq] at h); omega))
        | (refine keeps_sub (Mem.sub_set (by simp [Mem.set_at, nomem, *])) ?_)
        | (refine call_F (f13) (.two sq sd) ?_)
        | (refine pure_F (f13) (.two sq sd) ?_)
        | (refine call_F (F14) (Seens.refl _ _) ?_)
        | (refine pure_F (F14) (Seens.refl _ _) ?_)
      exact .val
theorem anew_law : ∀ args, ShapedAll Try.prog Try.f3.params.toList args → F Try.prog 3 args (.val (.bool true)) := by
  intro args h
  have hp : Try.f3.params.toList = [3, 22, 22] := by kernel_rfl
  rw [hp] at h
  match args, h with
  | [a, b, c], ⟨h0, h1, h2, _⟩ =>
    obtain ⟨x, rfl, _⟩ := (h0.one ti_3 rfl).i64 ti_3 rfl
    obtain ⟨l, rfl, l1, l2⟩ := strs_of h1
    obtain ⟨l', rfl, l1', l2'⟩ := strs_of h2
    exact F3 x l l' l1 l1' l2 l2'
end Go.Proofs.Ytlkeailgccbmbaa


/- Package 07: the law JournalWhole. -/
set_option maxRecDepth 100000
set_option maxHeartbeats 1000000
set_option linter.unusedSimpArgs false
set_option linter.unusedVariables false
namespace Go.Proofs.Ytlkeailgccbmbaa
open Go.Abs
attribute [local irreducible] C X CC Y CV CW binK litK AppK PureC PureCV againK loopV rangeV allK ifK got onB condK V stepsK planK opK firstK seeE keepsK

/-- Between the calls, whatever cut is set. -/
structure Run0 (d : Dev) (j : Jour) (n i : Nat) (L : List (List UInt8 × Nat)) : Prop where
  inv : JInv d j n 1 L
  fr : j.from_ = 0
  en : j.end_ = n
  n1 : 1 ≤ n
  n2 : n ≤ 100
  few : Few d (i * 4096)
/-- An append, whatever cut is set. -/
theorem Run0.step {d : Dev} {j : Jour} {n i : Nat} {L : List (List UInt8 × Nat)} (h : Run0 d j n i L) (rec : List UInt8) :
    Few (appD j d rec) ((i + 1) * 4096) ∧ Flat (onD (appD j d rec)) n ∧ ((∃ L', Run0 (appD j d rec) (appJ j d rec) n (i + 1) L' ∧ stand n (onD (appD j d rec)) n 0 1 = L' ∧ ((appE j d rec = 0 ∧ txts L' = txts L ++ [⟨rec.toArray⟩]) ∨ (appE j d rec = 21 ∧ L' = L))) ∨ (appE j d rec = 22 ∧ stand n (onD (appD j d rec)) n 0 1 = L)) := by
  obtain ⟨a1, a2, a3, a4⟩ := appJ_is j d rec
  have hf := app_few h.few j rec (by have := h.en; have := h.n2; omega)
  have hf' : Few (appD j d rec) ((i + 1) * 4096) := by rw [Nat.add_mul]; exact hf
  have live : ∀ {d : Dev} {j : Jour} {L}, JInv d j n 1 L → j.from_ = 0 → j.end_ = n → onD d = d ∧ stand n (onD d) n 0 1 = L := fun {d j L} hi h0 h1 => by
    have e : onD d = d := by
      have := hi.flat.live
      cases d; simp only at this; subst this; rfl
    refine ⟨e, ?_⟩
    have := hi.stand
    rw [h0, h1] at this
    rw [e]; exact this
  by_cases hfull : fullJ j rec
  · obtain ⟨e1, e2, e3⟩ := h.inv.full rec hfull
    obtain ⟨l1, l2⟩ := live h.inv h.fr h.en
    refine ⟨hf', by rw [e1, l1]; exact h.inv.flat, .inl ⟨L, ⟨by rw [e1, e2]; exact h.inv, a1.trans h.fr, a2.trans h.en, h.n1, h.n2, hf'⟩, by rw [e1]; exact l2, .inr ⟨e3, rfl⟩⟩⟩
  · have hfull' : ¬ (4611686018427387904 < j.next ∨ j.end_ < j.at_ + needN rec.length) := hfull
    have hl := need_len (n := rec.length) (e := n) (by have := h.en; omega) (by have := h.n2; omega)
    cases hp : (putD j d rec).dead with
    | false =>
      obtain ⟨i1, i2, i3⟩ := h.inv.done rec (by omega) hfull hp
      obtain ⟨l1, l2⟩ := live i1 (a1.trans h.fr) (a2.trans h.en)
      exact ⟨hf', by rw [l1]; exact i1.flat, .inl ⟨_, ⟨i1, a1.trans h.fr, a2.trans h.en, h.n1, h.n2, hf'⟩, l2, .inl ⟨i2, txts_snoc _ _ _⟩⟩⟩
    | true =>
      obtain ⟨i1, i2, i3, i4, i5, i6⟩ := h.inv.lost rec (by omega) hfull hp
      rw [h.fr, h.en] at i6
      exact ⟨hf', i3, .inr ⟨i1, i6⟩⟩
theorem Run0.call {d : Dev} {j : Jour} {n i : Nat} {L : List (List UInt8 × Nat)} (h : Run0 d j n i L) (hi : i ≤ 140737488351232) {N Nd : Nat} {m : Mem} (hat : JAt j d N Nd m) (s : ByteArray) (hsz : s.size ≤ 140737488351232) :
    C Try.prog 10 [.ptr N 0, .val (.string s)] m (fun r m' => r = .val (.int .i64 (appE j d s.data.toList)) ∧ JAt (appJ j d s.data.toList) (appD j d s.data.toList) N Nd m') := by
  have h1 := h.few.w
  have h2 := h.few.f
  have h3 := h.inv.aten
  have h4 := h.inv.endn
  have h5 := h.n2
  have h7 := h.en
  have hsz' : s.data.toList.length ≤ 140737488355328 := by have : s.data.toList.length = s.size := rfl; omega
  have := C10 hat h.inv.flat.ok (by rw [h.inv.flat.len]; exact h4) (by omega) h.inv.next (by omega) (by omega) s.data.toList hsz'
  rwa [text_of] at this
theorem cut_inv {d : Dev} {j : Jour} {n i : Nat} {L : List (List UInt8 × Nat)} (h : Run0 d j n i L) (c : Nat) (hc : c < 1000) (p : Int) : Run0 (cutD d c p) j n i L := by
  have e : cutD d c p = { d with set := true, left := c, pick := p } := by unfold cutD; rw [if_neg (by rw [h.inv.flat.live]; decide), if_pos (by omega)]
  have hok : (cutD d c p).Ok := Ok.cut h.inv.flat.ok (by omega)
  have hfl : Flat (cutD d c p) n := ⟨hok, by rw [e]; exact h.inv.flat.list, by rw [e]; exact h.inv.flat.live, by rw [e]; exact h.inv.flat.len⟩
  have hs : ∀ x, secD (cutD d c p) x = secD d x := fun x => by rw [e]; rfl
  obtain ⟨l, r1, r2, r3⟩ := h.inv.row
  have he := h.inv.endn
  have hn : ∀ x, x < n → numAt (cutD d c p) x = numAt d x := fun x hx => by rw [hfl.num hx, h.inv.flat.num hx, hs]
  refine ⟨⟨hfl, h.inv.live, he, h.inv.frat, h.inv.aten, h.inv.next, fun x q1 q2 => by rw [hn x (by omega)]; exact h.inv.nums x q1 q2, l, r1, chain_congr h.inv.flat hfl he L _ _ _ _ r2 (fun x _ _ => hs x), ?_⟩, h.fr, h.en, h.n1, h.n2, ⟨by rw [e]; exact h.few.w, by rw [e]; exact h.few.f⟩⟩
  rintro ⟨q1, q2, q3⟩
  rw [readJ_congr (e := j.end_) h.inv.flat hfl he (by omega) fun x _ _ _ => hs x] at q2 q3
  exact r3 ⟨q1, q2, q3⟩
theorem Run0.now {d : Dev} {j : Jour} {n i : Nat} {L : List (List UInt8 × Nat)} (h : Run0 d j n i L) : Flat (onD d) n ∧ stand n (onD d) n 0 1 = L := by
  have e : onD d = d := by
    have := h.inv.flat.live
    cases d; simp only at this; subst this; rfl
  have := h.inv.stand
  rw [h.fr, h.en] at this
  rw [e]; exact ⟨h.inv.flat, this⟩
theorem F5 (x : Int) (a : List ByteArray) (c p : Int) (ha : a.length * 16 ≤ 140737488351232) (ha' : ∀ s ∈ a, s.size ≤ 140737488351232) : F Try.prog 5 [.val (.int .i64 x), .vs (a.map txC) false, .val (.int .i64 c), .val (.int .u64 p)] (.val (.bool true)) := by
  obtain ⟨q, hq, eq⟩ := count_of x 24 (by decide) (by decide)
  obtain ⟨cc, hcc, ecc⟩ := count_of c 40 (by decide) (by decide)
  obtain ⟨n, hn⟩ : ∃ n, n = 1 + q := ⟨_, rfl⟩
  have e1 : (1 : Int) + (q : Int) = (n : Int) := by omega
  have hn1 : 1 ≤ n := by omega
  have hn2 : n ≤ 24 := by omega
  clear hn
  have eq' : (IntKind.u64.wrap x).tmod 24 = (q : Int) := eq
  have ecc' : (IntKind.u64.wrap c).tmod 40 = (cc : Int) := ecc
  have c8 := C8 n hn1 (by omega)
  have i0 := new_inv (n := n) (fr := 0) (cnt := n) hn1 (by omega) (by omega)
  rw [Nat.zero_add] at i0
  refine F5_of ?_
  unfold k5
  repeat' first
    | simp -dsimp (disch := omega) only [↓rulesA, rulesB, rulesC, Int.reduceLT, nth, upd, put, storeN, AV.one, Nat.reduceBEq, Nat.reduceBNe, Int.reduceBEq, Int.reduceBNe, Int.reduceLE, Int.reduceEq, Int.reduceMod, Int.reduceNeg, boolBin, strBin, intBin, unA, fillA, ne_eq, reduceCtorEq, Nat.reduceAdd, Nat.reduceSub, Nat.reduceLeDiff, Nat.reduceLT, Nat.reduceEqDiff, Int.reduceToNat, eq_self, rulesT, bne_self_eq_false, mm_min, mm_max, buOf_some, nilCheck_vp, nilCheck_ptr, nilCheck_yld, nilCheck_func, *]
    | (refine allK_intro fun n hn => ?_; try simp only [fresh_set] at hn)
    | (refine ifK_intro (fun h => ?_) (fun h => ?_) <;> (try simp only [decide_eq_true_eq, decide_eq_false_iff_not, Bool.not_eq_true', Bool.not_eq_false'] at h) <;> try (exfalso; (try simp only [beq_iff_eq, beq_eq_false_iff_ne, bne_iff_ne, bne_eq_false_iff_eq, ne_eq] at h); omega))
    | (refine keeps_sub (Mem.sub_set (by simp [Mem.set_at, nomem, *])) ?_)
  refine call_C c8 fun r m1 ⟨Nd, hr, hat⟩ => ?_
  subst hr
  have c9 := C9_ok (newDev n) i0.flat.ok.some i0.flat.ok.most (by rw [i0.flat.list]; decide) hat 0 n 1 hn1 (by rw [i0.flat.len]; omega) (by decide) (by decide) rfl
  rw [(new_open (n := n) (fr := 0) (cnt := n) hn1 (by omega)).1, (new_open (n := n) (fr := 0) (cnt := n) hn1 (by omega)).2, Nat.zero_add] at c9
  repeat' first
    | simp -dsimp (disch := omega) only [↓rulesA, rulesB, rulesC, Int.reduceLT, nth, upd, put, storeN, AV.one, Nat.reduceBEq, Nat.reduceBNe, Int.reduceBEq, Int.reduceBNe, Int.reduceLE, Int.reduceEq, Int.reduceMod, Int.reduceNeg, boolBin, strBin, intBin, unA, fillA, ne_eq, reduceCtorEq, Nat.reduceAdd, Nat.reduceSub, Nat.reduceLeDiff, Nat.reduceLT, Nat.reduceEqDiff, Int.reduceToNat, eq_self, rulesT, bne_self_eq_false, mm_min, mm_max, buOf_some, nilCheck_vp, nilCheck_ptr, nilCheck_yld, nilCheck_func, *]
    | (refine allK_intro fun n hn => ?_; try simp only [fresh_set] at hn)
    | (refine ifK_intro (fun h => ?_) (fun h => ?_) <;> (try simp only [decide_eq_true_eq, decide_eq_false_iff_not, Bool.not_eq_true', Bool.not_eq_false'] at h) <;> try (exfalso; (try simp only [beq_iff_eq, beq_eq_false_iff_ne, bne_iff_ne, bne_eq_false_iff_eq, ne_eq] at h); omega))
    | (refine keeps_sub (Mem.sub_set (by simp [Mem.set_at, nomem, *])) ?_)
  refine call_C c9 fun r m2 ⟨N, q0, hN, hq0, hNq, hr, hm⟩ => ?_
  subst hr hm
  have r0 : Run0 (newDev n) ⟨0, n, 0, 1, false⟩ n 0 [] := ⟨i0, rfl, rfl, hn1, by omega, ⟨Nat.zero_le _, Nat.zero_le _⟩⟩
  replace r0 := cut_inv r0 cc (by omega) p
  have c16 := C16 (newDev n) i0.flat.ok.some hat cc p
  clear c8 c9
  repeat' first
    | simp -dsimp (disch := omega) only [↓rulesA, rulesB, rulesC, Int.reduceLT, nth, upd, put, storeN, AV.one, Nat.reduceBEq, Nat.reduceBNe, Int.reduceBEq, Int.reduceBNe, Int.reduceLE, Int.reduceEq, Int.reduceMod, Int.reduceNeg, boolBin, strBin, intBin, unA, fillA, ne_eq, reduceCtorEq, Nat.reduceAdd, Nat.reduceSub, Nat.reduceLeDiff, Nat.reduceLT, Nat.reduceEqDiff, Int.reduceToNat, eq_self, rulesT, bne_self_eq_false, mm_min, mm_max, buOf_some, nilCheck_vp, nilCheck_ptr, nilCheck_yld, nilCheck_func, *]
    | (refine allK_intro fun n hn => ?_; try simp only [fresh_set] at hn)
    | (refine ifK_intro (fun h => ?_) (fun h => ?_) <;> (try simp only [decide_eq_true_eq, decide_eq_false_iff_not, Bool.not_eq_true', Bool.not_eq_false'] at h) <;> try (exfalso; (try simp only [beq_iff_eq, beq_eq_false_iff_ne, bne_iff_ne, bne_eq_false_iff_eq, ne_eq] at h); omega))
    | (refine keeps_sub (Mem.sub_set (by simp [Mem.set_at, nomem, *])) ?_)
  refine call_at c16 (by ((repeat' first | exact Mem.sub.refl _ | refine Mem.set_sub ?_ ?_ | refine Mem.sub_set_new ?_ ?_ | refine Mem.sub_del ?_ ?_) <;> simp [Mem.set_at, Mem.del_at, *])) fun r m2 M2 ⟨hr, hat2⟩ s2 l2 => ?_
  subst hr
  obtain ⟨hN2, hM2⟩ := l2 N (.cells false 36 ((⟨0, n, 0, 1, false⟩ : Jour).own Nd)) hN (by simp [Mem.set_at, *])
  have hs2 := Mem.set_sub s2 hM2
  have j0 : JAt ⟨0, n, 0, 1, false⟩ (cutD (newDev n) cc p) N Nd (m2.set N (.cells false 36 ((⟨0, n, 0, 1, false⟩ : Jour).own Nd))) := ⟨m2, hat2, hN2, rfl⟩
  clear c16 l2 hat hN hq0 hM2 s2 hat2 hN2
  generalize cutD (newDev n) cc p = d0 at *
  repeat' first
    | simp -dsimp (disch := omega) only [↓rulesA, rulesB, rulesC, Int.reduceLT, nth, upd, put, storeN, AV.one, Nat.reduceBEq, Nat.reduceBNe, Int.reduceBEq, Int.reduceBNe, Int.reduceLE, Int.reduceEq, Int.reduceMod, Int.reduceNeg, boolBin, strBin, intBin, unA, fillA, ne_eq, reduceCtorEq, Nat.reduceAdd, Nat.reduceSub, Nat.reduceLeDiff, Nat.reduceLT, Nat.reduceEqDiff, Int.reduceToNat, eq_self, rulesT, bne_self_eq_false, mm_min, mm_max, buOf_some, nilCheck_vp, nilCheck_ptr, nilCheck_yld, nilCheck_func, *]
    | (refine allK_intro fun n hn => ?_; try simp only [fresh_set] at hn)
    | (refine ifK_intro (fun h => ?_) (fun h => ?_) <;> (try simp only [decide_eq_true_eq, decide_eq_false_iff_not, Bool.not_eq_true', Bool.not_eq_false'] at h) <;> try (exfalso; (try simp only [beq_iff_eq, beq_eq_false_iff_ne, bne_iff_ne, bne_eq_false_iff_eq, ne_eq] at h); omega))
    | (refine keeps_sub (Mem.sub_set (by simp [Mem.set_at, nomem, *])) ?_)
  refine loop_introG (fun jj env m => ∃ (i : Nat) (d : Dev) (j : Jour) (L : List (List UInt8 × Nat)) (mI : Mem) (nD : Nat), i ≤ a.length ∧ jj = a.length - i ∧ Run0 d j n i L ∧ JAt j d N Nd mI ∧ mI nD = none ∧ (txts L).length ≤ i ∧ m = mI.set nD (.cells true 9 ((txts L).map txC).flatten) ∧ env.length = 94 ∧ nth env 0 = .val (.int .i64 n) ∧ nth env 9 = .ptr Nd 0 ∧ nth env 10 = .ptr N 0 ∧ nth env 13 = .sl nD 0 (txts L).length (txts L).length ∧ nth env 47 = .vs (a.map txC) false ∧ nth env 48 = .val (.int .i64 a.length) ∧ nth env 49 = .val (.int .i64 i)) a.length ?_ ?_
  · refine Ghosts.sub hs2 (Ghosts.nil 13 9 (Nat.le_of_ble_eq_true rfl) rfl fun nD hnD => .mk ⟨0, _, _, [], _, nD, by omega, by omega, r0, j0, hnD, Nat.le_refl _, rfl, rfl, rfl, rfl, rfl, rfl, rfl, rfl, rfl⟩)
  clear r0 j0 hs2
  rintro jj env m ⟨i, d, j, L, mI, nD, hi, rfl, hr, hat, hnD, hLi, rfl, hlen, e0, e9, e10, e13, e47, e48, e49⟩
  have hsub : mI.sub (mI.set nD (.cells true 9 ((txts L).map txC).flatten)) := Mem.sub_set hnD
  repeat' first
    | simp -dsimp (disch := omega) only [↓rulesA, rulesB, rulesC, Int.reduceLT, nth, upd, put, storeN, AV.one, Nat.reduceBEq, Nat.reduceBNe, Int.reduceBEq, Int.reduceBNe, Int.reduceLE, Int.reduceEq, Int.reduceMod, Int.reduceNeg, boolBin, strBin, intBin, unA, fillA, ne_eq, reduceCtorEq, Nat.reduceAdd, Nat.reduceSub, Nat.reduceLeDiff, Nat.reduceLT, Nat.reduceEqDiff, Int.reduceToNat, eq_self, rulesT, bne_self_eq_false, mm_min, mm_max, buOf_some, nilCheck_vp, nilCheck_ptr, nilCheck_yld, nilCheck_func, ix_22, tx_g0, *]
    | (refine allK_intro fun n hn => ?_; try simp only [fresh_set] at hn)
    | (refine ifK_intro (fun h => ?_) (fun h => ?_) <;> (try simp only [decide_eq_true_eq, decide_eq_false_iff_not, Bool.not_eq_true', Bool.not_eq_false'] at h) <;> try (exfalso; (try simp only [beq_iff_eq, beq_eq_false_iff_ne, bne_iff_ne, bne_eq_false_iff_eq, ne_eq] at h); omega))
    | (refine keeps_sub (Mem.sub_set (by simp [Mem.set_at, nomem, *])) ?_)
  · have hil : i < a.length := by omega
    have hsz : (a.getD i default).size ≤ 140737488351232 := ha' _ (by rw [List.getD_eq_getElem?_getD, List.getElem?_eq_getElem hil]; exact List.getElem_mem hil)
    refine call_at (hr.call (by omega) hat _ hsz) hsub fun r m3 M3 ⟨hr', hat'⟩ hsub' hleft => ?_
    subst hr'
    obtain ⟨hm3, hM3⟩ := hleft nD _ hnD (Mem.set_same _ _ _)
    obtain ⟨hfew, hfl, hst⟩ := hr.step (a.getD i default).data.toList
    rw [text_of] at hst
    generalize a.getD i default = s at *
    have hlaid : 1 ≤ (appD j d s.data.toList).laid.length := by have := hfl.ok.some; exact this
    clear hat hr hleft hsub
    rcases hst with ⟨L', g1, -, ⟨g3, g4⟩ | ⟨g3, rfl⟩⟩ | ⟨g3, g4⟩
    · rw [g3]
      repeat' first
        | simp -dsimp (disch := omega) only [↓rulesA, rulesB, rulesC, Int.reduceLT, nth, upd, put, storeN, AV.one, Nat.reduceBEq, Nat.reduceBNe, Int.reduceBEq, Int.reduceBNe, Int.reduceLE, Int.reduceEq, Int.reduceMod, Int.reduceNeg, boolBin, strBin, intBin, unA, fillA, ne_eq, reduceCtorEq, Nat.reduceAdd, Nat.reduceSub, Nat.reduceLeDiff, Nat.reduceLT, Nat.reduceEqDiff, Int.reduceToNat, eq_self, rulesT, bne_self_eq_false, mm_min, mm_max, buOf_some, nilCheck_vp, nilCheck_ptr, nilCheck_yld, nilCheck_func, *]
        | (refine allK_intro fun n hn => ?_; try simp only [fresh_set] at hn)
        | (refine ifK_intro (fun h => ?_) (fun h => ?_) <;> (try simp only [decide_eq_true_eq, decide_eq_false_iff_not, Bool.not_eq_true', Bool.not_eq_false'] at h) <;> try (exfalso; (try simp only [beq_iff_eq, beq_eq_false_iff_ne, bne_iff_ne, bne_eq_false_iff_eq, ne_eq] at h); omega))
        | (refine keeps_sub (Mem.sub_set (by simp [Mem.set_at, nomem, *])) ?_)
      refine lit_vs (lit1_22 _) rfl ?_
      repeat' first
        | simp -dsimp (disch := omega) only [↓rulesA, rulesB, rulesC, Int.reduceLT, nth, upd, put, storeN, AV.one, Nat.reduceBEq, Nat.reduceBNe, Int.reduceBEq, Int.reduceBNe, Int.reduceLE, Int.reduceEq, Int.reduceMod, Int.reduceNeg, boolBin, strBin, intBin, unA, fillA, ne_eq, reduceCtorEq, Nat.reduceAdd, Nat.reduceSub, Nat.reduceLeDiff, Nat.reduceLT, Nat.reduceEqDiff, Int.reduceToNat, eq_self, rulesT, bne_self_eq_false, mm_min, mm_max, buOf_some, nilCheck_vp, nilCheck_ptr, nilCheck_yld, nilCheck_func, *]
        | (refine allK_intro fun n hn => ?_; try simp only [fresh_set] at hn)
        | (refine ifK_intro (fun h => ?_) (fun h => ?_) <;> (try simp only [decide_eq_true_eq, decide_eq_false_iff_not, Bool.not_eq_true', Bool.not_eq_false'] at h) <;> try (exfalso; (try simp only [beq_iff_eq, beq_eq_false_iff_ne, bne_iff_ne, bne_eq_false_iff_eq, ne_eq] at h); omega))
        | (refine keeps_sub (Mem.sub_set (by simp [Mem.set_at, nomem, *])) ?_)
      refine append_open app_22 (src_22 _ [s] _) (cs := ((txts L).map txC).flatten) (bt := 9) hM3 cs_9 (by rw [tx_len]; simp) (by show ((txts L).length + 1) * 16 ≤ _; omega) fun n4 hn4 => ?_
      have hm4 : m3 n4 = none := Mem.sub_none hsub' hn4
      have eL : List.drop 0 ((txts L).map txC).flatten ++ ([s].map txC).flatten = ((txts L').map txC).flatten := by rw [g4, List.map_append, List.flatten_append]; rfl
      have lL : (txts L').length = (txts L).length + 1 := by rw [g4, List.length_append]; rfl
      rw [eL]
      clear eL g3 g4 hfl hlaid hfew
      repeat' first
        | simp -dsimp (disch := omega) only [↓rulesA, rulesB, rulesC, Int.reduceLT, nth, upd, put, storeN, AV.one, Nat.reduceBEq, Nat.reduceBNe, Int.reduceBEq, Int.reduceBNe, Int.reduceLE, Int.reduceEq, Int.reduceMod, Int.reduceNeg, boolBin, strBin, intBin, unA, fillA, ne_eq, reduceCtorEq, Nat.reduceAdd, Nat.reduceSub, Nat.reduceLeDiff, Nat.reduceLT, Nat.reduceEqDiff, Int.reduceToNat, eq_self, rulesT, bne_self_eq_false, mm_min, mm_max, buOf_some, nilCheck_vp, nilCheck_ptr, nilCheck_yld, nilCheck_func, *]
        | (refine allK_intro fun n hn => ?_; try simp only [fresh_set] at hn)
        | (refine ifK_intro (fun h => ?_) (fun h => ?_) <;> (try simp only [decide_eq_true_eq, decide_eq_false_iff_not, Bool.not_eq_true', Bool.not_eq_false'] at h) <;> try (exfalso; (try simp only [beq_iff_eq, beq_eq_false_iff_ne, bne_iff_ne, bne_eq_false_iff_eq, ne_eq] at h); omega))
        | (refine keeps_sub (Mem.sub_set (by simp [Mem.set_at, nomem, *])) ?_)
      refine again_intro (a.length - (i + 1)) (by omega) (m3.set n4 (.cells true 9 ((txts L').map txC).flatten)) (Mem.set_mono (Mem.sub_del hsub' hm3)) ⟨i + 1, _, _, L', m3, n4, by omega, rfl, g1, hat', hm4, by omega, rfl, ?_, ?_, ?_, ?_, ?_, ?_, ?_, ?_⟩
      all_goals try (simp (disch := omega) only [nth_upd, pickB_true, pickB_false, inB_lt, upd_len, cast_succ, Int.cast_ofNat_Int, Nat.reduceBEq, beq_self_eq_true, reduceCtorEq, *]; done)
    · rw [g3]
      clear g3 hfl hlaid hfew
      repeat' first
        | simp -dsimp (disch := omega) only [↓rulesA, rulesB, rulesC, Int.reduceLT, nth, upd, put, storeN, AV.one, Nat.reduceBEq, Nat.reduceBNe, Int.reduceBEq, Int.reduceBNe, Int.reduceLE, Int.reduceEq, Int.reduceMod, Int.reduceNeg, boolBin, strBin, intBin, unA, fillA, ne_eq, reduceCtorEq, Nat.reduceAdd, Nat.reduceSub, Nat.reduceLeDiff, Nat.reduceLT, Nat.reduceEqDiff, Int.reduceToNat, eq_self, rulesT, bne_self_eq_false, mm_min, mm_max, buOf_some, nilCheck_vp, nilCheck_ptr, nilCheck_yld, nilCheck_func, *]
        | (refine allK_intro fun n hn => ?_; try simp only [fresh_set] at hn)
        | (refine ifK_intro (fun h => ?_) (fun h => ?_) <;> (try simp only [decide_eq_true_eq, decide_eq_false_iff_not, Bool.not_eq_true', Bool.not_eq_false'] at h) <;> try (exfalso; (try simp only [beq_iff_eq, beq_eq_false_iff_ne, bne_iff_ne, bne_eq_false_iff_eq, ne_eq] at h); omega))
        | (refine keeps_sub (Mem.sub_set (by simp [Mem.set_at, nomem, *])) ?_)
      refine again_intro (a.length - (i + 1)) (by omega) (m3.set nD (.cells true 9 ((txts L').map txC).flatten)) (Mem.set_sub hsub' hM3) ⟨i + 1, _, _, L', m3, nD, by omega, rfl, g1, hat', hm3, by omega, rfl, ?_, ?_, ?_, ?_, ?_, ?_, ?_, ?_⟩
      all_goals try (simp (disch := omega) only [nth_upd, pickB_true, pickB_false, inB_lt, upd_len, cast_succ, Int.cast_ofNat_Int, Nat.reduceBEq, beq_self_eq_true, reduceCtorEq, *]; done)
    · rw [g3]
      obtain ⟨md, hmd, hNd, rfl⟩ := hat'
      have hsd := (Mem.sub_set hNd).trans hsub'
      clear hsub' g3
      generalize appD j d s.data.toList = d1 at *
      repeat' first
        | simp -dsimp (disch := omega) only [↓rulesA, rulesB, rulesC, Int.reduceLT, nth, upd, put, storeN, AV.one, Nat.reduceBEq, Nat.reduceBNe, Int.reduceBEq, Int.reduceBNe, Int.reduceLE, Int.reduceEq, Int.reduceMod, Int.reduceNeg, boolBin, strBin, intBin, unA, fillA, ne_eq, reduceCtorEq, Nat.reduceAdd, Nat.reduceSub, Nat.reduceLeDiff, Nat.reduceLT, Nat.reduceEqDiff, Int.reduceToNat, eq_self, rulesT, bne_self_eq_false, mm_min, mm_max, buOf_some, nilCheck_vp, nilCheck_ptr, nilCheck_yld, nilCheck_func, *]
        | (refine allK_intro fun n hn => ?_; try simp only [fresh_set] at hn)
        | (refine ifK_intro (fun h => ?_) (fun h => ?_) <;> (try simp only [decide_eq_true_eq, decide_eq_false_iff_not, Bool.not_eq_true', Bool.not_eq_false'] at h) <;> try (exfalso; (try simp only [beq_iff_eq, beq_eq_false_iff_ne, bne_iff_ne, bne_eq_false_iff_eq, ne_eq] at h); omega))
        | (refine keeps_sub (Mem.sub_set (by simp [Mem.set_at, nomem, *])) ?_)
      have hmd0 : md nD = none := by simp only [fresh_set] at hm3; exact hm3.2.2
      refine call_at (C17 d1 hlaid hmd) hsd fun r m5 M5 ⟨hr, hat5⟩ s5 l5 => ?_
      subst hr
      obtain ⟨hm5, hD5⟩ := l5 nD _ hmd0 hM3
      have hst : openT (onD d1) 0 n 1 = txts L := by unfold openT; rw [Nat.zero_add, g4]
      have c9 := C9_ok (onD d1) hfl.ok.some hfl.ok.most (by rw [hfl.list]; decide) hat5 0 n 1 hn1 (by rw [hfl.len]; omega) (by decide) (by decide) rfl
      rw [hst] at c9
      clear hst l5 hfl g4 hlaid hM3 hsd hmd
      repeat' first
        | simp -dsimp (disch := omega) only [↓rulesA, rulesB, rulesC, Int.reduceLT, nth, upd, put, storeN, AV.one, Nat.reduceBEq, Nat.reduceBNe, Int.reduceBEq, Int.reduceBNe, Int.reduceLE, Int.reduceEq, Int.reduceMod, Int.reduceNeg, boolBin, strBin, intBin, unA, fillA, ne_eq, reduceCtorEq, Nat.reduceAdd, Nat.reduceSub, Nat.reduceLeDiff, Nat.reduceLT, Nat.reduceEqDiff, Int.reduceToNat, eq_self, rulesT, bne_self_eq_false, mm_min, mm_max, buOf_some, nilCheck_vp, nilCheck_ptr, nilCheck_yld, nilCheck_func, *]
        | (refine allK_intro fun n hn => ?_; try simp only [fresh_set] at hn)
        | (refine ifK_intro (fun h => ?_) (fun h => ?_) <;> (try simp only [decide_eq_true_eq, decide_eq_false_iff_not, Bool.not_eq_true', Bool.not_eq_false'] at h) <;> try (exfalso; (try simp only [beq_iff_eq, beq_eq_false_iff_ne, bne_iff_ne, bne_eq_false_iff_eq, ne_eq] at h); omega))
        | (refine keeps_sub (Mem.sub_set (by simp [Mem.set_at, nomem, *])) ?_)
      refine call_at c9 s5 fun r m6 M6 ⟨N6, q6, g1, g2, g3, hr, hm6⟩ s6 l6 => ?_
      subst hr
      have hD6 := (l6 nD _ hm5 hD5).2
      have hq6 : M6 q6 = some (.cells true 9 ((txts L).map txC).flatten) := s6 _ _ (by rw [hm6]; exact Mem.set_same _ _ _)
      clear l6 c9 hm6
      have f13 := F13 (txts L) (txts L) false false (by omega)
      rw [decide_eq_true rfl] at f13
      have sd := Seen.row txC (s := 1) (cap := (txts L).length) (fun _ => rfl) (txts L) hD6
      have sq := Seen.row txC (s := 1) (cap := (txts L).length) (fun _ => rfl) (txts L) hq6
      repeat' first
        | simp -dsimp (disch := omega) only [↓rulesA, rulesB, rulesC, Int.reduceLT, nth, upd, put, storeN, AV.one, Nat.reduceBEq, Nat.reduceBNe, Int.reduceBEq, Int.reduceBNe, Int.reduceLE, Int.reduceEq, Int.reduceMod, Int.reduceNeg, boolBin, strBin, intBin, unA, fillA, ne_eq, reduceCtorEq, Nat.reduceAdd, Nat.reduceSub, Nat.reduceLeDiff, Nat.reduceLT, Nat.reduceEqDiff, Int.reduceToNat, eq_self, rulesT, bne_self_eq_false, mm_min, mm_max, buOf_some, nilCheck_vp, nilCheck_ptr, nilCheck_yld, nilCheck_func, *]
        | (refine allK_intro fun n hn => ?_; try simp only [fresh_set] at hn)
        | (refine ifK_intro (fun h => ?_) (fun h => ?_) <;> (try simp only [decide_eq_true_eq, decide_eq_false_iff_not, Bool.not_eq_true', Bool.not_eq_false'] at h) <;> try (exfalso; (try simp only [beq_iff_eq, beq_eq_false_iff_ne, bne_iff_ne, bne_eq_false_iff_eq, ne_eq] at h); omega))
        | (refine keeps_sub (Mem.sub_set (by simp [Mem.set_at, nomem, *])) ?_)
        | (refine call_F (f13) (.two sq sd) ?_)
        | (refine pure_F (f13) (.two sq sd) ?_)
        | (refine call_F (F14) (Seens.refl _ _) ?_)
        | (refine pure_F (F14) (Seens.refl _ _) ?_)
      exact .val
  · obtain ⟨hfl, g4⟩ := hr.now
    have hlaid : 1 ≤ d.laid.length := hr.inv.flat.ok.some
    have hM3 : (mI.set nD (.cells true 9 ((txts L).map txC).flatten)) nD = some (.cells true 9 ((txts L).map txC).flatten) := Mem.set_same _ _ _
    obtain ⟨md, hmd, hNd, rfl⟩ := hat
    have hsd := (Mem.sub_set hNd).trans hsub
    simp only [fresh_set] at hnD
    have hm3 := hnD.2.2
    have hmd0 := hm3
    clear hr
    refine call_at (C17 d hlaid hmd) hsd fun r m5 M5 ⟨hr, hat5⟩ s5 l5 => ?_
    subst hr
    obtain ⟨hm5, hD5⟩ := l5 nD _ hmd0 hM3
    have hst : openT (onD d) 0 n 1 = txts L := by unfold openT; rw [Nat.zero_add, g4]
    have c9 := C9_ok (onD d) hfl.ok.some hfl.ok.most (by rw [hfl.list]; decide) hat5 0 n 1 hn1 (by rw [hfl.len]; omega) (by decide) (by decide) rfl
    rw [hst] at c9
    clear hst l5 hfl g4 hlaid hM3 hsd hmd
    repeat' first
      | simp -dsimp (disch := omega) only [↓rulesA, rulesB, rulesC, Int.reduceLT, nth, upd, put, storeN, AV.one, Nat.reduceBEq, Nat.reduceBNe, Int.reduceBEq, Int.reduceBNe, Int.reduceLE, Int.reduceEq, Int.reduceMod, Int.reduceNeg, boolBin, strBin, intBin, unA, fillA, ne_eq, reduceCtorEq, Nat.reduceAdd, Nat.reduceSub, Nat.reduceLeDiff, Nat.reduceLT, Nat.reduceEqDiff, Int.reduceToNat, eq_self, rulesT, bne_self_eq_false, mm_min, mm_max, buOf_some, nilCheck_vp, nilCheck_ptr, nilCheck_yld, nilCheck_func, *]
      | (refine allK_intro fun n hn => ?_; try simp only [fresh_set] at hn)
      | (refine ifK_intro (fun h => ?_) (fun h => ?_) <;> (try simp only [decide_eq_true_eq, decide_eq_false_iff_not, Bool.not_eq_true', Bool.not_eq_false'] at h) <;> try (exfalso; (try simp only [beq_iff_eq, beq_eq_false_iff_ne, bne_iff_ne, bne_eq_false_iff_eq, ne_eq] at h); omega))
      | (refine keeps_sub (Mem.sub_set (by simp [Mem.set_at, nomem, *])) ?_)
    refine call_at c9 s5 fun r m6 M6 ⟨N6, q6, g1, g2, g3, hr, hm6⟩ s6 l6 => ?_
    subst hr
    have hD6 := (l6 nD _ hm5 hD5).2
    have hq6 : M6 q6 = some (.cells true 9 ((txts L).map txC).flatten) := s6 _ _ (by rw [hm6]; exact Mem.set_same _ _ _)
    clear l6 c9 hm6
    have f13 := F13 (txts L) (txts L) false false (by omega)
    rw [decide_eq_true rfl] at f13
    have sd := Seen.row txC (s := 1) (cap := (txts L).length) (fun _ => rfl) (txts L) hD6
    have sq := Seen.row txC (s := 1) (cap := (txts L).length) (fun _ => rfl) (txts L) hq6
    repeat' first
      | simp -dsimp (disch := omega) only [↓rulesA, rulesB, rulesC, Int.reduceLT, nth, upd, put, storeN, AV.one, Nat.reduceBEq, Nat.reduceBNe, Int.reduceBEq, Int.reduceBNe, Int.reduceLE, Int.reduceEq, Int.reduceMod, Int.reduceNeg, boolBin, strBin, intBin, unA, fillA, ne_eq, reduceCtorEq, Nat.reduceAdd, Nat.reduceSub, Nat.reduceLeDiff, Nat.reduceLT, Nat.reduceEqDiff, Int.reduceToNat, eq_self, rulesT, bne_self_eq_false, mm_min, mm_max, buOf_some, nilCheck_vp, nilCheck_ptr, nilCheck_yld, nilCheck_func, *]
      | (refine allK_intro fun n hn => ?_; try simp only [fresh_set] at hn)
      | (refine ifK_intro (fun h => ?_) (fun h => ?_) <;> (try simp only [decide_eq_true_eq, decide_eq_false_iff_not, Bool.not_eq_true', Bool.not_eq_false'] at h) <;> try (exfalso; (try simp only [beq_iff_eq, beq_eq_false_iff_ne, bne_iff_ne, bne_eq_false_iff_eq, ne_eq] at h); omega))
      | (refine keeps_sub (Mem.sub_set (by simp [Mem.set_at, nomem, *])) ?_)
      | (refine call_F (f13) (.two sq sd) ?_)
      | (refine pure_F (f13) (.two sq sd) ?_)
      | (refine call_F (F14) (Seens.refl _ _) ?_)
      | (refine pure_F (F14) (Seens.refl _ _) ?_)
    exact .val
theorem whole_law : ∀ args, ShapedAll Try.prog Try.f5.params.toList args → F Try.prog 5 args (.val (.bool true)) := by
  intro args h
  have hp : Try.f5.params.toList = [3, 22, 3, 23] := by kernel_rfl
  rw [hp] at h
  match args, h with
  | [a, b, c, d], ⟨h0, h1, h2, h3, _⟩ =>
    obtain ⟨x, rfl, _⟩ := (h0.one ti_3 rfl).i64 ti_3 rfl
    obtain ⟨l, rfl, l1, l2⟩ := strs_of h1
    obtain ⟨y, rfl, _⟩ := (h2.one ti_3 rfl).i64 ti_3 rfl
    obtain ⟨p, rfl, _⟩ := (h3.one ti_23 rfl).u64 ti_23 rfl
    exact F5 x l y p l1 l2
end Go.Proofs.Ytlkeailgccbmbaa


/- Package 07: the law JournalAgain. -/
set_option maxRecDepth 100000
set_option maxHeartbeats 1000000
set_option linter.unusedSimpArgs false
set_option linter.unusedVariables false
namespace Go.Proofs.Ytlkeailgccbmbaa
open Go.Abs
attribute [local irreducible] C X CC Y CV CW binK litK AppK PureC PureCV againK loopV rangeV allK ifK got onB condK V stepsK planK opK firstK seeE keepsK

def intC (i : Int) : List AV := [.val (.int .i64 i)]
def uC (i : Int) : List AV := [.val (.int .u64 i)]
theorem ix_41 (l : List Int) (x : Bool) (kk : IntKind) (k : Int) (h0 : 0 ≤ k) (h1 : k < l.length) : indexAddrA Try.prog 41 (.vs (l.map intC) x) (.val (.int kk k)) = some (.vp (intC (l.getD k.toNat default)) 0) := index_vs intC ti_41 rfl ti_3 (fun _ => rfl) l x kk k h0 h1
theorem ix_42 (l : List Int) (x : Bool) (kk : IntKind) (k : Int) (h0 : 0 ≤ k) (h1 : k < l.length) : indexAddrA Try.prog 42 (.vs (l.map uC) x) (.val (.int kk k)) = some (.vp (uC (l.getD k.toNat default)) 0) := index_vs uC ti_42 rfl ti_23 (fun _ => rfl) l x kk k h0 h1
theorem int_g0 (s : Int) : (intC s)[0]? = some (.val (.int .i64 s)) := rfl
theorem u_g0 (s : Int) : (uC s)[0]? = some (.val (.int .u64 s)) := rfl
/-- Opened anew, behind a loss. -/
theorem again_run {d : Dev} {n i : Nat} {L : List (List UInt8 × Nat)} (hfl : Flat (onD d) n) (hst : stand n (onD d) n 0 1 = L) (h1 : 1 ≤ n) (h2 : n ≤ 100) (hf : Few d (i * 4096)) : Run0 (onD d) (openJ (onD d) 0 n 1) n i L := by
  have h := open_inv (fr := 0) (cnt := n) (first := 1) hfl (by omega) (by decide)
  rw [Nat.zero_add, hst] at h
  exact ⟨h, rfl, by show 0 + n = n; omega, h1, h2, ⟨hf.w, hf.f⟩⟩
theorem F6 (x : Int) (a : List ByteArray) (cs ps : List Int) (ha : a.length * 16 ≤ 140737488351232) (ha' : ∀ s ∈ a, s.size ≤ 140737488351232) : F Try.prog 6 [.val (.int .i64 x), .vs (a.map txC) false, .vs (cs.map intC) false, .vs (ps.map uC) false] (.val (.bool true)) := by
  obtain ⟨q, hq, eq⟩ := count_of x 30 (by decide) (by decide)
  obtain ⟨n, hn⟩ : ∃ n, n = 2 + q := ⟨_, rfl⟩
  have e1 : (2 : Int) + (q : Int) = (n : Int) := by omega
  have hn1 : 1 ≤ n := by omega
  have hn2 : n ≤ 32 := by omega
  clear hn
  have eq' : (IntKind.u64.wrap x).tmod 30 = (q : Int) := eq
  have c8 := C8 n hn1 (by omega)
  have i0 := new_inv (n := n) (fr := 0) (cnt := n) hn1 (by omega) (by omega)
  rw [Nat.zero_add] at i0
  refine F6_of ?_
  unfold k6
  repeat' first
    | simp -dsimp (disch := omega) only [↓rulesA, rulesB, rulesC, Int.reduceLT, nth, upd, put, storeN, AV.one, Nat.reduceBEq, Nat.reduceBNe, Int.reduceBEq, Int.reduceBNe, Int.reduceLE, Int.reduceEq, Int.reduceMod, Int.reduceNeg, boolBin, strBin, intBin, unA, fillA, ne_eq, reduceCtorEq, Nat.reduceAdd, Nat.reduceSub, Nat.reduceLeDiff, Nat.reduceLT, Nat.reduceEqDiff, Int.reduceToNat, eq_self, rulesT, bne_self_eq_false, mm_min, mm_max, buOf_some, nilCheck_vp, nilCheck_ptr, nilCheck_yld, nilCheck_func, *]
    | (refine allK_intro fun n hn => ?_; try simp only [fresh_set] at hn)
    | (refine ifK_intro (fun h => ?_) (fun h => ?_) <;> (try simp only [decide_eq_true_eq, decide_eq_false_iff_not, Bool.not_eq_true', Bool.not_eq_false'] at h) <;> try (exfalso; (try simp only [beq_iff_eq, beq_eq_false_iff_ne, bne_iff_ne, bne_eq_false_iff_eq, ne_eq] at h); omega))
    | (refine keeps_sub (Mem.sub_set (by simp [Mem.set_at, nomem, *])) ?_)
  refine call_C c8 fun r m1 ⟨Nd, hr, hat⟩ => ?_
  subst hr
  have c9 := C9_ok (newDev n) i0.flat.ok.some i0.flat.ok.most (by rw [i0.flat.list]; decide) hat 0 n 1 hn1 (by rw [i0.flat.len]; omega) (by decide) (by decide) rfl
  rw [(new_open (n := n) (fr := 0) (cnt := n) hn1 (by omega)).1, (new_open (n := n) (fr := 0) (cnt := n) hn1 (by omega)).2, Nat.zero_add] at c9
  repeat' first
    | simp -dsimp (disch := omega) only [↓rulesA, rulesB, rulesC, Int.reduceLT, nth, upd, put, storeN, AV.one, Nat.reduceBEq, Nat.reduceBNe, Int.reduceBEq, Int.reduceBNe, Int.reduceLE, Int.reduceEq, Int.reduceMod, Int.reduceNeg, boolBin, strBin, intBin, unA, fillA, ne_eq, reduceCtorEq, Nat.reduceAdd, Nat.reduceSub, Nat.reduceLeDiff, Nat.reduceLT, Nat.reduceEqDiff, Int.reduceToNat, eq_self, rulesT, bne_self_eq_false, mm_min, mm_max, buOf_some, nilCheck_vp, nilCheck_ptr, nilCheck_yld, nilCheck_func, *]
    | (refine allK_intro fun n hn => ?_; try simp only [fresh_set] at hn)
    | (refine ifK_intro (fun h => ?_) (fun h => ?_) <;> (try simp only [decide_eq_true_eq, decide_eq_false_iff_not, Bool.not_eq_true', Bool.not_eq_false'] at h) <;> try (exfalso; (try simp only [beq_iff_eq, beq_eq_false_iff_ne, bne_iff_ne, bne_eq_false_iff_eq, ne_eq] at h); omega))
    | (refine keeps_sub (Mem.sub_set (by simp [Mem.set_at, nomem, *])) ?_)
  refine call_C c9 fun r m2 ⟨N, q0, hN, hq0, hNq, hr, hm⟩ => ?_
  subst hr hm
  have r0 : Run0 (newDev n) ⟨0, n, 0, 1, false⟩ n 0 [] := ⟨i0, rfl, rfl, hn1, by omega, ⟨Nat.zero_le _, Nat.zero_le _⟩⟩
  have j0 : JAt ⟨0, n, 0, 1, false⟩ (newDev n) N Nd (m1.set N (.cells false 36 ((⟨0, n, 0, 1, false⟩ : Jour).own Nd))) := ⟨m1, hat, hN, rfl⟩
  clear c8 c9
  generalize newDev n = d0 at *
  repeat' first
    | simp -dsimp (disch := omega) only [↓rulesA, rulesB, rulesC, Int.reduceLT, nth, upd, put, storeN, AV.one, Nat.reduceBEq, Nat.reduceBNe, Int.reduceBEq, Int.reduceBNe, Int.reduceLE, Int.reduceEq, Int.reduceMod, Int.reduceNeg, boolBin, strBin, intBin, unA, fillA, ne_eq, reduceCtorEq, Nat.reduceAdd, Nat.reduceSub, Nat.reduceLeDiff, Nat.reduceLT, Nat.reduceEqDiff, Int.reduceToNat, eq_self, rulesT, bne_self_eq_false, mm_min, mm_max, buOf_some, nilCheck_vp, nilCheck_ptr, nilCheck_yld, nilCheck_func, *]
    | (refine allK_intro fun n hn => ?_; try simp only [fresh_set] at hn)
    | (refine ifK_intro (fun h => ?_) (fun h => ?_) <;> (try simp only [decide_eq_true_eq, decide_eq_false_iff_not, Bool.not_eq_true', Bool.not_eq_false'] at h) <;> try (exfalso; (try simp only [beq_iff_eq, beq_eq_false_iff_ne, bne_iff_ne, bne_eq_false_iff_eq, ne_eq] at h); omega))
    | (refine keeps_sub (Mem.sub_set (by simp [Mem.set_at, nomem, *])) ?_)
  refine loop_intro (fun jj env m => ∃ (i : Nat) (d : Dev) (j : Jour) (L : List (List UInt8 × Nat)) (mI : Mem) (N nD : Nat), i ≤ a.length ∧ jj = a.length - i ∧ Run0 d j n i L ∧ JAt j d N Nd mI ∧ mI nD = none ∧ (txts L).length ≤ i ∧ m = mI.set nD (.cells true 9 ((txts L).map txC).flatten) ∧ env.length = 110 ∧ nth env 0 = .val (.int .i64 n) ∧ nth env 2 = .vs (cs.map intC) false ∧ nth env 3 = .vs (ps.map uC) false ∧ nth env 9 = .ptr Nd 0 ∧ nth env 10 = .ptr N 0 ∧ nth env 11 = .sl nD 0 (txts L).length (txts L).length ∧ nth env 38 = .vs (a.map txC) false ∧ nth env 39 = .val (.int .i64 a.length) ∧ nth env 40 = .val (.int .i64 i)) a.length _ (Mem.sub.refl _)
    ⟨0, d0, _, [], _, N, q0, by omega, by omega, r0, j0, by simp [Mem.set_at, *, Ne.symm hNq], Nat.le_refl _, rfl, rfl, rfl, rfl, rfl, rfl, rfl, rfl, rfl, rfl, rfl⟩ ?_
  clear r0 j0 hat hN hq0 hNq i0
  rintro jj env m ⟨i, d, j, L, mI, N, nD, hi, rfl, hr, hat, hnD, hLi, rfl, hlen, e0, e2, e3, e9, e10, e11, e38, e39, e40⟩
  have hsub : mI.sub (mI.set nD (.cells true 9 ((txts L).map txC).flatten)) := Mem.sub_set hnD
  repeat' first
    | simp -dsimp (disch := omega) only [↓rulesA, rulesB, rulesC, Int.reduceLT, nth, upd, put, storeN, AV.one, Nat.reduceBEq, Nat.reduceBNe, Int.reduceBEq, Int.reduceBNe, Int.reduceLE, Int.reduceEq, Int.reduceMod, Int.reduceNeg, boolBin, strBin, intBin, unA, fillA, ne_eq, reduceCtorEq, Nat.reduceAdd, Nat.reduceSub, Nat.reduceLeDiff, Nat.reduceLT, Nat.reduceEqDiff, Int.reduceToNat, eq_self, rulesT, bne_self_eq_false, mm_min, mm_max, buOf_some, nilCheck_vp, nilCheck_ptr, nilCheck_yld, nilCheck_func, ix_22, tx_g0, *]
    | (refine allK_intro fun n hn => ?_; try simp only [fresh_set] at hn)
    | (refine ifK_intro (fun h => ?_) (fun h => ?_) <;> (try simp only [decide_eq_true_eq, decide_eq_false_iff_not, Bool.not_eq_true', Bool.not_eq_false'] at h) <;> try (exfalso; (try simp only [beq_iff_eq, beq_eq_false_iff_ne, bne_iff_ne, bne_eq_false_iff_eq, ne_eq] at h); omega))
    | (refine keeps_sub (Mem.sub_set (by simp [Mem.set_at, nomem, *])) ?_)
  · have hic : i < cs.length := by omega
    have hip : i < ps.length := by omega
    have hil : i < a.length := by omega
    have hsz : (a.getD i default).size ≤ 140737488351232 := ha' _ (by rw [List.getD_eq_getElem?_getD, List.getElem?_eq_getElem hil]; exact List.getElem_mem hil)
    obtain ⟨cc, hcc, ecc⟩ := count_of (cs.getD i default) 6 (by decide) (by decide)
    have ecc' : (IntKind.u64.wrap (cs.getD i default)).tmod 6 = (cc : Int) := ecc
    repeat' first
      | simp -dsimp (disch := omega) only [↓rulesA, rulesB, rulesC, Int.reduceLT, nth, upd, put, storeN, AV.one, Nat.reduceBEq, Nat.reduceBNe, Int.reduceBEq, Int.reduceBNe, Int.reduceLE, Int.reduceEq, Int.reduceMod, Int.reduceNeg, boolBin, strBin, intBin, unA, fillA, ne_eq, reduceCtorEq, Nat.reduceAdd, Nat.reduceSub, Nat.reduceLeDiff, Nat.reduceLT, Nat.reduceEqDiff, Int.reduceToNat, eq_self, rulesT, bne_self_eq_false, mm_min, mm_max, buOf_some, nilCheck_vp, nilCheck_ptr, nilCheck_yld, nilCheck_func, ix_41, ix_42, int_g0, u_g0, *]
      | (refine allK_intro fun n hn => ?_; try simp only [fresh_set] at hn)
      | (refine ifK_intro (fun h => ?_) (fun h => ?_) <;> (try simp only [decide_eq_true_eq, decide_eq_false_iff_not, Bool.not_eq_true', Bool.not_eq_false'] at h) <;> try (exfalso; (try simp only [beq_iff_eq, beq_eq_false_iff_ne, bne_iff_ne, bne_eq_false_iff_eq, ne_eq] at h); omega))
      | (refine keeps_sub (Mem.sub_set (by simp [Mem.set_at, nomem, *])) ?_)
    obtain ⟨md, hmd, hNd, rfl⟩ := hat
    have hsd := (Mem.sub_set hNd).trans hsub
    have hN1 : ((md.set N (.cells false 36 (j.own Nd))).set nD (.cells true 9 ((txts L).map txC).flatten)) N = some (.cells false 36 (j.own Nd)) := hsub _ _ (Mem.set_same _ _ _)
    refine call_at (C16 d hr.inv.flat.ok.some hmd cc (ps.getD i default)) hsd fun r m2 M2 ⟨hr2, hat2⟩ s2 l2 => ?_
    subst hr2
    simp only [fresh_set] at hnD
    obtain ⟨hN2, hM2⟩ := l2 N _ hNd hN1
    obtain ⟨hD2, hMD2⟩ := l2 nD _ hnD.2.2 (Mem.set_same _ _ _)
    replace hr := cut_inv hr cc (by omega) (ps.getD i default)
    have hat : JAt j (cutD d cc (ps.getD i default)) N Nd (m2.set N (.cells false 36 (j.own Nd))) := ⟨m2, hat2, hN2, rfl⟩
    have hsub2 := Mem.set_sub s2 hM2
    have hNnD : nD ≠ N := hnD.1
    have hnD2 : (m2.set N (.cells false 36 (j.own Nd))) nD = none := by simp [Mem.set_at, *]
    clear l2 hN1 hsd hmd hsub hnD hat2 hM2 s2 ecc' ecc
    generalize cutD d cc (ps.getD i default) = d' at *
    have hsub := hsub2
    have hnD := hnD2
    have hM := hMD2
    clear hsub2 hnD2 hMD2
    repeat' first
      | simp -dsimp (disch := omega) only [↓rulesA, rulesB, rulesC, Int.reduceLT, nth, upd, put, storeN, AV.one, Nat.reduceBEq, Nat.reduceBNe, Int.reduceBEq, Int.reduceBNe, Int.reduceLE, Int.reduceEq, Int.reduceMod, Int.reduceNeg, boolBin, strBin, intBin, unA, fillA, ne_eq, reduceCtorEq, Nat.reduceAdd, Nat.reduceSub, Nat.reduceLeDiff, Nat.reduceLT, Nat.reduceEqDiff, Int.reduceToNat, eq_self, rulesT, bne_self_eq_false, mm_min, mm_max, buOf_some, nilCheck_vp, nilCheck_ptr, nilCheck_yld, nilCheck_func, *]
      | (refine allK_intro fun n hn => ?_; try simp only [fresh_set] at hn)
      | (refine ifK_intro (fun h => ?_) (fun h => ?_) <;> (try simp only [decide_eq_true_eq, decide_eq_false_iff_not, Bool.not_eq_true', Bool.not_eq_false'] at h) <;> try (exfalso; (try simp only [beq_iff_eq, beq_eq_false_iff_ne, bne_iff_ne, bne_eq_false_iff_eq, ne_eq] at h); omega))
      | (refine keeps_sub (Mem.sub_set (by simp [Mem.set_at, nomem, *])) ?_)
    refine call_at (hr.call (by omega) hat _ hsz) hsub fun r m3 M3 ⟨hr', hat'⟩ hsub' hleft => ?_
    subst hr'
    obtain ⟨hm3, hM3⟩ := hleft nD _ hnD hM
    obtain ⟨hfew, hfl, hst⟩ := hr.step (a.getD i default).data.toList
    have hn1' := hr.n1
    have hn2' := hr.n2
    rw [text_of] at hst
    generalize a.getD i default = s at *
    have hlaid : 1 ≤ (appD j d' s.data.toList).laid.length := by have := hfl.ok.some; exact this
    clear hat hr hleft hsub hM
    rcases hst with ⟨L', g1, -, ⟨g3, g4⟩ | ⟨g3, rfl⟩⟩ | ⟨g3, g4⟩
    · rw [g3]
      repeat' first
        | simp -dsimp (disch := omega) only [↓rulesA, rulesB, rulesC, Int.reduceLT, nth, upd, put, storeN, AV.one, Nat.reduceBEq, Nat.reduceBNe, Int.reduceBEq, Int.reduceBNe, Int.reduceLE, Int.reduceEq, Int.reduceMod, Int.reduceNeg, boolBin, strBin, intBin, unA, fillA, ne_eq, reduceCtorEq, Nat.reduceAdd, Nat.reduceSub, Nat.reduceLeDiff, Nat.reduceLT, Nat.reduceEqDiff, Int.reduceToNat, eq_self, rulesT, bne_self_eq_false, mm_min, mm_max, buOf_some, nilCheck_vp, nilCheck_ptr, nilCheck_yld, nilCheck_func, *]
        | (refine allK_intro fun n hn => ?_; try simp only [fresh_set] at hn)
        | (refine ifK_intro (fun h => ?_) (fun h => ?_) <;> (try simp only [decide_eq_true_eq, decide_eq_false_iff_not, Bool.not_eq_true', Bool.not_eq_false'] at h) <;> try (exfalso; (try simp only [beq_iff_eq, beq_eq_false_iff_ne, bne_iff_ne, bne_eq_false_iff_eq, ne_eq] at h); omega))
        | (refine keeps_sub (Mem.sub_set (by simp [Mem.set_at, nomem, *])) ?_)
      refine lit_vs (lit1_22 _) rfl ?_
      repeat' first
        | simp -dsimp (disch := omega) only [↓rulesA, rulesB, rulesC, Int.reduceLT, nth, upd, put, storeN, AV.one, Nat.reduceBEq, Nat.reduceBNe, Int.reduceBEq, Int.reduceBNe, Int.reduceLE, Int.reduceEq, Int.reduceMod, Int.reduceNeg, boolBin, strBin, intBin, unA, fillA, ne_eq, reduceCtorEq, Nat.reduceAdd, Nat.reduceSub, Nat.reduceLeDiff, Nat.reduceLT, Nat.reduceEqDiff, Int.reduceToNat, eq_self, rulesT, bne_self_eq_false, mm_min, mm_max, buOf_some, nilCheck_vp, nilCheck_ptr, nilCheck_yld, nilCheck_func, *]
        | (refine allK_intro fun n hn => ?_; try simp only [fresh_set] at hn)
        | (refine ifK_intro (fun h => ?_) (fun h => ?_) <;> (try simp only [decide_eq_true_eq, decide_eq_false_iff_not, Bool.not_eq_true', Bool.not_eq_false'] at h) <;> try (exfalso; (try simp only [beq_iff_eq, beq_eq_false_iff_ne, bne_iff_ne, bne_eq_false_iff_eq, ne_eq] at h); omega))
        | (refine keeps_sub (Mem.sub_set (by simp [Mem.set_at, nomem, *])) ?_)
      refine append_open app_22 (src_22 _ [s] _) (cs := ((txts L).map txC).flatten) (bt := 9) hM3 cs_9 (by rw [tx_len]; simp) (by show ((txts L).length + 1) * 16 ≤ _; omega) fun n4 hn4 => ?_
      have hm4 : m3 n4 = none := Mem.sub_none hsub' hn4
      have eL : List.drop 0 ((txts L).map txC).flatten ++ ([s].map txC).flatten = ((txts L').map txC).flatten := by rw [g4, List.map_append, List.flatten_append]; rfl
      have lL : (txts L').length = (txts L).length + 1 := by rw [g4, List.length_append]; rfl
      rw [eL]
      clear eL g3 g4 hfl hlaid hfew
      repeat' first
        | simp -dsimp (disch := omega) only [↓rulesA, rulesB, rulesC, Int.reduceLT, nth, upd, put, storeN, AV.one, Nat.reduceBEq, Nat.reduceBNe, Int.reduceBEq, Int.reduceBNe, Int.reduceLE, Int.reduceEq, Int.reduceMod, Int.reduceNeg, boolBin, strBin, intBin, unA, fillA, ne_eq, reduceCtorEq, Nat.reduceAdd, Nat.reduceSub, Nat.reduceLeDiff, Nat.reduceLT, Nat.reduceEqDiff, Int.reduceToNat, eq_self, rulesT, bne_self_eq_false, mm_min, mm_max, buOf_some, nilCheck_vp, nilCheck_ptr, nilCheck_yld, nilCheck_func, *]
        | (refine allK_intro fun n hn => ?_; try simp only [fresh_set] at hn)
        | (refine ifK_intro (fun h => ?_) (fun h => ?_) <;> (try simp only [decide_eq_true_eq, decide_eq_false_iff_not, Bool.not_eq_true', Bool.not_eq_false'] at h) <;> try (exfalso; (try simp only [beq_iff_eq, beq_eq_false_iff_ne, bne_iff_ne, bne_eq_false_iff_eq, ne_eq] at h); omega))
        | (refine keeps_sub (Mem.sub_set (by simp [Mem.set_at, nomem, *])) ?_)
      refine again_intro (a.length - (i + 1)) (by omega) (m3.set n4 (.cells true 9 ((txts L').map txC).flatten)) (Mem.set_mono (Mem.sub_del hsub' hm3)) ⟨i + 1, _, _, L', m3, N, n4, by omega, rfl, g1, hat', hm4, by omega, rfl, ?_, ?_, ?_, ?_, ?_, ?_, ?_, ?_, ?_, ?_⟩
      all_goals try (simp (disch := omega) only [nth_upd, pickB_true, pickB_false, inB_lt, upd_len, cast_succ, Int.cast_ofNat_Int, Nat.reduceBEq, beq_self_eq_true, reduceCtorEq, *]; done)
    · rw [g3]
      clear g3 hfl hlaid hfew
      repeat' first
        | simp -dsimp (disch := omega) only [↓rulesA, rulesB, rulesC, Int.reduceLT, nth, upd, put, storeN, AV.one, Nat.reduceBEq, Nat.reduceBNe, Int.reduceBEq, Int.reduceBNe, Int.reduceLE, Int.reduceEq, Int.reduceMod, Int.reduceNeg, boolBin, strBin, intBin, unA, fillA, ne_eq, reduceCtorEq, Nat.reduceAdd, Nat.reduceSub, Nat.reduceLeDiff, Nat.reduceLT, Nat.reduceEqDiff, Int.reduceToNat, eq_self, rulesT, bne_self_eq_false, mm_min, mm_max, buOf_some, nilCheck_vp, nilCheck_ptr, nilCheck_yld, nilCheck_func, *]
        | (refine allK_intro fun n hn => ?_; try simp only [fresh_set] at hn)
        | (refine ifK_intro (fun h => ?_) (fun h => ?_) <;> (try simp only [decide_eq_true_eq, decide_eq_false_iff_not, Bool.not_eq_true', Bool.not_eq_false'] at h) <;> try (exfalso; (try simp only [beq_iff_eq, beq_eq_false_iff_ne, bne_iff_ne, bne_eq_false_iff_eq, ne_eq] at h); omega))
        | (refine keeps_sub (Mem.sub_set (by simp [Mem.set_at, nomem, *])) ?_)
      refine again_intro (a.length - (i + 1)) (by omega) (m3.set nD (.cells true 9 ((txts L').map txC).flatten)) (Mem.set_sub hsub' hM3) ⟨i + 1, _, _, L', m3, N, nD, by omega, rfl, g1, hat', hm3, by omega, rfl, ?_, ?_, ?_, ?_, ?_, ?_, ?_, ?_, ?_, ?_⟩
      all_goals try (simp (disch := omega) only [nth_upd, pickB_true, pickB_false, inB_lt, upd_len, cast_succ, Int.cast_ofNat_Int, Nat.reduceBEq, beq_self_eq_true, reduceCtorEq, *]; done)
    · rw [g3]
      obtain ⟨md, hmd, hNd, rfl⟩ := hat'
      have hsd := (Mem.sub_set hNd).trans hsub'
      have hrun := again_run hfl g4 hn1' hn2' hfew
      clear hsub' g3
      generalize appD j d' s.data.toList = d1 at *
      have hmd0 : md nD = none := by simp only [fresh_set] at hm3; exact hm3.2.2
      repeat' first
        | simp -dsimp (disch := omega) only [↓rulesA, rulesB, rulesC, Int.reduceLT, nth, upd, put, storeN, AV.one, Nat.reduceBEq, Nat.reduceBNe, Int.reduceBEq, Int.reduceBNe, Int.reduceLE, Int.reduceEq, Int.reduceMod, Int.reduceNeg, boolBin, strBin, intBin, unA, fillA, ne_eq, reduceCtorEq, Nat.reduceAdd, Nat.reduceSub, Nat.reduceLeDiff, Nat.reduceLT, Nat.reduceEqDiff, Int.reduceToNat, eq_self, rulesT, bne_self_eq_false, mm_min, mm_max, buOf_some, nilCheck_vp, nilCheck_ptr, nilCheck_yld, nilCheck_func, *]
        | (refine allK_intro fun n hn => ?_; try simp only [fresh_set] at hn)
        | (refine ifK_intro (fun h => ?_) (fun h => ?_) <;> (try simp only [decide_eq_true_eq, decide_eq_false_iff_not, Bool.not_eq_true', Bool.not_eq_false'] at h) <;> try (exfalso; (try simp only [beq_iff_eq, beq_eq_false_iff_ne, bne_iff_ne, bne_eq_false_iff_eq, ne_eq] at h); omega))
        | (refine keeps_sub (Mem.sub_set (by simp [Mem.set_at, nomem, *])) ?_)
      refine call_at (C17 d1 hlaid hmd) hsd fun r m5 M5 ⟨hr, hat5⟩ s5 l5 => ?_
      subst hr
      obtain ⟨hm5, hD5⟩ := l5 nD _ hmd0 hM3
      have hst : openT (onD d1) 0 n 1 = txts L := by unfold openT; rw [Nat.zero_add, g4]
      have c9 := C9_ok (onD d1) hfl.ok.some hfl.ok.most (by rw [hfl.list]; decide) hat5 0 n 1 hn1 (by rw [hfl.len]; omega) (by decide) (by decide) rfl
      rw [hst] at c9
      clear hst l5 hfl g4 hlaid hM3 hsd hmd hmd0 hm3
      generalize openJ (onD d1) 0 n 1 = j1 at *
      generalize onD d1 = d2 at *
      repeat' first
        | simp -dsimp (disch := omega) only [↓rulesA, rulesB, rulesC, Int.reduceLT, nth, upd, put, storeN, AV.one, Nat.reduceBEq, Nat.reduceBNe, Int.reduceBEq, Int.reduceBNe, Int.reduceLE, Int.reduceEq, Int.reduceMod, Int.reduceNeg, boolBin, strBin, intBin, unA, fillA, ne_eq, reduceCtorEq, Nat.reduceAdd, Nat.reduceSub, Nat.reduceLeDiff, Nat.reduceLT, Nat.reduceEqDiff, Int.reduceToNat, eq_self, rulesT, bne_self_eq_false, mm_min, mm_max, buOf_some, nilCheck_vp, nilCheck_ptr, nilCheck_yld, nilCheck_func, *]
        | (refine allK_intro fun n hn => ?_; try simp only [fresh_set] at hn)
        | (refine ifK_intro (fun h => ?_) (fun h => ?_) <;> (try simp only [decide_eq_true_eq, decide_eq_false_iff_not, Bool.not_eq_true', Bool.not_eq_false'] at h) <;> try (exfalso; (try simp only [beq_iff_eq, beq_eq_false_iff_ne, bne_iff_ne, bne_eq_false_iff_eq, ne_eq] at h); omega))
        | (refine keeps_sub (Mem.sub_set (by simp [Mem.set_at, nomem, *])) ?_)
      refine call_at c9 s5 fun r m6 M6 ⟨N6, q6, g1, g2, g3, hr, hm6⟩ s6 l6 => ?_
      subst hr
      have hD6 := (l6 nD _ hm5 hD5).2
      have hq6 : M6 q6 = some (.cells true 9 ((txts L).map txC).flatten) := s6 _ _ (by rw [hm6]; exact Mem.set_same _ _ _)
      clear l6 c9 hm5 hD5
      have f13 := F13 (txts L) (txts L) false false (by omega)
      rw [decide_eq_true rfl] at f13
      have sd := Seen.row txC (s := 1) (cap := (txts L).length) (fun _ => rfl) (txts L) hD6
      have sq := Seen.row txC (s := 1) (cap := (txts L).length) (fun _ => rfl) (txts L) hq6
      repeat' first
        | simp -dsimp (disch := omega) only [↓rulesA, rulesB, rulesC, Int.reduceLT, nth, upd, put, storeN, AV.one, Nat.reduceBEq, Nat.reduceBNe, Int.reduceBEq, Int.reduceBNe, Int.reduceLE, Int.reduceEq, Int.reduceMod, Int.reduceNeg, boolBin, strBin, intBin, unA, fillA, ne_eq, reduceCtorEq, Nat.reduceAdd, Nat.reduceSub, Nat.reduceLeDiff, Nat.reduceLT, Nat.reduceEqDiff, Int.reduceToNat, eq_self, rulesT, bne_self_eq_false, mm_min, mm_max, buOf_some, nilCheck_vp, nilCheck_ptr, nilCheck_yld, nilCheck_func, *]
        | (refine allK_intro fun n hn => ?_; try simp only [fresh_set] at hn)
        | (refine ifK_intro (fun h => ?_) (fun h => ?_) <;> (try simp only [decide_eq_true_eq, decide_eq_false_iff_not, Bool.not_eq_true', Bool.not_eq_false'] at h) <;> try (exfalso; (try simp only [beq_iff_eq, beq_eq_false_iff_ne, bne_iff_ne, bne_eq_false_iff_eq, ne_eq] at h); omega))
        | (refine keeps_sub (Mem.sub_set (by simp [Mem.set_at, nomem, *])) ?_)
        | (refine call_F (f13) (.two sq sd) ?_)
        | (refine pure_F (f13) (.two sq sd) ?_)
      clear f13 sd sq hD6 hq6
      subst hm6
      refine again_intro (a.length - (i + 1)) (by omega) _ s6 ⟨i + 1, d2, j1, L, _, N6, q6, by omega, rfl, hrun, ⟨m5, hat5, g1, rfl⟩, by simp [Mem.set_at, *, Ne.symm g3], by omega, rfl, ?_, ?_, ?_, ?_, ?_, ?_, ?_, ?_, ?_, ?_⟩
      all_goals try (simp (disch := omega) only [nth_upd, pickB_true, pickB_false, inB_lt, upd_len, cast_succ, Int.cast_ofNat_Int, Nat.reduceBEq, beq_self_eq_true, reduceCtorEq, *]; done)
  · have hil : i < a.length := by omega
    have hsz : (a.getD i default).size ≤ 140737488351232 := ha' _ (by rw [List.getD_eq_getElem?_getD, List.getElem?_eq_getElem hil]; exact List.getElem_mem hil)
    have hM : (mI.set nD (.cells true 9 ((txts L).map txC).flatten)) nD = some (.cells true 9 ((txts L).map txC).flatten) := Mem.set_same _ _ _
    refine call_at (hr.call (by omega) hat _ hsz) hsub fun r m3 M3 ⟨hr', hat'⟩ hsub' hleft => ?_
    subst hr'
    obtain ⟨hm3, hM3⟩ := hleft nD _ hnD hM
    obtain ⟨hfew, hfl, hst⟩ := hr.step (a.getD i default).data.toList
    have hn1' := hr.n1
    have hn2' := hr.n2
    rw [text_of] at hst
    generalize a.getD i default = s at *
    have hlaid : 1 ≤ (appD j d s.data.toList).laid.length := by have := hfl.ok.some; exact this
    clear hat hr hleft hsub hM
    rcases hst with ⟨L', g1, -, ⟨g3, g4⟩ | ⟨g3, rfl⟩⟩ | ⟨g3, g4⟩
    · rw [g3]
      repeat' first
        | simp -dsimp (disch := omega) only [↓rulesA, rulesB, rulesC, Int.reduceLT, nth, upd, put, storeN, AV.one, Nat.reduceBEq, Nat.reduceBNe, Int.reduceBEq, Int.reduceBNe, Int.reduceLE, Int.reduceEq, Int.reduceMod, Int.reduceNeg, boolBin, strBin, intBin, unA, fillA, ne_eq, reduceCtorEq, Nat.reduceAdd, Nat.reduceSub, Nat.reduceLeDiff, Nat.reduceLT, Nat.reduceEqDiff, Int.reduceToNat, eq_self, rulesT, bne_self_eq_false, mm_min, mm_max, buOf_some, nilCheck_vp, nilCheck_ptr, nilCheck_yld, nilCheck_func, *]
        | (refine allK_intro fun n hn => ?_; try simp only [fresh_set] at hn)
        | (refine ifK_intro (fun h => ?_) (fun h => ?_) <;> (try simp only [decide_eq_true_eq, decide_eq_false_iff_not, Bool.not_eq_true', Bool.not_eq_false'] at h) <;> try (exfalso; (try simp only [beq_iff_eq, beq_eq_false_iff_ne, bne_iff_ne, bne_eq_false_iff_eq, ne_eq] at h); omega))
        | (refine keeps_sub (Mem.sub_set (by simp [Mem.set_at, nomem, *])) ?_)
      refine lit_vs (lit1_22 _) rfl ?_
      repeat' first
        | simp -dsimp (disch := omega) only [↓rulesA, rulesB, rulesC, Int.reduceLT, nth, upd, put, storeN, AV.one, Nat.reduceBEq, Nat.reduceBNe, Int.reduceBEq, Int.reduceBNe, Int.reduceLE, Int.reduceEq, Int.reduceMod, Int.reduceNeg, boolBin, strBin, intBin, unA, fillA, ne_eq, reduceCtorEq, Nat.reduceAdd, Nat.reduceSub, Nat.reduceLeDiff, Nat.reduceLT, Nat.reduceEqDiff, Int.reduceToNat, eq_self, rulesT, bne_self_eq_false, mm_min, mm_max, buOf_some, nilCheck_vp, nilCheck_ptr, nilCheck_yld, nilCheck_func, *]
        | (refine allK_intro fun n hn => ?_; try simp only [fresh_set] at hn)
        | (refine ifK_intro (fun h => ?_) (fun h => ?_) <;> (try simp only [decide_eq_true_eq, decide_eq_false_iff_not, Bool.not_eq_true', Bool.not_eq_false'] at h) <;> try (exfalso; (try simp only [beq_iff_eq, beq_eq_false_iff_ne, bne_iff_ne, bne_eq_false_iff_eq, ne_eq] at h); omega))
        | (refine keeps_sub (Mem.sub_set (by simp [Mem.set_at, nomem, *])) ?_)
      refine append_open app_22 (src_22 _ [s] _) (cs := ((txts L).map txC).flatten) (bt := 9) hM3 cs_9 (by rw [tx_len]; simp) (by show ((txts L).length + 1) * 16 ≤ _; omega) fun n4 hn4 => ?_
      have hm4 : m3 n4 = none := Mem.sub_none hsub' hn4
      have eL : List.drop 0 ((txts L).map txC).flatten ++ ([s].map txC).flatten = ((txts L').map txC).flatten := by rw [g4, List.map_append, List.flatten_append]; rfl
      have lL : (txts L').length = (txts L).length + 1 := by rw [g4, List.length_append]; rfl
      rw [eL]
      clear eL g3 g4 hfl hlaid hfew
      repeat' first
        | simp -dsimp (disch := omega) only [↓rulesA, rulesB, rulesC, Int.reduceLT, nth, upd, put, storeN, AV.one, Nat.reduceBEq, Nat.reduceBNe, Int.reduceBEq, Int.reduceBNe, Int.reduceLE, Int.reduceEq, Int.reduceMod, Int.reduceNeg, boolBin, strBin, intBin, unA, fillA, ne_eq, reduceCtorEq, Nat.reduceAdd, Nat.reduceSub, Nat.reduceLeDiff, Nat.reduceLT, Nat.reduceEqDiff, Int.reduceToNat, eq_self, rulesT, bne_self_eq_false, mm_min, mm_max, buOf_some, nilCheck_vp, nilCheck_ptr, nilCheck_yld, nilCheck_func, *]
        | (refine allK_intro fun n hn => ?_; try simp only [fresh_set] at hn)
        | (refine ifK_intro (fun h => ?_) (fun h => ?_) <;> (try simp only [decide_eq_true_eq, decide_eq_false_iff_not, Bool.not_eq_true', Bool.not_eq_false'] at h) <;> try (exfalso; (try simp only [beq_iff_eq, beq_eq_false_iff_ne, bne_iff_ne, bne_eq_false_iff_eq, ne_eq] at h); omega))
        | (refine keeps_sub (Mem.sub_set (by simp [Mem.set_at, nomem, *])) ?_)
      refine again_intro (a.length - (i + 1)) (by omega) (m3.set n4 (.cells true 9 ((txts L').map txC).flatten)) (Mem.set_mono (Mem.sub_del hsub' hm3)) ⟨i + 1, _, _, L', m3, N, n4, by omega, rfl, g1, hat', hm4, by omega, rfl, ?_, ?_, ?_, ?_, ?_, ?_, ?_, ?_, ?_, ?_⟩
      all_goals try (simp (disch := omega) only [nth_upd, pickB_true, pickB_false, inB_lt, upd_len, cast_succ, Int.cast_ofNat_Int, Nat.reduceBEq, beq_self_eq_true, reduceCtorEq, *]; done)
    · rw [g3]
      clear g3 hfl hlaid hfew
      repeat' first
        | simp -dsimp (disch := omega) only [↓rulesA, rulesB, rulesC, Int.reduceLT, nth, upd, put, storeN, AV.one, Nat.reduceBEq, Nat.reduceBNe, Int.reduceBEq, Int.reduceBNe, Int.reduceLE, Int.reduceEq, Int.reduceMod, Int.reduceNeg, boolBin, strBin, intBin, unA, fillA, ne_eq, reduceCtorEq, Nat.reduceAdd, Nat.reduceSub, Nat.reduceLeDiff, Nat.reduceLT, Nat.reduceEqDiff, Int.reduceToNat, eq_self, rulesT, bne_self_eq_false, mm_min, mm_max, buOf_some, nilCheck_vp, nilCheck_ptr, nilCheck_yld, nilCheck_func, *]
        | (refine allK_intro fun n hn => ?_; try simp only [fresh_set] at hn)
        | (refine ifK_intro (fun h => ?_) (fun h => ?_) <;> (try simp only [decide_eq_true_eq, decide_eq_false_iff_not, Bool.not_eq_true', Bool.not_eq_false'] at h) <;> try (exfalso; (try simp only [beq_iff_eq, beq_eq_false_iff_ne, bne_iff_ne, bne_eq_false_iff_eq, ne_eq] at h); omega))
        | (refine keeps_sub (Mem.sub_set (by simp [Mem.set_at, nomem, *])) ?_)
      refine again_intro (a.length - (i + 1)) (by omega) (m3.set nD (.cells true 9 ((txts L').map txC).flatten)) (Mem.set_sub hsub' hM3) ⟨i + 1, _, _, L', m3, N, nD, by omega, rfl, g1, hat', hm3, by omega, rfl, ?_, ?_, ?_, ?_, ?_, ?_, ?_, ?_, ?_, ?_⟩
      all_goals try (simp (disch := omega) only [nth_upd, pickB_true, pickB_false, inB_lt, upd_len, cast_succ, Int.cast_ofNat_Int, Nat.reduceBEq, beq_self_eq_true, reduceCtorEq, *]; done)
    · rw [g3]
      obtain ⟨md, hmd, hNd, rfl⟩ := hat'
      have hsd := (Mem.sub_set hNd).trans hsub'
      have hrun := again_run hfl g4 hn1' hn2' hfew
      clear hsub' g3
      generalize appD j d s.data.toList = d1 at *
      have hmd0 : md nD = none := by simp only [fresh_set] at hm3; exact hm3.2.2
      repeat' first
        | simp -dsimp (disch := omega) only [↓rulesA, rulesB, rulesC, Int.reduceLT, nth, upd, put, storeN, AV.one, Nat.reduceBEq, Nat.reduceBNe, Int.reduceBEq, Int.reduceBNe, Int.reduceLE, Int.reduceEq, Int.reduceMod, Int.reduceNeg, boolBin, strBin, intBin, unA, fillA, ne_eq, reduceCtorEq, Nat.reduceAdd, Nat.reduceSub, Nat.reduceLeDiff, Nat.reduceLT, Nat.reduceEqDiff, Int.reduceToNat, eq_self, rulesT, bne_self_eq_false, mm_min, mm_max, buOf_some, nilCheck_vp, nilCheck_ptr, nilCheck_yld, nilCheck_func, *]
        | (refine allK_intro fun n hn => ?_; try simp only [fresh_set] at hn)
        | (refine ifK_intro (fun h => ?_) (fun h => ?_) <;> (try simp only [decide_eq_true_eq, decide_eq_false_iff_not, Bool.not_eq_true', Bool.not_eq_false'] at h) <;> try (exfalso; (try simp only [beq_iff_eq, beq_eq_false_iff_ne, bne_iff_ne, bne_eq_false_iff_eq, ne_eq] at h); omega))
        | (refine keeps_sub (Mem.sub_set (by simp [Mem.set_at, nomem, *])) ?_)
      refine call_at (C17 d1 hlaid hmd) hsd fun r m5 M5 ⟨hr, hat5⟩ s5 l5 => ?_
      subst hr
      obtain ⟨hm5, hD5⟩ := l5 nD _ hmd0 hM3
      have hst : openT (onD d1) 0 n 1 = txts L := by unfold openT; rw [Nat.zero_add, g4]
      have c9 := C9_ok (onD d1) hfl.ok.some hfl.ok.most (by rw [hfl.list]; decide) hat5 0 n 1 hn1 (by rw [hfl.len]; omega) (by decide) (by decide) rfl
      rw [hst] at c9
      clear hst l5 hfl g4 hlaid hM3 hsd hmd hmd0 hm3
      generalize openJ (onD d1) 0 n 1 = j1 at *
      generalize onD d1 = d2 at *
      repeat' first
        | simp -dsimp (disch := omega) only [↓rulesA, rulesB, rulesC, Int.reduceLT, nth, upd, put, storeN, AV.one, Nat.reduceBEq, Nat.reduceBNe, Int.reduceBEq, Int.reduceBNe, Int.reduceLE, Int.reduceEq, Int.reduceMod, Int.reduceNeg, boolBin, strBin, intBin, unA, fillA, ne_eq, reduceCtorEq, Nat.reduceAdd, Nat.reduceSub, Nat.reduceLeDiff, Nat.reduceLT, Nat.reduceEqDiff, Int.reduceToNat, eq_self, rulesT, bne_self_eq_false, mm_min, mm_max, buOf_some, nilCheck_vp, nilCheck_ptr, nilCheck_yld, nilCheck_func, *]
        | (refine allK_intro fun n hn => ?_; try simp only [fresh_set] at hn)
        | (refine ifK_intro (fun h => ?_) (fun h => ?_) <;> (try simp only [decide_eq_true_eq, decide_eq_false_iff_not, Bool.not_eq_true', Bool.not_eq_false'] at h) <;> try (exfalso; (try simp only [beq_iff_eq, beq_eq_false_iff_ne, bne_iff_ne, bne_eq_false_iff_eq, ne_eq] at h); omega))
        | (refine keeps_sub (Mem.sub_set (by simp [Mem.set_at, nomem, *])) ?_)
      refine call_at c9 s5 fun r m6 M6 ⟨N6, q6, g1, g2, g3, hr, hm6⟩ s6 l6 => ?_
      subst hr
      have hD6 := (l6 nD _ hm5 hD5).2
      have hq6 : M6 q6 = some (.cells true 9 ((txts L).map txC).flatten) := s6 _ _ (by rw [hm6]; exact Mem.set_same _ _ _)
      clear l6 c9 hm5 hD5
      have f13 := F13 (txts L) (txts L) false false (by omega)
      rw [decide_eq_true rfl] at f13
      have sd := Seen.row txC (s := 1) (cap := (txts L).length) (fun _ => rfl) (txts L) hD6
      have sq := Seen.row txC (s := 1) (cap := (txts L).length) (fun _ => rfl) (txts L) hq6
      repeat' first
        | simp -dsimp (disch := omega) only [↓rulesA, rulesB, rulesC, Int.reduceLT, nth, upd, put, storeN, AV.one, Nat.reduceBEq, Nat.reduceBNe, Int.reduceBEq, Int.reduceBNe, Int.reduceLE, Int.reduceEq, Int.reduceMod, Int.reduceNeg, boolBin, strBin, intBin, unA, fillA, ne_eq, reduceCtorEq, Nat.reduceAdd, Nat.reduceSub, Nat.reduceLeDiff, Nat.reduceLT, Nat.reduceEqDiff, Int.reduceToNat, eq_self, rulesT, bne_self_eq_false, mm_min, mm_max, buOf_some, nilCheck_vp, nilCheck_ptr, nilCheck_yld, nilCheck_func, *]
        | (refine allK_intro fun n hn => ?_; try simp only [fresh_set] at hn)
        | (refine ifK_intro (fun h => ?_) (fun h => ?_) <;> (try simp only [decide_eq_true_eq, decide_eq_false_iff_not, Bool.not_eq_true', Bool.not_eq_false'] at h) <;> try (exfalso; (try simp only [beq_iff_eq, beq_eq_false_iff_ne, bne_iff_ne, bne_eq_false_iff_eq, ne_eq] at h); omega))
        | (refine keeps_sub (Mem.sub_set (by simp [Mem.set_at, nomem, *])) ?_)
        | (refine call_F (f13) (.two sq sd) ?_)
        | (refine pure_F (f13) (.two sq sd) ?_)
      clear f13 sd sq hD6 hq6
      subst hm6
      refine again_intro (a.length - (i + 1)) (by omega) _ s6 ⟨i + 1, d2, j1, L, _, N6, q6, by omega, rfl, hrun, ⟨m5, hat5, g1, rfl⟩, by simp [Mem.set_at, *, Ne.symm g3], by omega, rfl, ?_, ?_, ?_, ?_, ?_, ?_, ?_, ?_, ?_, ?_⟩
      all_goals try (simp (disch := omega) only [nth_upd, pickB_true, pickB_false, inB_lt, upd_len, cast_succ, Int.cast_ofNat_Int, Nat.reduceBEq, beq_self_eq_true, reduceCtorEq, *]; done)
  · have hil : i < a.length := by omega
    have hsz : (a.getD i default).size ≤ 140737488351232 := ha' _ (by rw [List.getD_eq_getElem?_getD, List.getElem?_eq_getElem hil]; exact List.getElem_mem hil)
    have hM : (mI.set nD (.cells true 9 ((txts L).map txC).flatten)) nD = some (.cells true 9 ((txts L).map txC).flatten) := Mem.set_same _ _ _
    refine call_at (hr.call (by omega) hat _ hsz) hsub fun r m3 M3 ⟨hr', hat'⟩ hsub' hleft => ?_
    subst hr'
    obtain ⟨hm3, hM3⟩ := hleft nD _ hnD hM
    obtain ⟨hfew, hfl, hst⟩ := hr.step (a.getD i default).data.toList
    have hn1' := hr.n1
    have hn2' := hr.n2
    rw [text_of] at hst
    generalize a.getD i default = s at *
    have hlaid : 1 ≤ (appD j d s.data.toList).laid.length := by have := hfl.ok.some; exact this
    clear hat hr hleft hsub hM
    rcases hst with ⟨L', g1, -, ⟨g3, g4⟩ | ⟨g3, rfl⟩⟩ | ⟨g3, g4⟩
    · rw [g3]
      repeat' first
        | simp -dsimp (disch := omega) only [↓rulesA, rulesB, rulesC, Int.reduceLT, nth, upd, put, storeN, AV.one, Nat.reduceBEq, Nat.reduceBNe, Int.reduceBEq, Int.reduceBNe, Int.reduceLE, Int.reduceEq, Int.reduceMod, Int.reduceNeg, boolBin, strBin, intBin, unA, fillA, ne_eq, reduceCtorEq, Nat.reduceAdd, Nat.reduceSub, Nat.reduceLeDiff, Nat.reduceLT, Nat.reduceEqDiff, Int.reduceToNat, eq_self, rulesT, bne_self_eq_false, mm_min, mm_max, buOf_some, nilCheck_vp, nilCheck_ptr, nilCheck_yld, nilCheck_func, *]
        | (refine allK_intro fun n hn => ?_; try simp only [fresh_set] at hn)
        | (refine ifK_intro (fun h => ?_) (fun h => ?_) <;> (try simp only [decide_eq_true_eq, decide_eq_false_iff_not, Bool.not_eq_true', Bool.not_eq_false'] at h) <;> try (exfalso; (try simp only [beq_iff_eq, beq_eq_false_iff_ne, bne_iff_ne, bne_eq_false_iff_eq, ne_eq] at h); omega))
        | (refine keeps_sub (Mem.sub_set (by simp [Mem.set_at, nomem, *])) ?_)
      refine lit_vs (lit1_22 _) rfl ?_
      repeat' first
        | simp -dsimp (disch := omega) only [↓rulesA, rulesB, rulesC, Int.reduceLT, nth, upd, put, storeN, AV.one, Nat.reduceBEq, Nat.reduceBNe, Int.reduceBEq, Int.reduceBNe, Int.reduceLE, Int.reduceEq, Int.reduceMod, Int.reduceNeg, boolBin, strBin, intBin, unA, fillA, ne_eq, reduceCtorEq, Nat.reduceAdd, Nat.reduceSub, Nat.reduceLeDiff, Nat.reduceLT, Nat.reduceEqDiff, Int.reduceToNat, eq_self, rulesT, bne_self_eq_false, mm_min, mm_max, buOf_some, nilCheck_vp, nilCheck_ptr, nilCheck_yld, nilCheck_func, *]
        | (refine allK_intro fun n hn => ?_; try simp only [fresh_set] at hn)
        | (refine ifK_intro (fun h => ?_) (fun h => ?_) <;> (try simp only [decide_eq_true_eq, decide_eq_false_iff_not, Bool.not_eq_true', Bool.not_eq_false'] at h) <;> try (exfalso; (try simp only [beq_iff_eq, beq_eq_false_iff_ne, bne_iff_ne, bne_eq_false_iff_eq, ne_eq] at h); omega))
        | (refine keeps_sub (Mem.sub_set (by simp [Mem.set_at, nomem, *])) ?_)
      refine append_open app_22 (src_22 _ [s] _) (cs := ((txts L).map txC).flatten) (bt := 9) hM3 cs_9 (by rw [tx_len]; simp) (by show ((txts L).length + 1) * 16 ≤ _; omega) fun n4 hn4 => ?_
      have hm4 : m3 n4 = none := Mem.sub_none hsub' hn4
      have eL : List.drop 0 ((txts L).map txC).flatten ++ ([s].map txC).flatten = ((txts L').map txC).flatten := by rw [g4, List.map_append, List.flatten_append]; rfl
      have lL : (txts L').length = (txts L).length + 1 := by rw [g4, List.length_append]; rfl
      rw [eL]
      clear eL g3 g4 hfl hlaid hfew
      repeat' first
        | simp -dsimp (disch := omega) only [↓rulesA, rulesB, rulesC, Int.reduceLT, nth, upd, put, storeN, AV.one, Nat.reduceBEq, Nat.reduceBNe, Int.reduceBEq, Int.reduceBNe, Int.reduceLE, Int.reduceEq, Int.reduceMod, Int.reduceNeg, boolBin, strBin, intBin, unA, fillA, ne_eq, reduceCtorEq, Nat.reduceAdd, Nat.reduceSub, Nat.reduceLeDiff, Nat.reduceLT, Nat.reduceEqDiff, Int.reduceToNat, eq_self, rulesT, bne_self_eq_false, mm_min, mm_max, buOf_some, nilCheck_vp, nilCheck_ptr, nilCheck_yld, nilCheck_func, *]
        | (refine allK_intro fun n hn => ?_; try simp only [fresh_set] at hn)
        | (refine ifK_intro (fun h => ?_) (fun h => ?_) <;> (try simp only [decide_eq_true_eq, decide_eq_false_iff_not, Bool.not_eq_true', Bool.not_eq_false'] at h) <;> try (exfalso; (try simp only [beq_iff_eq, beq_eq_false_iff_ne, bne_iff_ne, bne_eq_false_iff_eq, ne_eq] at h); omega))
        | (refine keeps_sub (Mem.sub_set (by simp [Mem.set_at, nomem, *])) ?_)
      refine again_intro (a.length - (i + 1)) (by omega) (m3.set n4 (.cells true 9 ((txts L').map txC).flatten)) (Mem.set_mono (Mem.sub_del hsub' hm3)) ⟨i + 1, _, _, L', m3, N, n4, by omega, rfl, g1, hat', hm4, by omega, rfl, ?_, ?_, ?_, ?_, ?_, ?_, ?_, ?_, ?_, ?_⟩
      all_goals try (simp (disch := omega) only [nth_upd, pickB_true, pickB_false, inB_lt, upd_len, cast_succ, Int.cast_ofNat_Int, Nat.reduceBEq, beq_self_eq_true, reduceCtorEq, *]; done)
    · rw [g3]
      clear g3 hfl hlaid hfew
      repeat' first
        | simp -dsimp (disch := omega) only [↓rulesA, rulesB, rulesC, Int.reduceLT, nth, upd, put, storeN, AV.one, Nat.reduceBEq, Nat.reduceBNe, Int.reduceBEq, Int.reduceBNe, Int.reduceLE, Int.reduceEq, Int.reduceMod, Int.reduceNeg, boolBin, strBin, intBin, unA, fillA, ne_eq, reduceCtorEq, Nat.reduceAdd, Nat.reduceSub, Nat.reduceLeDiff, Nat.reduceLT, Nat.reduceEqDiff, Int.reduceToNat, eq_self, rulesT, bne_self_eq_false, mm_min, mm_max, buOf_some, nilCheck_vp, nilCheck_ptr, nilCheck_yld, nilCheck_func, *]
        | (refine allK_intro fun n hn => ?_; try simp only [fresh_set] at hn)
        | (refine ifK_intro (fun h => ?_) (fun h => ?_) <;> (try simp only [decide_eq_true_eq, decide_eq_false_iff_not, Bool.not_eq_true', Bool.not_eq_false'] at h) <;> try (exfalso; (try simp only [beq_iff_eq, beq_eq_false_iff_ne, bne_iff_ne, bne_eq_false_iff_eq, ne_eq] at h); omega))
        | (refine keeps_sub (Mem.sub_set (by simp [Mem.set_at, nomem, *])) ?_)
      refine again_intro (a.length - (i + 1)) (by omega) (m3.set nD (.cells true 9 ((txts L').map txC).flatten)) (Mem.set_sub hsub' hM3) ⟨i + 1, _, _, L', m3, N, nD, by omega, rfl, g1, hat', hm3, by omega, rfl, ?_, ?_, ?_, ?_, ?_, ?_, ?_, ?_, ?_, ?_⟩
      all_goals try (simp (disch := omega) only [nth_upd, pickB_true, pickB_false, inB_lt, upd_len, cast_succ, Int.cast_ofNat_Int, Nat.reduceBEq, beq_self_eq_true, reduceCtorEq, *]; done)
    · rw [g3]
      obtain ⟨md, hmd, hNd, rfl⟩ := hat'
      have hsd := (Mem.sub_set hNd).trans hsub'
      have hrun := again_run hfl g4 hn1' hn2' hfew
      clear hsub' g3
      generalize appD j d s.data.toList = d1 at *
      have hmd0 : md nD = none := by simp only [fresh_set] at hm3; exact hm3.2.2
      repeat' first
        | simp -dsimp (disch := omega) only [↓rulesA, rulesB, rulesC, Int.reduceLT, nth, upd, put, storeN, AV.one, Nat.reduceBEq, Nat.reduceBNe, Int.reduceBEq, Int.reduceBNe, Int.reduceLE, Int.reduceEq, Int.reduceMod, Int.reduceNeg, boolBin, strBin, intBin, unA, fillA, ne_eq, reduceCtorEq, Nat.reduceAdd, Nat.reduceSub, Nat.reduceLeDiff, Nat.reduceLT, Nat.reduceEqDiff, Int.reduceToNat, eq_self, rulesT, bne_self_eq_false, mm_min, mm_max, buOf_some, nilCheck_vp, nilCheck_ptr, nilCheck_yld, nilCheck_func, *]
        | (refine allK_intro fun n hn => ?_; try simp only [fresh_set] at hn)
        | (refine ifK_intro (fun h => ?_) (fun h => ?_) <;> (try simp only [decide_eq_true_eq, decide_eq_false_iff_not, Bool.not_eq_true', Bool.not_eq_false'] at h) <;> try (exfalso; (try simp only [beq_iff_eq, beq_eq_false_iff_ne, bne_iff_ne, bne_eq_false_iff_eq, ne_eq] at h); omega))
        | (refine keeps_sub (Mem.sub_set (by simp [Mem.set_at, nomem, *])) ?_)
      refine call_at (C17 d1 hlaid hmd) hsd fun r m5 M5 ⟨hr, hat5⟩ s5 l5 => ?_
      subst hr
      obtain ⟨hm5, hD5⟩ := l5 nD _ hmd0 hM3
      have hst : openT (onD d1) 0 n 1 = txts L := by unfold openT; rw [Nat.zero_add, g4]
      have c9 := C9_ok (onD d1) hfl.ok.some hfl.ok.most (by rw [hfl.list]; decide) hat5 0 n 1 hn1 (by rw [hfl.len]; omega) (by decide) (by decide) rfl
      rw [hst] at c9
      clear hst l5 hfl g4 hlaid hM3 hsd hmd hmd0 hm3
      generalize openJ (onD d1) 0 n 1 = j1 at *
      generalize onD d1 = d2 at *
      repeat' first
        | simp -dsimp (disch := omega) only [↓rulesA, rulesB, rulesC, Int.reduceLT, nth, upd, put, storeN, AV.one, Nat.reduceBEq, Nat.reduceBNe, Int.reduceBEq, Int.reduceBNe, Int.reduceLE, Int.reduceEq, Int.reduceMod, Int.reduceNeg, boolBin, strBin, intBin, unA, fillA, ne_eq, reduceCtorEq, Nat.reduceAdd, Nat.reduceSub, Nat.reduceLeDiff, Nat.reduceLT, Nat.reduceEqDiff, Int.reduceToNat, eq_self, rulesT, bne_self_eq_false, mm_min, mm_max, buOf_some, nilCheck_vp, nilCheck_ptr, nilCheck_yld, nilCheck_func, *]
        | (refine allK_intro fun n hn => ?_; try simp only [fresh_set] at hn)
        | (refine ifK_intro (fun h => ?_) (fun h => ?_) <;> (try simp only [decide_eq_true_eq, decide_eq_false_iff_not, Bool.not_eq_true', Bool.not_eq_false'] at h) <;> try (exfalso; (try simp only [beq_iff_eq, beq_eq_false_iff_ne, bne_iff_ne, bne_eq_false_iff_eq, ne_eq] at h); omega))
        | (refine keeps_sub (Mem.sub_set (by simp [Mem.set_at, nomem, *])) ?_)
      refine call_at c9 s5 fun r m6 M6 ⟨N6, q6, g1, g2, g3, hr, hm6⟩ s6 l6 => ?_
      subst hr
      have hD6 := (l6 nD _ hm5 hD5).2
      have hq6 : M6 q6 = some (.cells true 9 ((txts L).map txC).flatten) := s6 _ _ (by rw [hm6]; exact Mem.set_same _ _ _)
      clear l6 c9 hm5 hD5
      have f13 := F13 (txts L) (txts L) false false (by omega)
      rw [decide_eq_true rfl] at f13
      have sd := Seen.row txC (s := 1) (cap := (txts L).length) (fun _ => rfl) (txts L) hD6
      have sq := Seen.row txC (s := 1) (cap := (txts L).length) (fun _ => rfl) (txts L) hq6
      repeat' first
        | simp -dsimp (disch := omega) only [↓rulesA, rulesB, rulesC, Int.reduceLT, nth, upd, put, storeN, AV.one, Nat.reduceBEq, Nat.reduceBNe, Int.reduceBEq, Int.reduceBNe, Int.reduceLE, Int.reduceEq, Int.reduceMod, Int.reduceNeg, boolBin, strBin, intBin, unA, fillA, ne_eq, reduceCtorEq, Nat.reduceAdd, Nat.reduceSub, Nat.reduceLeDiff, Nat.reduceLT, Nat.reduceEqDiff, Int.reduceToNat, eq_self, rulesT, bne_self_eq_false, mm_min, mm_max, buOf_some, nilCheck_vp, nilCheck_ptr, nilCheck_yld, nilCheck_func, *]
        | (refine allK_intro fun n hn => ?_; try simp only [fresh_set] at hn)
        | (refine ifK_intro (fun h => ?_) (fun h => ?_) <;> (try simp only [decide_eq_true_eq, decide_eq_false_iff_not, Bool.not_eq_true', Bool.not_eq_false'] at h) <;> try (exfalso; (try simp only [beq_iff_eq, beq_eq_false_iff_ne, bne_iff_ne, bne_eq_false_iff_eq, ne_eq] at h); omega))
        | (refine keeps_sub (Mem.sub_set (by simp [Mem.set_at, nomem, *])) ?_)
        | (refine call_F (f13) (.two sq sd) ?_)
        | (refine pure_F (f13) (.two sq sd) ?_)
      clear f13 sd sq hD6 hq6
      subst hm6
      refine again_intro (a.length - (i + 1)) (by omega) _ s6 ⟨i + 1, d2, j1, L, _, N6, q6, by omega, rfl, hrun, ⟨m5, hat5, g1, rfl⟩, by simp [Mem.set_at, *, Ne.symm g3], by omega, rfl, ?_, ?_, ?_, ?_, ?_, ?_, ?_, ?_, ?_, ?_⟩
      all_goals try (simp (disch := omega) only [nth_upd, pickB_true, pickB_false, inB_lt, upd_len, cast_succ, Int.cast_ofNat_Int, Nat.reduceBEq, beq_self_eq_true, reduceCtorEq, *]; done)
  · repeat' first
      | simp -dsimp (disch := omega) only [↓rulesA, rulesB, rulesC, Int.reduceLT, nth, upd, put, storeN, AV.one, Nat.reduceBEq, Nat.reduceBNe, Int.reduceBEq, Int.reduceBNe, Int.reduceLE, Int.reduceEq, Int.reduceMod, Int.reduceNeg, boolBin, strBin, intBin, unA, fillA, ne_eq, reduceCtorEq, Nat.reduceAdd, Nat.reduceSub, Nat.reduceLeDiff, Nat.reduceLT, Nat.reduceEqDiff, Int.reduceToNat, eq_self, rulesT, bne_self_eq_false, mm_min, mm_max, buOf_some, nilCheck_vp, nilCheck_ptr, nilCheck_yld, nilCheck_func, *]
      | (refine allK_intro fun n hn => ?_; try simp only [fresh_set] at hn)
      | (refine ifK_intro (fun h => ?_) (fun h => ?_) <;> (try simp only [decide_eq_true_eq, decide_eq_false_iff_not, Bool.not_eq_true', Bool.not_eq_false'] at h) <;> try (exfalso; (try simp only [beq_iff_eq, beq_eq_false_iff_ne, bne_iff_ne, bne_eq_false_iff_eq, ne_eq] at h); omega))
      | (refine keeps_sub (Mem.sub_set (by simp [Mem.set_at, nomem, *])) ?_)
      | (refine call_F (F14) (Seens.refl _ _) ?_)
      | (refine pure_F (F14) (Seens.refl _ _) ?_)
    exact .val
theorem again_law : ∀ args, ShapedAll Try.prog Try.f6.params.toList args → F Try.prog 6 args (.val (.bool true)) := by
  intro args h
  have hp : Try.f6.params.toList = [3, 22, 41, 42] := by kernel_rfl
  rw [hp] at h
  match args, h with
  | [a, b, c, d], ⟨h0, h1, h2, h3, _⟩ =>
    obtain ⟨x, rfl, _⟩ := (h0.one ti_3 rfl).i64 ti_3 rfl
    obtain ⟨l, rfl, l1, l2⟩ := strs_of h1
    obtain ⟨cs, rfl, _⟩ := Shaped.rows intC (fun _ => True) ti_41 rfl ti_3 rfl (fun x hx hl => by
      match x, hl with
      | [c], _ => obtain ⟨y, rfl, _⟩ := Shaped.i64 ti_3 rfl hx; exact ⟨y, rfl, trivial⟩) (h2.one ti_41 rfl)
    obtain ⟨ps, rfl, _⟩ := Shaped.rows uC (fun _ => True) ti_42 rfl ti_23 rfl (fun x hx hl => by
      match x, hl with
      | [c], _ => obtain ⟨y, rfl, _⟩ := Shaped.u64 ti_23 rfl hx; exact ⟨y, rfl, trivial⟩) (h3.one ti_42 rfl)
    exact F6 x l cs ps l1 l2
end Go.Proofs.Ytlkeailgccbmbaa

