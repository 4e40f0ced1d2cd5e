/- Package 07: the awake example. -/
import Derived.Test.YtlkeailgccbmbaaM5
set_option maxRecDepth 100000
set_option maxHeartbeats 1000000
set_option linter.unusedSimpArgs false
set_option linter.unusedVariables false
namespace Go.Proofs.Ytlkeailgccbmbaa
open Go.Abs
attribute [local irreducible] C X CC Y CV CW binK litK AppK PureC PureCV againK loopV rangeV allK ifK got onB condK V stepsK planK opK firstK seeE keepsK

def longB : List UInt8 := List.replicate 50 0
theorem conv_long {m : Mem} {n : Nat} (h : m n = some (.cells false 5 (longB.map byteC).flatten)) : convA Try.prog m 44 9 (.sl n 0 50 50) = some (.val (.string ⟨longB.toArray⟩)) :=
  conv_own ti_44 rfl ti_9 rfl ti_5 rfl h longB (by rfl) (by rw [row_len1]; decide)
theorem mk_44 : mkSliceA Try.prog 44 (.val (.int .i64 50)) (.val (.int .i64 50)) = some (5, 50, 50, (longB.map byteC).flatten) := by
  simp only [mkSliceA, ti_44, ti_5, z_5]
  rw [if_pos ⟨by decide, by decide, by decide, by decide, rfl, by decide⟩]
  rfl
theorem fl_0 (a b : ByteArray) : ([txC a, txC b].flatten)[0]? = some (.val (.string a)) := rfl
theorem fl_1 (a b : ByteArray) : ([txC a, txC b].flatten)[1 * 1]? = some (.val (.string b)) := rfl
theorem F14 : F Try.prog 14 [] (.val (.bool true)) := by
  have i0 := new_inv (n := 8) (fr := 2) (cnt := 4) (by decide) (by decide) (by decide)
  have c8 := C8 8 (by decide) (by decide)
  refine F14_of ?_
  unfold k14
  repeat' first
    | simp -dsimp (disch := omega) only [↓rulesA, rulesB, rulesC, Int.reduceLT, nth, upd, put, storeN, AV.one, Nat.reduceBEq, Nat.reduceBNe, Int.reduceBEq, Int.reduceBNe, Int.reduceLE, Int.reduceEq, Int.reduceMod, Int.reduceNeg, boolBin, strBin, intBin, unA, fillA, ne_eq, reduceCtorEq, Nat.reduceAdd, Nat.reduceSub, Nat.reduceLeDiff, Nat.reduceLT, Nat.reduceEqDiff, Int.reduceToNat, eq_self, rulesT, bne_self_eq_false, mm_min, mm_max, buOf_some, nilCheck_vp, nilCheck_ptr, nilCheck_yld, nilCheck_func, *]
    | (refine allK_intro fun n hn => ?_; try simp only [fresh_set] at hn)
    | (refine ifK_intro (fun h => ?_) (fun h => ?_) <;> (try simp only [decide_eq_true_eq, decide_eq_false_iff_not, Bool.not_eq_true', Bool.not_eq_false'] at h) <;> try (exfalso; (try simp only [beq_iff_eq, beq_eq_false_iff_ne, bne_iff_ne, bne_eq_false_iff_eq, ne_eq] at h); omega))
    | (refine keeps_sub (Mem.sub_set (by simp [Mem.set_at, nomem, *])) ?_)
  refine call_C c8 fun r m1 ⟨N, hr, hat⟩ => ?_
  subst hr
  have c9 := C9_ok (newDev 8) i0.flat.ok.some i0.flat.ok.most (by decide) hat 2 4 1 (by decide) (by decide) (by decide) (by decide) rfl
  rw [(new_open (n := 8) (fr := 2) (cnt := 4) (by decide) (by decide)).1, (new_open (n := 8) (fr := 2) (cnt := 4) (by decide) (by decide)).2] at c9
  repeat' first
    | simp -dsimp (disch := omega) only [↓rulesA, rulesB, rulesC, Int.reduceLT, nth, upd, put, storeN, AV.one, Nat.reduceBEq, Nat.reduceBNe, Int.reduceBEq, Int.reduceBNe, Int.reduceLE, Int.reduceEq, Int.reduceMod, Int.reduceNeg, boolBin, strBin, intBin, unA, fillA, ne_eq, reduceCtorEq, Nat.reduceAdd, Nat.reduceSub, Nat.reduceLeDiff, Nat.reduceLT, Nat.reduceEqDiff, Int.reduceToNat, eq_self, rulesT, bne_self_eq_false, mm_min, mm_max, buOf_some, nilCheck_vp, nilCheck_ptr, nilCheck_yld, nilCheck_func, *]
    | (refine allK_intro fun n hn => ?_; try simp only [fresh_set] at hn)
    | (refine ifK_intro (fun h => ?_) (fun h => ?_) <;> (try simp only [decide_eq_true_eq, decide_eq_false_iff_not, Bool.not_eq_true', Bool.not_eq_false'] at h) <;> try (exfalso; (try simp only [beq_iff_eq, beq_eq_false_iff_ne, bne_iff_ne, bne_eq_false_iff_eq, ne_eq] at h); omega))
    | (refine keeps_sub (Mem.sub_set (by simp [Mem.set_at, nomem, *])) ?_)
  refine call_C c9 fun r m2 ⟨NJ, q, hN, hq, hNq, hr, hm⟩ => ?_
  subst hr hm
  repeat' first
    | simp -dsimp (disch := omega) only [↓rulesA, rulesB, rulesC, Int.reduceLT, nth, upd, put, storeN, AV.one, Nat.reduceBEq, Nat.reduceBNe, Int.reduceBEq, Int.reduceBNe, Int.reduceLE, Int.reduceEq, Int.reduceMod, Int.reduceNeg, boolBin, strBin, intBin, unA, fillA, ne_eq, reduceCtorEq, Nat.reduceAdd, Nat.reduceSub, Nat.reduceLeDiff, Nat.reduceLT, Nat.reduceEqDiff, Int.reduceToNat, eq_self, rulesT, bne_self_eq_false, mm_min, mm_max, buOf_some, nilCheck_vp, nilCheck_ptr, nilCheck_yld, nilCheck_func, *]
    | (refine allK_intro fun n hn => ?_; try simp only [fresh_set] at hn)
    | (refine ifK_intro (fun h => ?_) (fun h => ?_) <;> (try simp only [decide_eq_true_eq, decide_eq_false_iff_not, Bool.not_eq_true', Bool.not_eq_false'] at h) <;> try (exfalso; (try simp only [beq_iff_eq, beq_eq_false_iff_ne, bne_iff_ne, bne_eq_false_iff_eq, ne_eq] at h); omega))
    | (refine keeps_sub (Mem.sub_set (by simp [Mem.set_at, nomem, *])) ?_)
  have f15 := F15 ⟨2, 6, 2, 1, false⟩ (newDev 8) false false (by decide) (by decide)
  have hs1 := jseen (j := ⟨2, 6, 2, 1, false⟩) (N := NJ) hat (M := ((m1.set NJ (.cells false 36 ((⟨2, 6, 2, 1, false⟩ : Jour).own N))).set q (.cells true 9 [].flatten))) (by ((repeat' first | exact Mem.sub.refl _ | refine Mem.set_sub ?_ ?_ | refine Mem.sub_set_new ?_ ?_ | refine Mem.sub_del ?_ ?_) <;> simp [Mem.set_at, Mem.del_at, *])) (by simp [Mem.set_at, *])
  rw [show roomJ ⟨2, 6, 2, 1, false⟩ = 212 by decide] at f15
  have sh := fun m => text_hi ti_9 rfl m longB .i64 48 (by decide) (by decide)
  have f1 : ¬ fullJ ⟨2, 6, 2, 1, false⟩ [97] := by decide
  have a1 := i0.alive [97] rfl f1
  obtain ⟨i1, x1, s1⟩ := i0.done [97] (by decide) f1 a1
  repeat' first
    | simp -dsimp (disch := omega) only [↓rulesA, rulesB, rulesC, Int.reduceLT, nth, upd, put, storeN, AV.one, Nat.reduceBEq, Nat.reduceBNe, Int.reduceBEq, Int.reduceBNe, Int.reduceLE, Int.reduceEq, Int.reduceMod, Int.reduceNeg, boolBin, strBin, intBin, unA, fillA, ne_eq, reduceCtorEq, Nat.reduceAdd, Nat.reduceSub, Nat.reduceLeDiff, Nat.reduceLT, Nat.reduceEqDiff, Int.reduceToNat, eq_self, rulesT, bne_self_eq_false, mm_min, mm_max, buOf_some, nilCheck_vp, nilCheck_ptr, nilCheck_yld, nilCheck_func, mk_44, *]
    | (refine allK_intro fun n hn => ?_; try simp only [fresh_set] at hn)
    | (refine ifK_intro (fun h => ?_) (fun h => ?_) <;> (try simp only [decide_eq_true_eq, decide_eq_false_iff_not, Bool.not_eq_true', Bool.not_eq_false'] at h) <;> try (exfalso; (try simp only [beq_iff_eq, beq_eq_false_iff_ne, bne_iff_ne, bne_eq_false_iff_eq, ne_eq] at h); omega))
    | (refine keeps_sub (Mem.sub_set (by simp [Mem.set_at, nomem, *])) ?_)
    | (refine call_F (f15) (.one hs1) ?_)
    | (refine pure_F (f15) (.one hs1) ?_)
  rw [conv_long (Mem.set_same _ _ _)]
  have c10 := C10 (j := ⟨2, 6, 2, 1, false⟩) (d := newDev 8) ⟨m1, hat, hN, rfl⟩ i0.flat.ok (by decide) (by decide) (by decide) (by decide) (by decide) [97] (by decide)
  rw [x1] at c10
  clear hs1 f15
  repeat' first
    | simp -dsimp (disch := omega) only [↓rulesA, rulesB, rulesC, Int.reduceLT, nth, upd, put, storeN, AV.one, Nat.reduceBEq, Nat.reduceBNe, Int.reduceBEq, Int.reduceBNe, Int.reduceLE, Int.reduceEq, Int.reduceMod, Int.reduceNeg, boolBin, strBin, intBin, unA, fillA, ne_eq, reduceCtorEq, Nat.reduceAdd, Nat.reduceSub, Nat.reduceLeDiff, Nat.reduceLT, Nat.reduceEqDiff, Int.reduceToNat, eq_self, rulesT, bne_self_eq_false, mm_min, mm_max, buOf_some, nilCheck_vp, nilCheck_ptr, nilCheck_yld, nilCheck_func, *]
    | (refine allK_intro fun n hn => ?_; try simp only [fresh_set] at hn)
    | (refine ifK_intro (fun h => ?_) (fun h => ?_) <;> (try simp only [decide_eq_true_eq, decide_eq_false_iff_not, Bool.not_eq_true', Bool.not_eq_false'] at h) <;> try (exfalso; (try simp only [beq_iff_eq, beq_eq_false_iff_ne, bne_iff_ne, bne_eq_false_iff_eq, ne_eq] at h); omega))
    | (refine keeps_sub (Mem.sub_set (by simp [Mem.set_at, nomem, *])) ?_)
  refine call_at c10 (by ((repeat' first | exact Mem.sub.refl _ | refine Mem.set_sub ?_ ?_ | refine Mem.sub_set_new ?_ ?_ | refine Mem.sub_del ?_ ?_) <;> simp [Mem.set_at, Mem.del_at, *])) fun r m2 M2 ⟨hr, hj2⟩ s2 _ => ?_
  subst hr
  have w1 : Few (appD ⟨2, 6, 2, 1, false⟩ (newDev 8) [97]) 4096 := app_few (w := 0) ⟨Nat.le_refl _, Nat.le_refl _⟩ _ _ (by decide)
  have e1 : appJ ⟨2, 6, 2, 1, false⟩ (newDev 8) [97] = ⟨2, 6, 3, 2, false⟩ := by
    unfold appJ; rw [if_neg (by decide), if_neg (by decide), a1]; rfl
  rw [e1] at hj2 i1
  generalize appD ⟨2, 6, 2, 1, false⟩ (newDev 8) [97] = d1 at *
  have f2 : ¬ fullJ ⟨2, 6, 3, 2, false⟩ longB := by decide
  have a2 := i1.alive longB s1 f2
  obtain ⟨i2, x2, s2'⟩ := i1.done longB (by decide) f2 a2
  have e2 : appJ ⟨2, 6, 3, 2, false⟩ d1 longB = ⟨2, 6, 5, 3, false⟩ := by
    unfold appJ; rw [if_neg (by rw [i1.flat.live]; decide), if_neg (by decide), a2]; rfl
  have w2 := app_few w1 ⟨2, 6, 3, 2, false⟩ longB (by decide)
  have c10b := C10 hj2 i1.flat.ok (by rw [i1.flat.len]; decide) (by decide) (by decide) (by have := w1.w; omega) (by have := w1.f; omega) longB (by decide)
  rw [x2, e2] at c10b
  rw [e2] at i2
  generalize appD ⟨2, 6, 3, 2, false⟩ d1 longB = d2 at *
  clear c10 hat hN hq
  repeat' first
    | simp -dsimp (disch := omega) only [↓rulesA, rulesB, rulesC, Int.reduceLT, nth, upd, put, storeN, AV.one, Nat.reduceBEq, Nat.reduceBNe, Int.reduceBEq, Int.reduceBNe, Int.reduceLE, Int.reduceEq, Int.reduceMod, Int.reduceNeg, boolBin, strBin, intBin, unA, fillA, ne_eq, reduceCtorEq, Nat.reduceAdd, Nat.reduceSub, Nat.reduceLeDiff, Nat.reduceLT, Nat.reduceEqDiff, Int.reduceToNat, eq_self, rulesT, bne_self_eq_false, mm_min, mm_max, buOf_some, nilCheck_vp, nilCheck_ptr, nilCheck_yld, nilCheck_func, *]
    | (refine allK_intro fun n hn => ?_; try simp only [fresh_set] at hn)
    | (refine ifK_intro (fun h => ?_) (fun h => ?_) <;> (try simp only [decide_eq_true_eq, decide_eq_false_iff_not, Bool.not_eq_true', Bool.not_eq_false'] at h) <;> try (exfalso; (try simp only [beq_iff_eq, beq_eq_false_iff_ne, bne_iff_ne, bne_eq_false_iff_eq, ne_eq] at h); omega))
    | (refine keeps_sub (Mem.sub_set (by simp [Mem.set_at, nomem, *])) ?_)
    | (refine keeps_stab (by repeat' first | exact stabK_nil _ _ | refine stabK_cons ?_ ?_ | (simp (disch := omega) only [quietA, Option.isSome_some, ↓rulesA, rulesB, rulesC, Int.reduceLT, nth, upd, put, storeN, AV.one, Nat.reduceBEq, Nat.reduceBNe, Int.reduceBEq, Int.reduceBNe, Int.reduceLE, Int.reduceEq, Int.reduceMod, Int.reduceNeg, boolBin, strBin, intBin, unA, fillA, ne_eq, reduceCtorEq, Nat.reduceAdd, Nat.reduceSub, Nat.reduceLeDiff, Nat.reduceLT, Nat.reduceEqDiff, Int.reduceToNat, eq_self, rulesT, bne_self_eq_false, mm_min, mm_max, buOf_some, nilCheck_vp, nilCheck_ptr, nilCheck_yld, nilCheck_func, *]; done)) ?_)
  refine call_at c10b s2 fun r m3 M3 ⟨hr, hj3⟩ s3 _ => ?_
  subst hr
  have f3 : fullJ ⟨2, 6, 5, 3, false⟩ (longB.take 48) := by decide
  obtain ⟨y1, y2, y3⟩ := i2.full (longB.take 48) f3
  have c10c := C10 hj3 i2.flat.ok (by rw [i2.flat.len]; decide) (by decide) (by decide) (by have := w2.w; omega) (by have := w2.f; omega) (longB.take 48) (by decide)
  rw [y1, y2, y3] at c10c
  clear c10b hj2 y1 y2 y3
  repeat' first
    | simp -dsimp (disch := omega) only [↓rulesA, rulesB, rulesC, Int.reduceLT, nth, upd, put, storeN, AV.one, Nat.reduceBEq, Nat.reduceBNe, Int.reduceBEq, Int.reduceBNe, Int.reduceLE, Int.reduceEq, Int.reduceMod, Int.reduceNeg, boolBin, strBin, intBin, unA, fillA, ne_eq, reduceCtorEq, Nat.reduceAdd, Nat.reduceSub, Nat.reduceLeDiff, Nat.reduceLT, Nat.reduceEqDiff, Int.reduceToNat, eq_self, rulesT, bne_self_eq_false, mm_min, mm_max, buOf_some, nilCheck_vp, nilCheck_ptr, nilCheck_yld, nilCheck_func, *]
    | (refine allK_intro fun n hn => ?_; try simp only [fresh_set] at hn)
    | (refine ifK_intro (fun h => ?_) (fun h => ?_) <;> (try simp only [decide_eq_true_eq, decide_eq_false_iff_not, Bool.not_eq_true', Bool.not_eq_false'] at h) <;> try (exfalso; (try simp only [beq_iff_eq, beq_eq_false_iff_ne, bne_iff_ne, bne_eq_false_iff_eq, ne_eq] at h); omega))
    | (refine keeps_sub (Mem.sub_set (by simp [Mem.set_at, nomem, *])) ?_)
    | (refine keeps_stab (by repeat' first | exact stabK_nil _ _ | refine stabK_cons ?_ ?_ | (simp (disch := omega) only [quietA, Option.isSome_some, ↓rulesA, rulesB, rulesC, Int.reduceLT, nth, upd, put, storeN, AV.one, Nat.reduceBEq, Nat.reduceBNe, Int.reduceBEq, Int.reduceBNe, Int.reduceLE, Int.reduceEq, Int.reduceMod, Int.reduceNeg, boolBin, strBin, intBin, unA, fillA, ne_eq, reduceCtorEq, Nat.reduceAdd, Nat.reduceSub, Nat.reduceLeDiff, Nat.reduceLT, Nat.reduceEqDiff, Int.reduceToNat, eq_self, rulesT, bne_self_eq_false, mm_min, mm_max, buOf_some, nilCheck_vp, nilCheck_ptr, nilCheck_yld, nilCheck_func, *]; done)) ?_)
  refine call_at c10c s3 fun r m4 M4 ⟨hr, hj4⟩ s4 _ => ?_
  subst hr
  obtain ⟨md, hmd, hNJ, hm4⟩ := hj4
  repeat' first
    | simp -dsimp (disch := omega) only [↓rulesA, rulesB, rulesC, Int.reduceLT, nth, upd, put, storeN, AV.one, Nat.reduceBEq, Nat.reduceBNe, Int.reduceBEq, Int.reduceBNe, Int.reduceLE, Int.reduceEq, Int.reduceMod, Int.reduceNeg, boolBin, strBin, intBin, unA, fillA, ne_eq, reduceCtorEq, Nat.reduceAdd, Nat.reduceSub, Nat.reduceLeDiff, Nat.reduceLT, Nat.reduceEqDiff, Int.reduceToNat, eq_self, rulesT, bne_self_eq_false, mm_min, mm_max, buOf_some, nilCheck_vp, nilCheck_ptr, nilCheck_yld, nilCheck_func, *]
    | (refine allK_intro fun n hn => ?_; try simp only [fresh_set] at hn)
    | (refine ifK_intro (fun h => ?_) (fun h => ?_) <;> (try simp only [decide_eq_true_eq, decide_eq_false_iff_not, Bool.not_eq_true', Bool.not_eq_false'] at h) <;> try (exfalso; (try simp only [beq_iff_eq, beq_eq_false_iff_ne, bne_iff_ne, bne_eq_false_iff_eq, ne_eq] at h); omega))
    | (refine keeps_sub (Mem.sub_set (by simp [Mem.set_at, nomem, *])) ?_)
    | (refine keeps_stab (by repeat' first | exact stabK_nil _ _ | refine stabK_cons ?_ ?_ | (simp (disch := omega) only [quietA, Option.isSome_some, ↓rulesA, rulesB, rulesC, Int.reduceLT, nth, upd, put, storeN, AV.one, Nat.reduceBEq, Nat.reduceBNe, Int.reduceBEq, Int.reduceBNe, Int.reduceLE, Int.reduceEq, Int.reduceMod, Int.reduceNeg, boolBin, strBin, intBin, unA, fillA, ne_eq, reduceCtorEq, Nat.reduceAdd, Nat.reduceSub, Nat.reduceLeDiff, Nat.reduceLT, Nat.reduceEqDiff, Int.reduceToNat, eq_self, rulesT, bne_self_eq_false, mm_min, mm_max, buOf_some, nilCheck_vp, nilCheck_ptr, nilCheck_yld, nilCheck_func, *]; done)) ?_)
  have hst : openT d2 2 4 1 = [⟨[97].toArray⟩, ⟨longB.toArray⟩] := by
    have h : stand 6 d2 6 2 1 = _ := i2.stand
    unfold openT; rw [h]; rfl
  have c9b := C9_ok d2 i2.flat.ok.some i2.flat.ok.most (by rw [i2.flat.list]; decide) hmd 2 4 1 (by decide) (by rw [i2.flat.len]; decide) (by decide) (by decide) i2.flat.live
  rw [hst] at c9b
  clear hst c10c
  subst hm4
  have hsd : md.sub M4 := (Mem.sub_set hNJ).trans s4
  have hM4 : M4 NJ = some (.cells false 36 ((⟨2, 6, 5, 3, false⟩ : Jour).own N)) := s4 _ _ (Mem.set_same _ _ _)
  refine call_at c9b hsd fun r m5 M5 ⟨N5, q5, g1, g2, g3, hr, hm5⟩ s5 l5 => ?_
  subst hr
  obtain ⟨_, hM5⟩ := l5 NJ _ hNJ hM4
  have hq5 : M5 q5 = some (.cells true 9 ([(⟨[97].toArray⟩ : ByteArray), ⟨longB.toArray⟩].map txC).flatten) := s5 _ _ (by rw [hm5]; exact Mem.set_same _ _ _)
  have hsd5 : md.sub M5 := by
    refine Mem.sub.trans ?_ s5
    rw [hm5]
    ((repeat' first | exact Mem.sub.refl _ | refine Mem.set_sub ?_ ?_ | refine Mem.sub_set_new ?_ ?_ | refine Mem.sub_del ?_ ?_) <;> simp [Mem.set_at, Mem.del_at, *])
  have hs5 := jseen (j := ⟨2, 6, 5, 3, false⟩) (N := NJ) hmd hsd5 hM5
  have f15 := F15 ⟨2, 6, 5, 3, false⟩ d2 false false (by decide) (by decide)
  rw [show roomJ ⟨2, 6, 5, 3, false⟩ = 47 by decide] at f15
  have n2 := F29 102 (by decide)
  have n3 := F29 103 (by decide)
  rw [show needN 102 = 2 by decide] at n2
  rw [show needN 103 = 3 by decide] at n3
  clear l5 hm5 hsd5 c9b hM4 hsd s5 hj3
  repeat' first
    | simp -dsimp (disch := omega) only [↓rulesA, rulesB, rulesC, Int.reduceLT, nth, upd, put, storeN, AV.one, Nat.reduceBEq, Nat.reduceBNe, Int.reduceBEq, Int.reduceBNe, Int.reduceLE, Int.reduceEq, Int.reduceMod, Int.reduceNeg, boolBin, strBin, intBin, unA, fillA, ne_eq, reduceCtorEq, Nat.reduceAdd, Nat.reduceSub, Nat.reduceLeDiff, Nat.reduceLT, Nat.reduceEqDiff, Int.reduceToNat, eq_self, rulesT, bne_self_eq_false, mm_min, mm_max, buOf_some, nilCheck_vp, nilCheck_ptr, nilCheck_yld, nilCheck_func, text_inj, fl_0, fl_1, decide_true, beq_self_eq_true, *]
    | (refine allK_intro fun n hn => ?_; try simp only [fresh_set] at hn)
    | (refine ifK_intro (fun h => ?_) (fun h => ?_) <;> (try simp only [decide_eq_true_eq, decide_eq_false_iff_not, Bool.not_eq_true', Bool.not_eq_false'] at h) <;> try (exfalso; (try simp only [beq_iff_eq, beq_eq_false_iff_ne, bne_iff_ne, bne_eq_false_iff_eq, ne_eq] at h); omega))
    | (refine keeps_sub (Mem.sub_set (by simp [Mem.set_at, nomem, *])) ?_)
    | (refine call_F (f15) (.one hs5) ?_)
    | (refine pure_F (f15) (.one hs5) ?_)
    | (refine call_F (n2) (Seens.refl _ _) ?_)
    | (refine pure_F (n2) (Seens.refl _ _) ?_)
    | (refine call_F (n3) (Seens.refl _ _) ?_)
    | (refine pure_F (n3) (Seens.refl _ _) ?_)
  exact .val
end Go.Proofs.Ytlkeailgccbmbaa


/- Package 07: the law JournalNobody: a journal that nobody opened does nothing. Any rec, any choice of the two. -/
set_option maxRecDepth 100000
set_option maxHeartbeats 1000000
set_option linter.unusedSimpArgs false
set_option linter.unusedVariables false
namespace Go.Proofs.Ytlkeailgccbmbaa
open Go.Abs
attribute [local irreducible] C X CC Y CV CW binK litK AppK PureC PureCV againK loopV rangeV allK ifK got onB condK V stepsK planK opK firstK seeE keepsK

def noJ : List AV := [.val (.pointer none), .val (.int .i64 0), .val (.int .i64 0), .val (.int .i64 0), .val (.int .i64 0), .val (.bool false)]
def IsNo (z : AV) : Prop := z = .val (.pointer none) ∨ z = .vp noJ 0
theorem no_0 : noJ[0]? = some (.val (.pointer none)) := rfl
theorem N35 (z : AV) (h : IsNo z) : F Try.prog 35 [z] (.val (.bool true)) := by
  refine F35_of ?_
  unfold k35
  rcases h with rfl | rfl
  all_goals
    repeat' first
      | simp -dsimp (disch := omega) only [↓rulesA, rulesB, rulesC, Int.reduceLT, nth, upd, put, storeN, AV.one, Nat.reduceBEq, Nat.reduceBNe, Int.reduceBEq, Int.reduceBNe, Int.reduceLE, Int.reduceEq, Int.reduceMod, Int.reduceNeg, boolBin, strBin, intBin, unA, fillA, ne_eq, reduceCtorEq, Nat.reduceAdd, Nat.reduceSub, Nat.reduceLeDiff, Nat.reduceLT, Nat.reduceEqDiff, Int.reduceToNat, eq_self, rulesT, bne_self_eq_false, mm_min, mm_max, buOf_some, nilCheck_vp, nilCheck_ptr, nilCheck_yld, nilCheck_func, no_0, *]
      | (refine allK_intro fun n hn => ?_; try simp only [fresh_set] at hn)
      | (refine ifK_intro (fun h => ?_) (fun h => ?_) <;> (try simp only [decide_eq_true_eq, decide_eq_false_iff_not, Bool.not_eq_true', Bool.not_eq_false'] at h) <;> try (exfalso; (try simp only [beq_iff_eq, beq_eq_false_iff_ne, bne_iff_ne, bne_eq_false_iff_eq, ne_eq] at h); omega))
      | (refine keeps_sub (Mem.sub_set (by simp [Mem.set_at, nomem, *])) ?_)
    exact .val
theorem N10 (z : AV) (h : IsNo z) (s : ByteArray) : F Try.prog 10 [z, .val (.string s)] (.val (.int .i64 22)) := by
  refine F10_of ?_
  unfold k10
  repeat' first
    | simp -dsimp (disch := omega) only [↓rulesA, rulesB, rulesC, Int.reduceLT, nth, upd, put, storeN, AV.one, Nat.reduceBEq, Nat.reduceBNe, Int.reduceBEq, Int.reduceBNe, Int.reduceLE, Int.reduceEq, Int.reduceMod, Int.reduceNeg, boolBin, strBin, intBin, unA, fillA, ne_eq, reduceCtorEq, Nat.reduceAdd, Nat.reduceSub, Nat.reduceLeDiff, Nat.reduceLT, Nat.reduceEqDiff, Int.reduceToNat, eq_self, rulesT, bne_self_eq_false, mm_min, mm_max, buOf_some, nilCheck_vp, nilCheck_ptr, nilCheck_yld, nilCheck_func, *]
    | (refine allK_intro fun n hn => ?_; try simp only [fresh_set] at hn)
    | (refine ifK_intro (fun h => ?_) (fun h => ?_) <;> (try simp only [decide_eq_true_eq, decide_eq_false_iff_not, Bool.not_eq_true', Bool.not_eq_false'] at h) <;> try (exfalso; (try simp only [beq_iff_eq, beq_eq_false_iff_ne, bne_iff_ne, bne_eq_false_iff_eq, ne_eq] at h); omega))
    | (refine keeps_sub (Mem.sub_set (by simp [Mem.set_at, nomem, *])) ?_)
    | (refine call_F (N35 z h) (Seens.refl _ _) ?_)
    | (refine pure_F (N35 z h) (Seens.refl _ _) ?_)
  exact .val
theorem N11 (z : AV) (h : IsNo z) : F Try.prog 11 [z] (.tup []) := by
  refine F11_of ?_
  unfold k11
  repeat' first
    | simp -dsimp (disch := omega) only [↓rulesA, rulesB, rulesC, Int.reduceLT, nth, upd, put, storeN, AV.one, Nat.reduceBEq, Nat.reduceBNe, Int.reduceBEq, Int.reduceBNe, Int.reduceLE, Int.reduceEq, Int.reduceMod, Int.reduceNeg, boolBin, strBin, intBin, unA, fillA, ne_eq, reduceCtorEq, Nat.reduceAdd, Nat.reduceSub, Nat.reduceLeDiff, Nat.reduceLT, Nat.reduceEqDiff, Int.reduceToNat, eq_self, rulesT, bne_self_eq_false, mm_min, mm_max, buOf_some, nilCheck_vp, nilCheck_ptr, nilCheck_yld, nilCheck_func, *]
    | (refine allK_intro fun n hn => ?_; try simp only [fresh_set] at hn)
    | (refine ifK_intro (fun h => ?_) (fun h => ?_) <;> (try simp only [decide_eq_true_eq, decide_eq_false_iff_not, Bool.not_eq_true', Bool.not_eq_false'] at h) <;> try (exfalso; (try simp only [beq_iff_eq, beq_eq_false_iff_ne, bne_iff_ne, bne_eq_false_iff_eq, ne_eq] at h); omega))
    | (refine keeps_sub (Mem.sub_set (by simp [Mem.set_at, nomem, *])) ?_)
    | (refine call_F (N35 z h) (Seens.refl _ _) ?_)
    | (refine pure_F (N35 z h) (Seens.refl _ _) ?_)
  exact New.eq rfl rfl
theorem N12 (z : AV) (h : IsNo z) : F Try.prog 12 [z] (.val (.int .i64 0)) := by
  refine F12_of ?_
  unfold k12
  repeat' first
    | simp -dsimp (disch := omega) only [↓rulesA, rulesB, rulesC, Int.reduceLT, nth, upd, put, storeN, AV.one, Nat.reduceBEq, Nat.reduceBNe, Int.reduceBEq, Int.reduceBNe, Int.reduceLE, Int.reduceEq, Int.reduceMod, Int.reduceNeg, boolBin, strBin, intBin, unA, fillA, ne_eq, reduceCtorEq, Nat.reduceAdd, Nat.reduceSub, Nat.reduceLeDiff, Nat.reduceLT, Nat.reduceEqDiff, Int.reduceToNat, eq_self, rulesT, bne_self_eq_false, mm_min, mm_max, buOf_some, nilCheck_vp, nilCheck_ptr, nilCheck_yld, nilCheck_func, *]
    | (refine allK_intro fun n hn => ?_; try simp only [fresh_set] at hn)
    | (refine ifK_intro (fun h => ?_) (fun h => ?_) <;> (try simp only [decide_eq_true_eq, decide_eq_false_iff_not, Bool.not_eq_true', Bool.not_eq_false'] at h) <;> try (exfalso; (try simp only [beq_iff_eq, beq_eq_false_iff_ne, bne_iff_ne, bne_eq_false_iff_eq, ne_eq] at h); omega))
    | (refine keeps_sub (Mem.sub_set (by simp [Mem.set_at, nomem, *])) ?_)
    | (refine call_F (N35 z h) (Seens.refl _ _) ?_)
    | (refine pure_F (N35 z h) (Seens.refl _ _) ?_)
  exact .val
theorem N15 (z : AV) (h : IsNo z) : F Try.prog 15 [z] (.val (.int .i64 (-1))) := by
  refine F15_of ?_
  unfold k15
  repeat' first
    | simp -dsimp (disch := omega) only [↓rulesA, rulesB, rulesC, Int.reduceLT, nth, upd, put, storeN, AV.one, Nat.reduceBEq, Nat.reduceBNe, Int.reduceBEq, Int.reduceBNe, Int.reduceLE, Int.reduceEq, Int.reduceMod, Int.reduceNeg, boolBin, strBin, intBin, unA, fillA, ne_eq, reduceCtorEq, Nat.reduceAdd, Nat.reduceSub, Nat.reduceLeDiff, Nat.reduceLT, Nat.reduceEqDiff, Int.reduceToNat, eq_self, rulesT, bne_self_eq_false, mm_min, mm_max, buOf_some, nilCheck_vp, nilCheck_ptr, nilCheck_yld, nilCheck_func, *]
    | (refine allK_intro fun n hn => ?_; try simp only [fresh_set] at hn)
    | (refine ifK_intro (fun h => ?_) (fun h => ?_) <;> (try simp only [decide_eq_true_eq, decide_eq_false_iff_not, Bool.not_eq_true', Bool.not_eq_false'] at h) <;> try (exfalso; (try simp only [beq_iff_eq, beq_eq_false_iff_ne, bne_iff_ne, bne_eq_false_iff_eq, ne_eq] at h); omega))
    | (refine keeps_sub (Mem.sub_set (by simp [Mem.set_at, nomem, *])) ?_)
    | (refine call_F (N35 z h) (Seens.refl _ _) ?_)
    | (refine pure_F (N35 z h) (Seens.refl _ _) ?_)
  exact .val
theorem F4 (b : Bool) (s : ByteArray) : F Try.prog 4 [.val (.bool b), .val (.string s)] (.val (.bool true)) := by
  refine F4_of ?_
  unfold k4
  rcases b
  · have h : IsNo (.vp noJ 0) := .inr rfl
    repeat' first
      | simp -dsimp (disch := omega) only [↓rulesA, rulesB, rulesC, Int.reduceLT, nth, upd, put, storeN, AV.one, Nat.reduceBEq, Nat.reduceBNe, Int.reduceBEq, Int.reduceBNe, Int.reduceLE, Int.reduceEq, Int.reduceMod, Int.reduceNeg, boolBin, strBin, intBin, unA, fillA, ne_eq, reduceCtorEq, Nat.reduceAdd, Nat.reduceSub, Nat.reduceLeDiff, Nat.reduceLT, Nat.reduceEqDiff, Int.reduceToNat, eq_self, rulesT, bne_self_eq_false, mm_min, mm_max, buOf_some, nilCheck_vp, nilCheck_ptr, nilCheck_yld, nilCheck_func, *]
      | (refine allK_intro fun n hn => ?_; try simp only [fresh_set] at hn)
      | (refine ifK_intro (fun h => ?_) (fun h => ?_) <;> (try simp only [decide_eq_true_eq, decide_eq_false_iff_not, Bool.not_eq_true', Bool.not_eq_false'] at h) <;> try (exfalso; (try simp only [beq_iff_eq, beq_eq_false_iff_ne, bne_iff_ne, bne_eq_false_iff_eq, ne_eq] at h); omega))
      | (refine keeps_sub (Mem.sub_set (by simp [Mem.set_at, nomem, *])) ?_)
    have hs : Seen (nomem.set n (.cells false 36 noJ)) (.ptr n 0) (.vp noJ 0) := Seen.ptrOf (Mem.set_same _ _ _) (Nat.zero_lt_succ _) (Seens.refl _ _)
    unfold noJ at hs h
    repeat' first
      | simp -dsimp (disch := omega) only [↓rulesA, rulesB, rulesC, Int.reduceLT, nth, upd, put, storeN, AV.one, Nat.reduceBEq, Nat.reduceBNe, Int.reduceBEq, Int.reduceBNe, Int.reduceLE, Int.reduceEq, Int.reduceMod, Int.reduceNeg, boolBin, strBin, intBin, unA, fillA, ne_eq, reduceCtorEq, Nat.reduceAdd, Nat.reduceSub, Nat.reduceLeDiff, Nat.reduceLT, Nat.reduceEqDiff, Int.reduceToNat, eq_self, rulesT, bne_self_eq_false, mm_min, mm_max, buOf_some, nilCheck_vp, nilCheck_ptr, nilCheck_yld, nilCheck_func, *]
      | (refine allK_intro fun n hn => ?_; try simp only [fresh_set] at hn)
      | (refine ifK_intro (fun h => ?_) (fun h => ?_) <;> (try simp only [decide_eq_true_eq, decide_eq_false_iff_not, Bool.not_eq_true', Bool.not_eq_false'] at h) <;> try (exfalso; (try simp only [beq_iff_eq, beq_eq_false_iff_ne, bne_iff_ne, bne_eq_false_iff_eq, ne_eq] at h); omega))
      | (refine keeps_sub (Mem.sub_set (by simp [Mem.set_at, nomem, *])) ?_)
      | (refine call_F (N10 _ h _) (.two hs .same) ?_)
      | (refine pure_F (N10 _ h _) (.two hs .same) ?_)
      | (refine call_F (N11 _ h) (.one hs) ?_)
      | (refine pure_F (N11 _ h) (.one hs) ?_)
      | (refine call_F (N12 _ h) (.one hs) ?_)
      | (refine pure_F (N12 _ h) (.one hs) ?_)
      | (refine call_F (N15 _ h) (.one hs) ?_)
      | (refine pure_F (N15 _ h) (.one hs) ?_)
      | (refine call_F (F14) (Seens.refl _ _) ?_)
      | (refine pure_F (F14) (Seens.refl _ _) ?_)
    exact .val
  · have h : IsNo (.val (.pointer none)) := .inl rfl
    repeat' first
      | simp -dsimp (disch := omega) only [↓rulesA, rulesB, rulesC, Int.reduceLT, nth, upd, put, storeN, AV.one, Nat.reduceBEq, Nat.reduceBNe, Int.reduceBEq, Int.reduceBNe, Int.reduceLE, Int.reduceEq, Int.reduceMod, Int.reduceNeg, boolBin, strBin, intBin, unA, fillA, ne_eq, reduceCtorEq, Nat.reduceAdd, Nat.reduceSub, Nat.reduceLeDiff, Nat.reduceLT, Nat.reduceEqDiff, Int.reduceToNat, eq_self, rulesT, bne_self_eq_false, mm_min, mm_max, buOf_some, nilCheck_vp, nilCheck_ptr, nilCheck_yld, nilCheck_func, *]
      | (refine allK_intro fun n hn => ?_; try simp only [fresh_set] at hn)
      | (refine ifK_intro (fun h => ?_) (fun h => ?_) <;> (try simp only [decide_eq_true_eq, decide_eq_false_iff_not, Bool.not_eq_true', Bool.not_eq_false'] at h) <;> try (exfalso; (try simp only [beq_iff_eq, beq_eq_false_iff_ne, bne_iff_ne, bne_eq_false_iff_eq, ne_eq] at h); omega))
      | (refine keeps_sub (Mem.sub_set (by simp [Mem.set_at, nomem, *])) ?_)
      | (refine call_F (N10 _ h _) (Seens.refl _ _) ?_)
      | (refine pure_F (N10 _ h _) (Seens.refl _ _) ?_)
      | (refine call_F (N11 _ h) (Seens.refl _ _) ?_)
      | (refine pure_F (N11 _ h) (Seens.refl _ _) ?_)
      | (refine call_F (N12 _ h) (Seens.refl _ _) ?_)
      | (refine pure_F (N12 _ h) (Seens.refl _ _) ?_)
      | (refine call_F (N15 _ h) (Seens.refl _ _) ?_)
      | (refine pure_F (N15 _ h) (Seens.refl _ _) ?_)
      | (refine call_F (F14) (Seens.refl _ _) ?_)
      | (refine pure_F (F14) (Seens.refl _ _) ?_)
    exact .val
theorem nobody_law : ∀ args, ShapedAll Try.prog Try.f4.params.toList args → F Try.prog 4 args (.val (.bool true)) := by
  intro args h
  have hp : Try.f4.params.toList = [4, 9] := by kernel_rfl
  rw [hp] at h
  match args, h with
  | [a, b], ⟨h0, h1, _⟩ =>
    obtain ⟨x, rfl⟩ := (h0.one ti_4 rfl).boo ti_4 rfl
    obtain ⟨s, rfl, _⟩ := (h1.one ti_9 rfl).str ti_9 rfl
    exact F4 x s
end Go.Proofs.Ytlkeailgccbmbaa

