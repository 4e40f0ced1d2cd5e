/- Package 05: the reference's device: losing, flushing. -/
import Derived.Test.YtkfjjjjejdogbaaD15
set_option maxRecDepth 100000
set_option maxHeartbeats 1000000
set_option linter.unusedSimpArgs false
set_option linter.unusedVariables false
namespace Go.Proofs.Ytkfjjjjejdogbaa
open Go.Abs
attribute [local irreducible] C X CC Y CV CW binK litK AppK PureC PureCV againK loopV rangeV allK ifK got onB condK V stepsK planK opK firstK seeE keepsK

theorem wrapbit (i : Nat) : IntKind.u64.wrap ((i % 64 : Nat) : Int) = ((i % 64 : Nat) : Int) := IntWalk.u64_in _ (by omega)
/-- The device behind i sectors of the cache laid down. -/
def midD (d : Dev) (b : Nat → Bool) (i : Nat) : Dev := { d with laid := layTo d.list b d.laid i }
theorem C32 (d : Dev) (hok : d.Ok) {N : Nat} {m : Mem} (hat : d.RAt N m) (p : Int) : C Try.prog 32 [.ptr N 0, .val (.int .u64 p)] m (fun r m' => r = .tup [] ∧ (loseD d p).RAt N m') := by
  have hl := hok.list
  have hm := hok.most
  have hat0 := hat
  refine C.turn (C32_of ?_)
  unfold k32
  rcases hdd : d.dead
  · obtain ⟨nC, nD, pk, h1, h2, h3, h4, rfl⟩ := hat
    unfold Dev.rmem
    repeat' first
      | simp -dsimp (disch := omega) only [↓rulesA, rulesB, rulesC, Int.reduceLT, nth, upd, put, storeN, AV.one, Nat.reduceBEq, Nat.reduceBNe, Int.reduceBEq, Int.reduceBNe, Int.reduceLE, Int.reduceEq, Int.reduceMod, Int.reduceNeg, boolBin, strBin, intBin, unA, fillA, ne_eq, reduceCtorEq, Nat.reduceAdd, Nat.reduceSub, Nat.reduceLeDiff, Nat.reduceLT, Nat.reduceEqDiff, Int.reduceToNat, eq_self, rulesT, bne_self_eq_false, mm_min, mm_max, buOf_some, nilCheck_vp, nilCheck_ptr, nilCheck_yld, nilCheck_func, Dev.rrow, Dev.ro, Dev.t4, Dev.p0, Dev.p1, Dev.p2, Dev.p3, Dev.p4, Dev.p5, Dev.p6, Dev.p7, Dev.plen, Dev.t2, Dev.t3, Dev.t5, Dev.t6, Dev.t7, *]
      | (refine allK_intro fun n hn => ?_; try simp only [fresh_set] at hn)
      | (refine ifK_intro (fun h => ?_) (fun h => ?_) <;> (try simp only [decide_eq_true_eq, decide_eq_false_iff_not, Bool.not_eq_true', Bool.not_eq_false'] at h) <;> try (exfalso; (try simp only [beq_iff_eq, beq_eq_false_iff_ne, bne_iff_ne, bne_eq_false_iff_eq, ne_eq] at h); omega))
      | (refine keeps_sub (Mem.sub_set (by simp [Mem.set_at, nomem, *])) ?_)
    refine loop_intro (fun j env m => ∃ i : Nat, i ≤ d.list.length ∧ j = d.list.length - i ∧ (∃ mI, (midD d (bitAt p) i).RAt N mI ∧ mI.sub m) ∧ env.length = 50 ∧ nth env 0 = .ptr N 0 ∧ nth env 1 = .val (.int .u64 p) ∧ nth env 4 = .val (.int .i64 i)) d.list.length _ (Mem.sub.refl _) ⟨0, by omega, by omega, ⟨_, ⟨nC, nD, pk, h1, h2, h3, h4, rfl⟩, Mem.sub.refl _⟩, rfl, rfl, rfl, rfl⟩ ?_
    clear hat0 h1 h2 h3 h4
    rintro j env m ⟨i, hi, rfl, ⟨mI, hat, hsub⟩, hlen, e0, e1, e4⟩
    have hat0 := hat
    obtain ⟨nC, nD, pk, h1, h2, h3, h4, rfl⟩ := hat
    have a1 : m N = some (.cells false 73 ((midD d (bitAt p) i).ro nD (.sl nC 0 d.list.length d.list.length) pk)) := hsub _ _ (Mem.set_same _ _ _)
    have a2 : m nC = some (.cells true 81 (d.list.map slotC).flatten) := hsub _ _ ((Mem.set_ne _ _ (Ne.symm h1)).trans (Mem.set_same _ _ _))
    repeat' first
      | simp -dsimp (disch := omega) only [↓rulesA, rulesB, rulesC, Int.reduceLT, nth, upd, put, storeN, AV.one, Nat.reduceBEq, Nat.reduceBNe, Int.reduceBEq, Int.reduceBNe, Int.reduceLE, Int.reduceEq, Int.reduceMod, Int.reduceNeg, boolBin, strBin, intBin, unA, fillA, ne_eq, reduceCtorEq, Nat.reduceAdd, Nat.reduceSub, Nat.reduceLeDiff, Nat.reduceLT, Nat.reduceEqDiff, Int.reduceToNat, eq_self, rulesT, bne_self_eq_false, mm_min, mm_max, buOf_some, nilCheck_vp, nilCheck_ptr, nilCheck_yld, nilCheck_func, Dev.rrow, Dev.ro, Dev.t4, Dev.p0, Dev.p1, Dev.p2, Dev.p3, Dev.p4, Dev.p5, Dev.p6, Dev.p7, Dev.plen, Dev.t2, Dev.t3, Dev.t5, Dev.t6, Dev.t7, Slot.len, Slot.rat0, Slot.rat1, Slot.rin, Slot.rin1, Slot.rpart, Slot.rset1, Slot.slen, Slot.all, Slot.g0, Slot.g1, Slot.take, tmod64, natNeg, wrapbit, *]
      | (refine allK_intro fun n hn => ?_; try simp only [fresh_set] at hn)
      | (refine ifK_intro (fun h => ?_) (fun h => ?_) <;> (try simp only [decide_eq_true_eq, decide_eq_false_iff_not, Bool.not_eq_true', Bool.not_eq_false'] at h) <;> try (exfalso; (try simp only [beq_iff_eq, beq_eq_false_iff_ne, bne_iff_ne, bne_eq_false_iff_eq, ne_eq] at h); omega))
      | (refine keeps_sub (Mem.sub_set (by simp [Mem.set_at, nomem, *])) ?_)
    · have hil : i < d.list.length := by omega
      refine call_at (C42 (midD d (bitAt p) i) (d.list.getD i default) (by show _ < (layTo _ _ _ i).length; rw [layTo_len]; exact at_lt hok hil) (by show (layTo _ _ _ i).length ≤ _; rw [layTo_len]; exact hm) hat0) hsub fun r m1 M1 ⟨hr, hat'⟩ hsub' _ => ?_
      subst hr
      clear a1 a2 hat0
      repeat' first
        | simp -dsimp (disch := omega) only [↓rulesA, rulesB, rulesC, Int.reduceLT, nth, upd, put, storeN, AV.one, Nat.reduceBEq, Nat.reduceBNe, Int.reduceBEq, Int.reduceBNe, Int.reduceLE, Int.reduceEq, Int.reduceMod, Int.reduceNeg, boolBin, strBin, intBin, unA, fillA, ne_eq, reduceCtorEq, Nat.reduceAdd, Nat.reduceSub, Nat.reduceLeDiff, Nat.reduceLT, Nat.reduceEqDiff, Int.reduceToNat, eq_self, rulesT, bne_self_eq_false, mm_min, mm_max, buOf_some, nilCheck_vp, nilCheck_ptr, nilCheck_yld, nilCheck_func, *]
        | (refine allK_intro fun n hn => ?_; try simp only [fresh_set] at hn)
        | (refine ifK_intro (fun h => ?_) (fun h => ?_) <;> (try simp only [decide_eq_true_eq, decide_eq_false_iff_not, Bool.not_eq_true', Bool.not_eq_false'] at h) <;> try (exfalso; (try simp only [beq_iff_eq, beq_eq_false_iff_ne, bne_iff_ne, bne_eq_false_iff_eq, ne_eq] at h); omega))
        | (refine keeps_sub (Mem.sub_set (by simp [Mem.set_at, nomem, *])) ?_)
      refine again_intro (d.list.length - (i + 1)) (by omega) M1 (Mem.sub.refl _) ⟨i + 1, by omega, rfl, ⟨m1, hat'.eq ?_, hsub'⟩, ?_, ?_, ?_, ?_⟩
      · unfold midD; rw [layTo_yes (by assumption)]
      all_goals try (simp (disch := omega) only [nth_upd, pickB_true, pickB_false, inB_lt, upd_len, cast_succ, Nat.reduceBEq, beq_self_eq_true, reduceCtorEq, *]; done)
    · refine again_intro (d.list.length - (i + 1)) (by omega) m (Mem.sub.refl _) ⟨i + 1, by omega, rfl, ⟨_, hat0.eq ?_, hsub⟩, ?_, ?_, ?_, ?_⟩
      · unfold midD; rw [layTo_no (by assumption)]
      all_goals try (simp (disch := omega) only [nth_upd, pickB_true, pickB_false, inB_lt, upd_len, cast_succ, Nat.reduceBEq, beq_self_eq_true, reduceCtorEq, *]; done)
    · have : i = d.list.length := by omega
      subst this
      have a3 : m nD = some (.cells false 5 ((imgL (midD d (bitAt p) d.list.length).laid).map byteC).flatten) := hsub _ _ ((Mem.set_ne _ _ (Ne.symm h2)).trans ((Mem.set_ne _ _ (Ne.symm h3)).trans (Mem.set_same _ _ _)))
      refine Turns.cellNil 81 2 (Mem.set_same _ _ _) rfl fun n3 hn3 => ?_
      simp only [Mem.set_none] at hn3
      have b1 : n3 ≠ nD := fun e => by rw [e, a3] at hn3; cases hn3.2
      refine .sub (m' := (loseD d p).rmem N n3 nD pk) ?_ ⟨rfl, n3, nD, pk, Ne.symm hn3.1, h2, b1, fun h => ?_, rfl⟩
      · have h2' := Ne.symm h2
        have b1' := Ne.symm b1
        obtain ⟨b2, -⟩ := hn3
        have b2' := Ne.symm b2
        unfold loseD Dev.rmem
        rw [if_neg (by rw [hdd]; decide)]
        refine Mem.set_sub (Mem.set_sub (Mem.set_sub (nomem_sub _) ?_) ?_) ?_
        · simp [Mem.set_at, *, midD]
        · simp [Mem.set_at, *]
        · simp [Mem.set_at, *, midD, Dev.ro, Dev.rl, Dev.rrow, leftI]
      · unfold loseD at h; rw [if_neg (by rw [hdd]; decide)] at h; cases h
  · obtain ⟨nC, nD, pk, h1, h2, h3, h4, rfl⟩ := hat
    unfold Dev.rmem at hat0 ⊢
    repeat' first
      | simp -dsimp (disch := omega) only [↓rulesA, rulesB, rulesC, Int.reduceLT, nth, upd, put, storeN, AV.one, Nat.reduceBEq, Nat.reduceBNe, Int.reduceBEq, Int.reduceBNe, Int.reduceLE, Int.reduceEq, Int.reduceMod, Int.reduceNeg, boolBin, strBin, intBin, unA, fillA, ne_eq, reduceCtorEq, Nat.reduceAdd, Nat.reduceSub, Nat.reduceLeDiff, Nat.reduceLT, Nat.reduceEqDiff, Int.reduceToNat, eq_self, rulesT, bne_self_eq_false, mm_min, mm_max, buOf_some, nilCheck_vp, nilCheck_ptr, nilCheck_yld, nilCheck_func, Dev.rrow, Dev.ro, Dev.t4, Dev.p0, Dev.p1, Dev.p2, Dev.p3, Dev.p4, Dev.p5, Dev.p6, Dev.p7, Dev.plen, Dev.t2, Dev.t3, Dev.t5, Dev.t6, Dev.t7, *]
      | (refine allK_intro fun n hn => ?_; try simp only [fresh_set] at hn)
      | (refine ifK_intro (fun h => ?_) (fun h => ?_) <;> (try simp only [decide_eq_true_eq, decide_eq_false_iff_not, Bool.not_eq_true', Bool.not_eq_false'] at h) <;> try (exfalso; (try simp only [beq_iff_eq, beq_eq_false_iff_ne, bne_iff_ne, bne_eq_false_iff_eq, ne_eq] at h); omega))
      | (refine keeps_sub (Mem.sub_set (by simp [Mem.set_at, nomem, *])) ?_)
    refine Turns.id ⟨rfl, hat0.eq ?_⟩
    unfold loseD; rw [if_pos hdd]
theorem C31 (d : Dev) (hok : d.Ok) {N : Nat} {m : Mem} (hat : d.RAt N m) (hf : d.f < 4611686018427387904) : C Try.prog 31 [.ptr N 0] m (fun r m' => r = .val (.int .i64 (if d.dead then 22 else 0)) ∧ (flushD d).RAt N m') := by
  have hl := hok.list
  have hm := hok.most
  have hat0 := hat
  refine C.turn (C31_of ?_)
  unfold k31
  rcases hdd : d.dead
  · obtain ⟨nC, nD, pk, h1, h2, h3, h4, rfl⟩ := hat
    unfold Dev.rmem
    repeat' first
      | simp -dsimp (disch := omega) only [↓rulesA, rulesB, rulesC, Int.reduceLT, nth, upd, put, storeN, AV.one, Nat.reduceBEq, Nat.reduceBNe, Int.reduceBEq, Int.reduceBNe, Int.reduceLE, Int.reduceEq, Int.reduceMod, Int.reduceNeg, boolBin, strBin, intBin, unA, fillA, ne_eq, reduceCtorEq, Nat.reduceAdd, Nat.reduceSub, Nat.reduceLeDiff, Nat.reduceLT, Nat.reduceEqDiff, Int.reduceToNat, eq_self, rulesT, bne_self_eq_false, mm_min, mm_max, buOf_some, nilCheck_vp, nilCheck_ptr, nilCheck_yld, nilCheck_func, Dev.rrow, Dev.ro, Dev.t4, Dev.p0, Dev.p1, Dev.p2, Dev.p3, Dev.p4, Dev.p5, Dev.p6, Dev.p7, Dev.plen, Dev.t2, Dev.t3, Dev.t5, Dev.t6, Dev.t7, *]
      | (refine allK_intro fun n hn => ?_; try simp only [fresh_set] at hn)
      | (refine ifK_intro (fun h => ?_) (fun h => ?_) <;> (try simp only [decide_eq_true_eq, decide_eq_false_iff_not, Bool.not_eq_true', Bool.not_eq_false'] at h) <;> try (exfalso; (try simp only [beq_iff_eq, beq_eq_false_iff_ne, bne_iff_ne, bne_eq_false_iff_eq, ne_eq] at h); omega))
      | (refine keeps_sub (Mem.sub_set (by simp [Mem.set_at, nomem, *])) ?_)
    refine loop_intro (fun j env m => ∃ i : Nat, i ≤ d.list.length ∧ j = d.list.length - i ∧ (∃ mI, (midD d (fun _ => true) i).RAt N mI ∧ mI.sub m) ∧ env.length = 43 ∧ nth env 0 = .ptr N 0 ∧ nth env 3 = .val (.int .i64 i)) d.list.length _ (Mem.sub.refl _) ⟨0, by omega, by omega, ⟨_, ⟨nC, nD, pk, h1, h2, h3, h4, rfl⟩, Mem.sub.refl _⟩, rfl, rfl, rfl⟩ ?_
    clear hat0 h1 h2 h3 h4
    rintro j env m ⟨i, hi, rfl, ⟨mI, hat, hsub⟩, hlen, e0, e3⟩
    have hat0 := hat
    obtain ⟨nC, nD, pk, h1, h2, h3, h4, rfl⟩ := hat
    have a1 : m N = some (.cells false 73 ((midD d (fun _ => true) i).ro nD (.sl nC 0 d.list.length d.list.length) pk)) := hsub _ _ (Mem.set_same _ _ _)
    have a2 : m nC = some (.cells true 81 (d.list.map slotC).flatten) := hsub _ _ ((Mem.set_ne _ _ (Ne.symm h1)).trans (Mem.set_same _ _ _))
    have hff : (midD d (fun _ => true) i).f = d.f := rfl
    repeat' first
      | simp -dsimp (disch := omega) only [↓rulesA, rulesB, rulesC, Int.reduceLT, nth, upd, put, storeN, AV.one, Nat.reduceBEq, Nat.reduceBNe, Int.reduceBEq, Int.reduceBNe, Int.reduceLE, Int.reduceEq, Int.reduceMod, Int.reduceNeg, boolBin, strBin, intBin, unA, fillA, ne_eq, reduceCtorEq, Nat.reduceAdd, Nat.reduceSub, Nat.reduceLeDiff, Nat.reduceLT, Nat.reduceEqDiff, Int.reduceToNat, eq_self, rulesT, bne_self_eq_false, mm_min, mm_max, buOf_some, nilCheck_vp, nilCheck_ptr, nilCheck_yld, nilCheck_func, Dev.rrow, Dev.ro, Dev.t4, Dev.p0, Dev.p1, Dev.p2, Dev.p3, Dev.p4, Dev.p5, Dev.p6, Dev.p7, Dev.plen, Dev.t2, Dev.t3, Dev.t5, Dev.t6, Dev.t7, Slot.len, Slot.rat0, Slot.rat1, Slot.rin, Slot.rin1, Slot.rpart, Slot.rset1, Slot.slen, Slot.all, Slot.g0, Slot.g1, Slot.take, *]
      | (refine allK_intro fun n hn => ?_; try simp only [fresh_set] at hn)
      | (refine ifK_intro (fun h => ?_) (fun h => ?_) <;> (try simp only [decide_eq_true_eq, decide_eq_false_iff_not, Bool.not_eq_true', Bool.not_eq_false'] at h) <;> try (exfalso; (try simp only [beq_iff_eq, beq_eq_false_iff_ne, bne_iff_ne, bne_eq_false_iff_eq, ne_eq] at h); omega))
      | (refine keeps_sub (Mem.sub_set (by simp [Mem.set_at, nomem, *])) ?_)
    · have hil : i < d.list.length := by omega
      refine call_at (C42 (midD d (fun _ => true) i) (d.list.getD i default) (by show _ < (layTo _ _ _ i).length; rw [layTo_len]; exact at_lt hok hil) (by show (layTo _ _ _ i).length ≤ _; rw [layTo_len]; exact hm) hat0) hsub fun r m1 M1 ⟨hr, hat'⟩ hsub' _ => ?_
      subst hr
      clear a1 a2 hat0
      repeat' first
        | simp -dsimp (disch := omega) only [↓rulesA, rulesB, rulesC, Int.reduceLT, nth, upd, put, storeN, AV.one, Nat.reduceBEq, Nat.reduceBNe, Int.reduceBEq, Int.reduceBNe, Int.reduceLE, Int.reduceEq, Int.reduceMod, Int.reduceNeg, boolBin, strBin, intBin, unA, fillA, ne_eq, reduceCtorEq, Nat.reduceAdd, Nat.reduceSub, Nat.reduceLeDiff, Nat.reduceLT, Nat.reduceEqDiff, Int.reduceToNat, eq_self, rulesT, bne_self_eq_false, mm_min, mm_max, buOf_some, nilCheck_vp, nilCheck_ptr, nilCheck_yld, nilCheck_func, *]
        | (refine allK_intro fun n hn => ?_; try simp only [fresh_set] at hn)
        | (refine ifK_intro (fun h => ?_) (fun h => ?_) <;> (try simp only [decide_eq_true_eq, decide_eq_false_iff_not, Bool.not_eq_true', Bool.not_eq_false'] at h) <;> try (exfalso; (try simp only [beq_iff_eq, beq_eq_false_iff_ne, bne_iff_ne, bne_eq_false_iff_eq, ne_eq] at h); omega))
        | (refine keeps_sub (Mem.sub_set (by simp [Mem.set_at, nomem, *])) ?_)
      refine again_intro (d.list.length - (i + 1)) (by omega) M1 (Mem.sub.refl _) ⟨i + 1, by omega, rfl, ⟨m1, hat'.eq ?_, hsub'⟩, ?_, ?_, ?_⟩
      · unfold midD; rw [layTo_yes rfl]
      all_goals try (simp (disch := omega) only [nth_upd, pickB_true, pickB_false, inB_lt, upd_len, cast_succ, Nat.reduceBEq, beq_self_eq_true, reduceCtorEq, *]; done)
    · have : i = d.list.length := by omega
      subst this
      have a3 : m nD = some (.cells false 5 ((imgL (midD d (fun _ => true) d.list.length).laid).map byteC).flatten) := hsub _ _ ((Mem.set_ne _ _ (Ne.symm h2)).trans ((Mem.set_ne _ _ (Ne.symm h3)).trans (Mem.set_same _ _ _)))
      refine Turns.cellNil 81 2 (Mem.set_same _ _ _) rfl fun n3 hn3 => ?_
      simp only [Mem.set_none] at hn3
      have b1 : n3 ≠ nD := fun e => by rw [e, a3] at hn3; cases hn3.2
      refine .sub (m' := (flushD d).rmem N n3 nD pk) ?_ ⟨rfl, n3, nD, pk, Ne.symm hn3.1, h2, b1, fun h => ?_, rfl⟩
      · have h2' := Ne.symm h2
        have b1' := Ne.symm b1
        obtain ⟨b2, -⟩ := hn3
        have b2' := Ne.symm b2
        unfold flushD Dev.rmem
        rw [if_neg (by rw [hdd]; decide)]
        refine Mem.set_sub (Mem.set_sub (Mem.set_sub (nomem_sub _) ?_) ?_) ?_
        · simp [Mem.set_at, *, midD]
        · simp [Mem.set_at, *]
        · simp [Mem.set_at, *, midD, Dev.ro, Dev.rl, Dev.rrow, leftI]
          rfl
      · unfold flushD at h ⊢; rw [if_neg (by rw [hdd]; decide)] at h ⊢; exact h4 h
  · obtain ⟨nC, nD, pk, h1, h2, h3, h4, rfl⟩ := hat
    unfold Dev.rmem at hat0 ⊢
    repeat' first
      | simp -dsimp (disch := omega) only [↓rulesA, rulesB, rulesC, Int.reduceLT, nth, upd, put, storeN, AV.one, Nat.reduceBEq, Nat.reduceBNe, Int.reduceBEq, Int.reduceBNe, Int.reduceLE, Int.reduceEq, Int.reduceMod, Int.reduceNeg, boolBin, strBin, intBin, unA, fillA, ne_eq, reduceCtorEq, Nat.reduceAdd, Nat.reduceSub, Nat.reduceLeDiff, Nat.reduceLT, Nat.reduceEqDiff, Int.reduceToNat, eq_self, rulesT, bne_self_eq_false, mm_min, mm_max, buOf_some, nilCheck_vp, nilCheck_ptr, nilCheck_yld, nilCheck_func, Dev.rrow, Dev.ro, Dev.t4, Dev.p0, Dev.p1, Dev.p2, Dev.p3, Dev.p4, Dev.p5, Dev.p6, Dev.p7, Dev.plen, Dev.t2, Dev.t3, Dev.t5, Dev.t6, Dev.t7, *]
      | (refine allK_intro fun n hn => ?_; try simp only [fresh_set] at hn)
      | (refine ifK_intro (fun h => ?_) (fun h => ?_) <;> (try simp only [decide_eq_true_eq, decide_eq_false_iff_not, Bool.not_eq_true', Bool.not_eq_false'] at h) <;> try (exfalso; (try simp only [beq_iff_eq, beq_eq_false_iff_ne, bne_iff_ne, bne_eq_false_iff_eq, ne_eq] at h); omega))
      | (refine keeps_sub (Mem.sub_set (by simp [Mem.set_at, nomem, *])) ?_)
    refine Turns.id ⟨rfl, hat0.eq ?_⟩
    unfold flushD; rw [if_pos hdd]
end Go.Proofs.Ytkfjjjjejdogbaa

