/- Package 05: writing; what stays fit. -/
import Derived.Test.YtkfjjjjejdogbaaD6
set_option maxRecDepth 100000
set_option maxHeartbeats 1000000
set_option linter.unusedSimpArgs false
set_option linter.unusedVariables false
namespace Go.Proofs.Ytkfjjjjejdogbaa
open Go.Abs
attribute [local irreducible] C X CC Y CV CW binK litK AppK PureC PureCV againK loopV rangeV allK ifK got onB condK V stepsK planK opK firstK seeE keepsK

theorem fill_full {l : List UInt8} (h : l.length = 64) : (fillS l).l = l := by
  simp [fillS, h, List.take_of_length_le (Nat.le_of_eq h)]
theorem fill_take {l : List UInt8} (h : l.length = 64) : ((l.take 64).map byteC).flatten = (fillS l).cells := by
  unfold Sec.cells; rw [fill_full h, List.take_of_length_le (Nat.le_of_eq h)]
def writeE (d : Dev) (k : Int) (l : List UInt8) : Int := if d.dead then 22 else if k < 0 ∨ d.laid.length ≤ k then 20 else if l.length ≠ 64 then 10 else if d.set ∧ d.left = 0 then 22 else 0
def lessD (d : Dev) : Dev := if d.set then { d with left := d.left - 1 } else d
def countD (d : Dev) : Dev := { d with w := d.w + 1 }
def writeD (d : Dev) (k : Int) (l : List UInt8) : Dev := if d.dead then d else if k < 0 ∨ d.laid.length ≤ k then d else if l.length ≠ 64 then d else if d.set ∧ d.left = 0 then loseD d d.pick else countD (layD (lessD d) k.toNat (fillS l))
theorem C10 (d : Dev) (hok : d.Ok) {N : Nat} {m : Mem} (hat : d.At N m) (hw : d.w < 4611686018427387904) (k : Int) (l : List UInt8) (x : Bool) (hll : l.length ≤ 140737488355328) : C Try.prog 10 [.ptr N 0, .val (.int .i64 k), .vs (l.map byteC) x] m (fun r m' => r = .val (.int .i64 (writeE d k l)) ∧ (writeD d k l).At N m') := by
  have hd := hok.some
  have hl := hok.list
  have hm := hok.most
  have hs := hat.seen (Mem.sub.refl m) 0
  have hat0 := hat
  obtain ⟨nl, nL, h1, h2, h3, rfl⟩ := hat
  have h1' := Ne.symm h1
  have h2' := Ne.symm h2
  have h3' := Ne.symm h3
  refine C.turn (C10_of ?_)
  unfold k10
  repeat' first
    | simp -dsimp (disch := omega) only [↓rulesA, rulesB, rulesC, Int.reduceLT, nth, upd, put, storeN, AV.one, Nat.reduceBEq, Nat.reduceBNe, Int.reduceBEq, Int.reduceBNe, Int.reduceLE, Int.reduceEq, Int.reduceMod, Int.reduceNeg, boolBin, strBin, intBin, unA, fillA, ne_eq, reduceCtorEq, Nat.reduceAdd, Nat.reduceSub, Nat.reduceLeDiff, Nat.reduceLT, Nat.reduceEqDiff, Int.reduceToNat, eq_self, rulesT, bne_self_eq_false, mm_min, mm_max, buOf_some, nilCheck_vp, nilCheck_ptr, nilCheck_yld, nilCheck_func, *]
    | (refine allK_intro fun n hn => ?_; try simp only [fresh_set] at hn)
    | (refine ifK_intro (fun h => ?_) (fun h => ?_) <;> (try simp only [decide_eq_true_eq, decide_eq_false_iff_not, Bool.not_eq_true', Bool.not_eq_false'] at h) <;> try (exfalso; (try simp only [beq_iff_eq, beq_eq_false_iff_ne, bne_iff_ne, bne_eq_false_iff_eq, ne_eq] at h); omega))
    | (refine keeps_sub (Mem.sub_set (by simp [Mem.set_at, nomem, *])) ?_)
  refine call_F (F12 d false false hd) (.one hs) ?_
  clear hs
  rcases hdd : d.dead
  · have hnd : ¬ d.dead = true := by rw [hdd]; decide
    have r20 : Kept ((k < 0 ∨ d.laid.length ≤ k) → writeE d k l = 20 ∧ writeD d k l = d) := fun h => by
      unfold writeE writeD; rw [if_neg hnd, if_neg hnd, if_pos h, if_pos h]; exact ⟨rfl, rfl⟩
    have r10 : Kept (¬ (k < 0 ∨ d.laid.length ≤ k) → l.length ≠ 64 → writeE d k l = 10 ∧ writeD d k l = d) := fun h h' => by
      unfold writeE writeD; rw [if_neg hnd, if_neg hnd, if_neg h, if_neg h, if_pos h', if_pos h']; exact ⟨rfl, rfl⟩
    have r22 : Kept (¬ (k < 0 ∨ d.laid.length ≤ k) → l.length = 64 → (d.set = true ∧ d.left = 0) → writeE d k l = 22 ∧ writeD d k l = loseD d d.pick) := fun h h' h'' => ⟨by unfold writeE; rw [if_neg hnd, if_neg h, if_neg (fun e => e h'), if_pos h''], by unfold writeD; rw [if_neg hnd, if_neg h, if_neg (fun e => e h'), if_pos h'']⟩
    have r0 : Kept (¬ (k < 0 ∨ d.laid.length ≤ k) → l.length = 64 → ¬ (d.set = true ∧ d.left = 0) → writeE d k l = 0 ∧ writeD d k l = countD (layD (lessD d) k.toNat (fillS l))) := fun h h' h'' => ⟨by unfold writeE; rw [if_neg hnd, if_neg h, if_neg (fun e => e h'), if_neg h''], by unfold writeD; rw [if_neg hnd, if_neg h, if_neg (fun e => e h'), if_neg h'']⟩
    have fin : Kept (∀ (d1 : Dev), d1.laid = d.laid → d1.list = d.list → d1.w = d.w → lessD d = d1 → ∀ m (q : Nat), k = q → ¬ (k < 0 ∨ d.laid.length ≤ k) → l.length = 64 → ¬ (d.set = true ∧ d.left = 0) → d1.At N m → ∀ (K' : AV → Mem → Prop) (y : Hid K'), (∀ nl nL, N ≠ nl → N ≠ nL → nl ≠ nL → K' (.tup []) ((layD d1 q (fillS l)).mem N nl nL)) → CC Try.prog 27 [.ptr N 0, .val (.int .i64 q), .agg (fillS l).cells] m (hid K' y)) := fun d1 e1 e2 e3 e4 m q e5 g1 g2 g3 h K' y hk =>
      call_C (C27 d1 (by rw [e1]; exact hd) (by rw [e2]; exact hl) h q (fillS l)) fun r m' ⟨hr, nl', nL', h1, h2, h3, hm'⟩ => by subst hr hm'; exact hk nl' nL' h1 h2 h3
    clear hnd
    by_cases hL : l.length = 64
    · have ht := fill_take hL
      unfold Dev.mem at hat0 ⊢
      rcases hset : d.set
      · repeat' first
          | simp -dsimp (disch := omega) only [↓rulesA, rulesB, rulesC, Int.reduceLT, nth, upd, put, storeN, AV.one, Nat.reduceBEq, Nat.reduceBNe, Int.reduceBEq, Int.reduceBNe, Int.reduceLE, Int.reduceEq, Int.reduceMod, Int.reduceNeg, boolBin, strBin, intBin, unA, fillA, ne_eq, reduceCtorEq, Nat.reduceAdd, Nat.reduceSub, Nat.reduceLeDiff, Nat.reduceLT, Nat.reduceEqDiff, Int.reduceToNat, eq_self, rulesT, bne_self_eq_false, mm_min, mm_max, buOf_some, nilCheck_vp, nilCheck_ptr, nilCheck_yld, nilCheck_func, Dev.row, Dev.o0, Dev.o1, Dev.o2, Dev.o3, Dev.o4, Dev.o5, Dev.o6, Dev.o7, Dev.olen, Dev.s0, Dev.s1, Dev.s2, Dev.s5, Dev.s6, Dev.s7, hset, Sec.len, Sec.zr, Sec.zr', Sec.all, Sec.take, Sec.drop, Sec.put, Sec.rlen, Sec.rpart, Sec.rin, Sec.rset, ht, *]
          | (refine allK_intro fun n hn => ?_; try simp only [fresh_set] at hn)
          | (refine ifK_intro (fun h => ?_) (fun h => ?_) <;> (try simp only [decide_eq_true_eq, decide_eq_false_iff_not, Bool.not_eq_true', Bool.not_eq_false'] at h) <;> try (exfalso; (try simp only [beq_iff_eq, beq_eq_false_iff_ne, bne_iff_ne, bne_eq_false_iff_eq, ne_eq] at h); omega))
          | (refine keeps_sub (Mem.sub_set (by simp [Mem.set_at, nomem, *])) ?_)
        all_goals first | exact Turns.id ⟨by rw [(r20 (by omega)).1], hat0.eq (r20 (by omega)).2.symm⟩ | skip
        obtain ⟨q, rfl⟩ : ∃ q : Nat, k = q := ⟨k.toNat, by omega⟩
        have hc : ¬ (d.set = true ∧ d.left = 0) := by rw [hset]; simp
        have e : lessD d = d := by unfold lessD; rw [if_neg (by rw [hset]; decide)]
        refine fin d rfl rfl rfl e _ q rfl (by omega) hL hc ⟨nl, nL, h1, h2, h3, rfl⟩ _ _ fun nl' nL' g1 g2 g3 => ?_
        have hw1 : (layD d q (fillS l)).w = d.w := rfl
        unfold Dev.mem
        repeat' first
          | simp -dsimp (disch := omega) only [↓rulesA, rulesB, rulesC, Int.reduceLT, nth, upd, put, storeN, AV.one, Nat.reduceBEq, Nat.reduceBNe, Int.reduceBEq, Int.reduceBNe, Int.reduceLE, Int.reduceEq, Int.reduceMod, Int.reduceNeg, boolBin, strBin, intBin, unA, fillA, ne_eq, reduceCtorEq, Nat.reduceAdd, Nat.reduceSub, Nat.reduceLeDiff, Nat.reduceLT, Nat.reduceEqDiff, Int.reduceToNat, eq_self, rulesT, bne_self_eq_false, mm_min, mm_max, buOf_some, nilCheck_vp, nilCheck_ptr, nilCheck_yld, nilCheck_func, Dev.row, Dev.o0, Dev.o1, Dev.o2, Dev.o3, Dev.o4, Dev.o5, Dev.o6, Dev.o7, Dev.olen, Dev.s0, Dev.s1, Dev.s2, Dev.s5, Dev.s6, Dev.s7, hset, *]
          | (refine allK_intro fun n hn => ?_; try simp only [fresh_set] at hn)
          | (refine ifK_intro (fun h => ?_) (fun h => ?_) <;> (try simp only [decide_eq_true_eq, decide_eq_false_iff_not, Bool.not_eq_true', Bool.not_eq_false'] at h) <;> try (exfalso; (try simp only [beq_iff_eq, beq_eq_false_iff_ne, bne_iff_ne, bne_eq_false_iff_eq, ne_eq] at h); omega))
          | (refine keeps_sub (Mem.sub_set (by simp [Mem.set_at, nomem, *])) ?_)
        refine Turns.id ⟨by rw [(r0 (by omega) hL hc).1], Dev.At.eq ?_ ((r0 (by omega) hL hc).2.symm)⟩
        rw [e]
        exact ⟨nl', nL', g1, g2, g3, rfl⟩
      · have hc := hok.cut hset
        repeat' first
          | simp -dsimp (disch := omega) only [↓rulesA, rulesB, rulesC, Int.reduceLT, nth, upd, put, storeN, AV.one, Nat.reduceBEq, Nat.reduceBNe, Int.reduceBEq, Int.reduceBNe, Int.reduceLE, Int.reduceEq, Int.reduceMod, Int.reduceNeg, boolBin, strBin, intBin, unA, fillA, ne_eq, reduceCtorEq, Nat.reduceAdd, Nat.reduceSub, Nat.reduceLeDiff, Nat.reduceLT, Nat.reduceEqDiff, Int.reduceToNat, eq_self, rulesT, bne_self_eq_false, mm_min, mm_max, buOf_some, nilCheck_vp, nilCheck_ptr, nilCheck_yld, nilCheck_func, Dev.row, Dev.o0, Dev.o1, Dev.o2, Dev.o3, Dev.o4, Dev.o5, Dev.o6, Dev.o7, Dev.olen, Dev.s0, Dev.s1, Dev.s2, Dev.s5, Dev.s6, Dev.s7, hset, Sec.len, Sec.zr, Sec.zr', Sec.all, Sec.take, Sec.drop, Sec.put, Sec.rlen, Sec.rpart, Sec.rin, Sec.rset, ht, *]
          | (refine allK_intro fun n hn => ?_; try simp only [fresh_set] at hn)
          | (refine ifK_intro (fun h => ?_) (fun h => ?_) <;> (try simp only [decide_eq_true_eq, decide_eq_false_iff_not, Bool.not_eq_true', Bool.not_eq_false'] at h) <;> try (exfalso; (try simp only [beq_iff_eq, beq_eq_false_iff_ne, bne_iff_ne, bne_eq_false_iff_eq, ne_eq] at h); omega))
          | (refine keeps_sub (Mem.sub_set (by simp [Mem.set_at, nomem, *])) ?_)
        all_goals first | exact Turns.id ⟨by rw [(r20 (by omega)).1], hat0.eq (r20 (by omega)).2.symm⟩ | skip
        · refine call_C (C19 d hok ⟨nl, nL, h1, h2, h3, rfl⟩ d.pick) fun r m' ⟨hr, h'⟩ => ?_
          subst hr
          have e : Kept (writeE d k l = 22 ∧ writeD d k l = loseD d d.pick) := r22 (by omega) hL ⟨hset, by simpa using h⟩
          repeat' first
            | simp -dsimp (disch := omega) only [↓rulesA, rulesB, rulesC, Int.reduceLT, nth, upd, put, storeN, AV.one, Nat.reduceBEq, Nat.reduceBNe, Int.reduceBEq, Int.reduceBNe, Int.reduceLE, Int.reduceEq, Int.reduceMod, Int.reduceNeg, boolBin, strBin, intBin, unA, fillA, ne_eq, reduceCtorEq, Nat.reduceAdd, Nat.reduceSub, Nat.reduceLeDiff, Nat.reduceLT, Nat.reduceEqDiff, Int.reduceToNat, eq_self, rulesT, bne_self_eq_false, mm_min, mm_max, buOf_some, nilCheck_vp, nilCheck_ptr, nilCheck_yld, nilCheck_func, *]
            | (refine allK_intro fun n hn => ?_; try simp only [fresh_set] at hn)
            | (refine ifK_intro (fun h => ?_) (fun h => ?_) <;> (try simp only [decide_eq_true_eq, decide_eq_false_iff_not, Bool.not_eq_true', Bool.not_eq_false'] at h) <;> try (exfalso; (try simp only [beq_iff_eq, beq_eq_false_iff_ne, bne_iff_ne, bne_eq_false_iff_eq, ne_eq] at h); omega))
            | (refine keeps_sub (Mem.sub_set (by simp [Mem.set_at, nomem, *])) ?_)
          exact Turns.id ⟨by rw [e.1], h'.eq e.2.symm⟩
        · obtain ⟨q, rfl⟩ : ∃ q : Nat, k = q := ⟨k.toNat, by omega⟩
          have hc' : ¬ (d.set = true ∧ d.left = 0) := fun h' => by
            have h0 : (d.left == 0) = false := by assumption
            rw [h'.2] at h0; cases h0
          have e : lessD d = ⟨d.list, true, d.left - 1, d.pick, d.laid, false, d.w, d.f⟩ := by unfold lessD; rw [if_pos hset, ← hset, ← hdd]
          refine fin ⟨d.list, true, d.left - 1, d.pick, d.laid, false, d.w, d.f⟩ rfl rfl rfl e _ q rfl (by omega) hL hc' ⟨nl, nL, h1, h2, h3, rfl⟩ _ _ fun nl' nL' g1 g2 g3 => ?_
          have hw1 : (layD ⟨d.list, true, d.left - 1, d.pick, d.laid, false, d.w, d.f⟩ q (fillS l)).w = d.w := rfl
          unfold Dev.mem
          repeat' first
            | simp -dsimp (disch := omega) only [↓rulesA, rulesB, rulesC, Int.reduceLT, nth, upd, put, storeN, AV.one, Nat.reduceBEq, Nat.reduceBNe, Int.reduceBEq, Int.reduceBNe, Int.reduceLE, Int.reduceEq, Int.reduceMod, Int.reduceNeg, boolBin, strBin, intBin, unA, fillA, ne_eq, reduceCtorEq, Nat.reduceAdd, Nat.reduceSub, Nat.reduceLeDiff, Nat.reduceLT, Nat.reduceEqDiff, Int.reduceToNat, eq_self, rulesT, bne_self_eq_false, mm_min, mm_max, buOf_some, nilCheck_vp, nilCheck_ptr, nilCheck_yld, nilCheck_func, Dev.row, Dev.o0, Dev.o1, Dev.o2, Dev.o3, Dev.o4, Dev.o5, Dev.o6, Dev.o7, Dev.olen, Dev.s0, Dev.s1, Dev.s2, Dev.s5, Dev.s6, Dev.s7, hset, *]
            | (refine allK_intro fun n hn => ?_; try simp only [fresh_set] at hn)
            | (refine ifK_intro (fun h => ?_) (fun h => ?_) <;> (try simp only [decide_eq_true_eq, decide_eq_false_iff_not, Bool.not_eq_true', Bool.not_eq_false'] at h) <;> try (exfalso; (try simp only [beq_iff_eq, beq_eq_false_iff_ne, bne_iff_ne, bne_eq_false_iff_eq, ne_eq] at h); omega))
            | (refine keeps_sub (Mem.sub_set (by simp [Mem.set_at, nomem, *])) ?_)
          refine Turns.id ⟨by rw [(r0 (by omega) hL hc').1], Dev.At.eq ?_ ((r0 (by omega) hL hc').2.symm)⟩
          rw [e]
          exact ⟨nl', nL', g1, g2, g3, rfl⟩
    · unfold Dev.mem at hat0 ⊢
      repeat' first
        | simp -dsimp (disch := omega) only [↓rulesA, rulesB, rulesC, Int.reduceLT, nth, upd, put, storeN, AV.one, Nat.reduceBEq, Nat.reduceBNe, Int.reduceBEq, Int.reduceBNe, Int.reduceLE, Int.reduceEq, Int.reduceMod, Int.reduceNeg, boolBin, strBin, intBin, unA, fillA, ne_eq, reduceCtorEq, Nat.reduceAdd, Nat.reduceSub, Nat.reduceLeDiff, Nat.reduceLT, Nat.reduceEqDiff, Int.reduceToNat, eq_self, rulesT, bne_self_eq_false, mm_min, mm_max, buOf_some, nilCheck_vp, nilCheck_ptr, nilCheck_yld, nilCheck_func, Dev.row, Dev.o0, Dev.o1, Dev.o2, Dev.o3, Dev.o4, Dev.o5, Dev.o6, Dev.o7, Dev.olen, Dev.s0, Dev.s1, Dev.s2, Dev.s5, Dev.s6, Dev.s7, *]
        | (refine allK_intro fun n hn => ?_; try simp only [fresh_set] at hn)
        | (refine ifK_intro (fun h => ?_) (fun h => ?_) <;> (try simp only [decide_eq_true_eq, decide_eq_false_iff_not, Bool.not_eq_true', Bool.not_eq_false'] at h) <;> try (exfalso; (try simp only [beq_iff_eq, beq_eq_false_iff_ne, bne_iff_ne, bne_eq_false_iff_eq, ne_eq] at h); omega))
        | (refine keeps_sub (Mem.sub_set (by simp [Mem.set_at, nomem, *])) ?_)
      all_goals first
        | exact Turns.id ⟨by rw [(r20 (by omega)).1], hat0.eq (r20 (by omega)).2.symm⟩
        | exact Turns.id ⟨by rw [(r10 (by omega) hL).1], hat0.eq (r10 (by omega) hL).2.symm⟩
        | (exfalso; simp_all; done)
        | (exfalso; rename_i hx; simp only [bne_eq_false_iff_eq, bne_iff_ne] at hx; omega)
        | (exfalso; simp only [bne_eq_false_iff_eq, bne_iff_ne] at h; omega)
  · repeat' first
      | simp -dsimp (disch := omega) only [↓rulesA, rulesB, rulesC, Int.reduceLT, nth, upd, put, storeN, AV.one, Nat.reduceBEq, Nat.reduceBNe, Int.reduceBEq, Int.reduceBNe, Int.reduceLE, Int.reduceEq, Int.reduceMod, Int.reduceNeg, boolBin, strBin, intBin, unA, fillA, ne_eq, reduceCtorEq, Nat.reduceAdd, Nat.reduceSub, Nat.reduceLeDiff, Nat.reduceLT, Nat.reduceEqDiff, Int.reduceToNat, eq_self, rulesT, bne_self_eq_false, mm_min, mm_max, buOf_some, nilCheck_vp, nilCheck_ptr, nilCheck_yld, nilCheck_func, Dev.row, Dev.o0, Dev.o1, Dev.o2, Dev.o3, Dev.o4, Dev.o5, Dev.o6, Dev.o7, Dev.olen, Dev.s0, Dev.s1, Dev.s2, Dev.s5, Dev.s6, Dev.s7, *]
      | (refine allK_intro fun n hn => ?_; try simp only [fresh_set] at hn)
      | (refine ifK_intro (fun h => ?_) (fun h => ?_) <;> (try simp only [decide_eq_true_eq, decide_eq_false_iff_not, Bool.not_eq_true', Bool.not_eq_false'] at h) <;> try (exfalso; (try simp only [beq_iff_eq, beq_eq_false_iff_ne, bne_iff_ne, bne_eq_false_iff_eq, ne_eq] at h); omega))
      | (refine keeps_sub (Mem.sub_set (by simp [Mem.set_at, nomem, *])) ?_)
    refine Turns.id ⟨?_, hat0.eq ?_⟩
    · unfold writeE; rw [if_pos hdd]
    · unfold writeD; rw [if_pos hdd]
end Go.Proofs.Ytkfjjjjejdogbaa

