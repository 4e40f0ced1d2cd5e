/- Package 05: the reference's device: writing, reading. -/
import Derived.Test.YtkfjjjjejdogbaaD16
set_option maxRecDepth 100000
set_option maxHeartbeats 1000000
set_option linter.unusedSimpArgs false
set_option linter.unusedVariables false
namespace Go.Proofs.Ytkfjjjjejdogbaa
open Go.Abs
attribute [local irreducible] C X CC Y CV CW binK litK AppK PureC PureCV againK loopV rangeV allK ifK got onB condK V stepsK planK opK firstK seeE keepsK

theorem conv_img (m : Mem) (l : List UInt8) (x : Bool) : convA Try.prog m 27 9 (.vs (l.map byteC) x) = some (.val (.string ⟨l.toArray⟩)) := cv_27_9 m l x
theorem C29 (d : Dev) (hm : d.laid.length ≤ 4096) (hl : d.list.length ≤ 4096) {N : Nat} {m : Mem} (hat : d.RAt N m) (k : Int) : C Try.prog 29 [.ptr N 0, .val (.int .i64 k)] m (fun r m' => r = .tup [.vs (if readE d k = 0 then (readS d k.toNat).l.map byteC else []) false, .val (.int .i64 (readE d k))] ∧ m' = m) := by
  have nil : Kept (∀ e : Int, readE d k = e → e ≠ 0 → Turns Try.prog (.tup [.val (.slice none 0 0), .val (.int .i64 e)]) m (fun r m' => r = .tup [.vs (if readE d k = 0 then (readS d k.toNat).l.map byteC else []) false, .val (.int .i64 (readE d k))] ∧ m' = m)) := fun e he h0 => by
    rw [he, if_neg h0]
    exact Turns.told (fun κ cv h => Rel.two h (fun c hc => hc.nilVs) (fun c hc => hc)) ⟨rfl, rfl⟩
  have hil := imgL_len d.laid
  refine C.turn (C29_of ?_)
  unfold k29
  obtain ⟨pk', hs, -⟩ := hat.seen (Mem.sub.refl m) 0
  have h36 := F36 d pk' false false hm
  obtain ⟨nC, nD, pk, h1, h2, h3, h4, hm0⟩ := hat
  have a1 : m N = some (.cells false 73 (d.ro nD (d.rrow nC) pk)) := by rw [hm0]; exact Mem.set_same _ _ _
  have a2 : m nC = some (.cells true 81 (d.list.map slotC).flatten) := by rw [hm0]; exact (Mem.set_ne _ _ (Ne.symm h1)).trans (Mem.set_same _ _ _)
  have a3 : m nD = some (.cells false 5 ((imgL d.laid).map byteC).flatten) := by rw [hm0]; exact (Mem.set_ne _ _ (Ne.symm h2)).trans ((Mem.set_ne _ _ (Ne.symm h3)).trans (Mem.set_same _ _ _))
  clear hm0 h4
  rcases hd : d.dead
  · repeat' first
      | simp -dsimp (disch := omega) only [↓rulesA, rulesB, rulesC, Int.reduceLT, nth, upd, put, storeN, AV.one, Nat.reduceBEq, Nat.reduceBNe, Int.reduceBEq, Int.reduceBNe, Int.reduceLE, Int.reduceEq, Int.reduceMod, Int.reduceNeg, boolBin, strBin, intBin, unA, fillA, ne_eq, reduceCtorEq, Nat.reduceAdd, Nat.reduceSub, Nat.reduceLeDiff, Nat.reduceLT, Nat.reduceEqDiff, Int.reduceToNat, eq_self, rulesT, bne_self_eq_false, mm_min, mm_max, buOf_some, nilCheck_vp, nilCheck_ptr, nilCheck_yld, nilCheck_func, Dev.rrow, Dev.ro, Dev.t4, Dev.p0, Dev.p1, Dev.p2, Dev.p3, Dev.p4, Dev.p5, Dev.p6, Dev.p7, Dev.plen, Dev.t2, Dev.t3, Dev.t5, Dev.t6, Dev.t7, *]
      | (refine allK_intro fun n hn => ?_; try simp only [fresh_set] at hn)
      | (refine ifK_intro (fun h => ?_) (fun h => ?_) <;> (try simp only [decide_eq_true_eq, decide_eq_false_iff_not, Bool.not_eq_true', Bool.not_eq_false'] at h) <;> try (exfalso; (try simp only [beq_iff_eq, beq_eq_false_iff_ne, bne_iff_ne, bne_eq_false_iff_eq, ne_eq] at h); omega))
      | (refine keeps_sub (Mem.sub_set (by simp [Mem.set_at, nomem, *])) ?_)
      | (refine call_F (h36) (.one hs) ?_)
      | (refine pure_F (h36) (.one hs) ?_)
    · have e : readE d k = 20 := by unfold readE; rw [if_neg (by rw [hd]; decide), if_pos (by omega)]
      exact (nil : ∀ e : Int, _ → _ → _) 20 e (by decide)
    · have e : readE d k = 0 := by unfold readE; rw [if_neg (by rw [hd]; decide), if_neg (by omega)]
      have hlt : k < d.laid.length := by omega
      have h0k : 0 ≤ k := by omega
      obtain ⟨q, rfl⟩ : ∃ q : Nat, k = q := ⟨k.toNat, by omega⟩
      rw [e, if_pos rfl]
      clear nil
      refine loop_intro (fun j env m' => ∃ i : Nat, i ≤ findN d.list q ∧ j = d.list.length - i ∧ m' = m ∧ env.length = 66 ∧ nth env 0 = .ptr N 0 ∧ nth env 1 = .val (.int .i64 q) ∧ nth env 6 = .val (.int .i64 i)) d.list.length _ (Mem.sub.refl _) ⟨0, by omega, by omega, rfl, rfl, rfl, rfl, rfl⟩ ?_
      rintro j env m' ⟨i, hi, rfl, rfl, hlen, e0, e1, e6⟩
      have hfn := findN_le d.list q
      repeat' first
        | simp -dsimp (disch := omega) only [↓rulesA, rulesB, rulesC, Int.reduceLT, nth, upd, put, storeN, AV.one, Nat.reduceBEq, Nat.reduceBNe, Int.reduceBEq, Int.reduceBNe, Int.reduceLE, Int.reduceEq, Int.reduceMod, Int.reduceNeg, boolBin, strBin, intBin, unA, fillA, ne_eq, reduceCtorEq, Nat.reduceAdd, Nat.reduceSub, Nat.reduceLeDiff, Nat.reduceLT, Nat.reduceEqDiff, Int.reduceToNat, eq_self, rulesT, bne_self_eq_false, mm_min, mm_max, buOf_some, nilCheck_vp, nilCheck_ptr, nilCheck_yld, nilCheck_func, Slot.len, Slot.rat0, Slot.rat1, Slot.rin, Slot.rin1, Slot.rpart, Slot.rset1, Slot.slen, Slot.all, Slot.g0, Slot.g1, Slot.take, Dev.rrow, Dev.ro, Dev.t4, Dev.p0, Dev.p1, Dev.p2, Dev.p3, Dev.p4, Dev.p5, Dev.p6, Dev.p7, Dev.plen, Dev.t2, Dev.t3, Dev.t5, Dev.t6, Dev.t7, *]
        | (refine allK_intro fun n hn => ?_; try simp only [fresh_set] at hn)
        | (refine ifK_intro (fun h => ?_) (fun h => ?_) <;> (try simp only [decide_eq_true_eq, decide_eq_false_iff_not, Bool.not_eq_true', Bool.not_eq_false'] at h) <;> try (exfalso; (try simp only [beq_iff_eq, beq_eq_false_iff_ne, bne_iff_ne, bne_eq_false_iff_eq, ne_eq] at h); omega))
        | (refine keeps_sub (Mem.sub_set (by simp [Mem.set_at, nomem, *])) ?_)
      · have hat : ((d.list.getD i default).at_ : Int) = q := eq_of_beq h
        have hf : findN d.list q = i := findN_end hi (by omega) (by omega)
        have e3 : readS d q = (d.list.getD i default).s := by unfold readS; rw [if_pos (by omega), hf]
        refine conv_text (tb_9_27 _) ?_
        rw [bytesE_def]
        repeat' first
          | simp -dsimp (disch := omega) only [↓rulesA, rulesB, rulesC, Int.reduceLT, nth, upd, put, storeN, AV.one, Nat.reduceBEq, Nat.reduceBNe, Int.reduceBEq, Int.reduceBNe, Int.reduceLE, Int.reduceEq, Int.reduceMod, Int.reduceNeg, boolBin, strBin, intBin, unA, fillA, ne_eq, reduceCtorEq, Nat.reduceAdd, Nat.reduceSub, Nat.reduceLeDiff, Nat.reduceLT, Nat.reduceEqDiff, Int.reduceToNat, eq_self, rulesT, bne_self_eq_false, mm_min, mm_max, buOf_some, nilCheck_vp, nilCheck_ptr, nilCheck_yld, nilCheck_func, *]
          | (refine allK_intro fun n hn => ?_; try simp only [fresh_set] at hn)
          | (refine ifK_intro (fun h => ?_) (fun h => ?_) <;> (try simp only [decide_eq_true_eq, decide_eq_false_iff_not, Bool.not_eq_true', Bool.not_eq_false'] at h) <;> try (exfalso; (try simp only [beq_iff_eq, beq_eq_false_iff_ne, bne_iff_ne, bne_eq_false_iff_eq, ne_eq] at h); omega))
          | (refine keeps_sub (Mem.sub_set (by simp [Mem.set_at, nomem, *])) ?_)
        exact Turns.id ⟨rfl, rfl⟩
      · have hat : ((d.list.getD i default).at_ : Int) ≠ q := ne_of_beq_false h
        refine again_intro (d.list.length - (i + 1)) (by omega) m' (Mem.sub.refl _) ⟨i + 1, ?_, rfl, rfl, ?_, ?_, ?_, ?_⟩
        · have : findN d.list q ≠ i := fun e => by
            have h2 := findN_is (l := d.list) (k := q) (by omega)
            rw [e] at h2
            exact hat (by omega)
          omega
        all_goals try (simp (disch := omega) only [nth_upd, pickB_true, pickB_false, inB_lt, upd_len, cast_succ, Nat.reduceBEq, beq_self_eq_true, reduceCtorEq, *]; done)
      · have hf : ¬ findN d.list q < d.list.length := by omega
        have e3 : readS d q = d.laid.getD q default := by unfold readS; rw [if_neg hf]
        have k1 : (q : Int) * 64 = ((q * 64 : Nat) : Int) := by omega
        have k2 : ((q : Int) + 1) * 64 = ((q * 64 + 64 : Nat) : Int) := by omega
        have k3 : q * 64 + 64 - q * 64 = 64 := by omega
        have hp : List.take 64 (List.drop (q * 64) (imgL d.laid)) = (d.laid.getD q default).l := img_part d.laid q (by omega)
        have hcv : ∀ cap, convA Try.prog m' 27 9 (.sl nD (q * 64) 64 cap) = some (.val (.string ⟨(d.laid.getD q default).l.toArray⟩)) := fun cap => conv_own ti_27 rfl ti_9 rfl ti_5 rfl a3 _ (by
          rw [flat_bytes, flat_bytes, ← List.map_drop, ← List.map_take, hp]) (by rw [flatten_one]; omega)
        repeat' first
          | simp -dsimp (disch := omega) only [↓rulesA, rulesB, rulesC, Int.reduceLT, nth, upd, put, storeN, AV.one, Nat.reduceBEq, Nat.reduceBNe, Int.reduceBEq, Int.reduceBNe, Int.reduceLE, Int.reduceEq, Int.reduceMod, Int.reduceNeg, boolBin, strBin, intBin, unA, fillA, ne_eq, reduceCtorEq, Nat.reduceAdd, Nat.reduceSub, Nat.reduceLeDiff, Nat.reduceLT, Nat.reduceEqDiff, Int.reduceToNat, eq_self, rulesT, bne_self_eq_false, mm_min, mm_max, buOf_some, nilCheck_vp, nilCheck_ptr, nilCheck_yld, nilCheck_func, Dev.rrow, Dev.ro, Dev.t4, Dev.p0, Dev.p1, Dev.p2, Dev.p3, Dev.p4, Dev.p5, Dev.p6, Dev.p7, Dev.plen, Dev.t2, Dev.t3, Dev.t5, Dev.t6, Dev.t7, Nat.mul_one, hcv, *]
          | (refine allK_intro fun n hn => ?_; try simp only [fresh_set] at hn)
          | (refine ifK_intro (fun h => ?_) (fun h => ?_) <;> (try simp only [decide_eq_true_eq, decide_eq_false_iff_not, Bool.not_eq_true', Bool.not_eq_false'] at h) <;> try (exfalso; (try simp only [beq_iff_eq, beq_eq_false_iff_ne, bne_iff_ne, bne_eq_false_iff_eq, ne_eq] at h); omega))
          | (refine keeps_sub (Mem.sub_set (by simp [Mem.set_at, nomem, *])) ?_)
        refine conv_text (tb_9_27 _) ?_
        rw [bytesE_def]
        repeat' first
          | simp -dsimp (disch := omega) only [↓rulesA, rulesB, rulesC, Int.reduceLT, nth, upd, put, storeN, AV.one, Nat.reduceBEq, Nat.reduceBNe, Int.reduceBEq, Int.reduceBNe, Int.reduceLE, Int.reduceEq, Int.reduceMod, Int.reduceNeg, boolBin, strBin, intBin, unA, fillA, ne_eq, reduceCtorEq, Nat.reduceAdd, Nat.reduceSub, Nat.reduceLeDiff, Nat.reduceLT, Nat.reduceEqDiff, Int.reduceToNat, eq_self, rulesT, bne_self_eq_false, mm_min, mm_max, buOf_some, nilCheck_vp, nilCheck_ptr, nilCheck_yld, nilCheck_func, *]
          | (refine allK_intro fun n hn => ?_; try simp only [fresh_set] at hn)
          | (refine ifK_intro (fun h => ?_) (fun h => ?_) <;> (try simp only [decide_eq_true_eq, decide_eq_false_iff_not, Bool.not_eq_true', Bool.not_eq_false'] at h) <;> try (exfalso; (try simp only [beq_iff_eq, beq_eq_false_iff_ne, bne_iff_ne, bne_eq_false_iff_eq, ne_eq] at h); omega))
          | (refine keeps_sub (Mem.sub_set (by simp [Mem.set_at, nomem, *])) ?_)
        exact Turns.id ⟨rfl, rfl⟩
    · have e : readE d k = 20 := by unfold readE; rw [if_neg (by rw [hd]; decide), if_pos (by omega)]
      exact (nil : ∀ e : Int, _ → _ → _) 20 e (by decide)
  · repeat' first
      | simp -dsimp (disch := omega) only [↓rulesA, rulesB, rulesC, Int.reduceLT, nth, upd, put, storeN, AV.one, Nat.reduceBEq, Nat.reduceBNe, Int.reduceBEq, Int.reduceBNe, Int.reduceLE, Int.reduceEq, Int.reduceMod, Int.reduceNeg, boolBin, strBin, intBin, unA, fillA, ne_eq, reduceCtorEq, Nat.reduceAdd, Nat.reduceSub, Nat.reduceLeDiff, Nat.reduceLT, Nat.reduceEqDiff, Int.reduceToNat, eq_self, rulesT, bne_self_eq_false, mm_min, mm_max, buOf_some, nilCheck_vp, nilCheck_ptr, nilCheck_yld, nilCheck_func, Dev.rrow, Dev.ro, Dev.t4, Dev.p0, Dev.p1, Dev.p2, Dev.p3, Dev.p4, Dev.p5, Dev.p6, Dev.p7, Dev.plen, Dev.t2, Dev.t3, Dev.t5, Dev.t6, Dev.t7, *]
      | (refine allK_intro fun n hn => ?_; try simp only [fresh_set] at hn)
      | (refine ifK_intro (fun h => ?_) (fun h => ?_) <;> (try simp only [decide_eq_true_eq, decide_eq_false_iff_not, Bool.not_eq_true', Bool.not_eq_false'] at h) <;> try (exfalso; (try simp only [beq_iff_eq, beq_eq_false_iff_ne, bne_iff_ne, bne_eq_false_iff_eq, ne_eq] at h); omega))
      | (refine keeps_sub (Mem.sub_set (by simp [Mem.set_at, nomem, *])) ?_)
    have e : readE d k = 22 := by unfold readE; rw [if_pos hd]
    exact (nil : ∀ e : Int, _ → _ → _) 22 e (by decide)
end Go.Proofs.Ytkfjjjjejdogbaa

