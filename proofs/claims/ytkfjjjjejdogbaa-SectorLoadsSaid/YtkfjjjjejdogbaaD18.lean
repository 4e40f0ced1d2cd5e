/- Package 05: the reference's device: writing. -/
import Derived.Test.YtkfjjjjejdogbaaD17
set_option maxRecDepth 100000
set_option maxHeartbeats 1000000
set_option linter.unusedSimpArgs false
set_option linter.unusedVariables false
namespace Go.Proofs.Ytkfjjjjejdogbaa
open Go.Abs
attribute [local irreducible] C X CC Y CV CW binK litK AppK PureC PureCV againK loopV rangeV allK ifK got onB condK V stepsK planK opK firstK seeE keepsK

theorem fill_self (s : Sec) : fillS s.l = s := Sec.inj (fill_full s.h)
theorem lit1_71 (w : Wr) : litA Try.prog 71 1 [(0, .agg (slotC w))] = some (81, 2, slotC w) := by
  simp only [litA, ti_71, ti_81, z_81, fillA, cells_agg, Slot.all, Slot.slen, if_true]
  rfl
theorem src_71 (m : Mem) (l : List Wr) (x : Bool) : srcA Try.prog m 71 2 (.vs (l.map slotC) x) = some (l.length, (l.map slotC).flatten) := src_vs slotC ti_71 rfl (fun _ => ⟨rfl, rfl⟩) m l x
theorem Slot.mk (k : Nat) (s : Sec) : AV.agg [.val (.int .i64 k), .val (.string ⟨s.l.toArray⟩)] = .agg (slotC ⟨k, s⟩) := rfl
theorem count_no {d : Dev} (h : d.set = false) (h' : d.dead = false) : countD (lessD d) = ⟨d.list, false, d.left, d.pick, d.laid, false, d.w + 1, d.f⟩ := by
  unfold lessD; rw [if_neg (by rw [h]; decide)]
  cases d; simp only at h h'; subst h; subst h'; rfl
theorem count_yes {d : Dev} (h : d.set = true) (h' : d.dead = false) : countD (lessD d) = ⟨d.list, true, d.left - 1, d.pick, d.laid, false, d.w + 1, d.f⟩ := by
  unfold lessD; rw [if_pos h]
  cases d; simp only at h h'; subst h; subst h'; rfl
theorem C30 (d : Dev) (hok : d.Ok) {N : Nat} {m : Mem} (hat : d.RAt N m) (hw : d.w < 4611686018427387904) (k : Int) (l : List UInt8) (x : Bool) (hll : l.length ≤ 140737488355328) : C Try.prog 30 [.ptr N 0, .val (.int .i64 k), .vs (l.map byteC) x] m (fun r m' => r = .val (.int .i64 (writeE d k l)) ∧ (writeD d k l).RAt N m') := by
  have hd := hok.some
  have hl := hok.list
  have hm := hok.most
  have hat0 := hat
  obtain ⟨pk', hs, -⟩ := hat.seen (Mem.sub.refl m) 0
  have h36 := F36 d pk' false false hm
  obtain ⟨nC, nD, pk, h1, h2, h3, h4, hm0⟩ := hat
  have h1' := Ne.symm h1
  have h2' := Ne.symm h2
  have h3' := Ne.symm h3
  have a1 : m N = some (.cells false 73 (d.ro nD (d.rrow nC) pk)) := by rw [hm0]; exact Mem.set_same _ _ _
  have a2 : m nC = some (.cells true 81 (d.list.map slotC).flatten) := by rw [hm0]; exact (Mem.set_ne _ _ (Ne.symm h1)).trans (Mem.set_same _ _ _)
  have a3 : m nD = some (.cells false 5 ((imgL d.laid).map byteC).flatten) := by rw [hm0]; exact (Mem.set_ne _ _ (Ne.symm h2)).trans ((Mem.set_ne _ _ (Ne.symm h3)).trans (Mem.set_same _ _ _))
  clear hm0
  replace h4 : Kept _ := h4
  refine C.turn (C30_of ?_)
  unfold k30
  rcases hdd : d.dead
  · have hnd : ¬ d.dead = true := by rw [hdd]; decide
    have r20 : Kept ((k < 0 ∨ d.laid.length ≤ k) → writeE d k l = 20 ∧ writeD d k l = d) := fun h => by
      unfold writeE writeD; rw [if_neg hnd, if_neg hnd, if_pos h, if_pos h]; exact ⟨rfl, rfl⟩
    have r10 : Kept (¬ (k < 0 ∨ d.laid.length ≤ k) → l.length ≠ 64 → writeE d k l = 10 ∧ writeD d k l = d) := fun h h' => by
      unfold writeE writeD; rw [if_neg hnd, if_neg hnd, if_neg h, if_neg h, if_pos h', if_pos h']; exact ⟨rfl, rfl⟩
    have r22 : Kept (¬ (k < 0 ∨ d.laid.length ≤ k) → l.length = 64 → (d.set = true ∧ d.left = 0) → writeE d k l = 22 ∧ writeD d k l = loseD d d.pick) := fun h h' h'' => ⟨by unfold writeE; rw [if_neg hnd, if_neg h, if_neg (fun e => e h'), if_pos h''], by unfold writeD; rw [if_neg hnd, if_neg h, if_neg (fun e => e h'), if_pos h'']⟩
    have r0 : Kept (¬ (k < 0 ∨ d.laid.length ≤ k) → l.length = 64 → ¬ (d.set = true ∧ d.left = 0) → writeE d k l = 0 ∧ writeD d k l = countD (layD (lessD d) k.toNat (fillS l))) := fun h h' h'' => ⟨by unfold writeE; rw [if_neg hnd, if_neg h, if_neg (fun e => e h'), if_neg h''], by unfold writeD; rw [if_neg hnd, if_neg h, if_neg (fun e => e h'), if_neg h'']⟩
    clear hnd
    by_cases hL : l.length = 64
    · obtain ⟨s, rfl⟩ : ∃ s : Sec, l = s.l := ⟨fillS l, (fill_full hL).symm⟩
      have fs : Kept (fillS s.l = s) := fill_self s
      have go : Kept (∀ (q : Nat), k = q → ¬ (k < 0 ∨ d.laid.length ≤ k) → ¬ (d.set = true ∧ d.left = 0) → writeE d k s.l = 0 ∧ writeD d k s.l = layD (countD (lessD d)) q s) := fun q e h h' => by
        obtain ⟨e1, e2⟩ := r0 h hL h'
        refine ⟨e1, e2.trans ?_⟩
        rw [(fs : _ = _), e]; rfl
      rcases hset : d.set
      case' false =>
        have hlf : leftI d = -1 := by unfold leftI; rw [hset]; rfl
        have hc : Kept (¬ (d.set = true ∧ d.left = 0)) := by show ¬ _; rw [hset]; simp
        have e : Kept (countD (lessD d) = ⟨d.list, false, d.left, d.pick, d.laid, false, d.w + 1, d.f⟩) := count_no hset hdd
        repeat' first
          | simp -dsimp (disch := omega) only [↓rulesA, rulesB, rulesC, Int.reduceLT, nth, upd, put, storeN, AV.one, Nat.reduceBEq, Nat.reduceBNe, Int.reduceBEq, Int.reduceBNe, Int.reduceLE, Int.reduceEq, Int.reduceMod, Int.reduceNeg, boolBin, strBin, intBin, unA, fillA, ne_eq, reduceCtorEq, Nat.reduceAdd, Nat.reduceSub, Nat.reduceLeDiff, Nat.reduceLT, Nat.reduceEqDiff, Int.reduceToNat, eq_self, rulesT, bne_self_eq_false, mm_min, mm_max, buOf_some, nilCheck_vp, nilCheck_ptr, nilCheck_yld, nilCheck_func, Dev.rrow, Dev.ro, Dev.t4, Dev.p0, Dev.p1, Dev.p2, Dev.p3, Dev.p4, Dev.p5, Dev.p6, Dev.p7, Dev.plen, Dev.t2, Dev.t3, Dev.t5, Dev.t6, Dev.t7, hlf, *]
          | (refine allK_intro fun n hn => ?_; try simp only [fresh_set] at hn)
          | (refine ifK_intro (fun h => ?_) (fun h => ?_) <;> (try simp only [decide_eq_true_eq, decide_eq_false_iff_not, Bool.not_eq_true', Bool.not_eq_false'] at h) <;> try (exfalso; (try simp only [beq_iff_eq, beq_eq_false_iff_ne, bne_iff_ne, bne_eq_false_iff_eq, ne_eq] at h); omega))
          | (refine keeps_sub (Mem.sub_set (by simp [Mem.set_at, nomem, *])) ?_)
          | (refine call_F (h36) (.one hs) ?_)
          | (refine pure_F (h36) (.one hs) ?_)
        all_goals first | exact Turns.id ⟨by rw [(r20 (by omega)).1], hat0.eq (r20 (by omega)).2.symm⟩ | skip
        obtain ⟨q, rfl⟩ : ∃ q : Nat, k = q := ⟨k.toNat, by omega⟩
        have g := (go : ∀ q : Nat, _ → _ → _ → _) q rfl (by omega) hc
        rw [(e : _ = _)] at g
        rw [g.1]
        replace g : Kept _ := g.2
        obtain ⟨d2, hd2⟩ : ∃ d2 : Dev, d2 = ⟨d.list, false, d.left, d.pick, d.laid, false, d.w + 1, d.f⟩ := ⟨_, rfl⟩
        have f1 : d2.list = d.list := by rw [hd2]
        have f2 : d2.laid = d.laid := by rw [hd2]
        have f3 : Kept (d2.set = true → pk = d2.pick) := by show _ → _; rw [hd2]; intro h; cases h
        have f4 : leftI d2 = -1 := by rw [hd2]; rfl
        rw [← hd2] at g ⊢
        rw [← f4]
        clear hd2 f4 hlf hc e go r20 r10 r22 r0 h4 hs h36 hat0 a1
      case' true =>
        have hlf : leftI d = d.left := by unfold leftI; rw [hset]; rfl
        have hc := hok.cut hset
        have hpk : Kept (pk = d.pick) := h4 hset
        repeat' first
          | simp -dsimp (disch := omega) only [↓rulesA, rulesB, rulesC, Int.reduceLT, nth, upd, put, storeN, AV.one, Nat.reduceBEq, Nat.reduceBNe, Int.reduceBEq, Int.reduceBNe, Int.reduceLE, Int.reduceEq, Int.reduceMod, Int.reduceNeg, boolBin, strBin, intBin, unA, fillA, ne_eq, reduceCtorEq, Nat.reduceAdd, Nat.reduceSub, Nat.reduceLeDiff, Nat.reduceLT, Nat.reduceEqDiff, Int.reduceToNat, eq_self, rulesT, bne_self_eq_false, mm_min, mm_max, buOf_some, nilCheck_vp, nilCheck_ptr, nilCheck_yld, nilCheck_func, Dev.rrow, Dev.ro, Dev.t4, Dev.p0, Dev.p1, Dev.p2, Dev.p3, Dev.p4, Dev.p5, Dev.p6, Dev.p7, Dev.plen, Dev.t2, Dev.t3, Dev.t5, Dev.t6, Dev.t7, hlf, *]
          | (refine allK_intro fun n hn => ?_; try simp only [fresh_set] at hn)
          | (refine ifK_intro (fun h => ?_) (fun h => ?_) <;> (try simp only [decide_eq_true_eq, decide_eq_false_iff_not, Bool.not_eq_true', Bool.not_eq_false'] at h) <;> try (exfalso; (try simp only [beq_iff_eq, beq_eq_false_iff_ne, bne_iff_ne, bne_eq_false_iff_eq, ne_eq] at h); omega))
          | (refine keeps_sub (Mem.sub_set (by simp [Mem.set_at, nomem, *])) ?_)
          | (refine call_F (h36) (.one hs) ?_)
          | (refine pure_F (h36) (.one hs) ?_)
        all_goals first | exact Turns.id ⟨by rw [(r20 (by omega)).1], hat0.eq (r20 (by omega)).2.symm⟩ | skip
        · have hl0 : d.left = 0 := by simpa using h
          have r : Kept (writeE d k s.l = 22 ∧ writeD d k s.l = loseD d d.pick) := r22 (by omega) hL ⟨hset, hl0⟩
          rw [(hpk : _ = _)]
          refine call_C (C32 d hok hat0 _) fun r m' ⟨hr, h'⟩ => ?_
          subst hr
          repeat' first
            | simp -dsimp (disch := omega) only [↓rulesA, rulesB, rulesC, Int.reduceLT, nth, upd, put, storeN, AV.one, Nat.reduceBEq, Nat.reduceBNe, Int.reduceBEq, Int.reduceBNe, Int.reduceLE, Int.reduceEq, Int.reduceMod, Int.reduceNeg, boolBin, strBin, intBin, unA, fillA, ne_eq, reduceCtorEq, Nat.reduceAdd, Nat.reduceSub, Nat.reduceLeDiff, Nat.reduceLT, Nat.reduceEqDiff, Int.reduceToNat, eq_self, rulesT, bne_self_eq_false, mm_min, mm_max, buOf_some, nilCheck_vp, nilCheck_ptr, nilCheck_yld, nilCheck_func, *]
            | (refine allK_intro fun n hn => ?_; try simp only [fresh_set] at hn)
            | (refine ifK_intro (fun h => ?_) (fun h => ?_) <;> (try simp only [decide_eq_true_eq, decide_eq_false_iff_not, Bool.not_eq_true', Bool.not_eq_false'] at h) <;> try (exfalso; (try simp only [beq_iff_eq, beq_eq_false_iff_ne, bne_iff_ne, bne_eq_false_iff_eq, ne_eq] at h); omega))
            | (refine keeps_sub (Mem.sub_set (by simp [Mem.set_at, nomem, *])) ?_)
          exact Turns.id ⟨by rw [(r : _ ∧ _).1], h'.eq (r : _ ∧ _).2.symm⟩
        rotate_left
        · exfalso
          have h0 : (d.left == 0) = false := by assumption
          have := ne_of_beq_false h0
          omega
        obtain ⟨q, rfl⟩ : ∃ q : Nat, k = q := ⟨k.toNat, by omega⟩
        have e : Kept (countD (lessD d) = ⟨d.list, true, d.left - 1, d.pick, d.laid, false, d.w + 1, d.f⟩) := count_yes hset hdd
        have g := (go : ∀ q : Nat, _ → _ → _ → _) q rfl (by omega) (fun h => by
          have h0 : (d.left == 0) = false := by assumption
          rw [h.2] at h0; cases h0)
        rw [(e : _ = _)] at g
        rw [g.1]
        replace g : Kept _ := g.2
        obtain ⟨d2, hd2⟩ : ∃ d2 : Dev, d2 = ⟨d.list, true, d.left - 1, d.pick, d.laid, false, d.w + 1, d.f⟩ := ⟨_, rfl⟩
        have f1 : d2.list = d.list := by rw [hd2]
        have f2 : d2.laid = d.laid := by rw [hd2]
        have f3 : Kept (d2.set = true → pk = d2.pick) := by show _ → _; rw [hd2]; intro _; exact hpk
        have f4 : d.left - 1 = leftI d2 := by rw [hd2]; rfl
        have f5 : ∀ c, (⟨d.list, true, d.left, d.pick, d.laid, false, d.w + 1, d.f⟩ : Dev).rl nD c (d.left - 1) pk = d2.rl nD c (d.left - 1) pk := fun c => by rw [hd2]; rfl
        rw [f5, f4]
        rw [← hd2] at g
        clear hd2 f4 f5 hlf hc e go r20 r10 r22 r0 h4 hs h36 hat0 a1
      all_goals
        have hfn := findN_le d.list q
        refine loop_intro (fun j env m' => ∃ i : Nat, i ≤ findN d.list q ∧ j = d.list.length - i ∧ m' = m.set N (.cells false 73 (d2.rl nD (.sl nC 0 d.list.length d.list.length) (leftI d2) pk)) ∧ env.length = 101 ∧ nth env 0 = .ptr N 0 ∧ nth env 1 = .val (.int .i64 q) ∧ nth env 2 = .vs (s.l.map byteC) x ∧ nth env 7 = .val (.int .i64 i)) d.list.length _ (Mem.sub.refl _) ⟨0, by omega, by omega, rfl, rfl, rfl, rfl, rfl, rfl⟩ ?_
        clear hset
        rintro j env m' ⟨i, hi, rfl, rfl, hlen, e0, e1, e2, e7⟩
        repeat' first
          | simp -dsimp (disch := omega) only [↓rulesA, rulesB, rulesC, Int.reduceLT, nth, upd, put, storeN, AV.one, Nat.reduceBEq, Nat.reduceBNe, Int.reduceBEq, Int.reduceBNe, Int.reduceLE, Int.reduceEq, Int.reduceMod, Int.reduceNeg, boolBin, strBin, intBin, unA, fillA, ne_eq, reduceCtorEq, Nat.reduceAdd, Nat.reduceSub, Nat.reduceLeDiff, Nat.reduceLT, Nat.reduceEqDiff, Int.reduceToNat, eq_self, rulesT, bne_self_eq_false, mm_min, mm_max, buOf_some, nilCheck_vp, nilCheck_ptr, nilCheck_yld, nilCheck_func, Slot.len, Slot.rat0, Slot.rat1, Slot.rin, Slot.rin1, Slot.rpart, Slot.rset1, Slot.slen, Slot.all, Slot.g0, Slot.g1, Slot.take, Dev.rrow, Dev.ro, Dev.t4, Dev.p0, Dev.p1, Dev.p2, Dev.p3, Dev.p4, Dev.p5, Dev.p6, Dev.p7, Dev.plen, Dev.t2, Dev.t3, Dev.t5, Dev.t6, Dev.t7, Slot.mk, *]
          | (refine allK_intro fun n hn => ?_; try simp only [fresh_set] at hn)
          | (refine ifK_intro (fun h => ?_) (fun h => ?_) <;> (try simp only [decide_eq_true_eq, decide_eq_false_iff_not, Bool.not_eq_true', Bool.not_eq_false'] at h) <;> try (exfalso; (try simp only [beq_iff_eq, beq_eq_false_iff_ne, bne_iff_ne, bne_eq_false_iff_eq, ne_eq] at h); omega))
          | (refine keeps_sub (Mem.sub_set (by simp [Mem.set_at, nomem, *])) ?_)
        · have hat : ((d.list.getD i default).at_ : Int) = q := eq_of_beq (by assumption)
          have hf : findN d.list q = i := findN_end hi (by omega) (by omega)
          have hq : (d.list.getD i default).at_ = q := by omega
          have e4 : layL d.list q s = d.list.set i ⟨q, s⟩ := by unfold layL; rw [if_pos (by omega), hf]
          have e5 : (layL d.list q s).length = d.list.length := by rw [e4, List.length_set]
          refine Turns.sub (m' := (layD d2 q s).rmem N nC nD pk) ?_ ⟨rfl, Dev.RAt.eq (d := layD d2 q s) ⟨nC, nD, pk, h1, h2, h3, f3, rfl⟩ (g : _ = _).symm⟩
          unfold Dev.rmem
          rw [show (layD d2 q s).list = layL d.list q s by unfold layD; rw [f1], show (layD d2 q s).laid = d.laid from f2]
          refine Mem.set_sub (Mem.set_sub (Mem.set_sub (nomem_sub _) ?_) ?_) ?_
          · simp [Mem.set_at, *]
          · rw [e4, ← hq]; exact Mem.set_same _ _ _
          · have : (layD d2 q s).ro nD ((layD d2 q s).rrow nC) pk = d2.rl nD (.sl nC 0 d.list.length d.list.length) (leftI d2) pk := by
              have : (layD d2 q s).rrow nC = .sl nC 0 d.list.length d.list.length := by unfold Dev.rrow layD; simp only; rw [f1, e5]
              rw [this]; rfl
            rw [this]
            simp [Mem.set_at, *]
        · have hat : ((d.list.getD i default).at_ : Int) ≠ q := ne_of_beq_false (by assumption)
          refine again_intro (d.list.length - (i + 1)) (by omega) _ (Mem.sub.refl _) ⟨i + 1, ?_, rfl, rfl, ?_, ?_, ?_, ?_, ?_⟩
          · have : findN d.list q ≠ i := fun e => by
              have h2 := findN_is (l := d.list) (k := q) (by omega)
              rw [e] at h2
              exact hat (by omega)
            omega
          all_goals try (simp (disch := omega) only [nth_upd, pickB_true, pickB_false, inB_lt, upd_len, cast_succ, Nat.reduceBEq, beq_self_eq_true, reduceCtorEq, *]; done)
        · have hf : ¬ findN d.list q < d.list.length := by omega
          refine lit_vs (lit1_71 _) rfl ?_
          repeat' first
            | simp -dsimp (disch := omega) only [↓rulesA, rulesB, rulesC, Int.reduceLT, nth, upd, put, storeN, AV.one, Nat.reduceBEq, Nat.reduceBNe, Int.reduceBEq, Int.reduceBNe, Int.reduceLE, Int.reduceEq, Int.reduceMod, Int.reduceNeg, boolBin, strBin, intBin, unA, fillA, ne_eq, reduceCtorEq, Nat.reduceAdd, Nat.reduceSub, Nat.reduceLeDiff, Nat.reduceLT, Nat.reduceEqDiff, Int.reduceToNat, eq_self, rulesT, bne_self_eq_false, mm_min, mm_max, buOf_some, nilCheck_vp, nilCheck_ptr, nilCheck_yld, nilCheck_func, Slot.len, Slot.rat0, Slot.rat1, Slot.rin, Slot.rin1, Slot.rpart, Slot.rset1, Slot.slen, Slot.all, Slot.g0, Slot.g1, Slot.take, Dev.rrow, Dev.ro, Dev.t4, Dev.p0, Dev.p1, Dev.p2, Dev.p3, Dev.p4, Dev.p5, Dev.p6, Dev.p7, Dev.plen, Dev.t2, Dev.t3, Dev.t5, Dev.t6, Dev.t7, *]
            | (refine allK_intro fun n hn => ?_; try simp only [fresh_set] at hn)
            | (refine ifK_intro (fun h => ?_) (fun h => ?_) <;> (try simp only [decide_eq_true_eq, decide_eq_false_iff_not, Bool.not_eq_true', Bool.not_eq_false'] at h) <;> try (exfalso; (try simp only [beq_iff_eq, beq_eq_false_iff_ne, bne_iff_ne, bne_eq_false_iff_eq, ne_eq] at h); omega))
            | (refine keeps_sub (Mem.sub_set (by simp [Mem.set_at, nomem, *])) ?_)
          refine append_open app_71 (src_71 _ [⟨q, s⟩] _) (bt := 81) (cs := (d.list.map slotC).flatten) (by simp [Mem.set_at, *]) cs_81 (by rw [Slot.len]; simp) (show (d.list.length + 1) * 24 ≤ _ by omega) fun n4 hn4 => ?_
          simp only [fresh_set] at hn4
          repeat' first
            | simp -dsimp (disch := omega) only [↓rulesA, rulesB, rulesC, Int.reduceLT, nth, upd, put, storeN, AV.one, Nat.reduceBEq, Nat.reduceBNe, Int.reduceBEq, Int.reduceBNe, Int.reduceLE, Int.reduceEq, Int.reduceMod, Int.reduceNeg, boolBin, strBin, intBin, unA, fillA, ne_eq, reduceCtorEq, Nat.reduceAdd, Nat.reduceSub, Nat.reduceLeDiff, Nat.reduceLT, Nat.reduceEqDiff, Int.reduceToNat, eq_self, rulesT, bne_self_eq_false, mm_min, mm_max, buOf_some, nilCheck_vp, nilCheck_ptr, nilCheck_yld, nilCheck_func, Slot.len, Slot.rat0, Slot.rat1, Slot.rin, Slot.rin1, Slot.rpart, Slot.rset1, Slot.slen, Slot.all, Slot.g0, Slot.g1, Slot.take, Dev.rrow, Dev.ro, Dev.t4, Dev.p0, Dev.p1, Dev.p2, Dev.p3, Dev.p4, Dev.p5, Dev.p6, Dev.p7, Dev.plen, Dev.t2, Dev.t3, Dev.t5, Dev.t6, Dev.t7, *]
            | (refine allK_intro fun n hn => ?_; try simp only [fresh_set] at hn)
            | (refine ifK_intro (fun h => ?_) (fun h => ?_) <;> (try simp only [decide_eq_true_eq, decide_eq_false_iff_not, Bool.not_eq_true', Bool.not_eq_false'] at h) <;> try (exfalso; (try simp only [beq_iff_eq, beq_eq_false_iff_ne, bne_iff_ne, bne_eq_false_iff_eq, ne_eq] at h); omega))
            | (refine keeps_sub (Mem.sub_set (by simp [Mem.set_at, nomem, *])) ?_)
            | (refine keeps_stab (by repeat' first | exact stabK_nil _ _ | refine stabK_cons ?_ ?_ | (simp (disch := omega) only [quietA, Option.isSome_some, ↓rulesA, rulesB, rulesC, Int.reduceLT, nth, upd, put, storeN, AV.one, Nat.reduceBEq, Nat.reduceBNe, Int.reduceBEq, Int.reduceBNe, Int.reduceLE, Int.reduceEq, Int.reduceMod, Int.reduceNeg, boolBin, strBin, intBin, unA, fillA, ne_eq, reduceCtorEq, Nat.reduceAdd, Nat.reduceSub, Nat.reduceLeDiff, Nat.reduceLT, Nat.reduceEqDiff, Int.reduceToNat, eq_self, rulesT, bne_self_eq_false, mm_min, mm_max, buOf_some, nilCheck_vp, nilCheck_ptr, nilCheck_yld, nilCheck_func, Slot.len, Slot.rat0, Slot.rat1, Slot.rin, Slot.rin1, Slot.rpart, Slot.rset1, Slot.slen, Slot.all, Slot.g0, Slot.g1, Slot.take, Dev.rrow, Dev.ro, Dev.t4, Dev.p0, Dev.p1, Dev.p2, Dev.p3, Dev.p4, Dev.p5, Dev.p6, Dev.p7, Dev.plen, Dev.t2, Dev.t3, Dev.t5, Dev.t6, Dev.t7, *]; done)) ?_)
          have e4 : layL d.list q s = d.list ++ [⟨q, s⟩] := by unfold layL; rw [if_neg hf]
          have e5 : (layL d.list q s).length = d.list.length + 1 := by rw [e4, List.length_append]; rfl
          obtain ⟨b1, b2, b3⟩ := hn4
          have b4 : n4 ≠ nC := fun e => by rw [e, a2] at b3; cases b3
          have b5 : n4 ≠ nD := fun e => by rw [e, a3] at b3; cases b3
          have b4' := Ne.symm b4
          have b5' := Ne.symm b5
          refine Turns.sub (m' := (layD d2 q s).rmem N n4 nD pk) ?_ ⟨rfl, Dev.RAt.eq (d := layD d2 q s) ⟨n4, nD, pk, b2, h2, b5, f3, rfl⟩ (g : _ = _).symm⟩
          unfold Dev.rmem
          rw [show (layD d2 q s).list = layL d.list q s by unfold layD; rw [f1], show (layD d2 q s).laid = d.laid from f2]
          refine Mem.set_sub (Mem.set_sub (Mem.set_sub (nomem_sub _) ?_) ?_) ?_
          · simp [Mem.set_at, Mem.del_at, *]
          · simp [Mem.set_at, Mem.del_at, *]
          · have : (layD d2 q s).ro nD ((layD d2 q s).rrow n4) pk = d2.rl nD (.sl n4 0 (d.list.length + 1) (d.list.length + 1)) (leftI d2) pk := by
              have : (layD d2 q s).rrow n4 = .sl n4 0 (d.list.length + 1) (d.list.length + 1) := by unfold Dev.rrow layD; simp only; rw [f1, e5]
              rw [this]; rfl
            rw [this]
            simp [Mem.set_at, *]
    · repeat' first
        | simp -dsimp (disch := omega) only [↓rulesA, rulesB, rulesC, Int.reduceLT, nth, upd, put, storeN, AV.one, Nat.reduceBEq, Nat.reduceBNe, Int.reduceBEq, Int.reduceBNe, Int.reduceLE, Int.reduceEq, Int.reduceMod, Int.reduceNeg, boolBin, strBin, intBin, unA, fillA, ne_eq, reduceCtorEq, Nat.reduceAdd, Nat.reduceSub, Nat.reduceLeDiff, Nat.reduceLT, Nat.reduceEqDiff, Int.reduceToNat, eq_self, rulesT, bne_self_eq_false, mm_min, mm_max, buOf_some, nilCheck_vp, nilCheck_ptr, nilCheck_yld, nilCheck_func, Dev.rrow, Dev.ro, Dev.t4, Dev.p0, Dev.p1, Dev.p2, Dev.p3, Dev.p4, Dev.p5, Dev.p6, Dev.p7, Dev.plen, Dev.t2, Dev.t3, Dev.t5, Dev.t6, Dev.t7, *]
        | (refine allK_intro fun n hn => ?_; try simp only [fresh_set] at hn)
        | (refine ifK_intro (fun h => ?_) (fun h => ?_) <;> (try simp only [decide_eq_true_eq, decide_eq_false_iff_not, Bool.not_eq_true', Bool.not_eq_false'] at h) <;> try (exfalso; (try simp only [beq_iff_eq, beq_eq_false_iff_ne, bne_iff_ne, bne_eq_false_iff_eq, ne_eq] at h); omega))
        | (refine keeps_sub (Mem.sub_set (by simp [Mem.set_at, nomem, *])) ?_)
        | (refine call_F (h36) (.one hs) ?_)
        | (refine pure_F (h36) (.one hs) ?_)
      all_goals first
        | exact Turns.id ⟨by rw [(r20 (by omega)).1], hat0.eq (r20 (by omega)).2.symm⟩
        | exact Turns.id ⟨by rw [(r10 (by omega) hL).1], hat0.eq (r10 (by omega) hL).2.symm⟩
        | (exfalso; simp_all; done)
        | (exfalso; rename_i hx; simp only [bne_eq_false_iff_eq, bne_iff_ne] at hx; omega)
        | (exfalso; simp only [bne_eq_false_iff_eq, bne_iff_ne] at h; omega)
  · repeat' first
      | simp -dsimp (disch := omega) only [↓rulesA, rulesB, rulesC, Int.reduceLT, nth, upd, put, storeN, AV.one, Nat.reduceBEq, Nat.reduceBNe, Int.reduceBEq, Int.reduceBNe, Int.reduceLE, Int.reduceEq, Int.reduceMod, Int.reduceNeg, boolBin, strBin, intBin, unA, fillA, ne_eq, reduceCtorEq, Nat.reduceAdd, Nat.reduceSub, Nat.reduceLeDiff, Nat.reduceLT, Nat.reduceEqDiff, Int.reduceToNat, eq_self, rulesT, bne_self_eq_false, mm_min, mm_max, buOf_some, nilCheck_vp, nilCheck_ptr, nilCheck_yld, nilCheck_func, Dev.rrow, Dev.ro, Dev.t4, Dev.p0, Dev.p1, Dev.p2, Dev.p3, Dev.p4, Dev.p5, Dev.p6, Dev.p7, Dev.plen, Dev.t2, Dev.t3, Dev.t5, Dev.t6, Dev.t7, *]
      | (refine allK_intro fun n hn => ?_; try simp only [fresh_set] at hn)
      | (refine ifK_intro (fun h => ?_) (fun h => ?_) <;> (try simp only [decide_eq_true_eq, decide_eq_false_iff_not, Bool.not_eq_true', Bool.not_eq_false'] at h) <;> try (exfalso; (try simp only [beq_iff_eq, beq_eq_false_iff_ne, bne_iff_ne, bne_eq_false_iff_eq, ne_eq] at h); omega))
      | (refine keeps_sub (Mem.sub_set (by simp [Mem.set_at, nomem, *])) ?_)
    refine Turns.id ⟨?_, hat0.eq ?_⟩
    · unfold writeE; rw [if_pos hdd]
    · unfold writeD; rw [if_pos hdd]
end Go.Proofs.Ytkfjjjjejdogbaa

