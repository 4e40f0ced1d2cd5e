/- Package 20: the reference: judging and noting. -/
import Derived.Test.YtoankcclbnnfiaaD10
set_option maxRecDepth 100000
set_option maxHeartbeats 1000000
set_option linter.unusedSimpArgs false
set_option linter.unusedVariables false
namespace Go.Proofs.Ytoankcclbnnfiaa
open Go.Abs
attribute [local irreducible] C X CC Y CV CW binK litK AppK PureC PureCV againK loopV rangeV allK ifK got onB condK V stepsK planK opK firstK seeE keepsK

theorem rhi_22 (m : Mem) (l : List Dup) (x : Bool) (kk : IntKind) (hi : Int) (h0 : 0 ≤ hi) (h1 : hi ≤ l.length) : sliceA Try.prog m 22 (.vs (l.map Dup.cells) x) none (some (.val (.int kk hi))) none = some (.vs ((l.take hi.toNat).map Dup.cells) (x && hi.toNat == l.length)) := T_22.rhi (fun _ => rfl) m l x kk hi h0 h1
theorem rlo_22 (m : Mem) (l : List Dup) (x : Bool) (kk : IntKind) (lo : Int) (h0 : 0 ≤ lo) (h1 : lo ≤ l.length) : sliceA Try.prog m 22 (.vs (l.map Dup.cells) x) (some (.val (.int kk lo))) none none = some (.vs ((l.drop lo.toNat).map Dup.cells) x) := T_22.rlo (fun _ => rfl) m l x kk lo h0 h1
theorem rlohi_22 (m : Mem) (l : List Dup) (x : Bool) (kk kk' : IntKind) (lo hi : Int) (h0 : 0 ≤ lo) (h1 : lo ≤ hi) (h2 : hi ≤ l.length) : sliceA Try.prog m 22 (.vs (l.map Dup.cells) x) (some (.val (.int kk lo))) (some (.val (.int kk' hi))) none = some (.vs (((l.drop lo.toNat).take (hi.toNat - lo.toNat)).map Dup.cells) (x && hi.toNat == l.length)) := T_22.rlohi (fun _ => rfl) m l x kk kk' lo hi h0 h1 h2
def reqB (r : Req) : Bool := stampB r.client r.inst r.tid
theorem F10 (r : Req) : F Try.prog 10 [.agg r.cells] (.val (.bool (reqB r))) := by
  refine F10_of ?_
  unfold k10 reqB
  repeat' first
    | simp -dsimp (disch := omega) only [↓rulesA, rulesB, rulesC, Int.reduceLT, nth, upd, put, storeN, AV.one, Nat.reduceBEq, Nat.reduceBNe, Int.reduceBEq, Int.reduceBNe, Int.reduceLE, boolBin, strBin, intBin, unA, buildA, placesA, fillA, ne_eq, reduceCtorEq, Nat.reduceAdd, Nat.reduceSub, Nat.reduceLeDiff, Nat.reduceLT, Nat.reduceEqDiff, Int.reduceToNat, eq_self, rulesT, Req.g0, Req.g1, Req.g2, Req.g3, Req.g4, Req.g5, Req.g6, Req.g7, Req.len, Req.take, Req.all, Req.drop, Req.sall, Req.slit, *]
    | (refine allK_intro fun n hn => ?_; try simp only [fresh_set] at hn)
    | (refine ifK_intro (fun h => ?_) (fun h => ?_) <;> (try simp only [decide_eq_true_eq, decide_eq_false_iff_not, Bool.not_eq_true', Bool.not_eq_false'] at h) <;> try (exfalso; (try simp only [beq_iff_eq, beq_eq_false_iff_ne, bne_iff_ne, bne_eq_false_iff_eq, ne_eq] at h); omega))
    | (refine keeps_sub (Mem.sub_set (by simp [Mem.set_at, nomem, *])) ?_)
    | (refine call_F (F29 _ _ _) (Seens.refl _ _) ?_)
    | (refine pure_F (F29 _ _ _) (Seens.refl _ _) ?_)
  all_goals exact .val
/-- The reference's judgement: what was found is the first of this client. -/
theorem F14 (l : List Dup) (x : Bool) (r : Req) (hl : l.length ≤ 140737488355328) (d : Dup) (b : Bool) (hd : F Try.prog 21 [.vs (l.map Dup.cells) x, .val (.int .i64 r.client)] (.tup [.agg d.cells, .val (.bool b)])) (hc : b = true → d.client = r.client) :
    F Try.prog 14 [.vs (l.map Dup.cells) x, .agg r.cells] (.tup [.val (.int .i64 (whatB l.length b d r)), .agg (wasB l.length b d r).cells]) := by
  refine F14_of ?_
  unfold k14
  repeat' first
    | simp -dsimp (disch := omega) only [↓rulesA, rulesB, rulesC, Int.reduceLT, nth, upd, put, storeN, AV.one, Nat.reduceBEq, Nat.reduceBNe, Int.reduceBEq, Int.reduceBNe, Int.reduceLE, boolBin, strBin, intBin, unA, buildA, placesA, fillA, ne_eq, reduceCtorEq, Nat.reduceAdd, Nat.reduceSub, Nat.reduceLeDiff, Nat.reduceLT, Nat.reduceEqDiff, Int.reduceToNat, eq_self, rulesT, len_22, ix_22, rhi_22, rlo_22, rlohi_22, Req.g0, Req.g1, Req.g2, Req.g3, Req.g4, Req.g5, Req.g6, Req.g7, Req.len, Req.take, Req.all, Req.drop, Req.sall, Req.slit, Dup.g0, Dup.g1, Dup.g2, Dup.g3, Dup.g4, Dup.g5, Dup.g6, Dup.len, Dup.take, Dup.all, Dup.drop, Dup.rlen, Dup.rat, Dup.rat0, Dup.rpart, Dup.rin, Dup.rset, Dup.sall, Dup.slit, Dup.part3, Dup.join, Res.g0, Res.g1, Res.g2, Res.g3, Res.len, Res.all, Res.take, Res.drop, Res.sall, Res.slit, *]
    | (refine allK_intro fun n hn => ?_; try simp only [fresh_set] at hn)
    | (refine ifK_intro (fun h => ?_) (fun h => ?_) <;> (try simp only [decide_eq_true_eq, decide_eq_false_iff_not, Bool.not_eq_true', Bool.not_eq_false'] at h) <;> try (exfalso; (try simp only [beq_iff_eq, beq_eq_false_iff_ne, bne_iff_ne, bne_eq_false_iff_eq, ne_eq] at h); omega))
    | (refine keeps_sub (Mem.sub_set (by simp [Mem.set_at, nomem, *])) ?_)
    | (refine call_F (hd) (Seens.refl _ _) ?_)
    | (refine pure_F (hd) (Seens.refl _ _) ?_)
    | (refine call_F (F33 _ _ _ _) (Seens.refl _ _) ?_)
    | (refine pure_F (F33 _ _ _ _) (Seens.refl _ _) ?_)
  all_goals first | (have hc := hc ‹_›; refine New.eq ?_ rfl; simp [whatB, wasB, Res.cells, r0, *] <;> rfl; done) | (refine New.eq ?_ rfl; simp [whatB, wasB, Res.cells, r0, *] <;> rfl; done)
theorem put_row (l : List Dup) (d : Dup) (k k' : Nat) : ((l.take k).map Dup.cells).flatten ++ d.cells ++ ((l.drop k').map Dup.cells).flatten = ((l.take k ++ d :: l.drop k').map Dup.cells).flatten := by
  simp
theorem O37 (l : List Dup) (x : Bool) (d : Dup) (hl : (l.length + 1) * 64 ≤ 140737488355328) (k : Nat) (hk : k ≤ l.length) (hlo : ∀ i, i < k → (l.getD i default).client < d.client) (hhi : ∀ i, k ≤ i → i < l.length → d.client ≤ (l.getD i default).client) :
    O Try.prog 37 [.vs (l.map Dup.cells) x, .agg d.cells] 39 (if foundB l d.client k then l.set k d else l.take k ++ d :: l.drop k).length ((if foundB l d.client k then l.set k d else l.take k ++ d :: l.drop k).map Dup.cells).flatten := by
  refine C37_of ?_
  unfold k37
  repeat' first
    | simp -dsimp (disch := omega) only [↓rulesA, rulesB, rulesC, Int.reduceLT, nth, upd, put, storeN, AV.one, Nat.reduceBEq, Nat.reduceBNe, Int.reduceBEq, Int.reduceBNe, Int.reduceLE, boolBin, strBin, intBin, unA, buildA, placesA, fillA, ne_eq, reduceCtorEq, Nat.reduceAdd, Nat.reduceSub, Nat.reduceLeDiff, Nat.reduceLT, Nat.reduceEqDiff, Int.reduceToNat, eq_self, rulesT, len_22, ix_22, rhi_22, rlo_22, rlohi_22, Dup.g0, Dup.g1, Dup.g2, Dup.g3, Dup.g4, Dup.g5, Dup.g6, Dup.len, Dup.take, Dup.all, Dup.drop, Dup.rlen, Dup.rat, Dup.rat0, Dup.rpart, Dup.rin, Dup.rset, Dup.sall, Dup.slit, Dup.part3, Dup.join, *]
    | (refine allK_intro fun n hn => ?_; try simp only [fresh_set] at hn)
    | (refine ifK_intro (fun h => ?_) (fun h => ?_) <;> (try simp only [decide_eq_true_eq, decide_eq_false_iff_not, Bool.not_eq_true', Bool.not_eq_false'] at h) <;> try (exfalso; (try simp only [beq_iff_eq, beq_eq_false_iff_ne, bne_iff_ne, bne_eq_false_iff_eq, ne_eq] at h); omega))
    | (refine keeps_sub (Mem.sub_set (by simp [Mem.set_at, nomem, *])) ?_)
  have fin : ∀ i : Nat, i ≤ k → (i < l.length → ¬ (l.getD i default).client < d.client) → i = k := fun i hi h => by
    rcases Nat.lt_or_ge i k with h' | h'
    · exact absurd (hlo i h') (h (by omega))
    · omega
  refine loop_intro (fun j env m => ∃ i : Nat, i ≤ k ∧ j = k - i ∧ m = nomem.set n (.cells false 39 d.cells) ∧ env.length = 53 ∧ nth env 0 = .vs (l.map Dup.cells) x ∧ nth env 3 = .ptr n 0 ∧ nth env 5 = .val (.slice none 0 0) ∧ nth env 6 = .val (.int .i64 i)) k _ (fun _ _ h => h) ⟨0, by omega, by omega, rfl, rfl, rfl, rfl, rfl, rfl⟩ ?_
  rintro j env m ⟨i, hi, rfl, rfl, hlen, e0, e3, e5, e6⟩
  repeat' first
    | simp -dsimp (disch := omega) only [↓rulesA, rulesB, rulesC, Int.reduceLT, nth, upd, put, storeN, AV.one, Nat.reduceBEq, Nat.reduceBNe, Int.reduceBEq, Int.reduceBNe, Int.reduceLE, boolBin, strBin, intBin, unA, buildA, placesA, fillA, ne_eq, reduceCtorEq, Nat.reduceAdd, Nat.reduceSub, Nat.reduceLeDiff, Nat.reduceLT, Nat.reduceEqDiff, Int.reduceToNat, eq_self, rulesT, len_22, ix_22, Dup.g0, Dup.g1, Dup.g2, Dup.g3, Dup.g4, Dup.g5, Dup.g6, Dup.len, Dup.take, Dup.all, Dup.drop, Dup.rlen, Dup.rat, Dup.rat0, Dup.rpart, Dup.rin, Dup.rset, Dup.sall, Dup.slit, Dup.part3, Dup.join, *]
    | (refine allK_intro fun n hn => ?_; try simp only [fresh_set] at hn)
    | (refine ifK_intro (fun h => ?_) (fun h => ?_) <;> (try simp only [decide_eq_true_eq, decide_eq_false_iff_not, Bool.not_eq_true', Bool.not_eq_false'] at h) <;> try (exfalso; (try simp only [beq_iff_eq, beq_eq_false_iff_ne, bne_iff_ne, bne_eq_false_iff_eq, ne_eq] at h); omega))
    | (refine keeps_sub (Mem.sub_set (by simp [Mem.set_at, nomem, *])) ?_)
  · have hik : i < k := by
      rcases Nat.lt_or_ge i k with h' | h'
      · exact h'
      · have := hhi i h' (by omega); omega
    refine again_intro (k - (i + 1)) (by omega) (nomem.set n (.cells false 39 d.cells)) (fun _ _ h => h) ⟨i + 1, by omega, rfl, rfl, ?_, ?_, ?_, ?_, ?_⟩
    all_goals try (simp (disch := omega) only [nth_upd, pickB_true, pickB_false, inB_lt, upd_len, cast_succ, Nat.reduceBEq, beq_self_eq_true, reduceCtorEq, *]; done)
  all_goals
    have hik : i = k := fin i hi (by omega)
    clear fin
    subst hik
    repeat' first
      | simp -dsimp (disch := omega) only [↓rulesA, rulesB, rulesC, Int.reduceLT, nth, upd, put, storeN, AV.one, Nat.reduceBEq, Nat.reduceBNe, Int.reduceBEq, Int.reduceBNe, Int.reduceLE, boolBin, strBin, intBin, unA, buildA, placesA, fillA, ne_eq, reduceCtorEq, Nat.reduceAdd, Nat.reduceSub, Nat.reduceLeDiff, Nat.reduceLT, Nat.reduceEqDiff, Int.reduceToNat, eq_self, rulesT, len_22, ix_22, rhi_22, rlo_22, rlohi_22, Dup.g0, Dup.g1, Dup.g2, Dup.g3, Dup.g4, Dup.g5, Dup.g6, Dup.len, Dup.take, Dup.all, Dup.drop, Dup.rlen, Dup.rat, Dup.rat0, Dup.rpart, Dup.rin, Dup.rset, Dup.sall, Dup.slit, Dup.part3, Dup.join, *]
      | (refine allK_intro fun n hn => ?_; try simp only [fresh_set] at hn)
      | (refine ifK_intro (fun h => ?_) (fun h => ?_) <;> (try simp only [decide_eq_true_eq, decide_eq_false_iff_not, Bool.not_eq_true', Bool.not_eq_false'] at h) <;> try (exfalso; (try simp only [beq_iff_eq, beq_eq_false_iff_ne, bne_iff_ne, bne_eq_false_iff_eq, ne_eq] at h); omega))
      | (refine keeps_sub (Mem.sub_set (by simp [Mem.set_at, nomem, *])) ?_)
    refine append_nil app_22 (src_22 _ _ _) (by simp; omega) fun n1 hn1 => ?_
    simp only [fresh_set] at hn1
    repeat' first
      | simp -dsimp (disch := omega) only [↓rulesA, rulesB, rulesC, Int.reduceLT, nth, upd, put, storeN, AV.one, Nat.reduceBEq, Nat.reduceBNe, Int.reduceBEq, Int.reduceBNe, Int.reduceLE, boolBin, strBin, intBin, unA, buildA, placesA, fillA, ne_eq, reduceCtorEq, Nat.reduceAdd, Nat.reduceSub, Nat.reduceLeDiff, Nat.reduceLT, Nat.reduceEqDiff, Int.reduceToNat, eq_self, rulesT, len_22, ix_22, rhi_22, rlo_22, rlohi_22, Dup.g0, Dup.g1, Dup.g2, Dup.g3, Dup.g4, Dup.g5, Dup.g6, Dup.len, Dup.take, Dup.all, Dup.drop, Dup.rlen, Dup.rat, Dup.rat0, Dup.rpart, Dup.rin, Dup.rset, Dup.sall, Dup.slit, Dup.part3, Dup.join, *]
      | (refine allK_intro fun n hn => ?_; try simp only [fresh_set] at hn)
      | (refine ifK_intro (fun h => ?_) (fun h => ?_) <;> (try simp only [decide_eq_true_eq, decide_eq_false_iff_not, Bool.not_eq_true', Bool.not_eq_false'] at h) <;> try (exfalso; (try simp only [beq_iff_eq, beq_eq_false_iff_ne, bne_iff_ne, bne_eq_false_iff_eq, ne_eq] at h); omega))
      | (refine keeps_sub (Mem.sub_set (by simp [Mem.set_at, nomem, *])) ?_)
    refine lit_vs (lit1_22 d) rfl ?_
    repeat' first
      | simp -dsimp (disch := omega) only [↓rulesA, rulesB, rulesC, Int.reduceLT, nth, upd, put, storeN, AV.one, Nat.reduceBEq, Nat.reduceBNe, Int.reduceBEq, Int.reduceBNe, Int.reduceLE, boolBin, strBin, intBin, unA, buildA, placesA, fillA, ne_eq, reduceCtorEq, Nat.reduceAdd, Nat.reduceSub, Nat.reduceLeDiff, Nat.reduceLT, Nat.reduceEqDiff, Int.reduceToNat, eq_self, rulesT, len_22, ix_22, rhi_22, rlo_22, rlohi_22, Dup.g0, Dup.g1, Dup.g2, Dup.g3, Dup.g4, Dup.g5, Dup.g6, Dup.len, Dup.take, Dup.all, Dup.drop, Dup.rlen, Dup.rat, Dup.rat0, Dup.rpart, Dup.rin, Dup.rset, Dup.sall, Dup.slit, Dup.part3, Dup.join, *]
      | (refine allK_intro fun n hn => ?_; try simp only [fresh_set] at hn)
      | (refine ifK_intro (fun h => ?_) (fun h => ?_) <;> (try simp only [decide_eq_true_eq, decide_eq_false_iff_not, Bool.not_eq_true', Bool.not_eq_false'] at h) <;> try (exfalso; (try simp only [beq_iff_eq, beq_eq_false_iff_ne, bne_iff_ne, bne_eq_false_iff_eq, ne_eq] at h); omega))
      | (refine keeps_sub (Mem.sub_set (by simp [Mem.set_at, nomem, *])) ?_)
    refine append_open app_22 (src_22 _ [d] _) (Mem.set_same _ _ _) cs_39 (by rw [Dup.rlen, Nat.zero_add]) (by simp; omega) fun n2 hn2 => ?_
    simp only [fresh_set] at hn2
    repeat' first
      | simp -dsimp (disch := omega) only [↓rulesA, rulesB, rulesC, Int.reduceLT, nth, upd, put, storeN, AV.one, Nat.reduceBEq, Nat.reduceBNe, Int.reduceBEq, Int.reduceBNe, Int.reduceLE, boolBin, strBin, intBin, unA, buildA, placesA, fillA, ne_eq, reduceCtorEq, Nat.reduceAdd, Nat.reduceSub, Nat.reduceLeDiff, Nat.reduceLT, Nat.reduceEqDiff, Int.reduceToNat, eq_self, rulesT, len_22, ix_22, rhi_22, rlo_22, rlohi_22, Dup.g0, Dup.g1, Dup.g2, Dup.g3, Dup.g4, Dup.g5, Dup.g6, Dup.len, Dup.take, Dup.all, Dup.drop, Dup.rlen, Dup.rat, Dup.rat0, Dup.rpart, Dup.rin, Dup.rset, Dup.sall, Dup.slit, Dup.part3, Dup.join, *]
      | (refine allK_intro fun n hn => ?_; try simp only [fresh_set] at hn)
      | (refine ifK_intro (fun h => ?_) (fun h => ?_) <;> (try simp only [decide_eq_true_eq, decide_eq_false_iff_not, Bool.not_eq_true', Bool.not_eq_false'] at h) <;> try (exfalso; (try simp only [beq_iff_eq, beq_eq_false_iff_ne, bne_iff_ne, bne_eq_false_iff_eq, ne_eq] at h); omega))
      | (refine keeps_sub (Mem.sub_set (by simp [Mem.set_at, nomem, *])) ?_)
  all_goals
    refine append_open app_22 (src_22 _ _ _) (Mem.set_same _ _ _) cs_39 (by rw [List.length_append, Dup.rlen]; simp [Dup.len]; omega) (by simp; omega) fun n3 hn3 => ?_
    repeat' first
      | simp -dsimp (disch := omega) only [↓rulesA, rulesB, rulesC, Int.reduceLT, nth, upd, put, storeN, AV.one, Nat.reduceBEq, Nat.reduceBNe, Int.reduceBEq, Int.reduceBNe, Int.reduceLE, boolBin, strBin, intBin, unA, buildA, placesA, fillA, ne_eq, reduceCtorEq, Nat.reduceAdd, Nat.reduceSub, Nat.reduceLeDiff, Nat.reduceLT, Nat.reduceEqDiff, Int.reduceToNat, eq_self, rulesT, len_22, ix_22, rhi_22, rlo_22, rlohi_22, Dup.g0, Dup.g1, Dup.g2, Dup.g3, Dup.g4, Dup.g5, Dup.g6, Dup.len, Dup.take, Dup.all, Dup.drop, Dup.rlen, Dup.rat, Dup.rat0, Dup.rpart, Dup.rin, Dup.rset, Dup.sall, Dup.slit, Dup.part3, Dup.join, *]
      | (refine allK_intro fun n hn => ?_; try simp only [fresh_set] at hn)
      | (refine ifK_intro (fun h => ?_) (fun h => ?_) <;> (try simp only [decide_eq_true_eq, decide_eq_false_iff_not, Bool.not_eq_true', Bool.not_eq_false'] at h) <;> try (exfalso; (try simp only [beq_iff_eq, beq_eq_false_iff_ne, bne_iff_ne, bne_eq_false_iff_eq, ne_eq] at h); omega))
      | (refine keeps_sub (Mem.sub_set (by simp [Mem.set_at, nomem, *])) ?_)
  · have hil : i < l.length := by omega
    have hf : foundB l d.client i = true := by unfold foundB; rw [h]; simp [hil]
    rw [if_pos hf]
    have e : l.set i d = l.take i ++ d :: l.drop (i + 1) := by rw [List.set_eq_take_append_cons_drop, if_pos hil]
    rw [e]
    refine ⟨n3, by simp; omega, ?_⟩
    rw [if_pos rfl]; simp
  · have hf : ¬ foundB l d.client i = true := by unfold foundB; rw [h]; simp
    rw [if_neg hf]
    refine ⟨n3, by simp; omega, ?_⟩
    rw [if_pos rfl]; simp
  · have hf : ¬ foundB l d.client i = true := by unfold foundB; simp; omega
    rw [if_neg hf]
    refine ⟨n3, by simp; omega, ?_⟩
    rw [if_pos rfl]; simp
theorem O17 (l : List Dup) (x : Bool) (r : Req) (res : Res) (hl : l.length * 64 ≤ 140737488351232) (k : Nat) (hk : k ≤ l.length) (hlo : ∀ i, i < k → (l.getD i default).client < r.client) (hhi : ∀ i, k ≤ i → i < l.length → r.client ≤ (l.getD i default).client)
    (hf : fitB l = true) : O Try.prog 17 [.vs (l.map Dup.cells) x, .agg r.cells, .agg res.cells] 39 (noteB l k r res).length ((noteB l k r res).map Dup.cells).flatten := by
  have h14 := F14 l x r (by omega) (findB l r.client k) (foundB l r.client k) (F21 l x r.client (by omega) (findB l r.client k) (foundB l r.client k) (find_first hk hlo hhi (rise_lt (fit_rise hf)))) (fun h => by
    unfold findB; rw [if_pos h]
    unfold foundB at h
    simp only [Bool.and_eq_true, decide_eq_true_eq, beq_iff_eq] at h
    exact h.2)
  have h37 := O37 l x (dupOf r res) (by omega) k hk hlo hhi
  refine C17_of ?_
  unfold k17
  repeat' first
    | simp -dsimp (disch := omega) only [↓rulesA, rulesB, rulesC, Int.reduceLT, nth, upd, put, storeN, AV.one, Nat.reduceBEq, Nat.reduceBNe, Int.reduceBEq, Int.reduceBNe, Int.reduceLE, boolBin, strBin, intBin, unA, buildA, placesA, fillA, ne_eq, reduceCtorEq, Nat.reduceAdd, Nat.reduceSub, Nat.reduceLeDiff, Nat.reduceLT, Nat.reduceEqDiff, Int.reduceToNat, eq_self, rulesT, len_22, ix_22, rhi_22, rlo_22, rlohi_22, Dup.g0, Dup.g1, Dup.g2, Dup.g3, Dup.g4, Dup.g5, Dup.g6, Dup.len, Dup.take, Dup.all, Dup.drop, Dup.rlen, Dup.rat, Dup.rat0, Dup.rpart, Dup.rin, Dup.rset, Dup.sall, Dup.slit, Dup.part3, Dup.join, Req.g0, Req.g1, Req.g2, Req.g3, Req.g4, Req.g5, Req.g6, Req.g7, Req.len, Req.take, Req.all, Req.drop, Req.sall, Req.slit, Res.g0, Res.g1, Res.g2, Res.g3, Res.len, Res.all, Res.take, Res.drop, Res.sall, Res.slit, *]
    | (refine allK_intro fun n hn => ?_; try simp only [fresh_set] at hn)
    | (refine ifK_intro (fun h => ?_) (fun h => ?_) <;> (try simp only [decide_eq_true_eq, decide_eq_false_iff_not, Bool.not_eq_true', Bool.not_eq_false'] at h) <;> try (exfalso; (try simp only [beq_iff_eq, beq_eq_false_iff_ne, bne_iff_ne, bne_eq_false_iff_eq, ne_eq] at h); omega))
    | (refine keeps_sub (Mem.sub_set (by simp [Mem.set_at, nomem, *])) ?_)
    | (refine call_F (h14) (Seens.refl _ _) ?_)
    | (refine pure_F (h14) (Seens.refl _ _) ?_)
  · have hw : whatB l.length (foundB l r.client k) (findB l r.client k) r = 1 := by simpa using h
    refine call_O h37 (Seens.refl _ _) (dup_vals _) fun n1 hn1 => ?_
    repeat' first
      | simp -dsimp (disch := omega) only [↓rulesA, rulesB, rulesC, Int.reduceLT, nth, upd, put, storeN, AV.one, Nat.reduceBEq, Nat.reduceBNe, Int.reduceBEq, Int.reduceBNe, Int.reduceLE, boolBin, strBin, intBin, unA, buildA, placesA, fillA, ne_eq, reduceCtorEq, Nat.reduceAdd, Nat.reduceSub, Nat.reduceLeDiff, Nat.reduceLT, Nat.reduceEqDiff, Int.reduceToNat, eq_self, rulesT, *]
      | (refine allK_intro fun n hn => ?_; try simp only [fresh_set] at hn)
      | (refine ifK_intro (fun h => ?_) (fun h => ?_) <;> (try simp only [decide_eq_true_eq, decide_eq_false_iff_not, Bool.not_eq_true', Bool.not_eq_false'] at h) <;> try (exfalso; (try simp only [beq_iff_eq, beq_eq_false_iff_ne, bne_iff_ne, bne_eq_false_iff_eq, ne_eq] at h); omega))
      | (refine keeps_sub (Mem.sub_set (by simp [Mem.set_at, nomem, *])) ?_)
    unfold noteB
    rw [if_pos hw]
    exact ⟨n1, rfl, if_pos rfl⟩
  · have hw : ¬ whatB l.length (foundB l r.client k) (findB l r.client k) r = 1 := by simpa using h
    refine append_nil app_22 (src_22 _ _ _) (show l.length * 64 ≤ 140737488355328 by omega) fun n1 hn1 => ?_
    repeat' first
      | simp -dsimp (disch := omega) only [↓rulesA, rulesB, rulesC, Int.reduceLT, nth, upd, put, storeN, AV.one, Nat.reduceBEq, Nat.reduceBNe, Int.reduceBEq, Int.reduceBNe, Int.reduceLE, boolBin, strBin, intBin, unA, buildA, placesA, fillA, ne_eq, reduceCtorEq, Nat.reduceAdd, Nat.reduceSub, Nat.reduceLeDiff, Nat.reduceLT, Nat.reduceEqDiff, Int.reduceToNat, eq_self, rulesT, *]
      | (refine allK_intro fun n hn => ?_; try simp only [fresh_set] at hn)
      | (refine ifK_intro (fun h => ?_) (fun h => ?_) <;> (try simp only [decide_eq_true_eq, decide_eq_false_iff_not, Bool.not_eq_true', Bool.not_eq_false'] at h) <;> try (exfalso; (try simp only [beq_iff_eq, beq_eq_false_iff_ne, bne_iff_ne, bne_eq_false_iff_eq, ne_eq] at h); omega))
      | (refine keeps_sub (Mem.sub_set (by simp [Mem.set_at, nomem, *])) ?_)
    unfold noteB
    rw [if_neg hw]
    exact ⟨n1, rfl, if_pos rfl⟩
end Go.Proofs.Ytoankcclbnnfiaa

