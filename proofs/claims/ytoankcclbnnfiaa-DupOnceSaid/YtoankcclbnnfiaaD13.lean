/- Package 20: the law DupNotes. -/
import Derived.Test.YtoankcclbnnfiaaD12
set_option maxRecDepth 100000
set_option maxHeartbeats 1000000
set_option linter.unusedSimpArgs false
set_option linter.unusedVariables false
namespace Go.Proofs.Ytoankcclbnnfiaa
open Go.Abs
attribute [local irreducible] C X CC Y CV CW binK litK AppK PureC PureCV againK loopV rangeV allK ifK got onB condK V stepsK planK opK firstK seeE keepsK

theorem put_get {l : List Dup} {c : Int} {d : Dup} {k : Nat} (hk : k ≤ l.length) :
    ((if foundB l c k then l.set k d else l.take k ++ d :: l.drop k).getD k default = d ∧ k < (if foundB l c k then l.set k d else l.take k ++ d :: l.drop k).length) ∧
    (∀ i, i < k → (if foundB l c k then l.set k d else l.take k ++ d :: l.drop k).getD i default = l.getD i default) ∧
    (∀ i, k < i → i < (if foundB l c k then l.set k d else l.take k ++ d :: l.drop k).length → ∃ j, k ≤ j ∧ j < l.length ∧ (if foundB l c k then l.set k d else l.take k ++ d :: l.drop k).getD i default = l.getD j default) := by
  cases hf : foundB l c k with
  | true =>
    have hf' := hf
    unfold foundB at hf'
    simp only [Bool.and_eq_true, decide_eq_true_eq] at hf'
    simp only [if_true]
    refine ⟨⟨by simp [List.getD_eq_getElem?_getD, hf'.1], by simpa using hf'.1⟩, fun i hi => ?_, fun i hi hl => ⟨i, by omega, by simpa using hl, ?_⟩⟩
    · simp [List.getD_eq_getElem?_getD, List.getElem?_set, show k ≠ i by omega]
    · simp [List.getD_eq_getElem?_getD, List.getElem?_set, show k ≠ i by omega]
  | false =>
    simp only [Bool.false_eq_true, if_false]
    have hl1 : (l.take k).length = k := by simp; omega
    refine ⟨⟨?_, by simp; omega⟩, fun i hi => ?_, fun i hi hl => ⟨i - 1, by omega, by simp at hl; omega, ?_⟩⟩
    · rw [List.getD_eq_getElem?_getD, List.getElem?_append_right (by omega), hl1]; simp
    · rw [List.getD_eq_getElem?_getD, List.getElem?_append_left (by omega), List.getElem?_take_of_lt hi, List.getD_eq_getElem?_getD]
    · rw [List.getD_eq_getElem?_getD, List.getElem?_append_right (by omega), hl1, List.getD_eq_getElem?_getD]
      have : i - k = (i - 1 - k) + 1 := by omega
      rw [this, List.getElem?_cons_succ, List.getElem?_drop]
      congr 2; omega
/-- Behind a note of a new request the request comes again. -/
theorem note_again {l : List Dup} {r : Req} {res : Res} {k : Nat} (hk : k ≤ l.length) (hlo : ∀ i, i < k → (l.getD i default).client < r.client) (hhi : ∀ i, k ≤ i → i < l.length → r.client ≤ (l.getD i default).client)
    (hw : whatB l.length (foundB l r.client k) (findB l r.client k) r = 1) :
    k ≤ (noteB l k r res).length ∧ (∀ i, i < k → ((noteB l k r res).getD i default).client < r.client) ∧ (∀ i, k ≤ i → i < (noteB l k r res).length → r.client ≤ ((noteB l k r res).getD i default).client) ∧
    foundB (noteB l k r res) r.client k = true ∧ findB (noteB l k r res) r.client k = dupOf r res := by
  have hn : noteB l k r res = (if foundB l r.client k then l.set k (dupOf r res) else l.take k ++ dupOf r res :: l.drop k) := by unfold noteB; rw [if_pos hw]
  obtain ⟨⟨a1, a2⟩, a3, a4⟩ := put_get (c := r.client) (d := dupOf r res) hk
  rw [← hn] at a1 a2 a3 a4
  have hf : foundB (noteB l k r res) r.client k = true := by
    unfold foundB
    rw [a1, decide_eq_true a2]
    simp [dupOf]
  refine ⟨by omega, fun i hi => by rw [a3 i hi]; exact hlo i hi, fun i h1 h2 => ?_, hf, by unfold findB; rw [if_pos hf, a1]⟩
  rcases Nat.lt_or_ge k i with h' | h'
  · obtain ⟨j, j1, j2, j3⟩ := a4 i h' h2
    rw [j3]; exact hhi j j1 j2
  · have : i = k := by omega
    subst this
    rw [a1]; exact Int.le_refl _
theorem again_what (n : Nat) (r : Req) (res : Res) : whatB n true (dupOf r res) r = 2 ∧ wasB n true (dupOf r res) r = res := by
  have h : whatB n true (dupOf r res) r = 2 := by
    unfold whatB laterB dupOf
    rw [if_neg (by simp), if_neg (by simp), if_pos (by simp)]
  exact ⟨h, by unfold wasB; rw [if_pos h]; rfl⟩
def Res.same (d e : Res) : Bool := d.err == e.err && (d.num == e.num && (d.inst == e.inst && d.data.toList == e.data.toList))
theorem guard_29 : Try.prog.eqGuardType Try.prog.depth 29 = false := by kernel_rfl
theorem eqA_29 (d e : Res) : eqA Try.prog 20 29 (.agg d.cells) (.agg e.cells) = some (d.same e) := by kernel_rfl
theorem ne_29 (d e : Res) : cmpA Try.prog 29 .neq (.agg d.cells) (.agg e.cells) = some (.val (.bool !(d.same e))) := by
  simp only [cmpA, ti_29, binA, nilBin, isNilA, guard_29, eqA_29]
  rfl
theorem eq_29 (d e : Res) : cmpA Try.prog 29 .eql (.agg d.cells) (.agg e.cells) = some (.val (.bool (d.same e))) := by
  simp only [cmpA, ti_29, binA, nilBin, isNilA, guard_29, eqA_29]
  rfl
theorem res_self (d : Res) : d.same d = true := by unfold Res.same; simp
theorem F3 (l : List Dup) (x : Bool) (r : Req) (res : Res) (hl : l.length * 64 ≤ 140737488351232) : F Try.prog 3 [.vs (l.map Dup.cells) x, .agg r.cells, .agg res.cells] (.val (.bool true)) := by
  have hl' : l.length ≤ 140737488355328 := by omega
  have h9 := F9 l x hl'
  have h10 := F10 r
  cases hfit : fitB l with
  | false =>
    refine F3_of ?_
    unfold k3
    repeat' first
      | simp -dsimp (disch := omega) only [↓rulesA, rulesB, rulesC, Int.reduceLT, nth, upd, put, storeN, AV.one, Nat.reduceBEq, Nat.reduceBNe, Int.reduceBEq, Int.reduceBNe, Int.reduceLE, boolBin, strBin, intBin, unA, buildA, placesA, fillA, ne_eq, reduceCtorEq, Nat.reduceAdd, Nat.reduceSub, Nat.reduceLeDiff, Nat.reduceLT, Nat.reduceEqDiff, Int.reduceToNat, eq_self, rulesT, len_22, ix_22, rhi_22, rlo_22, rlohi_22, Dup.g0, Dup.g1, Dup.g2, Dup.g3, Dup.g4, Dup.g5, Dup.g6, Dup.len, Dup.take, Dup.all, Dup.drop, Dup.rlen, Dup.rat, Dup.rat0, Dup.rpart, Dup.rin, Dup.rset, Dup.sall, Dup.slit, Dup.part3, Dup.join, Req.g0, Req.g1, Req.g2, Req.g3, Req.g4, Req.g5, Req.g6, Req.g7, Req.len, Req.take, Req.all, Req.drop, Req.sall, Req.slit, Res.g0, Res.g1, Res.g2, Res.g3, Res.len, Res.all, Res.take, Res.drop, Res.sall, Res.slit, *]
      | (refine allK_intro fun n hn => ?_; try simp only [fresh_set] at hn)
      | (refine ifK_intro (fun h => ?_) (fun h => ?_) <;> (try simp only [decide_eq_true_eq, decide_eq_false_iff_not, Bool.not_eq_true', Bool.not_eq_false'] at h) <;> try (exfalso; (try simp only [beq_iff_eq, beq_eq_false_iff_ne, bne_iff_ne, bne_eq_false_iff_eq, ne_eq] at h); omega))
      | (refine keeps_sub (Mem.sub_set (by simp [Mem.set_at, nomem, *])) ?_)
      | (refine call_F (h9) (Seens.refl _ _) ?_)
      | (refine pure_F (h9) (Seens.refl _ _) ?_)
      | (refine call_F (h10) (Seens.refl _ _) ?_)
      | (refine pure_F (h10) (Seens.refl _ _) ?_)
      | (refine call_F (F11) (Seens.refl _ _) ?_)
      | (refine pure_F (F11) (Seens.refl _ _) ?_)
    exact .val
  | true => cases hreq : reqB r with
  | false =>
    refine F3_of ?_
    unfold k3
    repeat' first
      | simp -dsimp (disch := omega) only [↓rulesA, rulesB, rulesC, Int.reduceLT, nth, upd, put, storeN, AV.one, Nat.reduceBEq, Nat.reduceBNe, Int.reduceBEq, Int.reduceBNe, Int.reduceLE, boolBin, strBin, intBin, unA, buildA, placesA, fillA, ne_eq, reduceCtorEq, Nat.reduceAdd, Nat.reduceSub, Nat.reduceLeDiff, Nat.reduceLT, Nat.reduceEqDiff, Int.reduceToNat, eq_self, rulesT, len_22, ix_22, rhi_22, rlo_22, rlohi_22, Dup.g0, Dup.g1, Dup.g2, Dup.g3, Dup.g4, Dup.g5, Dup.g6, Dup.len, Dup.take, Dup.all, Dup.drop, Dup.rlen, Dup.rat, Dup.rat0, Dup.rpart, Dup.rin, Dup.rset, Dup.sall, Dup.slit, Dup.part3, Dup.join, Req.g0, Req.g1, Req.g2, Req.g3, Req.g4, Req.g5, Req.g6, Req.g7, Req.len, Req.take, Req.all, Req.drop, Req.sall, Req.slit, Res.g0, Res.g1, Res.g2, Res.g3, Res.len, Res.all, Res.take, Res.drop, Res.sall, Res.slit, *]
      | (refine allK_intro fun n hn => ?_; try simp only [fresh_set] at hn)
      | (refine ifK_intro (fun h => ?_) (fun h => ?_) <;> (try simp only [decide_eq_true_eq, decide_eq_false_iff_not, Bool.not_eq_true', Bool.not_eq_false'] at h) <;> try (exfalso; (try simp only [beq_iff_eq, beq_eq_false_iff_ne, bne_iff_ne, bne_eq_false_iff_eq, ne_eq] at h); omega))
      | (refine keeps_sub (Mem.sub_set (by simp [Mem.set_at, nomem, *])) ?_)
      | (refine call_F (h9) (Seens.refl _ _) ?_)
      | (refine pure_F (h9) (Seens.refl _ _) ?_)
      | (refine call_F (h10) (Seens.refl _ _) ?_)
      | (refine pure_F (h10) (Seens.refl _ _) ?_)
      | (refine call_F (F11) (Seens.refl _ _) ?_)
      | (refine pure_F (F11) (Seens.refl _ _) ?_)
    exact .val
  | true =>
  obtain ⟨k, k1, k2, k3⟩ := place_ex hfit r.client
  have h12 := F12 l x (by omega)
  have h13 := F13 l false r hl' k k1 k2 k3
  have h14 := F14 l x r hl' (findB l r.client k) (foundB l r.client k) (F21 l x r.client hl' (findB l r.client k) (foundB l r.client k) (find_first k1 k2 k3 (rise_lt (fit_rise hfit)))) (fun h => by
    unfold findB; rw [if_pos h]
    unfold foundB at h
    simp only [Bool.and_eq_true, decide_eq_true_eq, beq_iff_eq] at h
    exact h.2)
  have h15 := O15 l false r res hl k k1 k2 k3
  have h17 := O17 l x r res hl k k1 k2 k3 hfit
  have hnf : Fit (noteB l k r res) := note_fit ((fit_iff l).1 hfit) r res hreq k k1 k2 k3
  have hnl : (noteB l k r res).length ≤ 16 := hnf.1
  have h16 := F16 (noteB l k r res) (noteB l k r res) false false (by omega)
  rw [samesB_self] at h16
  have h16' := F16 l l false x hl'
  rw [samesB_self] at h16'
  have h18 := F18 (noteB l k r res) false (by omega)
  rw [(fit_iff _).2 hnf] at h18
  have hnj : ∃ a b, F Try.prog 13 [.vs ((noteB l k r res).map Dup.cells) false, .agg r.cells] (.tup [.val (.int .i64 a), .agg (Res.cells b)]) ∧ (whatB l.length (foundB l r.client k) (findB l r.client k) r = 1 → a = 2 ∧ b = res) := by
    by_cases hw : whatB l.length (foundB l r.client k) (findB l r.client k) r = 1
    · obtain ⟨a1, a2, a3, a4, a5⟩ := note_again (res := res) k1 k2 k3 hw
      have := F13 (noteB l k r res) false r (by omega) k a1 a2 a3
      rw [a4, a5] at this
      refine ⟨_, _, this, fun _ => ?_⟩
      exact again_what _ r res
    · have e : noteB l k r res = l := by unfold noteB; rw [if_neg hw]
      rw [e]
      exact ⟨_, _, h13, fun h => absurd h hw⟩
  obtain ⟨a, b, hnj, hab⟩ := hnj
  generalize hN : noteB l k r res = N at h15 h17 hnl h16 h18 hnj
  refine F3_of ?_
  unfold Go.Proofs.Ytoankcclbnnfiaa.k3
  repeat' first
    | simp -dsimp (disch := omega) only [↓rulesA, rulesB, rulesC, Int.reduceLT, nth, upd, put, storeN, AV.one, Nat.reduceBEq, Nat.reduceBNe, Int.reduceBEq, Int.reduceBNe, Int.reduceLE, boolBin, strBin, intBin, unA, buildA, placesA, fillA, ne_eq, reduceCtorEq, Nat.reduceAdd, Nat.reduceSub, Nat.reduceLeDiff, Nat.reduceLT, Nat.reduceEqDiff, Int.reduceToNat, eq_self, rulesT, len_22, ix_22, rhi_22, rlo_22, rlohi_22, Dup.g0, Dup.g1, Dup.g2, Dup.g3, Dup.g4, Dup.g5, Dup.g6, Dup.len, Dup.take, Dup.all, Dup.drop, Dup.rlen, Dup.rat, Dup.rat0, Dup.rpart, Dup.rin, Dup.rset, Dup.sall, Dup.slit, Dup.part3, Dup.join, Req.g0, Req.g1, Req.g2, Req.g3, Req.g4, Req.g5, Req.g6, Req.g7, Req.len, Req.take, Req.all, Req.drop, Req.sall, Req.slit, Res.g0, Res.g1, Res.g2, Res.g3, Res.len, Res.all, Res.take, Res.drop, Res.sall, Res.slit, *]
    | (refine allK_intro fun n hn => ?_; try simp only [fresh_set] at hn)
    | (refine ifK_intro (fun h => ?_) (fun h => ?_) <;> (try simp only [decide_eq_true_eq, decide_eq_false_iff_not, Bool.not_eq_true', Bool.not_eq_false'] at h) <;> try (exfalso; (try simp only [beq_iff_eq, beq_eq_false_iff_ne, bne_iff_ne, bne_eq_false_iff_eq, ne_eq] at h); omega))
    | (refine keeps_sub (Mem.sub_set (by simp [Mem.set_at, nomem, *])) ?_)
    | (refine call_F (h9) (Seens.refl _ _) ?_)
    | (refine pure_F (h9) (Seens.refl _ _) ?_)
    | (refine call_F (h10) (Seens.refl _ _) ?_)
    | (refine pure_F (h10) (Seens.refl _ _) ?_)
    | (refine call_F (h12) (Seens.refl _ _) ?_)
    | (refine pure_F (h12) (Seens.refl _ _) ?_)
    | (refine call_F (h13) (Seens.refl _ _) ?_)
    | (refine pure_F (h13) (Seens.refl _ _) ?_)
    | (refine call_F (h14) (Seens.refl _ _) ?_)
    | (refine pure_F (h14) (Seens.refl _ _) ?_)
  refine call_O h15 (Seens.refl _ _) (dup_vals _) fun n1 hn1 => ?_
  simp only [fresh_set] at hn1
  repeat' first
    | simp -dsimp (disch := omega) only [↓rulesA, rulesB, rulesC, Int.reduceLT, nth, upd, put, storeN, AV.one, Nat.reduceBEq, Nat.reduceBNe, Int.reduceBEq, Int.reduceBNe, Int.reduceLE, boolBin, strBin, intBin, unA, buildA, placesA, fillA, ne_eq, reduceCtorEq, Nat.reduceAdd, Nat.reduceSub, Nat.reduceLeDiff, Nat.reduceLT, Nat.reduceEqDiff, Int.reduceToNat, eq_self, rulesT, len_22, ix_22, rhi_22, rlo_22, rlohi_22, Dup.g0, Dup.g1, Dup.g2, Dup.g3, Dup.g4, Dup.g5, Dup.g6, Dup.len, Dup.take, Dup.all, Dup.drop, Dup.rlen, Dup.rat, Dup.rat0, Dup.rpart, Dup.rin, Dup.rset, Dup.sall, Dup.slit, Dup.part3, Dup.join, Req.g0, Req.g1, Req.g2, Req.g3, Req.g4, Req.g5, Req.g6, Req.g7, Req.len, Req.take, Req.all, Req.drop, Req.sall, Req.slit, Res.g0, Res.g1, Res.g2, Res.g3, Res.len, Res.all, Res.take, Res.drop, Res.sall, Res.slit, ne_29, res_self, bne_self_eq_false, *]
    | (refine allK_intro fun n hn => ?_; try simp only [fresh_set] at hn)
    | (refine ifK_intro (fun h => ?_) (fun h => ?_) <;> (try simp only [decide_eq_true_eq, decide_eq_false_iff_not, Bool.not_eq_true', Bool.not_eq_false'] at h) <;> try (exfalso; (try simp only [beq_iff_eq, beq_eq_false_iff_ne, bne_iff_ne, bne_eq_false_iff_eq, ne_eq] at h); omega))
    | (refine keeps_sub (Mem.sub_set (by simp [Mem.set_at, nomem, *])) ?_)
  refine call_O h17 (Seens.refl _ _) (dup_vals _) fun n2 hn2 => ?_
  simp only [fresh_set] at hn2
  repeat' first
    | simp -dsimp (disch := omega) only [↓rulesA, rulesB, rulesC, Int.reduceLT, nth, upd, put, storeN, AV.one, Nat.reduceBEq, Nat.reduceBNe, Int.reduceBEq, Int.reduceBNe, Int.reduceLE, boolBin, strBin, intBin, unA, buildA, placesA, fillA, ne_eq, reduceCtorEq, Nat.reduceAdd, Nat.reduceSub, Nat.reduceLeDiff, Nat.reduceLT, Nat.reduceEqDiff, Int.reduceToNat, eq_self, rulesT, *]
    | (refine allK_intro fun n hn => ?_; try simp only [fresh_set] at hn)
    | (refine ifK_intro (fun h => ?_) (fun h => ?_) <;> (try simp only [decide_eq_true_eq, decide_eq_false_iff_not, Bool.not_eq_true', Bool.not_eq_false'] at h) <;> try (exfalso; (try simp only [beq_iff_eq, beq_eq_false_iff_ne, bne_iff_ne, bne_eq_false_iff_eq, ne_eq] at h); omega))
    | (refine keeps_sub (Mem.sub_set (by simp [Mem.set_at, nomem, *])) ?_)
  refine call_F h16 (Seens.cons (Seen.row Dup.cells (s := 7) (opn := true) (t := 39) (fun _ => rfl) N (by simp [Mem.set_at, *])) (Seens.cons (Seen.row Dup.cells (s := 7) (opn := true) (t := 39) (fun _ => rfl) N (by simp [Mem.set_at, *])) (Seens.refl _ _))) ?_
  repeat' first
    | simp -dsimp (disch := omega) only [↓rulesA, rulesB, rulesC, Int.reduceLT, nth, upd, put, storeN, AV.one, Nat.reduceBEq, Nat.reduceBNe, Int.reduceBEq, Int.reduceBNe, Int.reduceLE, boolBin, strBin, intBin, unA, buildA, placesA, fillA, ne_eq, reduceCtorEq, Nat.reduceAdd, Nat.reduceSub, Nat.reduceLeDiff, Nat.reduceLT, Nat.reduceEqDiff, Int.reduceToNat, eq_self, rulesT, *]
    | (refine allK_intro fun n hn => ?_; try simp only [fresh_set] at hn)
    | (refine ifK_intro (fun h => ?_) (fun h => ?_) <;> (try simp only [decide_eq_true_eq, decide_eq_false_iff_not, Bool.not_eq_true', Bool.not_eq_false'] at h) <;> try (exfalso; (try simp only [beq_iff_eq, beq_eq_false_iff_ne, bne_iff_ne, bne_eq_false_iff_eq, ne_eq] at h); omega))
    | (refine keeps_sub (Mem.sub_set (by simp [Mem.set_at, nomem, *])) ?_)
  refine call_F h18 (Seens.cons (Seen.row Dup.cells (s := 7) (opn := true) (t := 39) (fun _ => rfl) N (by simp [Mem.set_at, *])) (Seens.refl _ _)) ?_
  repeat' first
    | simp -dsimp (disch := omega) only [↓rulesA, rulesB, rulesC, Int.reduceLT, nth, upd, put, storeN, AV.one, Nat.reduceBEq, Nat.reduceBNe, Int.reduceBEq, Int.reduceBNe, Int.reduceLE, boolBin, strBin, intBin, unA, buildA, placesA, fillA, ne_eq, reduceCtorEq, Nat.reduceAdd, Nat.reduceSub, Nat.reduceLeDiff, Nat.reduceLT, Nat.reduceEqDiff, Int.reduceToNat, eq_self, rulesT, Req.g0, Req.g1, Req.g2, Req.g3, Req.g4, Req.g5, Req.g6, Req.g7, Req.len, Req.take, Req.all, Req.drop, Req.sall, Req.slit, Res.g0, Res.g1, Res.g2, Res.g3, Res.len, Res.all, Res.take, Res.drop, Res.sall, Res.slit, *]
    | (refine allK_intro fun n hn => ?_; try simp only [fresh_set] at hn)
    | (refine ifK_intro (fun h => ?_) (fun h => ?_) <;> (try simp only [decide_eq_true_eq, decide_eq_false_iff_not, Bool.not_eq_true', Bool.not_eq_false'] at h) <;> try (exfalso; (try simp only [beq_iff_eq, beq_eq_false_iff_ne, bne_iff_ne, bne_eq_false_iff_eq, ne_eq] at h); omega))
    | (refine keeps_sub (Mem.sub_set (by simp [Mem.set_at, nomem, *])) ?_)
  refine call_F hnj (Seens.cons (Seen.row Dup.cells (s := 7) (opn := true) (t := 39) (fun _ => rfl) N (by simp [Mem.set_at, *])) (Seens.refl _ _)) ?_
  have hcond : (whatB l.length (foundB l r.client k) (findB l r.client k) r == 1) = true → a = 2 ∧ b = res := fun h => hab (by simpa using h)
  clear hab
  have h11 := F11
  cases hw : (whatB l.length (foundB l r.client k) (findB l r.client k) r == 1)
  case' true =>
    obtain ⟨rfl, rfl⟩ := hcond hw
  all_goals
    clear hcond
    repeat' first
      | simp -dsimp (disch := omega) only [↓rulesA, rulesB, rulesC, Int.reduceLT, nth, upd, put, storeN, AV.one, Nat.reduceBEq, Nat.reduceBNe, Int.reduceBEq, Int.reduceBNe, Int.reduceLE, boolBin, strBin, intBin, unA, buildA, placesA, fillA, ne_eq, reduceCtorEq, Nat.reduceAdd, Nat.reduceSub, Nat.reduceLeDiff, Nat.reduceLT, Nat.reduceEqDiff, Int.reduceToNat, eq_self, rulesT, Req.g0, Req.g1, Req.g2, Req.g3, Req.g4, Req.g5, Req.g6, Req.g7, Req.len, Req.take, Req.all, Req.drop, Req.sall, Req.slit, Res.g0, Res.g1, Res.g2, Res.g3, Res.len, Res.all, Res.take, Res.drop, Res.sall, Res.slit, ne_29, res_self, *]
      | (refine allK_intro fun n hn => ?_; try simp only [fresh_set] at hn)
      | (refine ifK_intro (fun h => ?_) (fun h => ?_) <;> (try simp only [decide_eq_true_eq, decide_eq_false_iff_not, Bool.not_eq_true', Bool.not_eq_false'] at h) <;> try (exfalso; (try simp only [beq_iff_eq, beq_eq_false_iff_ne, bne_iff_ne, bne_eq_false_iff_eq, ne_eq] at h); omega))
      | (refine keeps_sub (Mem.sub_set (by simp [Mem.set_at, nomem, *])) ?_)
    refine loop_intro (fun j env m => ∃ (i : Nat) (L : List Dup), L.length = N.length ∧ i ≤ N.length ∧ j = N.length - i ∧ m = nomem.set n1 (.cells true 39 (L.map Dup.cells).flatten) ∧ env.length = 98 ∧ nth env 0 = .vs (l.map Dup.cells) x ∧ nth env 7 = .vs (l.map Dup.cells) false ∧ nth env 12 = .sl n1 0 N.length N.length ∧ nth env 15 = .val (.int .i64 i)) N.length (nomem.set n1 (.cells true 39 (N.map Dup.cells).flatten)) (nomem_set_sub (by simp [Mem.set_at, *])) ⟨0, N, rfl, by omega, by omega, rfl, rfl, rfl, rfl, rfl, rfl⟩ ?_
    clear hn hn1 hn2 h9 h10 h12 h13 h14 h15 h17 h16 h18 hnj hN hnf hw
    rintro j env m ⟨i, L, hL, hi, rfl, rfl, hlen, e0, e7, e12, e15⟩
    repeat' first
      | simp -dsimp (disch := omega) only [↓rulesA, rulesB, rulesC, Int.reduceLT, nth, upd, put, storeN, AV.one, Nat.reduceBEq, Nat.reduceBNe, Int.reduceBEq, Int.reduceBNe, Int.reduceLE, boolBin, strBin, intBin, unA, buildA, placesA, fillA, ne_eq, reduceCtorEq, Nat.reduceAdd, Nat.reduceSub, Nat.reduceLeDiff, Nat.reduceLT, Nat.reduceEqDiff, Int.reduceToNat, eq_self, rulesT, len_22, ix_22, rhi_22, rlo_22, rlohi_22, Dup.g0, Dup.g1, Dup.g2, Dup.g3, Dup.g4, Dup.g5, Dup.g6, Dup.len, Dup.take, Dup.all, Dup.drop, Dup.rlen, Dup.rat, Dup.rat0, Dup.rpart, Dup.rin, Dup.rset, Dup.sall, Dup.slit, Dup.part3, Dup.join, Dup.rf2, *]
      | (refine allK_intro fun n hn => ?_; try simp only [fresh_set] at hn)
      | (refine ifK_intro (fun h => ?_) (fun h => ?_) <;> (try simp only [decide_eq_true_eq, decide_eq_false_iff_not, Bool.not_eq_true', Bool.not_eq_false'] at h) <;> try (exfalso; (try simp only [beq_iff_eq, beq_eq_false_iff_ne, bne_iff_ne, bne_eq_false_iff_eq, ne_eq] at h); omega))
      | (refine keeps_sub (Mem.sub_set (by simp [Mem.set_at, nomem, *])) ?_)
    · refine again_intro (N.length - (i + 1)) (by omega) (nomem.set n1 (.cells true 39 ((L.set i { L.getD i default with tid := 77 }).map Dup.cells).flatten)) (fun _ _ h => h) ⟨i + 1, L.set i { L.getD i default with tid := 77 }, by simpa using hL, by omega, rfl, rfl, ?_, ?_, ?_, ?_, ?_⟩
      all_goals try (simp (disch := omega) only [nth_upd, pickB_true, pickB_false, inB_lt, upd_len, cast_succ, Nat.reduceBEq, beq_self_eq_true, reduceCtorEq, *]; done)
    · repeat' first
        | simp -dsimp (disch := omega) only [↓rulesA, rulesB, rulesC, Int.reduceLT, nth, upd, put, storeN, AV.one, Nat.reduceBEq, Nat.reduceBNe, Int.reduceBEq, Int.reduceBNe, Int.reduceLE, boolBin, strBin, intBin, unA, buildA, placesA, fillA, ne_eq, reduceCtorEq, Nat.reduceAdd, Nat.reduceSub, Nat.reduceLeDiff, Nat.reduceLT, Nat.reduceEqDiff, Int.reduceToNat, eq_self, rulesT, *]
        | (refine allK_intro fun n hn => ?_; try simp only [fresh_set] at hn)
        | (refine ifK_intro (fun h => ?_) (fun h => ?_) <;> (try simp only [decide_eq_true_eq, decide_eq_false_iff_not, Bool.not_eq_true', Bool.not_eq_false'] at h) <;> try (exfalso; (try simp only [beq_iff_eq, beq_eq_false_iff_ne, bne_iff_ne, bne_eq_false_iff_eq, ne_eq] at h); omega))
        | (refine keeps_sub (Mem.sub_set (by simp [Mem.set_at, nomem, *])) ?_)
        | (refine call_F (h16') (Seens.refl _ _) ?_)
        | (refine pure_F (h16') (Seens.refl _ _) ?_)
        | (refine call_F (h11) (Seens.refl _ _) ?_)
        | (refine pure_F (h11) (Seens.refl _ _) ?_)
      exact .val
theorem req_of {c : AV} (h : ShapedV Try.prog 26 c) : ∃ r : Req, c = .agg r.cells ∧ r.ok := by
  obtain ⟨cs, rfl, hl, hs⟩ := h.cells ti_26 rfl
  obtain ⟨r, rfl, hr⟩ := Req.of_shaped hs hl
  exact ⟨r, rfl, hr⟩
theorem res_of {c : AV} (h : ShapedV Try.prog 29 c) : ∃ r : Res, c = .agg r.cells ∧ r.ok := by
  obtain ⟨cs, rfl, hl, hs⟩ := h.cells ti_29 rfl
  obtain ⟨r, rfl, hr⟩ := Res.of_shaped hs hl
  exact ⟨r, rfl, hr⟩
theorem notes_law : ∀ args, ShapedAll Try.prog Try.f3.params.toList args → F Try.prog 3 args (.val (.bool true)) := by
  intro args h
  have hp : Try.f3.params.toList = [22, 26, 29] := by kernel_rfl
  rw [hp] at h
  match args, h with
  | [a, b, c], ⟨h0, h1, h2, _⟩ =>
    obtain ⟨l, rfl, l1, _⟩ := dups_of h0
    obtain ⟨r, rfl, _⟩ := req_of h1
    obtain ⟨res, rfl, _⟩ := res_of h2
    exact F3 l false r res l1
end Go.Proofs.Ytoankcclbnnfiaa

