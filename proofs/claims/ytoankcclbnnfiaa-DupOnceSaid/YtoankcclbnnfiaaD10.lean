/- Package 20: Clone, and Insert; noting. -/
import Derived.Test.YtoankcclbnnfiaaD9
import Derived.Test.YtoankcclbnnfiaaL1
set_option maxRecDepth 100000
set_option maxHeartbeats 1000000
set_option linter.unusedSimpArgs false
set_option linter.unusedVariables false
namespace Go.Proofs.Ytoankcclbnnfiaa
open Go.Abs
attribute [local irreducible] C X CC Y CV CW binK litK AppK PureC PureCV againK loopV rangeV allK ifK got onB condK V stepsK planK opK firstK seeE keepsK

theorem dcell (d : Dup) : d.cells.length = 7 ∧ d.cells.all AV.one = true := ⟨rfl, rfl⟩
theorem O34 (l : List Dup) (x : Bool) (hl : l.length * 64 ≤ 140737488355328) : O Try.prog 34 [.vs (l.map Dup.cells) x] 39 l.length (l.map Dup.cells).flatten := clone_O Dup.cells is34 T_22 dcell l x hl
theorem ov_43 : OvOK Try.prog 43 Dup.cells := fun m d x n off len cap opn bt cs K' hm hoff hk =>
  X.overlaps (rt := 4) Try.func43 (by kernel_rfl) (by kernel_rfl) (by kernel_rfl) (by kernel_rfl) ti_22 rfl ti_39 (fun y hy => by simp only [List.mem_singleton] at hy; subst hy; exact Nat.zero_lt_succ _) hm hoff hk
theorem C36 (l : List Dup) (d : Dup) (k : Nat) (hk : k ≤ l.length) {m : Mem} {n : Nat} (hm : m n = some (.cells true 39 (l.map Dup.cells).flatten)) (hl : (l.length + 1) * 64 ≤ 140737488355328) :
    C Try.prog 36 [.sl n 0 l.length l.length, .val (.int .i64 k), .vs [d.cells] true] m (fun r m' => ∃ N, r = .sl N 0 (l.length + 1) (l.length + 1) ∧ m' N = some (.cells true 39 ((l.take k ++ d :: l.drop k).map Dup.cells).flatten)) :=
  insert_C Dup.cells is36 T_22 ti_3 rfl ov_43 dcell l d k hk hm hl (by omega)
/-- What Note makes of the dups (P20.4). -/
def noteB (l : List Dup) (k : Nat) (r : Req) (res : Res) : List Dup :=
  if whatB l.length (foundB l r.client k) (findB l r.client k) r = 1 then (if foundB l r.client k then l.set k (dupOf r res) else l.take k ++ dupOf r res :: l.drop k) else l
theorem O15 (l : List Dup) (x : Bool) (r : Req) (res : Res) (hl : l.length * 64 ≤ 140737488351232) (k : Nat) (hk : k ≤ l.length) (hlo : ∀ i, i < k → (l.getD i default).client < r.client) (hhi : ∀ i, k ≤ i → i < l.length → r.client ≤ (l.getD i default).client) :
    O Try.prog 15 [.vs (l.map Dup.cells) x, .agg r.cells, .agg res.cells] 39 (noteB l k r res).length ((noteB l k r res).map Dup.cells).flatten := by
  refine C15_of ?_
  have h13 := F13 l x r (by omega) k hk hlo hhi
  have h35 := F35 l x r.client (by omega) k hk hlo hhi
  unfold k15
  repeat' first
    | simp -dsimp (disch := omega) only [↓rulesA, rulesB, rulesC, Int.reduceLT, nth, upd, put, storeN, AV.one, Nat.reduceBEq, Nat.reduceBNe, Int.reduceBEq, Int.reduceBNe, Int.reduceLE, boolBin, strBin, intBin, unA, buildA, placesA, fillA, ne_eq, reduceCtorEq, Nat.reduceAdd, Nat.reduceSub, Nat.reduceLeDiff, Nat.reduceLT, Nat.reduceEqDiff, Int.reduceToNat, eq_self, rulesT, Res.g0, Res.g1, Res.g2, Res.g3, Res.len, Res.all, Res.take, Res.drop, Res.sall, Res.slit, Req.g0, Req.g1, Req.g2, Req.g3, Req.g4, Req.g5, Req.g6, Req.g7, Req.len, Req.take, Req.all, Req.drop, Req.sall, Req.slit, *]
    | (refine allK_intro fun n hn => ?_; try simp only [fresh_set] at hn)
    | (refine ifK_intro (fun h => ?_) (fun h => ?_) <;> (try simp only [decide_eq_true_eq, decide_eq_false_iff_not, Bool.not_eq_true', Bool.not_eq_false'] at h) <;> try (exfalso; (try simp only [beq_iff_eq, beq_eq_false_iff_ne, bne_iff_ne, bne_eq_false_iff_eq, ne_eq] at h); omega))
    | (refine keeps_sub (Mem.sub_set (by simp [Mem.set_at, nomem, *])) ?_)
  refine call_O (O34 l x (by omega)) (Seens.refl _ _) (dup_vals _) fun nc hnc => ?_
  simp only [fresh_set] at hnc
  repeat' first
    | simp -dsimp (disch := omega) only [↓rulesA, rulesB, rulesC, Int.reduceLT, nth, upd, put, storeN, AV.one, Nat.reduceBEq, Nat.reduceBNe, Int.reduceBEq, Int.reduceBNe, Int.reduceLE, boolBin, strBin, intBin, unA, buildA, placesA, fillA, ne_eq, reduceCtorEq, Nat.reduceAdd, Nat.reduceSub, Nat.reduceLeDiff, Nat.reduceLT, Nat.reduceEqDiff, Int.reduceToNat, eq_self, rulesT, Res.g0, Res.g1, Res.g2, Res.g3, Res.len, Res.all, Res.take, Res.drop, Res.sall, Res.slit, Req.g0, Req.g1, Req.g2, Req.g3, Req.g4, Req.g5, Req.g6, Req.g7, Req.len, Req.take, Req.all, Req.drop, Req.sall, Req.slit, Dup.join, Dup.all, Dup.len, Dup.take, Dup.rin, Dup.rset, *]
    | (refine allK_intro fun n hn => ?_; try simp only [fresh_set] at hn)
    | (refine ifK_intro (fun h => ?_) (fun h => ?_) <;> (try simp only [decide_eq_true_eq, decide_eq_false_iff_not, Bool.not_eq_true', Bool.not_eq_false'] at h) <;> try (exfalso; (try simp only [beq_iff_eq, beq_eq_false_iff_ne, bne_iff_ne, bne_eq_false_iff_eq, ne_eq] at h); omega))
    | (refine keeps_sub (Mem.sub_set (by simp [Mem.set_at, nomem, *])) ?_)
    | (refine call_F (h13) (Seens.refl _ _) ?_)
    | (refine pure_F (h13) (Seens.refl _ _) ?_)
    | (refine call_F (h35) (Seens.refl _ _) ?_)
    | (refine pure_F (h35) (Seens.refl _ _) ?_)
  · have e : noteB l k r res = l := by unfold noteB; rw [if_neg (by simpa using h)]
    rw [e]
    refine ⟨_, rfl, ?_⟩
    rw [if_neg hn.2.1, if_pos rfl]
  · rename_i hw
    have hfd := h
    have hkl : k < l.length := by
      unfold foundB at hfd
      simp only [Bool.and_eq_true, decide_eq_true_eq] at hfd
      exact hfd.1
    have e : noteB l k r res = l.set k (dupOf r res) := by unfold noteB; rw [if_pos (by simpa using hw), if_pos hfd]
    repeat' first
      | simp -dsimp (disch := omega) only [↓rulesA, rulesB, rulesC, Int.reduceLT, nth, upd, put, storeN, AV.one, Nat.reduceBEq, Nat.reduceBNe, Int.reduceBEq, Int.reduceBNe, Int.reduceLE, boolBin, strBin, intBin, unA, buildA, placesA, fillA, ne_eq, reduceCtorEq, Nat.reduceAdd, Nat.reduceSub, Nat.reduceLeDiff, Nat.reduceLT, Nat.reduceEqDiff, Int.reduceToNat, eq_self, rulesT, Res.g0, Res.g1, Res.g2, Res.g3, Res.len, Res.all, Res.take, Res.drop, Res.sall, Res.slit, Req.g0, Req.g1, Req.g2, Req.g3, Req.g4, Req.g5, Req.g6, Req.g7, Req.len, Req.take, Req.all, Req.drop, Req.sall, Req.slit, Dup.join, Dup.all, Dup.len, Dup.take, Dup.rin, Dup.rset, *]
      | (refine allK_intro fun n hn => ?_; try simp only [fresh_set] at hn)
      | (refine ifK_intro (fun h => ?_) (fun h => ?_) <;> (try simp only [decide_eq_true_eq, decide_eq_false_iff_not, Bool.not_eq_true', Bool.not_eq_false'] at h) <;> try (exfalso; (try simp only [beq_iff_eq, beq_eq_false_iff_ne, bne_iff_ne, bne_eq_false_iff_eq, ne_eq] at h); omega))
      | (refine keeps_sub (Mem.sub_set (by simp [Mem.set_at, nomem, *])) ?_)
    refine ⟨nc, by rw [List.length_set], ?_⟩
    rw [if_pos rfl]; rfl
  · rename_i hw
    have hfd := h
    have e : noteB l k r res = l.take k ++ dupOf r res :: l.drop k := by unfold noteB; rw [if_pos (by simpa using hw), if_neg (by rw [hfd]; simp)]
    refine lit_vs (lit1_22 _) rfl ?_
    repeat' first
      | simp -dsimp (disch := omega) only [↓rulesA, rulesB, rulesC, Int.reduceLT, nth, upd, put, storeN, AV.one, Nat.reduceBEq, Nat.reduceBNe, Int.reduceBEq, Int.reduceBNe, Int.reduceLE, boolBin, strBin, intBin, unA, buildA, placesA, fillA, ne_eq, reduceCtorEq, Nat.reduceAdd, Nat.reduceSub, Nat.reduceLeDiff, Nat.reduceLT, Nat.reduceEqDiff, Int.reduceToNat, eq_self, rulesT, *]
      | (refine allK_intro fun n hn => ?_; try simp only [fresh_set] at hn)
      | (refine ifK_intro (fun h => ?_) (fun h => ?_) <;> (try simp only [decide_eq_true_eq, decide_eq_false_iff_not, Bool.not_eq_true', Bool.not_eq_false'] at h) <;> try (exfalso; (try simp only [beq_iff_eq, beq_eq_false_iff_ne, bne_iff_ne, bne_eq_false_iff_eq, ne_eq] at h); omega))
      | (refine keeps_sub (Mem.sub_set (by simp [Mem.set_at, nomem, *])) ?_)
    refine call_C (C36 l (dupOf r res) k hk (n := nc) (by simp [Mem.set_at, *]) (by omega)) ?_
    rintro r m' ⟨N, rfl, hN⟩
    repeat' first
      | simp -dsimp (disch := omega) only [↓rulesA, rulesB, rulesC, Int.reduceLT, nth, upd, put, storeN, AV.one, Nat.reduceBEq, Nat.reduceBNe, Int.reduceBEq, Int.reduceBNe, Int.reduceLE, boolBin, strBin, intBin, unA, buildA, placesA, fillA, ne_eq, reduceCtorEq, Nat.reduceAdd, Nat.reduceSub, Nat.reduceLeDiff, Nat.reduceLT, Nat.reduceEqDiff, Int.reduceToNat, eq_self, rulesT, *]
      | (refine allK_intro fun n hn => ?_; try simp only [fresh_set] at hn)
      | (refine ifK_intro (fun h => ?_) (fun h => ?_) <;> (try simp only [decide_eq_true_eq, decide_eq_false_iff_not, Bool.not_eq_true', Bool.not_eq_false'] at h) <;> try (exfalso; (try simp only [beq_iff_eq, beq_eq_false_iff_ne, bne_iff_ne, bne_eq_false_iff_eq, ne_eq] at h); omega))
      | (refine keeps_sub (Mem.sub_set (by simp [Mem.set_at, nomem, *])) ?_)
    exact ⟨N, by simp; omega, hN⟩
end Go.Proofs.Ytoankcclbnnfiaa

