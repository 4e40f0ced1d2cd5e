/- Package 20: fit dups rise; the law DupFits. -/
import Derived.Test.YtoankcclbnnfiaaD7
set_option maxRecDepth 100000
set_option maxHeartbeats 1000000
set_option linter.unusedSimpArgs false
set_option linter.unusedVariables false
namespace Go.Proofs.Ytoankcclbnnfiaa
open Go.Abs
attribute [local irreducible] C X CC Y CV CW binK litK AppK PureC PureCV againK loopV rangeV allK ifK got onB condK V stepsK planK opK firstK seeE keepsK

theorem fit_rise {l : List Dup} (h : fitB l = true) : ∀ i, i + 1 < l.length → (l.getD i default).client < (l.getD (i + 1) default).client := by
  intro i hi
  unfold fitB at h
  simp only [Bool.and_eq_true] at h
  have := List.all_eq_true.1 h.1 (i + 1) (by simpa using hi)
  unfold okAt at this
  simp only [Bool.and_eq_true, Bool.not_eq_true', Bool.and_eq_false_iff, decide_eq_false_iff_not, Nat.add_sub_cancel] at this
  rcases this.2 with h' | h'
  · omega
  · omega
theorem rise_lt {l : List Dup} (h : ∀ i, i + 1 < l.length → (l.getD i default).client < (l.getD (i + 1) default).client) : ∀ j i, i < j → j < l.length → (l.getD i default).client < (l.getD j default).client := by
  intro j
  induction j with
  | zero => intro i hi; omega
  | succ j ih =>
    intro i hi hj
    have := h j hj
    rcases Nat.lt_or_ge i j with h' | h'
    · have := ih i h' (by omega); omega
    · have : i = j := by omega
      subst this; assumption
/-- Where a client's stands. -/
theorem place_ex {l : List Dup} (h : fitB l = true) (c : Int) : ∃ k, k ≤ l.length ∧ (∀ i, i < k → (l.getD i default).client < c) ∧ (∀ i, k ≤ i → i < l.length → c ≤ (l.getD i default).client) := by
  have hr := rise_lt (fit_rise h)
  have : ∀ n, n ≤ l.length → ∃ k, k ≤ n ∧ (∀ i, i < k → (l.getD i default).client < c) ∧ (∀ i, k ≤ i → i < n → c ≤ (l.getD i default).client) := by
    intro n
    induction n with
    | zero => intro _; exact ⟨0, by omega, fun i h => by omega, fun i h h' => by omega⟩
    | succ n ih =>
      intro hn
      obtain ⟨k, h1, h2, h3⟩ := ih (by omega)
      by_cases hc : (l.getD n default).client < c
      · refine ⟨n + 1, by omega, fun i hi => ?_, fun i a b => by omega⟩
        rcases Nat.lt_or_ge i n with h' | h'
        · have := hr n i h' (by omega); omega
        · have : i = n := by omega
          subst this; exact hc
      · refine ⟨k, by omega, h2, fun i a b => ?_⟩
        rcases Nat.lt_or_ge i n with h' | h'
        · exact h3 i a h'
        · have : i = n := by omega
          subst this; omega
  exact this l.length (Nat.le_refl _)
theorem find_first {l : List Dup} {c : Int} {k : Nat} (k1 : k ≤ l.length) (k2 : ∀ i, i < k → (l.getD i default).client < c) (k3 : ∀ i, k ≤ i → i < l.length → c ≤ (l.getD i default).client)
    (hr : ∀ j i, i < j → j < l.length → (l.getD i default).client < (l.getD j default).client) :
    (∃ q, q < l.length ∧ l.getD q default = findB l c k ∧ (findB l c k).client = c ∧ foundB l c k = true ∧ ∀ i, i < q → (l.getD i default).client ≠ c) ∨ (findB l c k = d0 ∧ foundB l c k = false ∧ ∀ i, i < l.length → (l.getD i default).client ≠ c) := by
  cases hf : foundB l c k with
  | true =>
    have h := hf
    unfold foundB at h
    simp only [Bool.and_eq_true, decide_eq_true_eq, beq_iff_eq] at h
    refine .inl ⟨k, h.1, by unfold findB; rw [hf]; rfl, by unfold findB; rw [hf]; exact h.2, rfl, fun i hi => ?_⟩
    have := k2 i hi; omega
  | false =>
    refine .inr ⟨by unfold findB; rw [hf]; rfl, rfl, fun i hi e => ?_⟩
    have hki : k ≤ i := by
      rcases Nat.lt_or_ge i k with h' | h'
      · have := k2 i h'; omega
      · exact h'
    have h3 := k3 k (Nat.le_refl _) (by omega)
    have : k = i := by
      rcases Nat.lt_or_ge k i with h' | h'
      · have := hr i k h' hi; omega
      · omega
    subst this
    unfold foundB at hf
    simp only [Bool.and_eq_false_iff, decide_eq_false_iff_not, beq_eq_false_iff_ne] at hf
    rcases hf with hf | hf
    · exact hf hi
    · exact hf e
theorem same_self (d : Dup) : d.same d = true := by unfold Dup.same; simp
theorem F5 (l m : List Dup) (x x' : Bool) (c : Int) (hl : l.length * 64 ≤ 140737488355328) : F Try.prog 5 [.vs (l.map Dup.cells) x, .vs (m.map Dup.cells) x', .val (.int .i64 c)] (.val (.bool true)) := by
  have hl' : l.length ≤ 140737488355328 := by omega
  have h18 := F18 l x hl'
  have h9 := F9 l x hl'
  have h20 := F20 l m x x' hl'
  have h16 := F16 l m x x' hl'
  have h12 := F12 l x hl
  have h20' := F20 l l x false hl'
  rw [samesB_self] at h20'
  have hF : ∀ b, b = fitB l → True := fun _ _ => trivial
  refine F5_of ?_
  unfold k5
  repeat' first
    | simp -dsimp (disch := omega) only [↓rulesA, rulesB, rulesC, Int.reduceLT, nth, upd, put, storeN, AV.one, Nat.reduceBEq, Nat.reduceBNe, Int.reduceBEq, Int.reduceBNe, Int.reduceLE, boolBin, strBin, intBin, unA, buildA, placesA, fillA, ne_eq, reduceCtorEq, Nat.reduceAdd, Nat.reduceSub, Nat.reduceLeDiff, Nat.reduceLT, Nat.reduceEqDiff, Int.reduceToNat, eq_self, rulesT, *]
    | (refine allK_intro fun n hn => ?_; try simp only [fresh_set] at hn)
    | (refine ifK_intro (fun h => ?_) (fun h => ?_) <;> (try simp only [decide_eq_true_eq, decide_eq_false_iff_not, Bool.not_eq_true', Bool.not_eq_false'] at h) <;> try (exfalso; (try simp only [beq_iff_eq, beq_eq_false_iff_ne, bne_iff_ne, bne_eq_false_iff_eq, ne_eq] at h); omega))
    | (refine keeps_sub (Mem.sub_set (by simp [Mem.set_at, nomem, *])) ?_)
    | (refine call_F (h18) (Seens.refl _ _) ?_)
    | (refine pure_F (h18) (Seens.refl _ _) ?_)
    | (refine call_F (h9) (Seens.refl _ _) ?_)
    | (refine pure_F (h9) (Seens.refl _ _) ?_)
    | (refine call_F (h20) (Seens.refl _ _) ?_)
    | (refine pure_F (h20) (Seens.refl _ _) ?_)
    | (refine call_F (h16) (Seens.refl _ _) ?_)
    | (refine pure_F (h16) (Seens.refl _ _) ?_)
    | (refine call_F (h12) (Seens.refl _ _) ?_)
    | (refine pure_F (h12) (Seens.refl _ _) ?_)
    | (refine call_F (h20') (Seens.refl _ _) ?_)
    | (refine pure_F (h20') (Seens.refl _ _) ?_)
    | (refine call_F (F11) (Seens.refl _ _) ?_)
    | (refine pure_F (F11) (Seens.refl _ _) ?_)
  · exact .val
  · obtain ⟨k, k1, k2, k3⟩ := place_ex h c
    have h19 := F19 l x c hl' k k1 k2 k3
    have h21 := F21 l x c hl' (findB l c k) (foundB l c k) (find_first k1 k2 k3 (rise_lt (fit_rise h)))
    repeat' first
      | simp -dsimp (disch := omega) only [↓rulesA, rulesB, rulesC, Int.reduceLT, nth, upd, put, storeN, AV.one, Nat.reduceBEq, Nat.reduceBNe, Int.reduceBEq, Int.reduceBNe, Int.reduceLE, boolBin, strBin, intBin, unA, buildA, placesA, fillA, ne_eq, reduceCtorEq, Nat.reduceAdd, Nat.reduceSub, Nat.reduceLeDiff, Nat.reduceLT, Nat.reduceEqDiff, Int.reduceToNat, eq_self, rulesT, Dup.len, Dup.take, Dup.all, Dup.drop, eq_39, same_self, *]
      | (refine allK_intro fun n hn => ?_; try simp only [fresh_set] at hn)
      | (refine ifK_intro (fun h => ?_) (fun h => ?_) <;> (try simp only [decide_eq_true_eq, decide_eq_false_iff_not, Bool.not_eq_true', Bool.not_eq_false'] at h) <;> try (exfalso; (try simp only [beq_iff_eq, beq_eq_false_iff_ne, bne_iff_ne, bne_eq_false_iff_eq, ne_eq] at h); omega))
      | (refine keeps_sub (Mem.sub_set (by simp [Mem.set_at, nomem, *])) ?_)
      | (refine call_F (h19) (Seens.refl _ _) ?_)
      | (refine pure_F (h19) (Seens.refl _ _) ?_)
      | (refine call_F (h21) (Seens.refl _ _) ?_)
      | (refine pure_F (h21) (Seens.refl _ _) ?_)
      | (refine call_F (F11) (Seens.refl _ _) ?_)
      | (refine pure_F (F11) (Seens.refl _ _) ?_)
    all_goals exact .val
end Go.Proofs.Ytoankcclbnnfiaa

