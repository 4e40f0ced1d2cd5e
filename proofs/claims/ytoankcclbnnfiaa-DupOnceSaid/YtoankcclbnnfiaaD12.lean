/- Package 20: fit dups stay fit; the law DupNotes. -/
import Derived.Test.YtoankcclbnnfiaaD11
set_option maxRecDepth 100000
set_option maxHeartbeats 1000000
set_option linter.unusedSimpArgs false
set_option linter.unusedVariables false
namespace Go.Proofs.Ytoankcclbnnfiaa
open Go.Abs
attribute [local irreducible] C X CC Y CV CW binK litK AppK PureC PureCV againK loopV rangeV allK ifK got onB condK V stepsK planK opK firstK seeE keepsK

def Fit (l : List Dup) : Prop := l.length ≤ 16 ∧ (∀ d ∈ l, stampB d.client d.inst d.tid = true) ∧ l.Pairwise (fun a b => a.client < b.client)
theorem fit_iff (l : List Dup) : fitB l = true ↔ Fit l := by
  constructor
  · intro h
    have hr := rise_lt (fit_rise h)
    have h' := h
    unfold fitB at h'
    simp only [Bool.and_eq_true, decide_eq_true_eq] at h'
    refine ⟨h'.2, fun d hd => ?_, ?_⟩
    · obtain ⟨i, hi, rfl⟩ := List.getElem_of_mem hd
      have := List.all_eq_true.1 h'.1 i (by simpa using hi)
      unfold okAt at this
      simp only [Bool.and_eq_true] at this
      have e : l.getD i default = l[i] := by simp [List.getD_eq_getElem?_getD, hi]
      rw [e] at this
      exact this.1
    · rw [List.pairwise_iff_getElem]
      intro i j hi hj hij
      have := hr j i hij hj
      simpa [List.getD_eq_getElem?_getD, hi, hj] using this
  · rintro ⟨h1, h2, h3⟩
    rw [fitB_yes, decide_eq_true h1]
    intro k hk
    unfold okAt
    have e : l.getD k default = l[k] := by simp [List.getD_eq_getElem?_getD, hk]
    rw [e, h2 _ (List.getElem_mem hk), Bool.true_and]
    rcases Nat.eq_zero_or_pos k with h0 | h0
    · subst h0; simp
    · have e2 : l.getD (k - 1) default = l[k - 1] := by simp [List.getD_eq_getElem?_getD, show k - 1 < l.length by omega]
      rw [e2]
      have := List.pairwise_iff_getElem.1 h3 (k - 1) k (by omega) hk (by omega)
      simp; omega
theorem getD_get {l : List Dup} {i : Nat} (h : i < l.length) : l.getD i default = l[i] := by simp [List.getD_eq_getElem?_getD, h]
/-- Put in its place, or in place of its client's: fit still. -/
theorem put_fit {l : List Dup} (h : Fit l) (d : Dup) (hd : stampB d.client d.inst d.tid = true) (k : Nat) (hk : k ≤ l.length) (hlo : ∀ i, i < k → (l.getD i default).client < d.client) (hhi : ∀ i, k ≤ i → i < l.length → d.client ≤ (l.getD i default).client)
    (hroom : foundB l d.client k = false → l.length < 16) : Fit (if foundB l d.client k then l.set k d else l.take k ++ d :: l.drop k) := by
  obtain ⟨h1, h2, h3⟩ := h
  have hp : ∀ (k' : Nat), k ≤ k' → (∀ i, k' ≤ i → i < l.length → d.client < (l.getD i default).client) → (l.take k ++ d :: l.drop k').Pairwise (fun a b => a.client < b.client) := by
    intro k' hkk hgt
    rw [List.pairwise_append, List.pairwise_cons]
    refine ⟨h3.sublist (List.take_sublist _ _), ⟨fun a ha => ?_, h3.sublist (List.drop_sublist _ _)⟩, fun a ha b hb => ?_⟩
    · obtain ⟨i, hi, rfl⟩ := List.getElem_of_mem ha
      rw [List.length_drop] at hi
      have := hgt (k' + i) (by omega) (by omega)
      rw [getD_get (by omega)] at this
      simpa using this
    · obtain ⟨i, hi, rfl⟩ := List.getElem_of_mem ha
      rw [List.length_take] at hi
      have h5 := hlo i (by omega)
      rw [getD_get (by omega)] at h5
      simp only [List.getElem_take]
      rcases List.mem_cons.1 hb with rfl | hb
      · exact h5
      · obtain ⟨j, hj, rfl⟩ := List.getElem_of_mem hb
        rw [List.length_drop] at hj
        have := hgt (k' + j) (by omega) (by omega)
        rw [getD_get (by omega)] at this
        simp only [List.getElem_drop]
        omega
  have hm : ∀ k', ∀ a ∈ l.take k ++ d :: l.drop k', stampB a.client a.inst a.tid = true := fun k' a ha => by
    simp only [List.mem_append, List.mem_cons] at ha
    rcases ha with ha | rfl | ha
    · exact h2 a (List.mem_of_mem_take ha)
    · exact hd
    · exact h2 a (List.mem_of_mem_drop ha)
  cases hf : foundB l d.client k with
  | true =>
    have hf' := hf
    unfold foundB at hf'
    simp only [Bool.and_eq_true, decide_eq_true_eq, beq_iff_eq] at hf'
    rw [if_pos rfl, List.set_eq_take_append_cons_drop, if_pos hf'.1]
    refine ⟨by simp; omega, hm _, hp (k + 1) (by omega) fun i a b => ?_⟩
    have := List.pairwise_iff_getElem.1 h3 k i hf'.1 b (by omega)
    rw [getD_get b]
    rw [getD_get hf'.1] at hf'
    omega
  | false =>
    rw [if_neg (by simp)]
    have := hroom hf
    refine ⟨by simp; omega, hm _, hp k (Nat.le_refl _) fun i a b => ?_⟩
    have h5 := hhi i a b
    unfold foundB at hf
    simp only [Bool.and_eq_false_iff, decide_eq_false_iff_not, beq_eq_false_iff_ne] at hf
    have hki : k < l.length := by omega
    have h6 := hf.resolve_left (by omega)
    rcases Nat.lt_or_ge k i with h' | h'
    · have h7 := List.pairwise_iff_getElem.1 h3 k i hki b h'
      have h8 := hhi k (Nat.le_refl _) hki
      rw [getD_get hki] at h8
      rw [getD_get b]; omega
    · have : i = k := by omega
      subst this; omega
theorem what_room {n : Nat} {b : Bool} {d : Dup} {r : Req} (h : whatB n b d r = 1) (hb : b = false) : n < 16 := by
  subst hb
  unfold whatB at h
  by_cases hc : (16 : Int) ≤ n
  · rw [if_pos (by simp [hc])] at h; omega
  · omega
theorem note_fit {l : List Dup} (h : Fit l) (r : Req) (res : Res) (hr : reqB r = true) (k : Nat) (hk : k ≤ l.length) (hlo : ∀ i, i < k → (l.getD i default).client < r.client) (hhi : ∀ i, k ≤ i → i < l.length → r.client ≤ (l.getD i default).client) : Fit (noteB l k r res) := by
  unfold noteB
  split
  · rename_i hw
    exact put_fit h (dupOf r res) hr k hk hlo hhi (fun hb => what_room hw hb)
  · exact h
end Go.Proofs.Ytoankcclbnnfiaa

