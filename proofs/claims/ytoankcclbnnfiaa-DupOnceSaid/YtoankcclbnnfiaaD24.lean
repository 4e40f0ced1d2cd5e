/- Package 20: dups of a beginning and of the whole, merged: the plain law. -/
import Derived.Test.YtoankcclbnnfiaaD23
set_option maxRecDepth 100000
set_option maxHeartbeats 1000000
set_option linter.unusedSimpArgs false
set_option linter.unusedVariables false
namespace Go.Proofs.Ytoankcclbnnfiaa
open Go.Abs
attribute [local irreducible] C X CC Y CV CW binK litK AppK PureC PureCV againK loopV rangeV allK ifK got onB condK V stepsK planK opK firstK seeE keepsK

theorem later_irrefl (a b : Int) : laterB a b a b = false := by simp [laterB]
theorem later_asymm {a b c d : Int} (h : laterB a b c d = true) : laterB c d a b = false := by
  simp only [laterB, Bool.or_eq_true, Bool.and_eq_true, decide_eq_true_eq, beq_iff_eq, Bool.or_eq_false_iff, Bool.and_eq_false_iff, decide_eq_false_iff_not, beq_eq_false_iff_ne, ne_eq] at *
  omega
theorem later_trans {a b c d e f : Int} (h : laterB a b c d = true) (h' : laterB c d e f = true) : laterB a b e f = true := by
  simp only [laterB, Bool.or_eq_true, Bool.and_eq_true, decide_eq_true_eq, beq_iff_eq] at *
  omega
/-- Whoever is there is there in b, as it is or later. -/
def Le (a b : List Dup) : Prop := ∀ x ∈ a, ∃ y ∈ b, y.client = x.client ∧ (y = x ∨ laterB y.inst y.tid x.inst x.tid = true)
theorem Le.refl (a : List Dup) : Le a a := fun x hx => ⟨x, hx, rfl, .inl rfl⟩
theorem Le.trans {a b c : List Dup} (h : Le a b) (h' : Le b c) : Le a c := fun x hx => by
  obtain ⟨y, hy, e, g⟩ := h x hx
  obtain ⟨z, hz, e', g'⟩ := h' y hy
  refine ⟨z, hz, e'.trans e, ?_⟩
  rcases g with rfl | g
  · exact g'
  · rcases g' with rfl | g'
    · exact .inr g
    · exact .inr (later_trans g' g)
theorem Le.put {d : Dup} : ∀ {l : List Dup}, condB l d = true → Le l (putd l d)
  | [], _ => fun x hx => by cases hx
  | y :: l, hc => fun x hx => by
    rcases Int.lt_trichotomy y.client d.client with g | g | g
    · rw [put_lt l g]
      rw [cond_lt l g] at hc
      rcases List.mem_cons.1 hx with rfl | hx
      · exact ⟨x, by simp, rfl, .inl rfl⟩
      · obtain ⟨z, hz, e⟩ := Le.put hc x hx
        exact ⟨z, List.mem_cons_of_mem _ hz, e⟩
    · rw [put_eq l g.symm]
      rw [cond_eq l g.symm] at hc
      rcases List.mem_cons.1 hx with rfl | hx
      · exact ⟨d, by simp, g.symm, .inr hc⟩
      · exact ⟨x, List.mem_cons_of_mem _ hx, rfl, .inl rfl⟩
    · rw [put_gt l g]
      exact ⟨x, List.mem_cons_of_mem _ hx, rfl, .inl rfl⟩
theorem what_cond {l : List Dup} {r : Req} {res : Res} (h : what l r = 1) : condB l (dupOf r res) = true := by
  unfold what whatB at h
  show (!foundB l r.client (pl l r.client) || laterB r.inst r.tid _ _) = true
  split at h
  · cases h
  · split at h
    · assumption
    · split at h <;> cases h
theorem note_new {l : List Dup} {r : Req} {res : Res} (h : what l r = 1) : note l r res = putd l (dupOf r res) := by
  unfold note noteB
  unfold what at h
  rw [if_pos h]; rfl
theorem note_same {l : List Dup} {r : Req} {res : Res} (h : what l r ≠ 1) : note l r res = l := by
  unfold note noteB
  unfold what at h
  rw [if_neg h]
theorem note_le (l : List Dup) (r : Req) (res : Res) : Le l (note l r res) := by
  by_cases h : what l r = 1
  · rw [note_new h]; exact Le.put (what_cond h)
  · rw [note_same h]; exact Le.refl l
theorem of_le (l : List Dup) (es : List Entry) (i : Nat) : ∀ j, Le (ofTo l es i) (ofTo l es (i + j))
  | 0 => Le.refl _
  | j + 1 => (of_le l es i j).trans (by
    show Le _ (ofTo l es (i + j + 1))
    conv => arg 2; unfold ofTo
    split
    · exact note_le _ _ _
    · exact Le.refl _)
theorem of_take (l : List Dup) (es : List Entry) (k : Nat) : ∀ i, i ≤ k → ofTo l (es.take k) i = ofTo l es i
  | 0, _ => rfl
  | i + 1, h => by
    have e : (es.take k).getD i default = es.getD i default := by simp [List.getD_eq_getElem?_getD, List.getElem?_take, show i < k by omega]
    unfold ofTo
    rw [e, of_take l es k i (by omega)]
theorem mrg_le {a b : List Dup} (ha : Up a) (hb : Up b) (h : Le a b) : mrg a b = b := by
  fun_induction mrg a b with
  | case1 cur => rfl
  | case2 y a ih => obtain ⟨z, hz, _⟩ := h y (by simp); cases hz
  | case3 y a x r g ih =>
    have ha' := List.pairwise_cons.1 ha
    have hb' := List.pairwise_cons.1 hb
    rw [ih ha hb'.2 fun z hz => ?_]
    obtain ⟨w, hw, e, k⟩ := h z hz
    rcases List.mem_cons.1 hw with rfl | hw
    · rcases List.mem_cons.1 hz with rfl | hz
      · omega
      · have := ha'.1 z hz; omega
    · exact ⟨w, hw, e, k⟩
  | case4 y a x r g1 g ih =>
    have ha' := List.pairwise_cons.1 ha
    have hb' := List.pairwise_cons.1 hb
    have e : win y x = x := by
      obtain ⟨w, hw, e, k⟩ := h y (by simp)
      rcases List.mem_cons.1 hw with rfl | hw
      · rcases k with rfl | k
        · unfold win; split <;> rfl
        · unfold win; rw [if_pos k]
      · have := hb'.1 w hw; omega
    rw [e, ih ha'.2 hb'.2 fun z hz => ?_]
    obtain ⟨w, hw, e, k⟩ := h z (List.mem_cons_of_mem _ hz)
    rcases List.mem_cons.1 hw with rfl | hw
    · have := ha'.1 z hz; omega
    · exact ⟨w, hw, e, k⟩
  | case5 y a x r g1 g ih =>
    have hb' := List.pairwise_cons.1 hb
    obtain ⟨w, hw, e, k⟩ := h y (by simp)
    rcases List.mem_cons.1 hw with rfl | hw
    · omega
    · have := hb'.1 w hw; omega
theorem mrg_ge {a b : List Dup} (ha : Up a) (hb : Up b) (h : Le a b) : mrg b a = b := by
  fun_induction mrg b a with
  | case1 cur =>
    cases cur with
    | nil => rfl
    | cons x r => obtain ⟨z, hz, _⟩ := h x (by simp); cases hz
  | case2 y b ih =>
    have hb' := List.pairwise_cons.1 hb
    rw [ih ha hb'.2 fun z hz => by cases hz]
  | case3 y b x r g ih =>
    have hb' := List.pairwise_cons.1 hb
    obtain ⟨w, hw, e, k⟩ := h x (by simp)
    rcases List.mem_cons.1 hw with rfl | hw
    · omega
    · have := hb'.1 w hw; omega
  | case4 y b x r g1 g ih =>
    have ha' := List.pairwise_cons.1 ha
    have hb' := List.pairwise_cons.1 hb
    have e : win y x = y := by
      obtain ⟨w, hw, e, k⟩ := h x (by simp)
      rcases List.mem_cons.1 hw with rfl | hw
      · rcases k with rfl | k
        · unfold win; split <;> rfl
        · unfold win; rw [if_neg (by rw [later_asymm k]; simp)]
      · have := hb'.1 w hw; omega
    rw [e, ih ha'.2 hb'.2 fun z hz => ?_]
    obtain ⟨w, hw, e, k⟩ := h z (List.mem_cons_of_mem _ hz)
    rcases List.mem_cons.1 hw with rfl | hw
    · have := ha'.1 z hz; omega
    · exact ⟨w, hw, e, k⟩
  | case5 y b x r g1 g ih =>
    have ha' := List.pairwise_cons.1 ha
    have hb' := List.pairwise_cons.1 hb
    rw [ih ha hb'.2 fun z hz => ?_]
    obtain ⟨w, hw, e, k⟩ := h z hz
    rcases List.mem_cons.1 hw with rfl | hw
    · rcases List.mem_cons.1 hz with rfl | hz
      · omega
      · have := ha'.1 z hz; omega
    · exact ⟨w, hw, e, k⟩
end Go.Proofs.Ytoankcclbnnfiaa

