/- Package 20: the reference's merging comes to the same. -/
import Derived.Test.YtoankcclbnnfiaaD21
set_option maxRecDepth 100000
set_option maxHeartbeats 1000000
set_option linter.unusedSimpArgs false
set_option linter.unusedVariables false
namespace Go.Proofs.Ytoankcclbnnfiaa
open Go.Abs
attribute [local irreducible] C X CC Y CV CW binK litK AppK PureC PureCV againK loopV rangeV allK ifK got onB condK V stepsK planK opK firstK seeE keepsK

abbrev Up (l : List Dup) : Prop := l.Pairwise (fun a b => a.client < b.client)
def putd (l : List Dup) (d : Dup) : List Dup := if foundB l d.client (pl l d.client) then l.set (pl l d.client) d else l.take (pl l d.client) ++ d :: l.drop (pl l d.client)
def condB (a : List Dup) (d : Dup) : Bool := !foundB a d.client (pl a d.client) || laterB d.inst d.tid (findB a d.client (pl a d.client)).inst (findB a d.client (pl a d.client)).tid
theorem pl_nil (c : Int) : pl [] c = 0 := rfl
theorem pl_lt {y : Dup} {c : Int} (l : List Dup) (h : y.client < c) : pl (y :: l) c = pl l c + 1 := by unfold pl; rw [List.takeWhile_cons, if_pos (by simpa using h)]; rfl
theorem pl_ge {y : Dup} {c : Int} (l : List Dup) (h : c ≤ y.client) : pl (y :: l) c = 0 := by unfold pl; rw [List.takeWhile_cons, if_neg (by simp; omega)]; rfl
theorem found_nil (c : Int) (k : Nat) : foundB [] c k = false := by simp [foundB]
theorem found_succ (y : Dup) (l : List Dup) (c : Int) (k : Nat) : foundB (y :: l) c (k + 1) = foundB l c k := by simp [foundB]
theorem found_zero (y : Dup) (l : List Dup) (c : Int) : foundB (y :: l) c 0 = (y.client == c) := by simp [foundB]
theorem find_succ (y : Dup) (l : List Dup) (c : Int) (k : Nat) : findB (y :: l) c (k + 1) = findB l c k := by simp [findB, found_succ]
theorem find_zero {y : Dup} {c : Int} (l : List Dup) (h : y.client = c) : findB (y :: l) c 0 = y := by simp [findB, found_zero, h]
theorem cond_nil (d : Dup) : condB [] d = true := by simp [condB, found_nil]
theorem cond_lt {y d : Dup} (l : List Dup) (h : y.client < d.client) : condB (y :: l) d = condB l d := by unfold condB; rw [pl_lt l h, found_succ, find_succ]
theorem cond_eq {y d : Dup} (l : List Dup) (h : d.client = y.client) : condB (y :: l) d = laterB d.inst d.tid y.inst y.tid := by
  unfold condB; rw [pl_ge l (by omega), found_zero, find_zero l h.symm, h]; simp
theorem cond_gt {y d : Dup} (l : List Dup) (h : d.client < y.client) : condB (y :: l) d = true := by
  unfold condB; rw [pl_ge l (by omega), found_zero]
  have : (y.client == d.client) = false := by simp; omega
  rw [this]; rfl
theorem put_nil (d : Dup) : putd [] d = [d] := by simp [putd, found_nil, pl_nil]
theorem put_lt {y d : Dup} (l : List Dup) (h : y.client < d.client) : putd (y :: l) d = y :: putd l d := by
  unfold putd; rw [pl_lt l h, found_succ]
  split <;> simp
theorem put_eq {y d : Dup} (l : List Dup) (h : d.client = y.client) : putd (y :: l) d = d :: l := by
  unfold putd; rw [pl_ge l (by omega), found_zero, h]; simp
theorem put_gt {y d : Dup} (l : List Dup) (h : d.client < y.client) : putd (y :: l) d = d :: y :: l := by
  unfold putd; rw [pl_ge l (by omega), found_zero]
  have : (y.client == d.client) = false := by simp; omega
  rw [this]; simp
theorem put_mem {d z : Dup} : ∀ {l : List Dup}, z ∈ putd l d → z = d ∨ z ∈ l
  | [], h => by rw [put_nil] at h; simpa using h
  | y :: l, h => by
    rcases Int.lt_trichotomy y.client d.client with g | g | g
    · rw [put_lt l g] at h
      rcases List.mem_cons.1 h with rfl | h
      · simp
      · rcases put_mem h with h | h
        · exact .inl h
        · exact .inr (List.mem_cons_of_mem _ h)
    · rw [put_eq l g.symm] at h
      rcases List.mem_cons.1 h with h | h
      · exact .inl h
      · exact .inr (List.mem_cons_of_mem _ h)
    · rw [put_gt l g] at h
      exact List.mem_cons.1 h
theorem put_len (d : Dup) : ∀ l : List Dup, (putd l d).length ≤ l.length + 1
  | [] => by rw [put_nil]; simp
  | y :: l => by
    rcases Int.lt_trichotomy y.client d.client with g | g | g
    · rw [put_lt l g]; have := put_len d l; simp; omega
    · rw [put_eq l g.symm]; simp
    · rw [put_gt l g]; simp
theorem put_up (d : Dup) : ∀ {l : List Dup}, Up l → Up (putd l d)
  | [], _ => by rw [put_nil]; simp
  | y :: l, h => by
    have h' := List.pairwise_cons.1 h
    rcases Int.lt_trichotomy y.client d.client with g | g | g
    · rw [put_lt l g]
      refine List.pairwise_cons.2 ⟨fun z hz => ?_, put_up d h'.2⟩
      rcases put_mem hz with rfl | hz
      · exact g
      · exact h'.1 z hz
    · rw [put_eq l g.symm]
      exact List.pairwise_cons.2 ⟨fun z hz => by have := h'.1 z hz; omega, h'.2⟩
    · rw [put_gt l g]
      refine List.pairwise_cons.2 ⟨fun z hz => ?_, h⟩
      rcases List.mem_cons.1 hz with rfl | hz
      · exact g
      · have := h'.1 z hz; omega
def foldC (c : Dup → Bool) : List Dup → List Dup → List Dup
  | l, [] => l
  | l, d :: r => foldC c (if c d then putd l d else l) r
theorem fold_cons (c : Dup → Bool) {w : Dup} : ∀ (r l : List Dup), (∀ d ∈ r, w.client < d.client) → foldC c (w :: l) r = w :: foldC c l r
  | [], l, _ => rfl
  | d :: r, l, h => by
    unfold foldC
    rw [← fold_cons c r _ fun z hz => h z (by simp [hz])]
    congr 1
    split
    · exact put_lt l (h d (by simp))
    · rfl
theorem fold_congr {c c' : Dup → Bool} : ∀ (r l : List Dup), (∀ d ∈ r, c d = c' d) → foldC c l r = foldC c' l r
  | [], l, _ => rfl
  | d :: r, l, h => by
    unfold foldC
    rw [h d (by simp), fold_congr r _ fun z hz => h z (by simp [hz])]
theorem mrg_ref (a b : List Dup) (ha : Up a) (hb : Up b) : mrg a b = foldC (condB a) a b := by
  fun_induction mrg a b with
  | case1 cur =>
    induction cur with
    | nil => rfl
    | cons x r ih =>
      have hb' := List.pairwise_cons.1 hb
      unfold foldC
      rw [cond_nil, if_pos rfl, put_nil, fold_cons _ r [] hb'.1, ← ih hb'.2]
  | case2 y a ih =>
    rw [ih (List.pairwise_cons.1 ha).2 hb]; rfl
  | case3 y a x r h ih =>
    have ha' := List.pairwise_cons.1 ha
    have hb' := List.pairwise_cons.1 hb
    rw [ih ha hb'.2]
    conv => rhs; unfold foldC
    rw [cond_gt a h, if_pos rfl, put_gt a h, fold_cons _ r _ hb'.1]
  | case4 y a x r h1 h ih =>
    have ha' := List.pairwise_cons.1 ha
    have hb' := List.pairwise_cons.1 hb
    rw [ih ha'.2 hb'.2]
    conv => rhs; unfold foldC
    rw [cond_eq a h, put_eq a h]
    have e : (if laterB x.inst x.tid y.inst y.tid = true then x :: a else y :: a) = win y x :: a := by unfold win; split <;> rfl
    have hw : (win y x).client = x.client := by unfold win; split <;> simp [h]
    rw [e, fold_cons _ r _ fun d hd => by rw [hw]; exact hb'.1 d hd]
    congr 1
    exact fold_congr r a fun d hd => (cond_lt a (by have := hb'.1 d hd; omega)).symm
  | case5 y a x r h1 h ih =>
    have ha' := List.pairwise_cons.1 ha
    have hb' := List.pairwise_cons.1 hb
    have hy : ∀ d ∈ x :: r, y.client < d.client := fun d hd => by
      rcases List.mem_cons.1 hd with rfl | hd
      · omega
      · have := hb'.1 d hd; omega
    rw [ih ha'.2 hb, fold_cons _ _ _ hy]
    congr 1
    exact fold_congr _ a fun d hd => (cond_lt a (hy d hd)).symm
theorem mrg_mem {a b : List Dup} {z : Dup} (h : z ∈ mrg a b) : z ∈ a ∨ z ∈ b := by
  fun_induction mrg a b with
  | case1 cur => exact .inr h
  | case2 y a ih => rcases List.mem_cons.1 h with rfl | h <;> simp_all
  | case3 y a x r g ih => rcases List.mem_cons.1 h with rfl | h <;> simp_all; rcases ih with h | h <;> simp [h]
  | case4 y a x r g1 g ih =>
    rcases List.mem_cons.1 h with rfl | h
    · unfold win; split <;> simp
    · rcases ih h with h | h <;> simp [h]
  | case5 y a x r g1 g ih =>
    rcases List.mem_cons.1 h with rfl | h
    · simp
    · rcases ih h with h | h
      · simp [h]
      · exact .inr h
theorem mrg_up {a b : List Dup} (ha : Up a) (hb : Up b) : Up (mrg a b) := by
  fun_induction mrg a b with
  | case1 cur => exact hb
  | case2 y a ih =>
    have ha' := List.pairwise_cons.1 ha
    refine List.pairwise_cons.2 ⟨fun z hz => ?_, ih ha'.2 hb⟩
    rcases mrg_mem hz with h | h
    · exact ha'.1 z h
    · cases h
  | case3 y a x r g ih =>
    have ha' := List.pairwise_cons.1 ha
    have hb' := List.pairwise_cons.1 hb
    refine List.pairwise_cons.2 ⟨fun z hz => ?_, ih ha hb'.2⟩
    rcases mrg_mem hz with h | h
    · rcases List.mem_cons.1 h with rfl | h
      · exact g
      · have := ha'.1 z h; omega
    · exact hb'.1 z h
  | case4 y a x r g1 g ih =>
    have ha' := List.pairwise_cons.1 ha
    have hb' := List.pairwise_cons.1 hb
    have hw : (win y x).client = x.client := by unfold win; split <;> simp [g]
    refine List.pairwise_cons.2 ⟨fun z hz => ?_, ih ha'.2 hb'.2⟩
    rcases mrg_mem hz with h | h
    · have := ha'.1 z h; omega
    · have := hb'.1 z h; omega
  | case5 y a x r g1 g ih =>
    have ha' := List.pairwise_cons.1 ha
    have hb' := List.pairwise_cons.1 hb
    refine List.pairwise_cons.2 ⟨fun z hz => ?_, ih ha'.2 hb⟩
    rcases mrg_mem hz with h | h
    · exact ha'.1 z h
    · rcases List.mem_cons.1 h with rfl | h
      · omega
      · have := hb'.1 z h; omega
theorem merge_fit {a b : List Dup} (ha : Fit a) (hb : Fit b) : Fit ((mrg a b).take 16) := by
  refine ⟨by simp; omega, fun d hd => ?_, (mrg_up ha.2.2 hb.2.2).sublist (List.take_sublist _ _)⟩
  rcases mrg_mem (List.mem_of_mem_take hd) with h | h
  · exact ha.2.1 d h
  · exact hb.2.1 d h
end Go.Proofs.Ytoankcclbnnfiaa

