/- Package 05: the law SectorWall: what a row of writes, flushed and lost, comes to. -/
import Derived.Test.YtkfjjjjejdogbaaD10
set_option maxRecDepth 100000
set_option maxHeartbeats 1000000
set_option linter.unusedSimpArgs false
set_option linter.unusedVariables false
namespace Go.Proofs.Ytkfjjjjejdogbaa
open Go.Abs
attribute [local irreducible] C X CC Y CV CW binK litK AppK PureC PureCV againK loopV rangeV allK ifK got onB condK V stepsK planK opK firstK seeE keepsK

def secStr (s : Sec) : ByteArray := ⟨s.l.toArray⟩
theorem img_cons (s : Sec) (L : List Sec) : imgL (s :: L) = s.l ++ imgL L := by simp [imgL]
theorem img_part : ∀ (L : List Sec) (k : Nat), k < L.length → ((imgL L).drop (k * 64)).take 64 = (L.getD k default).l
  | [], k, h => by simp at h
  | s :: L, 0, _ => by
    rw [img_cons, Nat.zero_mul, List.drop_zero, List.take_append_of_le_length (by rw [s.h]; exact Nat.le_refl _), List.take_of_length_le (by rw [s.h]; exact Nat.le_refl _)]; rfl
  | s :: L, k + 1, h => by
    have : (k + 1) * 64 = s.l.length + k * 64 := by rw [s.h]; omega
    rw [img_cons, this, ← List.drop_drop, List.drop_left]
    rw [img_part L k (by simpa using h)]; rfl
/-- A device that nobody cut. -/
structure Free (n : Nat) (d : Dev) : Prop where
  ok : d.Ok
  n : d.laid.length = n
  dead : d.dead = false
  set : d.set = false
theorem Free.begin {n : Nat} (h : 1 ≤ n) (h' : n ≤ 4096) : Free n (newDev n) := ⟨newDev_ok h h', by simp [newDev], rfl, rfl⟩
theorem Free.write {n : Nat} {d : Dev} (h : Free n d) {k : Nat} (hk : k < n) {l : List UInt8} (hl : l.length = 64) : writeE d k l = 0 ∧ writeD d k l = countD (layD d k (fillS l)) ∧ Free n (writeD d k l) := by
  have hn := h.n
  have h1 : ¬ d.dead = true := by rw [h.dead]; decide
  have h2 : ¬ ((k : Int) < 0 ∨ (d.laid.length : Int) ≤ (k : Int)) := by omega
  have h3 : ¬ l.length ≠ 64 := fun e => e hl
  have h4 : ¬ (d.set = true ∧ d.left = 0) := by rw [h.set]; simp
  have e2 : lessD d = d := by unfold lessD; rw [if_neg (by rw [h.set]; decide)]
  have e : writeD d k l = countD (layD d k (fillS l)) := by unfold writeD; rw [if_neg h1, if_neg h2, if_neg h3, if_neg h4, e2]; rfl
  refine ⟨by unfold writeE; rw [if_neg h1, if_neg h2, if_neg h3, if_neg h4], e, Ok.write h.ok _ _, by rw [write_laid]; exact hn, ?_, ?_⟩
  · rw [e]; exact h.dead
  · rw [e]; exact h.set
theorem Free.flush {n : Nat} {d : Dev} (h : Free n d) : Free n (flushD d) ∧ (flushD d).list = [] ∧ (flushD d).f = d.f + 1 ∧ (flushD d).w = d.w := by
  have e : flushD d = { d with list := [], f := d.f + 1, laid := layTo d.list (fun _ => true) d.laid d.list.length } := by unfold flushD; rw [if_neg (by rw [h.dead]; decide)]
  refine ⟨⟨Ok.flush h.ok, by rw [flush_laid]; exact h.n, ?_, ?_⟩, ?_, ?_, ?_⟩ <;> rw [e]
  · exact h.dead
  · exact h.set
theorem nodup_at {l : List Wr} (h : (l.map (·.at_)).Nodup) {i j : Nat} (hi : i < l.length) (hj : j < l.length) (e : (l.getD i default).at_ = (l.getD j default).at_) : i = j := by
  have h1 : (l.map (·.at_)).getD i default = (l.map (·.at_)).getD j default := by rw [getD_map _ _ _ hi, getD_map _ _ _ hj]; exact e
  have hi' : i < (l.map (·.at_)).length := by simpa using hi
  have hj' : j < (l.map (·.at_)).length := by simpa using hj
  rw [List.getD_eq_getElem?_getD, List.getD_eq_getElem?_getD, List.getElem?_eq_getElem hi', List.getElem?_eq_getElem hj'] at h1
  have h1 : (l.map (·.at_))[i] = (l.map (·.at_))[j] := by simpa using h1
  have hp := List.pairwise_iff_getElem.1 h
  rcases Nat.lt_trichotomy i j with hij | hij | hij
  · exact absurd h1 (hp i j hi' hj' hij)
  · exact hij
  · exact absurd h1.symm (hp j i hj' hi' hij)
/-- What is in the cache behind a write. -/
theorem layL_mem {l : List Wr} {k : Nat} {s : Sec} (h : (l.map (·.at_)).Nodup) {w : Wr} (hw : w ∈ layL l k s) : (w.at_ = k ∧ w.s = s) ∨ (w ∈ l ∧ w.at_ ≠ k) := by
  unfold layL at hw
  split at hw
  · rename_i hf
    obtain ⟨j, hj, e⟩ := List.mem_iff_getElem.1 hw
    have hj' : j < l.length := by simpa using hj
    by_cases e' : findN l k = j
    · subst e'; rw [List.getElem_set_self] at e; subst e; exact .inl ⟨rfl, rfl⟩
    · rw [List.getElem_set_ne e'] at e
      subst e
      refine .inr ⟨List.getElem_mem hj', fun e => e' (nodup_at h hf hj' ?_)⟩
      rw [findN_is hf, List.getD_eq_getElem?_getD, List.getElem?_eq_getElem hj']; exact e.symm
  · rename_i hf
    rcases List.mem_append.1 hw with hw | hw
    · refine .inr ⟨hw, fun e => hf ?_⟩
      unfold findN; rw [List.findIdx_lt_length]
      exact ⟨w, hw, by simpa using e⟩
    · rw [List.mem_singleton] at hw; subst hw; exact .inl ⟨rfl, rfl⟩
/-- What lies at k behind i of what is written: what lay there, or what is written there. -/
theorem layTo_or {l : List Wr} {b : Nat → Bool} {L : List Sec} (k : Nat) : ∀ i, i ≤ l.length → (layTo l b L i).getD k default = L.getD k default ∨ ∃ w ∈ l, w.at_ = k ∧ (layTo l b L i).getD k default = w.s
  | 0, _ => .inl rfl
  | i + 1, hi => by
    rcases hb : b i
    · rw [layTo_no hb]; exact layTo_or k i (by omega)
    · rw [layTo_yes hb]
      have hm : l.getD i default ∈ l := by
        rw [List.getD_eq_getElem?_getD, List.getElem?_eq_getElem (show i < l.length by omega)]; exact List.getElem_mem _
      by_cases e : (l.getD i default).at_ = k
      · by_cases hk : k < (layTo l b L i).length
        · refine .inr ⟨_, hm, e, ?_⟩
          rw [e, List.getD_eq_getElem?_getD, List.getElem?_set_self hk]; rfl
        · rw [List.set_eq_of_length_le (by omega)]; exact layTo_or k i (by omega)
      · have : ((layTo l b L i).set (l.getD i default).at_ (l.getD i default).s).getD k default = (layTo l b L i).getD k default := by
          rw [List.getD_eq_getElem?_getD, List.getElem?_set_ne e, ← List.getD_eq_getElem?_getD]
        rw [this]; exact layTo_or k i (by omega)
/-- What is let through lies there. -/
theorem layTo_is {l : List Wr} {b : Nat → Bool} {L : List Sec} (hn : (l.map (·.at_)).Nodup) (ha : ∀ w ∈ l, w.at_ < L.length) {j : Nat} (hb : b j = true) : ∀ i, i ≤ l.length → j < i → (layTo l b L i).getD (l.getD j default).at_ default = (l.getD j default).s
  | 0, _, h => by omega
  | i + 1, hi, hj => by
    have hm : ∀ q, q < l.length → l.getD q default ∈ l := fun q hq => by
      rw [List.getD_eq_getElem?_getD, List.getElem?_eq_getElem hq]; exact List.getElem_mem _
    by_cases e : i = j
    · subst e
      rw [layTo_yes hb, List.getD_eq_getElem?_getD, List.getElem?_set_self (by rw [layTo_len]; exact ha _ (hm i (by omega)))]; rfl
    · have ih := layTo_is hn ha hb i (by omega) (by omega)
      rcases hbi : b i
      · rw [layTo_no hbi]; exact ih
      · rw [layTo_yes hbi, List.getD_eq_getElem?_getD, List.getElem?_set_ne (fun e' => e (nodup_at hn (by omega) (by omega) e')), ← List.getD_eq_getElem?_getD]
        exact ih
end Go.Proofs.Ytkfjjjjejdogbaa

