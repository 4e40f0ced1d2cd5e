/- Package 05: what stays fit; chapter 5's first example. -/
import Derived.Test.YtkfjjjjejdogbaaD7
set_option maxRecDepth 100000
set_option maxHeartbeats 1000000
set_option linter.unusedSimpArgs false
set_option linter.unusedVariables false
namespace Go.Proofs.Ytkfjjjjejdogbaa
open Go.Abs
attribute [local irreducible] C X CC Y CV CW binK litK AppK PureC PureCV againK loopV rangeV allK ifK got onB condK V stepsK planK opK firstK seeE keepsK

theorem Ok.cut {d : Dev} (h : d.Ok) {c p : Int} (hc : c ≤ 9223372036854775807) : (cutD d c p).Ok := by
  unfold cutD
  split
  · exact h
  · split
    · exact ⟨h.some, h.most, h.at_, h.once, fun _ => ⟨by assumption, hc⟩⟩
    · exact ⟨h.some, h.most, h.at_, h.once, fun e => by cases e⟩
theorem Ok.on {d : Dev} (h : d.Ok) : (onD d).Ok := ⟨h.some, h.most, h.at_, h.once, h.cut⟩
theorem Ok.lose {d : Dev} (h : d.Ok) (p : Int) : (loseD d p).Ok := by
  unfold loseD
  split
  · exact h
  · exact ⟨by rw [layTo_len]; exact h.some, by rw [layTo_len]; exact h.most, fun w hw => by simp at hw, List.nodup_nil, fun e => by cases e⟩
theorem Ok.flush {d : Dev} (h : d.Ok) : (flushD d).Ok := by
  unfold flushD
  split
  · exact h
  · exact ⟨by rw [layTo_len]; exact h.some, by rw [layTo_len]; exact h.most, fun w hw => by simp at hw, List.nodup_nil, h.cut⟩
theorem layL_at {l : List Wr} {k : Nat} {s : Sec} {n : Nat} (h : ∀ w ∈ l, w.at_ < n) (hk : k < n) : ∀ w ∈ layL l k s, w.at_ < n := by
  unfold layL
  split
  · intro w hw
    rcases List.mem_or_eq_of_mem_set hw with hw | rfl
    · exact h w hw
    · exact hk
  · intro w hw
    rcases List.mem_append.1 hw with hw | hw
    · exact h w hw
    · rw [List.mem_singleton] at hw; subst hw; exact hk
theorem set_same {α : Type} [Inhabited α] (l : List α) (i : Nat) (a : α) (h : l.getD i default = a) : l.set i a = l := by
  subst h
  by_cases hi : i < l.length
  · rw [List.getD_eq_getElem?_getD, List.getElem?_eq_getElem hi]; simp
  · rw [List.set_eq_of_length_le (by omega)]
theorem layL_once {l : List Wr} {k : Nat} {s : Sec} (h : (l.map (·.at_)).Nodup) : ((layL l k s).map (·.at_)).Nodup := by
  unfold layL
  split
  · rename_i hf
    rw [List.map_set, set_same]
    · exact h
    · rw [getD_map _ _ _ hf]; exact findN_is hf
  · rename_i hf
    rw [List.map_append, List.nodup_append]
    refine ⟨h, by simp, fun a ha b hb => ?_⟩
    simp only [List.map_cons, List.map_nil, List.mem_singleton] at hb
    subst hb
    obtain ⟨w, hw, rfl⟩ := List.mem_map.1 ha
    intro e
    apply hf
    unfold findN
    rw [List.findIdx_lt_length]
    exact ⟨w, hw, by simpa using e⟩
theorem Ok.write {d : Dev} (h : d.Ok) (k : Int) (l : List UInt8) : (writeD d k l).Ok := by
  unfold writeD
  split
  · exact h
  · split
    · exact h
    · rename_i hk
      split
      · exact h
      · split
        · exact Ok.lose h _
        · rename_i hc
          have hq : k.toNat < d.laid.length := by omega
          refine ⟨?_, ?_, ?_, ?_, ?_⟩
          · unfold countD layD lessD; split <;> exact h.some
          · unfold countD layD lessD; split <;> exact h.most
          · unfold countD layD lessD; split <;> exact layL_at h.at_ hq
          · unfold countD layD lessD; split <;> exact layL_once h.once
          · unfold countD layD lessD
            split
            · rename_i hs
              intro _
              have := h.cut hs
              have : d.left ≠ 0 := fun e => hc ⟨hs, e⟩
              show 0 ≤ d.left - 1 ∧ d.left - 1 ≤ _
              omega
            · exact h.cut
theorem write_laid (d : Dev) (k : Int) (l : List UInt8) : (writeD d k l).laid.length = d.laid.length := by
  unfold writeD
  split
  · rfl
  · split
    · rfl
    · split
      · rfl
      · split
        · unfold loseD; split
          · rfl
          · exact layTo_len _ _ _ _
        · unfold countD layD lessD; split <;> rfl
theorem write_w (d : Dev) (k : Int) (l : List UInt8) : (writeD d k l).w ≤ d.w + 1 := by
  unfold writeD
  split
  · omega
  · split
    · omega
    · split
      · omega
      · split
        · unfold loseD; split <;> simp
        · unfold countD layD lessD; split <;> simp
theorem write_f (d : Dev) (k : Int) (l : List UInt8) : (writeD d k l).f = d.f := by
  unfold writeD
  split
  · rfl
  · split
    · rfl
    · split
      · rfl
      · split
        · unfold loseD; split <;> rfl
        · unfold countD layD lessD; split <;> rfl
theorem lose_w (d : Dev) (p : Int) : (loseD d p).w = d.w ∧ (loseD d p).f = d.f := by unfold loseD; split <;> exact ⟨rfl, rfl⟩
theorem lose_laid (d : Dev) (p : Int) : (loseD d p).laid.length = d.laid.length := by
  unfold loseD; split
  · rfl
  · exact layTo_len _ _ _ _
theorem flush_laid (d : Dev) : (flushD d).laid.length = d.laid.length := by
  unfold flushD; split
  · rfl
  · exact layTo_len _ _ _ _
theorem cut_laid (d : Dev) (c p : Int) : (cutD d c p).laid.length = d.laid.length ∧ (cutD d c p).w = d.w ∧ (cutD d c p).f = d.f := by unfold cutD; split <;> (try split) <;> exact ⟨rfl, rfl, rfl⟩
end Go.Proofs.Ytkfjjjjejdogbaa

