/- Package 20: dups that are fit: what the functions come to without a place named; rows of requests (P20.7). -/
import Derived.Test.YtoankcclbnnfiaaD13
set_option maxRecDepth 100000
set_option maxHeartbeats 1000000
set_option linter.unusedSimpArgs false
set_option linter.unusedVariables false
namespace Go.Proofs.Ytoankcclbnnfiaa
open Go.Abs
attribute [local irreducible] C X CC Y CV CW binK litK AppK PureC PureCV againK loopV rangeV allK ifK got onB condK V stepsK planK opK firstK seeE keepsK

/-- Where a client's stands. -/
def pl (l : List Dup) (c : Int) : Nat := (l.takeWhile fun d => d.client < c).length
theorem takeWhile_len_le {α : Type} (p : α → Bool) : ∀ l : List α, (l.takeWhile p).length ≤ l.length
  | [] => by simp
  | a :: l => by
    rw [List.takeWhile_cons]
    split
    · simp; exact takeWhile_len_le p l
    · simp
theorem pl_spec {l : List Dup} (h : Fit l) (c : Int) : pl l c ≤ l.length ∧ (∀ i, i < pl l c → (l.getD i default).client < c) ∧ (∀ i, pl l c ≤ i → i < l.length → c ≤ (l.getD i default).client) := by
  have hp := h.2.2
  clear h
  unfold pl
  refine ⟨takeWhile_len_le _ l, ?_, ?_⟩
  · induction l with
    | nil => intro i hi; simp at hi
    | cons a l ih =>
      rw [List.pairwise_cons] at hp
      intro i hi
      rw [List.takeWhile_cons] at hi
      split at hi
      · rename_i ha
        cases i with
        | zero => simpa using ha
        | succ i => simpa using ih hp.2 i (by simpa using hi)
      · simp at hi
  · induction l with
    | nil => intro i _ hi; simp at hi
    | cons a l ih =>
      rw [List.pairwise_cons] at hp
      intro i hi hl
      rw [List.takeWhile_cons] at hi
      split at hi
      · cases i with
        | zero => simp at hi
        | succ i => simpa using ih hp.2 i (by simpa using hi) (by simpa using hl)
      · rename_i ha
        have ha' : c ≤ a.client := by simpa using ha
        cases i with
        | zero => simpa using ha'
        | succ i =>
          have hl' : i < l.length := by simpa using hl
          have := hp.1 (l.getD i default) (by rw [getD_get hl']; exact List.getElem_mem _)
          simp only [List.getD_cons_succ]
          omega
def what (l : List Dup) (r : Req) : Int := whatB l.length (foundB l r.client (pl l r.client)) (findB l r.client (pl l r.client)) r
def was (l : List Dup) (r : Req) : Res := wasB l.length (foundB l r.client (pl l r.client)) (findB l r.client (pl l r.client)) r
def note (l : List Dup) (r : Req) (res : Res) : List Dup := noteB l (pl l r.client) r res
theorem Fit.small {l : List Dup} (h : Fit l) : l.length * 64 ≤ 140737488351232 ∧ l.length ≤ 140737488355328 := by have := h.1; omega
theorem note_Fit {l : List Dup} (h : Fit l) {r : Req} {res : Res} (hr : reqB r = true) : Fit (note l r res) := let ⟨a, b, c⟩ := pl_spec h r.client; note_fit h r res hr _ a b c
theorem J13 {l : List Dup} (h : Fit l) (x : Bool) (r : Req) : F Try.prog 13 [.vs (l.map Dup.cells) x, .agg r.cells] (.tup [.val (.int .i64 (what l r)), .agg (was l r).cells]) := let ⟨a, b, c⟩ := pl_spec h r.client; F13 l x r h.small.2 _ a b c
theorem found_client {l : List Dup} {c : Int} {k : Nat} (h : foundB l c k = true) : (findB l c k).client = c := by
  unfold findB; rw [if_pos h]
  unfold foundB at h
  simp only [Bool.and_eq_true, decide_eq_true_eq, beq_iff_eq] at h
  exact h.2
theorem J21 {l : List Dup} (h : Fit l) (x : Bool) (c : Int) : F Try.prog 21 [.vs (l.map Dup.cells) x, .val (.int .i64 c)] (.tup [.agg (findB l c (pl l c)).cells, .val (.bool (foundB l c (pl l c)))]) :=
  let ⟨k1, k2, k3⟩ := pl_spec h c; F21 l x c h.small.2 _ _ (find_first k1 k2 k3 (rise_lt (fit_rise ((fit_iff l).2 h))))
theorem J14 {l : List Dup} (h : Fit l) (x : Bool) (r : Req) : F Try.prog 14 [.vs (l.map Dup.cells) x, .agg r.cells] (.tup [.val (.int .i64 (what l r)), .agg (was l r).cells]) := F14 l x r h.small.2 _ _ (J21 h x r.client) found_client
theorem N15 {l : List Dup} (h : Fit l) (x : Bool) (r : Req) (res : Res) : O Try.prog 15 [.vs (l.map Dup.cells) x, .agg r.cells, .agg res.cells] 39 (note l r res).length ((note l r res).map Dup.cells).flatten := let ⟨a, b, c⟩ := pl_spec h r.client; O15 l x r res h.small.1 _ a b c
theorem N17 {l : List Dup} (h : Fit l) (x : Bool) (r : Req) (res : Res) : O Try.prog 17 [.vs (l.map Dup.cells) x, .agg r.cells, .agg res.cells] 39 (note l r res).length ((note l r res).map Dup.cells).flatten := let ⟨a, b, c⟩ := pl_spec h r.client; O17 l x r res h.small.1 _ a b c ((fit_iff l).2 h)

/-- So many requests played. -/
def playTo (l : List Dup) (rs : List Req) (ress : List Res) : Nat → List Dup × List Int
  | 0 => (l, [])
  | i + 1 => if reqB (rs.getD i default) then (note (playTo l rs ress i).1 (rs.getD i default) (ress.getD i r0), (playTo l rs ress i).2 ++ [what (playTo l rs ress i).1 (rs.getD i default)]) else ((playTo l rs ress i).1, (playTo l rs ress i).2 ++ [0])
theorem play_fit {l : List Dup} (h : Fit l) (rs : List Req) (ress : List Res) : ∀ i, Fit (playTo l rs ress i).1
  | 0 => h
  | i + 1 => by
    unfold playTo
    split
    · rename_i hr; exact note_Fit (play_fit h rs ress i) hr
    · exact play_fit h rs ress i
theorem play_len (l : List Dup) (rs : List Req) (ress : List Res) : ∀ i, (playTo l rs ress i).2.length = i
  | 0 => rfl
  | i + 1 => by
    unfold playTo
    split <;> simp [play_len l rs ress i]
def ic (x : Int) : List AV := [.val (.int .i64 x)]
end Go.Proofs.Ytoankcclbnnfiaa

