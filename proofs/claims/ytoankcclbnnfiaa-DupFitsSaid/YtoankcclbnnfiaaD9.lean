/- Package 20: what the arguments are read as; the law DupFits for all of them. -/
import Derived.Test.YtoankcclbnnfiaaD8
import Derived.Test.YtoankcclbnnfiaaA21
set_option maxRecDepth 100000
set_option maxHeartbeats 1000000
set_option linter.unusedSimpArgs false
set_option linter.unusedVariables false
namespace Go.Proofs.Ytoankcclbnnfiaa
open Go.Abs
attribute [local irreducible] C Y CV AppK PureC PureCV againK loopV rangeV allK ifK got onB condK V stepsK planK opK firstK seeE

theorem laidOut : laidOutB Try.prog = true := by kernel_rfl
def Dup.ok (d : Dup) : Prop := (-9223372036854775808 ≤ d.client ∧ d.client ≤ 9223372036854775807) ∧ (-9223372036854775808 ≤ d.inst ∧ d.inst ≤ 9223372036854775807) ∧ (-9223372036854775808 ≤ d.tid ∧ d.tid ≤ 9223372036854775807) ∧ (-9223372036854775808 ≤ d.err ∧ d.err ≤ 9223372036854775807) ∧ (-9223372036854775808 ≤ d.num ∧ d.num ≤ 9223372036854775807) ∧ (-9223372036854775808 ≤ d.rinst ∧ d.rinst ≤ 9223372036854775807) ∧ d.data.size ≤ 140737488351232
theorem Dup.of_shaped {cs : List AV} (h : Shaped Try.prog 39 cs) (hc : cs.length = 7) : ∃ d : Dup, cs = d.cells ∧ d.ok := by
  have h := Shaped.leaves laidOut 8 39 [3, 2, 2, 27, 2, 2, 9] cs (of_decide_eq_true (by kernel_rfl)) (by kernel_rfl) h (hc.trans (cells_size ti_39).symm)
  match cs, h with
  | [c0, c1, c2, c3, c4, c5, c6], ⟨h0, h1, h2, h3, h4, h5, h6, _⟩ =>
    obtain ⟨x0, rfl, w0⟩ := h0.i64 ti_3 rfl
    obtain ⟨x1, rfl, w1⟩ := h1.i64 ti_2 rfl
    obtain ⟨x2, rfl, w2⟩ := h2.i64 ti_2 rfl
    obtain ⟨x3, rfl, w3⟩ := h3.i64 ti_27 rfl
    obtain ⟨x4, rfl, w4⟩ := h4.i64 ti_2 rfl
    obtain ⟨x5, rfl, w5⟩ := h5.i64 ti_2 rfl
    obtain ⟨x6, rfl, w6⟩ := h6.str ti_9 rfl
    exact ⟨⟨x0, x1, x2, x3, x4, x5, x6⟩, rfl, w0, w1, w2, w3, w4, w5, w6⟩
theorem dups_of {c : AV} (h : ShapedV Try.prog 22 c) : ∃ l : List Dup, c = .vs (l.map Dup.cells) false ∧ l.length * 64 ≤ 140737488351232 ∧ l.length ≤ 9223372036854775807 ∧ ∀ d ∈ l, d.ok :=
  Shaped.rows Dup.cells Dup.ok ti_22 rfl ti_39 rfl (fun _ h => Dup.of_shaped h) (h.one ti_22 rfl)
theorem fits_law : ∀ args, ShapedAll Try.prog Try.f5.params.toList args → F Try.prog 5 args (.val (.bool true)) := by
  intro args h
  have hp : Try.f5.params.toList = [22, 22, 3] := by kernel_rfl
  rw [hp] at h
  match args, h with
  | [a, b, c], ⟨h0, h1, h2, _⟩ =>
    obtain ⟨l, rfl, l1, _⟩ := dups_of h0
    obtain ⟨m, rfl, m1, _⟩ := dups_of h1
    obtain ⟨x, rfl, _⟩ := (h2.one ti_3 rfl).i64 ti_3 rfl
    exact F5 l m false false x (by omega)
end Go.Proofs.Ytoankcclbnnfiaa

