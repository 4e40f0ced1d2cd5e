/- Package 20: what the arguments are read as; the law DupFits for all of them. -/
import Derived.Test.YtoankcclbnnfiaaD8
set_option maxRecDepth 100000
set_option maxHeartbeats 1000000
set_option linter.unusedSimpArgs false
set_option linter.unusedVariables false
namespace Go.Proofs.Ytoankcclbnnfiaa
open Go.Abs
attribute [local irreducible] C X CC Y CV CW binK litK AppK PureC PureCV againK loopV rangeV allK ifK got onB condK V stepsK planK opK firstK seeE keepsK

theorem dups_of {c : AV} (h : ShapedV Try.prog 22 c) : ∃ l : List Dup, c = .vs (l.map Dup.cells) false ∧ l.length * 64 ≤ 140737488351232 ∧ l.length ≤ 9223372036854775807 ∧ ∀ d ∈ l, d.ok :=
  Shaped.rows Dup.cells Dup.ok ti_22 rfl ti_39 rfl (fun _ h => Dup.of_shaped h) (h.one ti_22 rfl)
theorem fits_law : ∀ args, ShapedAll Try.prog Try.f5.params.toList args → F Try.prog 5 args (.val (.bool true)) := by
  intro args h
  have hp : Try.f5.params.toList = [22, 22, 3] := by kernel_rfl
  rw [hp] at h
  match args, h with
  | [a, b, c], ⟨h0, h1, h2, _⟩ =>
    obtain ⟨l, rfl, l1, _⟩ := dups_of h0
    obtain ⟨m, rfl, m1, _⟩ := dups_of h1
    obtain ⟨x, rfl, _⟩ := (h2.one ti_3 rfl).i64 ti_3 rfl
    exact F5 l m false false x (by omega)
end Go.Proofs.Ytoankcclbnnfiaa

