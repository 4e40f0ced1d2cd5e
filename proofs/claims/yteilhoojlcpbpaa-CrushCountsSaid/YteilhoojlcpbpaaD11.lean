/- Package 11: the law CrushMoves. -/
import Derived.Test.YteilhoojlcpbpaaD10
set_option maxRecDepth 100000
set_option maxHeartbeats 1000000
set_option linter.unusedSimpArgs false
set_option linter.unusedVariables false
namespace Go.Proofs.Yteilhoojlcpbpaa
open Go.Abs
attribute [local irreducible] C X CC Y CV CW binK litK AppK PureC PureCV againK loopV rangeV allK ifK got onB condK V stepsK planK opK firstK seeE keepsK

theorem items_of {c : AV} (h : ShapedV Try.prog 22 c) : ∃ l : List Item, c = .vs (l.map Item.cells) false ∧ l.length * 16 ≤ 140737488351232 ∧ l.length ≤ 9223372036854775807 ∧ ∀ d ∈ l, d.ok :=
  Shaped.rows Item.cells Item.ok ti_22 rfl ti_28 rfl (fun _ h => Item.of_shaped h) (h.one ti_22 rfl)
theorem moves_law : ∀ args, ShapedAll Try.prog Try.f3.params.toList args → F Try.prog 3 args (.val (.bool true)) := by
  intro args h
  have hp : Try.f3.params.toList = [22, 3, 2, 23, 3] := by kernel_rfl
  rw [hp] at h
  match args, h with
  | [a, b, c, d, e], ⟨h0, h1, h2, h3, h4, _⟩ =>
    obtain ⟨l, rfl, l1, _, _⟩ := items_of h0
    obtain ⟨x, rfl, _⟩ := (h1.one ti_3 rfl).i64 ti_3 rfl
    obtain ⟨w, rfl, _⟩ := (h2.one ti_2 rfl).i64 ti_2 rfl
    obtain ⟨z, rfl, z0, z1⟩ := (h3.one ti_23 rfl).u32 ti_23 rfl
    obtain ⟨r, rfl, _⟩ := (h4.one ti_3 rfl).i64 ti_3 rfl
    obtain ⟨q, rfl⟩ : ∃ q : Nat, z = q := ⟨z.toNat, by omega⟩
    exact F3 l false (by omega) x w q (by omega) r
end Go.Proofs.Yteilhoojlcpbpaa

