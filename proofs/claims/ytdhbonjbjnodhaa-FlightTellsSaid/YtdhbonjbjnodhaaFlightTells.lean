/- The law FlightTells, proved: for every input it returns true, and its arguments read as they did. No conditions. -/
import Derived.Test.YtdhbonjbjnodhaaM5
import Derived.Test.YtdhbonjbjnodhaaRows
namespace Go.Proofs.Ytdhbonjbjnodhaa.flightTells
open Go.Abs Go.ChangeShapes Go.WideShapes Go.ChangeAt Go.RowKit
theorem own : ownKnob Try.prog.godebug = none := by kernel_rfl
set_option maxRecDepth 100000 in
theorem lifted (os : Os) (started : os.Started) (H : Type) (enc : TypeId × Value → H) :
    ReturnsInHanded {} Try.checked os 3 .any (Rows.flightTellsSpec.pre6 enc Try.prog Try.f3 Rows.flightTellsRow.domain false) (Rows.flightTellsSpec.post enc Try.prog Try.f3 false true false false) :=
  law_lift (C := Try.checked) (rt := 4) own started (by kernel_rfl) Try.func3
    (ChangeSpec.witness6 (enc := enc) (C := Try.checked) false ⟨#[], #[.agg #[.int .i64 0, .slice none 0 0, .slice none 0 0], .int .i64 0, .int .i64 0], []⟩ 8 (by kernel_rfl) (by kernel_rfl) (by kernel_rfl) (by kernel_rfl))
    rfl (fun H ds h => by match ds, h with | [_, _, _], _ => rfl) laidOut (by kernel_rfl) (by kernel_rfl) (by kernel_rfl) tells_law
theorem over : Rows.flightTellsRow.holds Try.pinned (OpenSpec.ofChange Rows.flightTellsSpec) :=
  OpenClaim.holds_of_wide 3 Try.f3 rfl rfl rfl rfl rfl rfl rfl ⟨rfl, rfl, rfl, rfl, rfl⟩ rfl rfl rfl rfl rfl (by kernel_rfl) Try.func3 (by kernel_rfl)
    (of_decide_eq_true (by kernel_rfl)) (by unfold Func.isWrapper; first | (rw [if_pos (by decide +kernel)]; kernel_rfl) | (rw [if_neg (by decide +kernel)]; exact ⟨rfl, rfl⟩))
    (fun os started H enc _ => lifted os started H enc)
theorem proved : Rows.FlightTellsSaid := over
#print axioms proved
end Go.Proofs.Ytdhbonjbjnodhaa.flightTells
namespace Go.Proofs.Ytdhbonjbjnodhaa
/-- The row, under a short name, for the claim. -/
theorem flightTells_holds : Rows.FlightTellsSaid := flightTells.proved
end Go.Proofs.Ytdhbonjbjnodhaa
