/- The law FlightKeeps, proved: for every input it returns true, and its arguments read as they did. No conditions. -/
import Derived.Test.YtdhbonjbjnodhaaM5
import Derived.Test.YtdhbonjbjnodhaaRows
namespace Go.Proofs.Ytdhbonjbjnodhaa.flightKeeps
open Go.Abs Go.ChangeShapes Go.WideShapes Go.ChangeAt Go.RowKit
theorem own : ownKnob Try.prog.godebug = none := by kernel_rfl
set_option maxRecDepth 100000 in
theorem lifted (os : Os) (started : os.Started) (H : Type) (enc : TypeId × Value → H) :
    ReturnsInHanded {} Try.checked os 5 .any (Rows.flightKeepsSpec.pre6 enc Try.prog Try.f5 Rows.flightKeepsRow.domain false) (Rows.flightKeepsSpec.post enc Try.prog Try.f5 false true false false) :=
  law_lift (C := Try.checked) (rt := 4) own started (by kernel_rfl) Try.func5
    (ChangeSpec.witness6 (enc := enc) (C := Try.checked) false ⟨#[], #[.slice none 0 0], []⟩ 8 (by kernel_rfl) (by kernel_rfl) (by kernel_rfl) (by kernel_rfl))
    rfl (fun H ds h => by match ds, h with | [_], _ => rfl) laidOut (by kernel_rfl) (by kernel_rfl) (by kernel_rfl) keeps_law
theorem over : Rows.flightKeepsRow.holds Try.pinned (OpenSpec.ofChange Rows.flightKeepsSpec) :=
  OpenClaim.holds_of_wide 5 Try.f5 rfl rfl rfl rfl rfl rfl rfl ⟨rfl, rfl, rfl, rfl, rfl⟩ rfl rfl rfl rfl rfl (by kernel_rfl) Try.func5 (by kernel_rfl)
    (of_decide_eq_true (by kernel_rfl)) (by unfold Func.isWrapper; first | (rw [if_pos (by decide +kernel)]; kernel_rfl) | (rw [if_neg (by decide +kernel)]; exact ⟨rfl, rfl⟩))
    (fun os started H enc _ => lifted os started H enc)
theorem proved : Rows.FlightKeepsSaid := over
#print axioms proved
end Go.Proofs.Ytdhbonjbjnodhaa.flightKeeps
namespace Go.Proofs.Ytdhbonjbjnodhaa
/-- The row, under a short name, for the claim. -/
theorem flightKeeps_holds : Rows.FlightKeepsSaid := flightKeeps.proved
end Go.Proofs.Ytdhbonjbjnodhaa
