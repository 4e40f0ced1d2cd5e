/- The law FlightFits, proved: for every input it returns true, and its arguments read as they did. No conditions. -/
import Derived.Test.YtdhbonjbjnodhaaM5
import Derived.Test.YtdhbonjbjnodhaaRows
namespace Go.Proofs.Ytdhbonjbjnodhaa.flightFits
open Go.Abs Go.ChangeShapes Go.WideShapes Go.ChangeAt Go.RowKit
theorem own : ownKnob Try.prog.godebug = none := by kernel_rfl
set_option maxRecDepth 100000 in
theorem lifted (os : Os) (started : os.Started) (H : Type) (enc : TypeId × Value → H) :
    ReturnsInHanded {} Try.checked os 4 .any (Rows.flightFitsSpec.pre6 enc Try.prog Try.f4 Rows.flightFitsRow.domain false) (Rows.flightFitsSpec.post enc Try.prog Try.f4 false true false false) :=
  law_lift (C := Try.checked) (rt := 4) own started (by kernel_rfl) Try.func4
    (ChangeSpec.witness6 (enc := enc) (C := Try.checked) false ⟨#[], #[.agg #[.int .i64 0, .slice none 0 0, .slice none 0 0], .agg #[.int .i64 0, .slice none 0 0, .slice none 0 0]], []⟩ 8 (by kernel_rfl) (by kernel_rfl) (by kernel_rfl) (by kernel_rfl))
    rfl (fun H ds h => by match ds, h with | [_, _], _ => rfl) laidOut (by kernel_rfl) (by kernel_rfl) (by kernel_rfl) fits_law
theorem over : Rows.flightFitsRow.holds Try.pinned (OpenSpec.ofChange Rows.flightFitsSpec) :=
  OpenClaim.holds_of_wide 4 Try.f4 rfl rfl rfl rfl rfl rfl rfl ⟨rfl, rfl, rfl, rfl, rfl⟩ rfl rfl rfl rfl rfl (by kernel_rfl) Try.func4 (by kernel_rfl)
    (of_decide_eq_true (by kernel_rfl)) (by unfold Func.isWrapper; first | (rw [if_pos (by decide +kernel)]; kernel_rfl) | (rw [if_neg (by decide +kernel)]; exact ⟨rfl, rfl⟩))
    (fun os started H enc _ => lifted os started H enc)
theorem proved : Rows.FlightFitsSaid := over
#print axioms proved
end Go.Proofs.Ytdhbonjbjnodhaa.flightFits
namespace Go.Proofs.Ytdhbonjbjnodhaa
/-- The row, under a short name, for the claim. -/
theorem flightFits_holds : Rows.FlightFitsSaid := flightFits.proved
end Go.Proofs.Ytdhbonjbjnodhaa
