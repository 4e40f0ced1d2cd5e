/- The law ObjectKeeps, proved: for every input it returns true, and its arguments read as they did. No conditions. -/
import Derived.Test.YtanfgfclpjmngaaM7
import Derived.Test.YtanfgfclpjmngaaRows
namespace Go.Proofs.Ytanfgfclpjmngaa.objectKeeps
open Go.Abs Go.ChangeShapes Go.WideShapes Go.ChangeAt Go.RowKit
theorem own : ownKnob Try.prog.godebug = none := by kernel_rfl
set_option maxRecDepth 100000 in
theorem lifted (os : Os) (started : os.Started) (H : Type) (enc : TypeId × Value → H) :
    ReturnsInHanded {} Try.checked os 7 .any (Rows.objectKeepsSpec.pre6 enc Try.prog Try.f7 Rows.objectKeepsRow.domain false) (Rows.objectKeepsSpec.post enc Try.prog Try.f7 false true false false) :=
  law_lift (C := Try.checked) (rt := 4) own started (by kernel_rfl) Try.func7
    (ChangeSpec.witness6 (enc := enc) (C := Try.checked) false ⟨#[], #[.slice none 0 0, .agg #[.int .i64 0, .int .i64 0], .agg #[.int .i64 0, .string ByteArray.empty, .int .i64 0, .int .i64 0, .string ByteArray.empty]], []⟩ 8 (by kernel_rfl) (by kernel_rfl) (by kernel_rfl) (by kernel_rfl))
    rfl (fun H ds h => by match ds, h with | [_, _, _], _ => rfl) laidOut (by kernel_rfl) (by kernel_rfl) (by kernel_rfl) keeps_law
theorem over : Rows.objectKeepsRow.holds Try.pinned (OpenSpec.ofChange Rows.objectKeepsSpec) :=
  OpenClaim.holds_of_wide 7 Try.f7 rfl rfl rfl rfl rfl rfl rfl ⟨rfl, rfl, rfl, rfl, rfl⟩ rfl rfl rfl rfl rfl (by kernel_rfl) Try.func7 (by kernel_rfl)
    (of_decide_eq_true (by kernel_rfl)) (by unfold Func.isWrapper; first | (rw [if_pos (by decide +kernel)]; kernel_rfl) | (rw [if_neg (by decide +kernel)]; exact ⟨rfl, rfl⟩))
    (fun os started H enc _ => lifted os started H enc)
theorem proved : Rows.ObjectKeepsSaid := over
#print axioms proved
end Go.Proofs.Ytanfgfclpjmngaa.objectKeeps
namespace Go.Proofs.Ytanfgfclpjmngaa
/-- The row, under a short name, for the claim. -/
theorem objectKeeps_holds : Rows.ObjectKeepsSaid := objectKeeps.proved
end Go.Proofs.Ytanfgfclpjmngaa
