/- The law ObjectTells, proved: for every input it returns true, and its arguments read as they did. No conditions. -/
import Derived.Test.YtanfgfclpjmngaaM7
import Derived.Test.YtanfgfclpjmngaaRows
namespace Go.Proofs.Ytanfgfclpjmngaa.objectTells
open Go.Abs Go.ChangeShapes Go.WideShapes Go.ChangeAt Go.RowKit
theorem own : ownKnob Try.prog.godebug = none := by kernel_rfl
set_option maxRecDepth 100000 in
theorem lifted (os : Os) (started : os.Started) (H : Type) (enc : TypeId × Value → H) :
    ReturnsInHanded {} Try.checked os 3 .any (Rows.objectTellsSpec.pre6 enc Try.prog Try.f3 Rows.objectTellsRow.domain false) (Rows.objectTellsSpec.post enc Try.prog Try.f3 false true false false) :=
  law_lift (C := Try.checked) (rt := 4) own started (by kernel_rfl) Try.func3
    (ChangeSpec.witness6 (enc := enc) (C := Try.checked) false ⟨#[], #[.string ByteArray.empty, .agg #[.int .i64 0, .string ByteArray.empty, .int .i64 0, .int .i64 0, .string ByteArray.empty], .slice none 0 0, .slice none 0 0], []⟩ 8 (by kernel_rfl) (by kernel_rfl) (by kernel_rfl) (by kernel_rfl))
    rfl (fun H ds h => by match ds, h with | [_, _, _, _], _ => rfl) laidOut (by kernel_rfl) (by kernel_rfl) (by kernel_rfl) tells_law
theorem over : Rows.objectTellsRow.holds Try.pinned (OpenSpec.ofChange Rows.objectTellsSpec) :=
  OpenClaim.holds_of_wide 3 Try.f3 rfl rfl rfl rfl rfl rfl rfl ⟨rfl, rfl, rfl, rfl, rfl⟩ rfl rfl rfl rfl rfl (by kernel_rfl) Try.func3 (by kernel_rfl)
    (of_decide_eq_true (by kernel_rfl)) (by unfold Func.isWrapper; first | (rw [if_pos (by decide +kernel)]; kernel_rfl) | (rw [if_neg (by decide +kernel)]; exact ⟨rfl, rfl⟩))
    (fun os started H enc _ => lifted os started H enc)
theorem proved : Rows.ObjectTellsSaid := over
#print axioms proved
end Go.Proofs.Ytanfgfclpjmngaa.objectTells
namespace Go.Proofs.Ytanfgfclpjmngaa
/-- The row, under a short name, for the claim. -/
theorem objectTells_holds : Rows.ObjectTellsSaid := objectTells.proved
end Go.Proofs.Ytanfgfclpjmngaa
