/- The law DupPlays, proved: for every input it returns true, and its arguments read as they did. No conditions. -/
import Derived.Test.YtoankcclbnnfiaaD17
import Derived.Test.YtoankcclbnnfiaaRows
import Derived.Test.YtoankcclbnnfiaaA21
namespace Go.Proofs.Ytoankcclbnnfiaa.dupPlays
open Go.Abs Go.ChangeShapes Go.WideShapes Go.ChangeAt Go.RowKit
theorem own : ownKnob Try.prog.godebug = none := by kernel_rfl
set_option maxRecDepth 100000 in
theorem lifted (os : Os) (started : os.Started) (H : Type) (enc : TypeId × Value → H) :
    ReturnsInHanded {} Try.checked os 6 .any (Rows.dupPlaysSpec.pre6 enc Try.prog Try.f6 Rows.dupPlaysRow.domain false) (Rows.dupPlaysSpec.post enc Try.prog Try.f6 false true false false) :=
  law_lift (C := Try.checked) (rt := 4) own started (by kernel_rfl) Try.func6
    (ChangeSpec.witness6 (enc := enc) (C := Try.checked) false ⟨#[], #[.slice none 0 0, .slice none 0 0, .slice none 0 0], []⟩ 8 (by kernel_rfl) (by kernel_rfl) (by kernel_rfl) (by kernel_rfl))
    rfl (fun H ds h => by match ds, h with | [_, _, _], _ => rfl) laidOut (by kernel_rfl) (by kernel_rfl) (by kernel_rfl) plays_law
theorem over : Rows.dupPlaysRow.holds Try.pinned (OpenSpec.ofChange Rows.dupPlaysSpec) :=
  OpenClaim.holds_of_wide 6 Try.f6 rfl rfl rfl rfl rfl rfl rfl ⟨rfl, rfl, rfl, rfl, rfl⟩ rfl rfl rfl rfl rfl (by kernel_rfl) Try.func6 (by kernel_rfl)
    (of_decide_eq_true (by kernel_rfl)) (by unfold Func.isWrapper; first | (rw [if_pos (by decide +kernel)]; kernel_rfl) | (rw [if_neg (by decide +kernel)]; exact ⟨rfl, rfl⟩))
    (fun os started H enc _ => lifted os started H enc)
theorem proved : Rows.DupPlaysSaid := over
#print axioms proved
end Go.Proofs.Ytoankcclbnnfiaa.dupPlays
namespace Go.Proofs.Ytoankcclbnnfiaa
/-- The row, under a short name, for the claim. -/
theorem dupPlays_holds : Rows.DupPlaysSaid := dupPlays.proved
end Go.Proofs.Ytoankcclbnnfiaa
