/- The law JournalAgain, proved: for every input it returns true, and its arguments read as they did. No conditions. -/
import Derived.Test.YtlkeailgccbmbaaM6
import Derived.Test.YtlkeailgccbmbaaRows
namespace Go.Proofs.Ytlkeailgccbmbaa.journalAgain
open Go.Abs Go.ChangeShapes Go.WideShapes Go.ChangeAt Go.RowKit
theorem own : ownKnob Try.prog.godebug = none := by kernel_rfl
set_option maxRecDepth 100000 in
theorem lifted (os : Os) (started : os.Started) (H : Type) (enc : TypeId × Value → H) :
    ReturnsInHanded {} Try.checked os 6 .any (Rows.journalAgainSpec.pre6 enc Try.prog Try.f6 Rows.journalAgainRow.domain false) (Rows.journalAgainSpec.post enc Try.prog Try.f6 false true false false) :=
  law_lift (C := Try.checked) (rt := 4) own started (by kernel_rfl) Try.func6
    (ChangeSpec.witness6 (enc := enc) (C := Try.checked) false ⟨#[], #[.int .i64 0, .slice none 0 0, .slice none 0 0, .slice none 0 0], []⟩ 8 (by kernel_rfl) (by kernel_rfl) (by kernel_rfl) (by kernel_rfl))
    rfl (fun H ds h => by match ds, h with | [_, _, _, _], _ => rfl) laidOut (by kernel_rfl) (by kernel_rfl) (by kernel_rfl) again_law
theorem over : Rows.journalAgainRow.holds Try.pinned (OpenSpec.ofChange Rows.journalAgainSpec) :=
  OpenClaim.holds_of_wide 6 Try.f6 rfl rfl rfl rfl rfl rfl rfl ⟨rfl, rfl, rfl, rfl, rfl⟩ rfl rfl rfl rfl rfl (by kernel_rfl) Try.func6 (by kernel_rfl)
    (of_decide_eq_true (by kernel_rfl)) (by unfold Func.isWrapper; first | (rw [if_pos (by decide +kernel)]; kernel_rfl) | (rw [if_neg (by decide +kernel)]; exact ⟨rfl, rfl⟩))
    (fun os started H enc _ => lifted os started H enc)
theorem proved : Rows.JournalAgainSaid := over
#print axioms proved
end Go.Proofs.Ytlkeailgccbmbaa.journalAgain
namespace Go.Proofs.Ytlkeailgccbmbaa
/-- The row, under a short name, for the claim. -/
theorem journalAgain_holds : Rows.JournalAgainSaid := journalAgain.proved
end Go.Proofs.Ytlkeailgccbmbaa
