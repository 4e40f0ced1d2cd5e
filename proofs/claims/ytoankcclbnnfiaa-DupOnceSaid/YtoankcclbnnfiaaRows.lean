/-
  No cell of these rows narrows 'for every input' (looked for: loops, veiled, ifaces, maps, wideKeys, modest, calm, conditions, laid).
  DERIVED. THE GIVEN ROWS OF THIS SEAT. 6 by the template 'for every input the law returns true; each argument reads behind the call as it read before'; 0 by the template 'total and deterministic' (their statements: YtoankcclbnnfiaaTotals.lean).
  GIVEN WITH THE SEED: the statements are not yours to turn. If you find one false, say at which input.
  Laid BY PROGRAM, IN A SANDBOX (cutbox-rows.mjs): the forced cells as the released guide's own fill.sh prints them over the translation 64cf55622fd4b4be… (all of the seat's roots in one cut). By AI agents, Wed Nov 11 2026. No macro, syntax, notation, axiom, sorry.
-/
import Derived.Test.YtoankcclbnnfiaaChecked
import GoSem.Claim
import GoSem.ClaimJoined
import GoSem.ClaimMapViews
import Derived.JoinedTies
import Derived.KernelRfl
namespace Go.Proofs.Ytoankcclbnnfiaa
/- THE CELL 'sum', in the pinned program and in every row, IS THE sha256 OF THE DUMP (.gsa) THAT YtoankcclbnnfiaaProg.lean LOADS. Nothing in Lean hashes anything: it is a label: what it is worth is what the hold of that sum in a sandbox is worth. -/
noncomputable def Try.pinned : Pinned := { name := "ytoankcclbnnfiaa", sum := "64cf55622fd4b4be664fa21ee857b4895587c98facc6480487ad0e4d0799870f", checked := Try.checked }
namespace Rows
def none {H : Type} : Left H := { results := [], args := [] }

/-- 'reeflaw20.DupNotes': WHATEVER THE INPUT: true; the input reads as it did. -/
def dupNotesSpec : ChangeSpec := { name := "dupNotes", fn := fun _ => fun
  | [d1, d2, d3] => { results := [.lit (.bool true)], args := [d1, d2, d3] }
  | _ => none }
def dupNotesRow : OpenClaim := { program := "ytoankcclbnnfiaa", sum := "64cf55622fd4b4be664fa21ee857b4895587c98facc6480487ad0e4d0799870f", func := "reef/reeflaw20.DupNotes", spec := "dupNotes", inPlace := ["slices.overlaps[reef/api.Dup]"], unfollowed := true, recurses := true, apart := false }
def DupNotesSaid : Prop := dupNotesRow.holds Try.pinned (OpenSpec.ofChange dupNotesSpec)

/-- ITS FALSE NEIGHBOUR: 'it returns false'. Refute it at one input. -/
def dupNotesWrong : ChangeSpec := { name := "dupNotes", fn := fun _ => fun
  | [d1, d2, d3] => { results := [.lit (.bool false)], args := [d1, d2, d3] }
  | _ => none }
def DupNotesWrongFalsely : Prop := dupNotesRow.holds Try.pinned (OpenSpec.ofChange dupNotesWrong)

/-- 'reeflaw20.DupOnce': WHATEVER THE INPUT: true; the input reads as it did. -/
def dupOnceSpec : ChangeSpec := { name := "dupOnce", fn := fun _ => fun
  | [d1, d2, d3] => { results := [.lit (.bool true)], args := [d1, d2, d3] }
  | _ => none }
def dupOnceRow : OpenClaim := { program := "ytoankcclbnnfiaa", sum := "64cf55622fd4b4be664fa21ee857b4895587c98facc6480487ad0e4d0799870f", func := "reef/reeflaw20.DupOnce", spec := "dupOnce", inPlace := ["slices.overlaps[reef/api.Dup]"], unfollowed := true, recurses := true, apart := false }
def DupOnceSaid : Prop := dupOnceRow.holds Try.pinned (OpenSpec.ofChange dupOnceSpec)

/-- ITS FALSE NEIGHBOUR: 'it returns false'. Refute it at one input. -/
def dupOnceWrong : ChangeSpec := { name := "dupOnce", fn := fun _ => fun
  | [d1, d2, d3] => { results := [.lit (.bool false)], args := [d1, d2, d3] }
  | _ => none }
def DupOnceWrongFalsely : Prop := dupOnceRow.holds Try.pinned (OpenSpec.ofChange dupOnceWrong)

/-- 'reeflaw20.DupFits': WHATEVER THE INPUT: true; the input reads as it did. -/
def dupFitsSpec : ChangeSpec := { name := "dupFits", fn := fun _ => fun
  | [d1, d2, d3] => { results := [.lit (.bool true)], args := [d1, d2, d3] }
  | _ => none }
def dupFitsRow : OpenClaim := { program := "ytoankcclbnnfiaa", sum := "64cf55622fd4b4be664fa21ee857b4895587c98facc6480487ad0e4d0799870f", func := "reef/reeflaw20.DupFits", spec := "dupFits", inPlace := ["slices.overlaps[reef/api.Dup]"], unfollowed := true, recurses := true, apart := false }
def DupFitsSaid : Prop := dupFitsRow.holds Try.pinned (OpenSpec.ofChange dupFitsSpec)

/-- ITS FALSE NEIGHBOUR: 'it returns false'. Refute it at one input. -/
def dupFitsWrong : ChangeSpec := { name := "dupFits", fn := fun _ => fun
  | [d1, d2, d3] => { results := [.lit (.bool false)], args := [d1, d2, d3] }
  | _ => none }
def DupFitsWrongFalsely : Prop := dupFitsRow.holds Try.pinned (OpenSpec.ofChange dupFitsWrong)

/-- 'reeflaw20.DupPlays': WHATEVER THE INPUT: true; the input reads as it did. -/
def dupPlaysSpec : ChangeSpec := { name := "dupPlays", fn := fun _ => fun
  | [d1, d2, d3] => { results := [.lit (.bool true)], args := [d1, d2, d3] }
  | _ => none }
def dupPlaysRow : OpenClaim := { program := "ytoankcclbnnfiaa", sum := "64cf55622fd4b4be664fa21ee857b4895587c98facc6480487ad0e4d0799870f", func := "reef/reeflaw20.DupPlays", spec := "dupPlays", inPlace := ["slices.overlaps[reef/api.Dup]"], unfollowed := true, recurses := true, apart := false }
def DupPlaysSaid : Prop := dupPlaysRow.holds Try.pinned (OpenSpec.ofChange dupPlaysSpec)

/-- ITS FALSE NEIGHBOUR: 'it returns false'. Refute it at one input. -/
def dupPlaysWrong : ChangeSpec := { name := "dupPlays", fn := fun _ => fun
  | [d1, d2, d3] => { results := [.lit (.bool false)], args := [d1, d2, d3] }
  | _ => none }
def DupPlaysWrongFalsely : Prop := dupPlaysRow.holds Try.pinned (OpenSpec.ofChange dupPlaysWrong)

/-- 'reeflaw20.DupOfs': WHATEVER THE INPUT: true; the input reads as it did. -/
def dupOfsSpec : ChangeSpec := { name := "dupOfs", fn := fun _ => fun
  | [d1, d2, d3] => { results := [.lit (.bool true)], args := [d1, d2, d3] }
  | _ => none }
def dupOfsRow : OpenClaim := { program := "ytoankcclbnnfiaa", sum := "64cf55622fd4b4be664fa21ee857b4895587c98facc6480487ad0e4d0799870f", func := "reef/reeflaw20.DupOfs", spec := "dupOfs", inPlace := ["slices.overlaps[reef/api.Dup]"], unfollowed := true, recurses := true, apart := false }
def DupOfsSaid : Prop := dupOfsRow.holds Try.pinned (OpenSpec.ofChange dupOfsSpec)

/-- ITS FALSE NEIGHBOUR: 'it returns false'. Refute it at one input. -/
def dupOfsWrong : ChangeSpec := { name := "dupOfs", fn := fun _ => fun
  | [d1, d2, d3] => { results := [.lit (.bool false)], args := [d1, d2, d3] }
  | _ => none }
def DupOfsWrongFalsely : Prop := dupOfsRow.holds Try.pinned (OpenSpec.ofChange dupOfsWrong)

/-- 'reeflaw20.DupMerges': WHATEVER THE INPUT: true; the input reads as it did. -/
def dupMergesSpec : ChangeSpec := { name := "dupMerges", fn := fun _ => fun
  | [d1, d2] => { results := [.lit (.bool true)], args := [d1, d2] }
  | _ => none }
def dupMergesRow : OpenClaim := { program := "ytoankcclbnnfiaa", sum := "64cf55622fd4b4be664fa21ee857b4895587c98facc6480487ad0e4d0799870f", func := "reef/reeflaw20.DupMerges", spec := "dupMerges", inPlace := ["slices.overlaps[reef/api.Dup]"], unfollowed := true, recurses := true, apart := false }
def DupMergesSaid : Prop := dupMergesRow.holds Try.pinned (OpenSpec.ofChange dupMergesSpec)

/-- ITS FALSE NEIGHBOUR: 'it returns false'. Refute it at one input. -/
def dupMergesWrong : ChangeSpec := { name := "dupMerges", fn := fun _ => fun
  | [d1, d2] => { results := [.lit (.bool false)], args := [d1, d2] }
  | _ => none }
def DupMergesWrongFalsely : Prop := dupMergesRow.holds Try.pinned (OpenSpec.ofChange dupMergesWrong)

/- THE SECOND FORM. 'bulk': how many values and letters a reading holds, each counted each time it is reached (what is shared counts as often as it is met; a slice's spare places count too). A statement '..UptoSaid' is the law's where the arguments, and the package variables that the reading takes, are together of bulk at most 1048576: NARROWER than '..Said'. Prove '..Said' where nothing that the law and all that it calls make is longer than what came in: it says more and counts as full. Else prove '..UptoSaid'. A law counts once. -/
mutual
def uptoBulk {H : Type} : DataW H → Nat
  | .lit (.string bytes) => bytes.length + 1
  | .lit _ => 1
  | .nil => 1
  | .ptr d => uptoBulk d + 1
  | .slice elems spare => uptoBulkAll elems + uptoBulkAll spare + 1
  | .agg parts => uptoBulkAll parts + 1
  | .iface _ d => uptoBulk d + 1
  | .map entries => uptoBulkEntries entries + 1
  | .held _ => 1
def uptoBulkAll {H : Type} : List (DataW H) → Nat
  | [] => 0
  | d :: r => uptoBulk d + uptoBulkAll r
def uptoBulkEntries {H : Type} : List (Lit × DataW H) → Nat
  | [] => 0
  | x :: r => uptoBulkEntry x + uptoBulkEntries r
def uptoBulkEntry {H : Type} : Lit × DataW H → Nat
  | (.string bytes, d) => bytes.length + uptoBulk d + 1
  | (_, d) => uptoBulk d + 1
 end
def uptoSmall : (H : Type) → List (DataW H) → Bool := fun _ ds => decide (uptoBulkAll ds ≤ 1048576)
def OpenSpec.upto (s : _root_.Go.ChangeSpec) : _root_.Go.OpenSpec := { _root_.Go.OpenSpec.ofChange s with cond := some uptoSmall }

/-- 'reeflaw20.DupNotes', WHERE WHAT IT READS IS OF BULK AT MOST 1048576: true; the input reads as it did. -/
def dupNotesUptoRow : OpenClaim := { program := "ytoankcclbnnfiaa", sum := "64cf55622fd4b4be664fa21ee857b4895587c98facc6480487ad0e4d0799870f", func := "reef/reeflaw20.DupNotes", spec := "dupNotes", inPlace := ["slices.overlaps[reef/api.Dup]"], unfollowed := true, recurses := true, apart := false, narrowed := true }
def DupNotesUptoSaid : Prop := dupNotesUptoRow.holds Try.pinned (OpenSpec.upto dupNotesSpec)

/-- 'reeflaw20.DupOnce', WHERE WHAT IT READS IS OF BULK AT MOST 1048576: true; the input reads as it did. -/
def dupOnceUptoRow : OpenClaim := { program := "ytoankcclbnnfiaa", sum := "64cf55622fd4b4be664fa21ee857b4895587c98facc6480487ad0e4d0799870f", func := "reef/reeflaw20.DupOnce", spec := "dupOnce", inPlace := ["slices.overlaps[reef/api.Dup]"], unfollowed := true, recurses := true, apart := false, narrowed := true }
def DupOnceUptoSaid : Prop := dupOnceUptoRow.holds Try.pinned (OpenSpec.upto dupOnceSpec)

/-- 'reeflaw20.DupFits', WHERE WHAT IT READS IS OF BULK AT MOST 1048576: true; the input reads as it did. -/
def dupFitsUptoRow : OpenClaim := { program := "ytoankcclbnnfiaa", sum := "64cf55622fd4b4be664fa21ee857b4895587c98facc6480487ad0e4d0799870f", func := "reef/reeflaw20.DupFits", spec := "dupFits", inPlace := ["slices.overlaps[reef/api.Dup]"], unfollowed := true, recurses := true, apart := false, narrowed := true }
def DupFitsUptoSaid : Prop := dupFitsUptoRow.holds Try.pinned (OpenSpec.upto dupFitsSpec)

/-- 'reeflaw20.DupPlays', WHERE WHAT IT READS IS OF BULK AT MOST 1048576: true; the input reads as it did. -/
def dupPlaysUptoRow : OpenClaim := { program := "ytoankcclbnnfiaa", sum := "64cf55622fd4b4be664fa21ee857b4895587c98facc6480487ad0e4d0799870f", func := "reef/reeflaw20.DupPlays", spec := "dupPlays", inPlace := ["slices.overlaps[reef/api.Dup]"], unfollowed := true, recurses := true, apart := false, narrowed := true }
def DupPlaysUptoSaid : Prop := dupPlaysUptoRow.holds Try.pinned (OpenSpec.upto dupPlaysSpec)

/-- 'reeflaw20.DupOfs', WHERE WHAT IT READS IS OF BULK AT MOST 1048576: true; the input reads as it did. -/
def dupOfsUptoRow : OpenClaim := { program := "ytoankcclbnnfiaa", sum := "64cf55622fd4b4be664fa21ee857b4895587c98facc6480487ad0e4d0799870f", func := "reef/reeflaw20.DupOfs", spec := "dupOfs", inPlace := ["slices.overlaps[reef/api.Dup]"], unfollowed := true, recurses := true, apart := false, narrowed := true }
def DupOfsUptoSaid : Prop := dupOfsUptoRow.holds Try.pinned (OpenSpec.upto dupOfsSpec)

/-- 'reeflaw20.DupMerges', WHERE WHAT IT READS IS OF BULK AT MOST 1048576: true; the input reads as it did. -/
def dupMergesUptoRow : OpenClaim := { program := "ytoankcclbnnfiaa", sum := "64cf55622fd4b4be664fa21ee857b4895587c98facc6480487ad0e4d0799870f", func := "reef/reeflaw20.DupMerges", spec := "dupMerges", inPlace := ["slices.overlaps[reef/api.Dup]"], unfollowed := true, recurses := true, apart := false, narrowed := true }
def DupMergesUptoSaid : Prop := dupMergesUptoRow.holds Try.pinned (OpenSpec.upto dupMergesSpec)

end Rows
end Go.Proofs.Ytoankcclbnnfiaa
