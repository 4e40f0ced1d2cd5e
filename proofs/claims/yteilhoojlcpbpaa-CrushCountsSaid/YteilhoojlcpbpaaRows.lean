/-
  No cell of these rows narrows 'for every input' (looked for: loops, veiled, ifaces, maps, wideKeys, modest, calm, conditions, laid).
  DERIVED. THE GIVEN ROWS OF THIS SEAT. 5 by the template 'for every input the law returns true; each argument reads behind the call as it read before'; 0 by the template 'total and deterministic' (their statements: YteilhoojlcpbpaaTotals.lean).
  GIVEN WITH THE SEED: the statements are not yours to turn. If you find one false, say at which input.
  Laid BY PROGRAM, IN A SANDBOX (cutbox-rows.mjs): the forced cells as the released guide's own fill.sh prints them over the translation a81e833bcaae1cc6… (all of the seat's roots in one cut). By AI agents, Wed Nov 11 2026. No macro, syntax, notation, axiom, sorry.
-/
import Derived.Test.YteilhoojlcpbpaaChecked
import GoSem.Claim
import GoSem.ClaimJoined
import GoSem.ClaimMapViews
import Derived.JoinedTies
import Derived.KernelRfl
namespace Go.Proofs.Yteilhoojlcpbpaa
/- THE CELL 'sum', in the pinned program and in every row, IS THE sha256 OF THE DUMP (.gsa) THAT YteilhoojlcpbpaaProg.lean LOADS. Nothing in Lean hashes anything: it is a label: what it is worth is what the hold of that sum in a sandbox is worth. -/
noncomputable def Try.pinned : Pinned := { name := "yteilhoojlcpbpaa", sum := "a81e833bcaae1cc681bb4018ca6c665b584a7d9119e109a0a9d684365a4f7f9a", checked := Try.checked }
namespace Rows
def none {H : Type} : Left H := { results := [], args := [] }

/-- 'reeflaw11.CrushMoves': WHATEVER THE INPUT: true; the input reads as it did. -/
def crushMovesSpec : ChangeSpec := { name := "crushMoves", fn := fun _ => fun
  | [d1, d2, d3, d4, d5] => { results := [.lit (.bool true)], args := [d1, d2, d3, d4, d5] }
  | _ => none }
def crushMovesRow : OpenClaim := { program := "yteilhoojlcpbpaa", sum := "a81e833bcaae1cc681bb4018ca6c665b584a7d9119e109a0a9d684365a4f7f9a", func := "reef/reeflaw11.CrushMoves", spec := "crushMoves", unfollowed := true, recurses := true, apart := false }
def CrushMovesSaid : Prop := crushMovesRow.holds Try.pinned (OpenSpec.ofChange crushMovesSpec)

/-- ITS FALSE NEIGHBOUR: 'it returns false'. Refute it at one input. -/
def crushMovesWrong : ChangeSpec := { name := "crushMoves", fn := fun _ => fun
  | [d1, d2, d3, d4, d5] => { results := [.lit (.bool false)], args := [d1, d2, d3, d4, d5] }
  | _ => none }
def CrushMovesWrongFalsely : Prop := crushMovesRow.holds Try.pinned (OpenSpec.ofChange crushMovesWrong)

/-- 'reeflaw11.CrushOrder': WHATEVER THE INPUT: true; the input reads as it did. -/
def crushOrderSpec : ChangeSpec := { name := "crushOrder", fn := fun _ => fun
  | [d1, d2, d3, d4] => { results := [.lit (.bool true)], args := [d1, d2, d3, d4] }
  | _ => none }
def crushOrderRow : OpenClaim := { program := "yteilhoojlcpbpaa", sum := "a81e833bcaae1cc681bb4018ca6c665b584a7d9119e109a0a9d684365a4f7f9a", func := "reef/reeflaw11.CrushOrder", spec := "crushOrder", unfollowed := true, recurses := true, apart := false }
def CrushOrderSaid : Prop := crushOrderRow.holds Try.pinned (OpenSpec.ofChange crushOrderSpec)

/-- ITS FALSE NEIGHBOUR: 'it returns false'. Refute it at one input. -/
def crushOrderWrong : ChangeSpec := { name := "crushOrder", fn := fun _ => fun
  | [d1, d2, d3, d4] => { results := [.lit (.bool false)], args := [d1, d2, d3, d4] }
  | _ => none }
def CrushOrderWrongFalsely : Prop := crushOrderRow.holds Try.pinned (OpenSpec.ofChange crushOrderWrong)

/-- 'reeflaw11.CrushCounts': WHATEVER THE INPUT: true; the input reads as it did. -/
def crushCountsSpec : ChangeSpec := { name := "crushCounts", fn := fun _ => fun
  | [d1, d2, d3, d4] => { results := [.lit (.bool true)], args := [d1, d2, d3, d4] }
  | _ => none }
def crushCountsRow : OpenClaim := { program := "yteilhoojlcpbpaa", sum := "a81e833bcaae1cc681bb4018ca6c665b584a7d9119e109a0a9d684365a4f7f9a", func := "reef/reeflaw11.CrushCounts", spec := "crushCounts", unfollowed := true, recurses := true, apart := false }
def CrushCountsSaid : Prop := crushCountsRow.holds Try.pinned (OpenSpec.ofChange crushCountsSpec)

/-- ITS FALSE NEIGHBOUR: 'it returns false'. Refute it at one input. -/
def crushCountsWrong : ChangeSpec := { name := "crushCounts", fn := fun _ => fun
  | [d1, d2, d3, d4] => { results := [.lit (.bool false)], args := [d1, d2, d3, d4] }
  | _ => none }
def CrushCountsWrongFalsely : Prop := crushCountsRow.holds Try.pinned (OpenSpec.ofChange crushCountsWrong)

/-- 'reeflaw11.CrushTells': WHATEVER THE INPUT: true; the input reads as it did. -/
def crushTellsSpec : ChangeSpec := { name := "crushTells", fn := fun _ => fun
  | [d1, d2, d3, d4] => { results := [.lit (.bool true)], args := [d1, d2, d3, d4] }
  | _ => none }
def crushTellsRow : OpenClaim := { program := "yteilhoojlcpbpaa", sum := "a81e833bcaae1cc681bb4018ca6c665b584a7d9119e109a0a9d684365a4f7f9a", func := "reef/reeflaw11.CrushTells", spec := "crushTells", unfollowed := true, recurses := true, apart := false }
def CrushTellsSaid : Prop := crushTellsRow.holds Try.pinned (OpenSpec.ofChange crushTellsSpec)

/-- ITS FALSE NEIGHBOUR: 'it returns false'. Refute it at one input. -/
def crushTellsWrong : ChangeSpec := { name := "crushTells", fn := fun _ => fun
  | [d1, d2, d3, d4] => { results := [.lit (.bool false)], args := [d1, d2, d3, d4] }
  | _ => none }
def CrushTellsWrongFalsely : Prop := crushTellsRow.holds Try.pinned (OpenSpec.ofChange crushTellsWrong)

/-- 'reeflaw11.CrushRanks': WHATEVER THE INPUT: true; the input reads as it did. -/
def crushRanksSpec : ChangeSpec := { name := "crushRanks", fn := fun _ => fun
  | [d1, d2, d3] => { results := [.lit (.bool true)], args := [d1, d2, d3] }
  | _ => none }
def crushRanksRow : OpenClaim := { program := "yteilhoojlcpbpaa", sum := "a81e833bcaae1cc681bb4018ca6c665b584a7d9119e109a0a9d684365a4f7f9a", func := "reef/reeflaw11.CrushRanks", spec := "crushRanks", unfollowed := true, recurses := true, apart := false }
def CrushRanksSaid : Prop := crushRanksRow.holds Try.pinned (OpenSpec.ofChange crushRanksSpec)

/-- ITS FALSE NEIGHBOUR: 'it returns false'. Refute it at one input. -/
def crushRanksWrong : ChangeSpec := { name := "crushRanks", fn := fun _ => fun
  | [d1, d2, d3] => { results := [.lit (.bool false)], args := [d1, d2, d3] }
  | _ => none }
def CrushRanksWrongFalsely : Prop := crushRanksRow.holds Try.pinned (OpenSpec.ofChange crushRanksWrong)

/- THE SECOND FORM. 'bulk': how many values and letters a reading holds, each counted each time it is reached (what is shared counts as often as it is met; a slice's spare places count too). A statement '..UptoSaid' is the law's where the arguments, and the package variables that the reading takes, are together of bulk at most 1048576: NARROWER than '..Said'. Prove '..Said' where nothing that the law and all that it calls make is longer than what came in: it says more and counts as full. Else prove '..UptoSaid'. A law counts once. -/
mutual
def uptoBulk {H : Type} : DataW H → Nat
  | .lit (.string bytes) => bytes.length + 1
  | .lit _ => 1
  | .nil => 1
  | .ptr d => uptoBulk d + 1
  | .slice elems spare => uptoBulkAll elems + uptoBulkAll spare + 1
  | .agg parts => uptoBulkAll parts + 1
  | .iface _ d => uptoBulk d + 1
  | .map entries => uptoBulkEntries entries + 1
  | .held _ => 1
def uptoBulkAll {H : Type} : List (DataW H) → Nat
  | [] => 0
  | d :: r => uptoBulk d + uptoBulkAll r
def uptoBulkEntries {H : Type} : List (Lit × DataW H) → Nat
  | [] => 0
  | x :: r => uptoBulkEntry x + uptoBulkEntries r
def uptoBulkEntry {H : Type} : Lit × DataW H → Nat
  | (.string bytes, d) => bytes.length + uptoBulk d + 1
  | (_, d) => uptoBulk d + 1
 end
def uptoSmall : (H : Type) → List (DataW H) → Bool := fun _ ds => decide (uptoBulkAll ds ≤ 1048576)
def OpenSpec.upto (s : _root_.Go.ChangeSpec) : _root_.Go.OpenSpec := { _root_.Go.OpenSpec.ofChange s with cond := some uptoSmall }

/-- 'reeflaw11.CrushMoves', WHERE WHAT IT READS IS OF BULK AT MOST 1048576: true; the input reads as it did. -/
def crushMovesUptoRow : OpenClaim := { program := "yteilhoojlcpbpaa", sum := "a81e833bcaae1cc681bb4018ca6c665b584a7d9119e109a0a9d684365a4f7f9a", func := "reef/reeflaw11.CrushMoves", spec := "crushMoves", unfollowed := true, recurses := true, apart := false, narrowed := true }
def CrushMovesUptoSaid : Prop := crushMovesUptoRow.holds Try.pinned (OpenSpec.upto crushMovesSpec)

/-- 'reeflaw11.CrushOrder', WHERE WHAT IT READS IS OF BULK AT MOST 1048576: true; the input reads as it did. -/
def crushOrderUptoRow : OpenClaim := { program := "yteilhoojlcpbpaa", sum := "a81e833bcaae1cc681bb4018ca6c665b584a7d9119e109a0a9d684365a4f7f9a", func := "reef/reeflaw11.CrushOrder", spec := "crushOrder", unfollowed := true, recurses := true, apart := false, narrowed := true }
def CrushOrderUptoSaid : Prop := crushOrderUptoRow.holds Try.pinned (OpenSpec.upto crushOrderSpec)

/-- 'reeflaw11.CrushCounts', WHERE WHAT IT READS IS OF BULK AT MOST 1048576: true; the input reads as it did. -/
def crushCountsUptoRow : OpenClaim := { program := "yteilhoojlcpbpaa", sum := "a81e833bcaae1cc681bb4018ca6c665b584a7d9119e109a0a9d684365a4f7f9a", func := "reef/reeflaw11.CrushCounts", spec := "crushCounts", unfollowed := true, recurses := true, apart := false, narrowed := true }
def CrushCountsUptoSaid : Prop := crushCountsUptoRow.holds Try.pinned (OpenSpec.upto crushCountsSpec)

/-- 'reeflaw11.CrushTells', WHERE WHAT IT READS IS OF BULK AT MOST 1048576: true; the input reads as it did. -/
def crushTellsUptoRow : OpenClaim := { program := "yteilhoojlcpbpaa", sum := "a81e833bcaae1cc681bb4018ca6c665b584a7d9119e109a0a9d684365a4f7f9a", func := "reef/reeflaw11.CrushTells", spec := "crushTells", unfollowed := true, recurses := true, apart := false, narrowed := true }
def CrushTellsUptoSaid : Prop := crushTellsUptoRow.holds Try.pinned (OpenSpec.upto crushTellsSpec)

/-- 'reeflaw11.CrushRanks', WHERE WHAT IT READS IS OF BULK AT MOST 1048576: true; the input reads as it did. -/
def crushRanksUptoRow : OpenClaim := { program := "yteilhoojlcpbpaa", sum := "a81e833bcaae1cc681bb4018ca6c665b584a7d9119e109a0a9d684365a4f7f9a", func := "reef/reeflaw11.CrushRanks", spec := "crushRanks", unfollowed := true, recurses := true, apart := false, narrowed := true }
def CrushRanksUptoSaid : Prop := crushRanksUptoRow.holds Try.pinned (OpenSpec.upto crushRanksSpec)

end Rows
end Go.Proofs.Yteilhoojlcpbpaa
