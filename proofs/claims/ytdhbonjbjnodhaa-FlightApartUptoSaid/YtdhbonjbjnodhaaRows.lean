/-
  No cell of these rows narrows 'for every input' (looked for: loops, veiled, ifaces, maps, wideKeys, modest, calm, conditions, laid).
  DERIVED. THE GIVEN ROWS OF THIS SEAT. 5 by the template 'for every input the law returns true; each argument reads behind the call as it read before'; 0 by the template 'total and deterministic' (their statements: YtdhbonjbjnodhaaTotals.lean).
  GIVEN WITH THE SEED: the statements are not yours to turn. If you find one false, say at which input.
  Laid BY PROGRAM, IN A SANDBOX (cutbox-rows.mjs): the forced cells as the released guide's own fill.sh prints them over the translation 4d480b2109aed9c6… (all of the seat's roots in one cut). By AI agents, Wed Nov 11 2026. No macro, syntax, notation, axiom, sorry.
-/
import Derived.Test.YtdhbonjbjnodhaaChecked
import GoSem.Claim
import GoSem.ClaimJoined
import GoSem.ClaimMapViews
import Derived.JoinedTies
import Derived.KernelRfl
namespace Go.Proofs.Ytdhbonjbjnodhaa
/- THE CELL 'sum', in the pinned program and in every row, IS THE sha256 OF THE DUMP (.gsa) THAT YtdhbonjbjnodhaaProg.lean LOADS. Nothing in Lean hashes anything: it is a label: what it is worth is what the hold of that sum in a sandbox is worth. -/
noncomputable def Try.pinned : Pinned := { name := "ytdhbonjbjnodhaa", sum := "4d480b2109aed9c60b3878c994330cffb8f90321aa7bce08d5c4c2de2d6259fa", checked := Try.checked }
namespace Rows
def none {H : Type} : Left H := { results := [], args := [] }

/-- 'reeflaw06.FlightTells': WHATEVER THE INPUT: true; the input reads as it did. -/
def flightTellsSpec : ChangeSpec := { name := "flightTells", fn := fun _ => fun
  | [d1, d2, d3] => { results := [.lit (.bool true)], args := [d1, d2, d3] }
  | _ => none }
def flightTellsRow : OpenClaim := { program := "ytdhbonjbjnodhaa", sum := "4d480b2109aed9c60b3878c994330cffb8f90321aa7bce08d5c4c2de2d6259fa", func := "reef/reeflaw06.FlightTells", spec := "flightTells", inPlace := ["slices.overlaps[reef/api.Way]"], unfollowed := true, recurses := true, plainKeys := false, apart := false }
def FlightTellsSaid : Prop := flightTellsRow.holds Try.pinned (OpenSpec.ofChange flightTellsSpec)

/-- ITS FALSE NEIGHBOUR: 'it returns false'. Refute it at one input. -/
def flightTellsWrong : ChangeSpec := { name := "flightTells", fn := fun _ => fun
  | [d1, d2, d3] => { results := [.lit (.bool false)], args := [d1, d2, d3] }
  | _ => none }
def FlightTellsWrongFalsely : Prop := flightTellsRow.holds Try.pinned (OpenSpec.ofChange flightTellsWrong)

/-- 'reeflaw06.FlightFits': WHATEVER THE INPUT: true; the input reads as it did. -/
def flightFitsSpec : ChangeSpec := { name := "flightFits", fn := fun _ => fun
  | [d1, d2] => { results := [.lit (.bool true)], args := [d1, d2] }
  | _ => none }
def flightFitsRow : OpenClaim := { program := "ytdhbonjbjnodhaa", sum := "4d480b2109aed9c60b3878c994330cffb8f90321aa7bce08d5c4c2de2d6259fa", func := "reef/reeflaw06.FlightFits", spec := "flightFits", inPlace := ["slices.overlaps[reef/api.Way]"], unfollowed := true, recurses := true, plainKeys := false, apart := false }
def FlightFitsSaid : Prop := flightFitsRow.holds Try.pinned (OpenSpec.ofChange flightFitsSpec)

/-- ITS FALSE NEIGHBOUR: 'it returns false'. Refute it at one input. -/
def flightFitsWrong : ChangeSpec := { name := "flightFits", fn := fun _ => fun
  | [d1, d2] => { results := [.lit (.bool false)], args := [d1, d2] }
  | _ => none }
def FlightFitsWrongFalsely : Prop := flightFitsRow.holds Try.pinned (OpenSpec.ofChange flightFitsWrong)

/-- 'reeflaw06.FlightKeeps': WHATEVER THE INPUT: true; the input reads as it did. -/
def flightKeepsSpec : ChangeSpec := { name := "flightKeeps", fn := fun _ => fun
  | [d] => { results := [.lit (.bool true)], args := [d] }
  | _ => none }
def flightKeepsRow : OpenClaim := { program := "ytdhbonjbjnodhaa", sum := "4d480b2109aed9c60b3878c994330cffb8f90321aa7bce08d5c4c2de2d6259fa", func := "reef/reeflaw06.FlightKeeps", spec := "flightKeeps", inPlace := ["slices.overlaps[reef/api.Way]"], unfollowed := true, recurses := true, plainKeys := false, apart := false }
def FlightKeepsSaid : Prop := flightKeepsRow.holds Try.pinned (OpenSpec.ofChange flightKeepsSpec)

/-- ITS FALSE NEIGHBOUR: 'it returns false'. Refute it at one input. -/
def flightKeepsWrong : ChangeSpec := { name := "flightKeeps", fn := fun _ => fun
  | [d] => { results := [.lit (.bool false)], args := [d] }
  | _ => none }
def FlightKeepsWrongFalsely : Prop := flightKeepsRow.holds Try.pinned (OpenSpec.ofChange flightKeepsWrong)

/-- 'reeflaw06.FlightApart': WHATEVER THE INPUT: true; the input reads as it did. -/
def flightApartSpec : ChangeSpec := { name := "flightApart", fn := fun _ => fun
  | [d1, d2, d3, d4, d5] => { results := [.lit (.bool true)], args := [d1, d2, d3, d4, d5] }
  | _ => none }
def flightApartRow : OpenClaim := { program := "ytdhbonjbjnodhaa", sum := "4d480b2109aed9c60b3878c994330cffb8f90321aa7bce08d5c4c2de2d6259fa", func := "reef/reeflaw06.FlightApart", spec := "flightApart", inPlace := ["slices.overlaps[reef/api.Way]"], unfollowed := true, recurses := true, plainKeys := false, apart := false }
def FlightApartSaid : Prop := flightApartRow.holds Try.pinned (OpenSpec.ofChange flightApartSpec)

/-- ITS FALSE NEIGHBOUR: 'it returns false'. Refute it at one input. -/
def flightApartWrong : ChangeSpec := { name := "flightApart", fn := fun _ => fun
  | [d1, d2, d3, d4, d5] => { results := [.lit (.bool false)], args := [d1, d2, d3, d4, d5] }
  | _ => none }
def FlightApartWrongFalsely : Prop := flightApartRow.holds Try.pinned (OpenSpec.ofChange flightApartWrong)

/-- 'reeflaw06.FlightPlays': WHATEVER THE INPUT: true; the input reads as it did. -/
def flightPlaysSpec : ChangeSpec := { name := "flightPlays", fn := fun _ => fun
  | [d1, d2] => { results := [.lit (.bool true)], args := [d1, d2] }
  | _ => none }
def flightPlaysRow : OpenClaim := { program := "ytdhbonjbjnodhaa", sum := "4d480b2109aed9c60b3878c994330cffb8f90321aa7bce08d5c4c2de2d6259fa", func := "reef/reeflaw06.FlightPlays", spec := "flightPlays", inPlace := ["slices.overlaps[reef/api.Way]"], unfollowed := true, recurses := true, plainKeys := false, apart := false }
def FlightPlaysSaid : Prop := flightPlaysRow.holds Try.pinned (OpenSpec.ofChange flightPlaysSpec)

/-- ITS FALSE NEIGHBOUR: 'it returns false'. Refute it at one input. -/
def flightPlaysWrong : ChangeSpec := { name := "flightPlays", fn := fun _ => fun
  | [d1, d2] => { results := [.lit (.bool false)], args := [d1, d2] }
  | _ => none }
def FlightPlaysWrongFalsely : Prop := flightPlaysRow.holds Try.pinned (OpenSpec.ofChange flightPlaysWrong)

/- THE SECOND FORM. 'bulk': how many values and letters a reading holds, each counted each time it is reached (what is shared counts as often as it is met; a slice's spare places count too). A statement '..UptoSaid' is the law's where the arguments, and the package variables that the reading takes, are together of bulk at most 1048576: NARROWER than '..Said'. Prove '..Said' where nothing that the law and all that it calls make is longer than what came in: it says more and counts as full. Else prove '..UptoSaid'. A law counts once. -/
mutual
def uptoBulk {H : Type} : DataW H → Nat
  | .lit (.string bytes) => bytes.length + 1
  | .lit _ => 1
  | .nil => 1
  | .ptr d => uptoBulk d + 1
  | .slice elems spare => uptoBulkAll elems + uptoBulkAll spare + 1
  | .agg parts => uptoBulkAll parts + 1
  | .iface _ d => uptoBulk d + 1
  | .map entries => uptoBulkEntries entries + 1
  | .held _ => 1
def uptoBulkAll {H : Type} : List (DataW H) → Nat
  | [] => 0
  | d :: r => uptoBulk d + uptoBulkAll r
def uptoBulkEntries {H : Type} : List (Lit × DataW H) → Nat
  | [] => 0
  | x :: r => uptoBulkEntry x + uptoBulkEntries r
def uptoBulkEntry {H : Type} : Lit × DataW H → Nat
  | (.string bytes, d) => bytes.length + uptoBulk d + 1
  | (_, d) => uptoBulk d + 1
 end
def uptoSmall : (H : Type) → List (DataW H) → Bool := fun _ ds => decide (uptoBulkAll ds ≤ 1048576)
def OpenSpec.upto (s : _root_.Go.ChangeSpec) : _root_.Go.OpenSpec := { _root_.Go.OpenSpec.ofChange s with cond := some uptoSmall }

/-- 'reeflaw06.FlightTells', WHERE WHAT IT READS IS OF BULK AT MOST 1048576: true; the input reads as it did. -/
def flightTellsUptoRow : OpenClaim := { program := "ytdhbonjbjnodhaa", sum := "4d480b2109aed9c60b3878c994330cffb8f90321aa7bce08d5c4c2de2d6259fa", func := "reef/reeflaw06.FlightTells", spec := "flightTells", inPlace := ["slices.overlaps[reef/api.Way]"], unfollowed := true, recurses := true, plainKeys := false, apart := false, narrowed := true }
def FlightTellsUptoSaid : Prop := flightTellsUptoRow.holds Try.pinned (OpenSpec.upto flightTellsSpec)

/-- 'reeflaw06.FlightFits', WHERE WHAT IT READS IS OF BULK AT MOST 1048576: true; the input reads as it did. -/
def flightFitsUptoRow : OpenClaim := { program := "ytdhbonjbjnodhaa", sum := "4d480b2109aed9c60b3878c994330cffb8f90321aa7bce08d5c4c2de2d6259fa", func := "reef/reeflaw06.FlightFits", spec := "flightFits", inPlace := ["slices.overlaps[reef/api.Way]"], unfollowed := true, recurses := true, plainKeys := false, apart := false, narrowed := true }
def FlightFitsUptoSaid : Prop := flightFitsUptoRow.holds Try.pinned (OpenSpec.upto flightFitsSpec)

/-- 'reeflaw06.FlightKeeps', WHERE WHAT IT READS IS OF BULK AT MOST 1048576: true; the input reads as it did. -/
def flightKeepsUptoRow : OpenClaim := { program := "ytdhbonjbjnodhaa", sum := "4d480b2109aed9c60b3878c994330cffb8f90321aa7bce08d5c4c2de2d6259fa", func := "reef/reeflaw06.FlightKeeps", spec := "flightKeeps", inPlace := ["slices.overlaps[reef/api.Way]"], unfollowed := true, recurses := true, plainKeys := false, apart := false, narrowed := true }
def FlightKeepsUptoSaid : Prop := flightKeepsUptoRow.holds Try.pinned (OpenSpec.upto flightKeepsSpec)

/-- 'reeflaw06.FlightApart', WHERE WHAT IT READS IS OF BULK AT MOST 1048576: true; the input reads as it did. -/
def flightApartUptoRow : OpenClaim := { program := "ytdhbonjbjnodhaa", sum := "4d480b2109aed9c60b3878c994330cffb8f90321aa7bce08d5c4c2de2d6259fa", func := "reef/reeflaw06.FlightApart", spec := "flightApart", inPlace := ["slices.overlaps[reef/api.Way]"], unfollowed := true, recurses := true, plainKeys := false, apart := false, narrowed := true }
def FlightApartUptoSaid : Prop := flightApartUptoRow.holds Try.pinned (OpenSpec.upto flightApartSpec)

/-- 'reeflaw06.FlightPlays', WHERE WHAT IT READS IS OF BULK AT MOST 1048576: true; the input reads as it did. -/
def flightPlaysUptoRow : OpenClaim := { program := "ytdhbonjbjnodhaa", sum := "4d480b2109aed9c60b3878c994330cffb8f90321aa7bce08d5c4c2de2d6259fa", func := "reef/reeflaw06.FlightPlays", spec := "flightPlays", inPlace := ["slices.overlaps[reef/api.Way]"], unfollowed := true, recurses := true, plainKeys := false, apart := false, narrowed := true }
def FlightPlaysUptoSaid : Prop := flightPlaysUptoRow.holds Try.pinned (OpenSpec.upto flightPlaysSpec)

end Rows
end Go.Proofs.Ytdhbonjbjnodhaa
