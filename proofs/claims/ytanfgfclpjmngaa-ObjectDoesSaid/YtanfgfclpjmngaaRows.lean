/-
  No cell of these rows narrows 'for every input' (looked for: loops, veiled, ifaces, maps, wideKeys, modest, calm, conditions, laid).
  DERIVED. THE GIVEN ROWS OF THIS SEAT. 5 by the template 'for every input the law returns true; each argument reads behind the call as it read before'; 0 by the template 'total and deterministic' (their statements: YtanfgfclpjmngaaTotals.lean).
  GIVEN WITH THE SEED: the statements are not yours to turn. If you find one false, say at which input.
  Laid BY PROGRAM, IN A SANDBOX (cutbox-rows.mjs): the forced cells as the released guide's own fill.sh prints them over the translation 00986a660f52bd17… (all of the seat's roots in one cut). By AI agents, Wed Nov 11 2026. No macro, syntax, notation, axiom, sorry.
-/
import Derived.Test.YtanfgfclpjmngaaChecked
import GoSem.Claim
import GoSem.ClaimJoined
import GoSem.ClaimMapViews
import Derived.JoinedTies
import Derived.KernelRfl
namespace Go.Proofs.Ytanfgfclpjmngaa
/- THE CELL 'sum', in the pinned program and in every row, IS THE sha256 OF THE DUMP (.gsa) THAT YtanfgfclpjmngaaProg.lean LOADS. Nothing in Lean hashes anything: it is a label: what it is worth is what the hold of that sum in a sandbox is worth. -/
noncomputable def Try.pinned : Pinned := { name := "ytanfgfclpjmngaa", sum := "00986a660f52bd176033bf4f2de7f02c70bca5fd0f3bab2011519471c359b992", checked := Try.checked }
namespace Rows
def none {H : Type} : Left H := { results := [], args := [] }

/-- 'reeflaw19.ObjectTells': WHATEVER THE INPUT: true; the input reads as it did. -/
def objectTellsSpec : ChangeSpec := { name := "objectTells", fn := fun _ => fun
  | [d1, d2, d3, d4] => { results := [.lit (.bool true)], args := [d1, d2, d3, d4] }
  | _ => none }
def objectTellsRow : OpenClaim := { program := "ytanfgfclpjmngaa", sum := "00986a660f52bd176033bf4f2de7f02c70bca5fd0f3bab2011519471c359b992", func := "reef/reeflaw19.ObjectTells", spec := "objectTells", inPlace := ["internal/abi.NoEscape", "internal/bytealg.MakeNoZero"], unfollowed := true, recurses := true, apart := false }
def ObjectTellsSaid : Prop := objectTellsRow.holds Try.pinned (OpenSpec.ofChange objectTellsSpec)

/-- ITS FALSE NEIGHBOUR: 'it returns false'. Refute it at one input. -/
def objectTellsWrong : ChangeSpec := { name := "objectTells", fn := fun _ => fun
  | [d1, d2, d3, d4] => { results := [.lit (.bool false)], args := [d1, d2, d3, d4] }
  | _ => none }
def ObjectTellsWrongFalsely : Prop := objectTellsRow.holds Try.pinned (OpenSpec.ofChange objectTellsWrong)

/-- 'reeflaw19.ObjectLocks': WHATEVER THE INPUT: true; the input reads as it did. -/
def objectLocksSpec : ChangeSpec := { name := "objectLocks", fn := fun _ => fun
  | [d1, d2, d3] => { results := [.lit (.bool true)], args := [d1, d2, d3] }
  | _ => none }
def objectLocksRow : OpenClaim := { program := "ytanfgfclpjmngaa", sum := "00986a660f52bd176033bf4f2de7f02c70bca5fd0f3bab2011519471c359b992", func := "reef/reeflaw19.ObjectLocks", spec := "objectLocks", inPlace := ["internal/bytealg.abigen_runtime_cmpstring", "internal/abi.NoEscape", "internal/bytealg.MakeNoZero", "slices.overlaps[reef/api.Object]"], unfollowed := true, recurses := true, apart := false }
def ObjectLocksSaid : Prop := objectLocksRow.holds Try.pinned (OpenSpec.ofChange objectLocksSpec)

/-- ITS FALSE NEIGHBOUR: 'it returns false'. Refute it at one input. -/
def objectLocksWrong : ChangeSpec := { name := "objectLocks", fn := fun _ => fun
  | [d1, d2, d3] => { results := [.lit (.bool false)], args := [d1, d2, d3] }
  | _ => none }
def ObjectLocksWrongFalsely : Prop := objectLocksRow.holds Try.pinned (OpenSpec.ofChange objectLocksWrong)

/-- 'reeflaw19.ObjectDoes': WHATEVER THE INPUT: true; the input reads as it did. -/
def objectDoesSpec : ChangeSpec := { name := "objectDoes", fn := fun _ => fun
  | [d1, d2, d3, d4] => { results := [.lit (.bool true)], args := [d1, d2, d3, d4] }
  | _ => none }
def objectDoesRow : OpenClaim := { program := "ytanfgfclpjmngaa", sum := "00986a660f52bd176033bf4f2de7f02c70bca5fd0f3bab2011519471c359b992", func := "reef/reeflaw19.ObjectDoes", spec := "objectDoes", inPlace := ["internal/abi.NoEscape", "internal/bytealg.MakeNoZero", "internal/bytealg.abigen_runtime_cmpstring", "slices.overlaps[reef/api.Object]"], unfollowed := true, recurses := true, apart := false }
def ObjectDoesSaid : Prop := objectDoesRow.holds Try.pinned (OpenSpec.ofChange objectDoesSpec)

/-- ITS FALSE NEIGHBOUR: 'it returns false'. Refute it at one input. -/
def objectDoesWrong : ChangeSpec := { name := "objectDoes", fn := fun _ => fun
  | [d1, d2, d3, d4] => { results := [.lit (.bool false)], args := [d1, d2, d3, d4] }
  | _ => none }
def ObjectDoesWrongFalsely : Prop := objectDoesRow.holds Try.pinned (OpenSpec.ofChange objectDoesWrong)

/-- 'reeflaw19.ObjectReads': WHATEVER THE INPUT: true; the input reads as it did. -/
def objectReadsSpec : ChangeSpec := { name := "objectReads", fn := fun _ => fun
  | [d1, d2, d3] => { results := [.lit (.bool true)], args := [d1, d2, d3] }
  | _ => none }
def objectReadsRow : OpenClaim := { program := "ytanfgfclpjmngaa", sum := "00986a660f52bd176033bf4f2de7f02c70bca5fd0f3bab2011519471c359b992", func := "reef/reeflaw19.ObjectReads", spec := "objectReads", inPlace := ["internal/abi.NoEscape", "internal/bytealg.MakeNoZero", "internal/bytealg.abigen_runtime_cmpstring", "slices.overlaps[reef/api.Object]"], unfollowed := true, recurses := true, apart := false }
def ObjectReadsSaid : Prop := objectReadsRow.holds Try.pinned (OpenSpec.ofChange objectReadsSpec)

/-- ITS FALSE NEIGHBOUR: 'it returns false'. Refute it at one input. -/
def objectReadsWrong : ChangeSpec := { name := "objectReads", fn := fun _ => fun
  | [d1, d2, d3] => { results := [.lit (.bool false)], args := [d1, d2, d3] }
  | _ => none }
def ObjectReadsWrongFalsely : Prop := objectReadsRow.holds Try.pinned (OpenSpec.ofChange objectReadsWrong)

/-- 'reeflaw19.ObjectKeeps': WHATEVER THE INPUT: true; the input reads as it did. -/
def objectKeepsSpec : ChangeSpec := { name := "objectKeeps", fn := fun _ => fun
  | [d1, d2, d3] => { results := [.lit (.bool true)], args := [d1, d2, d3] }
  | _ => none }
def objectKeepsRow : OpenClaim := { program := "ytanfgfclpjmngaa", sum := "00986a660f52bd176033bf4f2de7f02c70bca5fd0f3bab2011519471c359b992", func := "reef/reeflaw19.ObjectKeeps", spec := "objectKeeps", inPlace := ["internal/abi.NoEscape", "internal/bytealg.MakeNoZero", "internal/bytealg.abigen_runtime_cmpstring", "slices.overlaps[reef/api.Object]"], unfollowed := true, recurses := true, apart := false }
def ObjectKeepsSaid : Prop := objectKeepsRow.holds Try.pinned (OpenSpec.ofChange objectKeepsSpec)

/-- ITS FALSE NEIGHBOUR: 'it returns false'. Refute it at one input. -/
def objectKeepsWrong : ChangeSpec := { name := "objectKeeps", fn := fun _ => fun
  | [d1, d2, d3] => { results := [.lit (.bool false)], args := [d1, d2, d3] }
  | _ => none }
def ObjectKeepsWrongFalsely : Prop := objectKeepsRow.holds Try.pinned (OpenSpec.ofChange objectKeepsWrong)

/- THE SECOND FORM. 'bulk': how many values and letters a reading holds, each counted each time it is reached (what is shared counts as often as it is met; a slice's spare places count too). A statement '..UptoSaid' is the law's where the arguments, and the package variables that the reading takes, are together of bulk at most 1048576: NARROWER than '..Said'. Prove '..Said' where nothing that the law and all that it calls make is longer than what came in: it says more and counts as full. Else prove '..UptoSaid'. A law counts once. -/
mutual
def uptoBulk {H : Type} : DataW H → Nat
  | .lit (.string bytes) => bytes.length + 1
  | .lit _ => 1
  | .nil => 1
  | .ptr d => uptoBulk d + 1
  | .slice elems spare => uptoBulkAll elems + uptoBulkAll spare + 1
  | .agg parts => uptoBulkAll parts + 1
  | .iface _ d => uptoBulk d + 1
  | .map entries => uptoBulkEntries entries + 1
  | .held _ => 1
def uptoBulkAll {H : Type} : List (DataW H) → Nat
  | [] => 0
  | d :: r => uptoBulk d + uptoBulkAll r
def uptoBulkEntries {H : Type} : List (Lit × DataW H) → Nat
  | [] => 0
  | x :: r => uptoBulkEntry x + uptoBulkEntries r
def uptoBulkEntry {H : Type} : Lit × DataW H → Nat
  | (.string bytes, d) => bytes.length + uptoBulk d + 1
  | (_, d) => uptoBulk d + 1
 end
def uptoSmall : (H : Type) → List (DataW H) → Bool := fun _ ds => decide (uptoBulkAll ds ≤ 1048576)
def OpenSpec.upto (s : _root_.Go.ChangeSpec) : _root_.Go.OpenSpec := { _root_.Go.OpenSpec.ofChange s with cond := some uptoSmall }

/-- 'reeflaw19.ObjectTells', WHERE WHAT IT READS IS OF BULK AT MOST 1048576: true; the input reads as it did. -/
def objectTellsUptoRow : OpenClaim := { program := "ytanfgfclpjmngaa", sum := "00986a660f52bd176033bf4f2de7f02c70bca5fd0f3bab2011519471c359b992", func := "reef/reeflaw19.ObjectTells", spec := "objectTells", inPlace := ["internal/abi.NoEscape", "internal/bytealg.MakeNoZero"], unfollowed := true, recurses := true, apart := false, narrowed := true }
def ObjectTellsUptoSaid : Prop := objectTellsUptoRow.holds Try.pinned (OpenSpec.upto objectTellsSpec)

/-- 'reeflaw19.ObjectLocks', WHERE WHAT IT READS IS OF BULK AT MOST 1048576: true; the input reads as it did. -/
def objectLocksUptoRow : OpenClaim := { program := "ytanfgfclpjmngaa", sum := "00986a660f52bd176033bf4f2de7f02c70bca5fd0f3bab2011519471c359b992", func := "reef/reeflaw19.ObjectLocks", spec := "objectLocks", inPlace := ["internal/bytealg.abigen_runtime_cmpstring", "internal/abi.NoEscape", "internal/bytealg.MakeNoZero", "slices.overlaps[reef/api.Object]"], unfollowed := true, recurses := true, apart := false, narrowed := true }
def ObjectLocksUptoSaid : Prop := objectLocksUptoRow.holds Try.pinned (OpenSpec.upto objectLocksSpec)

/-- 'reeflaw19.ObjectDoes', WHERE WHAT IT READS IS OF BULK AT MOST 1048576: true; the input reads as it did. -/
def objectDoesUptoRow : OpenClaim := { program := "ytanfgfclpjmngaa", sum := "00986a660f52bd176033bf4f2de7f02c70bca5fd0f3bab2011519471c359b992", func := "reef/reeflaw19.ObjectDoes", spec := "objectDoes", inPlace := ["internal/abi.NoEscape", "internal/bytealg.MakeNoZero", "internal/bytealg.abigen_runtime_cmpstring", "slices.overlaps[reef/api.Object]"], unfollowed := true, recurses := true, apart := false, narrowed := true }
def ObjectDoesUptoSaid : Prop := objectDoesUptoRow.holds Try.pinned (OpenSpec.upto objectDoesSpec)

/-- 'reeflaw19.ObjectReads', WHERE WHAT IT READS IS OF BULK AT MOST 1048576: true; the input reads as it did. -/
def objectReadsUptoRow : OpenClaim := { program := "ytanfgfclpjmngaa", sum := "00986a660f52bd176033bf4f2de7f02c70bca5fd0f3bab2011519471c359b992", func := "reef/reeflaw19.ObjectReads", spec := "objectReads", inPlace := ["internal/abi.NoEscape", "internal/bytealg.MakeNoZero", "internal/bytealg.abigen_runtime_cmpstring", "slices.overlaps[reef/api.Object]"], unfollowed := true, recurses := true, apart := false, narrowed := true }
def ObjectReadsUptoSaid : Prop := objectReadsUptoRow.holds Try.pinned (OpenSpec.upto objectReadsSpec)

/-- 'reeflaw19.ObjectKeeps', WHERE WHAT IT READS IS OF BULK AT MOST 1048576: true; the input reads as it did. -/
def objectKeepsUptoRow : OpenClaim := { program := "ytanfgfclpjmngaa", sum := "00986a660f52bd176033bf4f2de7f02c70bca5fd0f3bab2011519471c359b992", func := "reef/reeflaw19.ObjectKeeps", spec := "objectKeeps", inPlace := ["internal/abi.NoEscape", "internal/bytealg.MakeNoZero", "internal/bytealg.abigen_runtime_cmpstring", "slices.overlaps[reef/api.Object]"], unfollowed := true, recurses := true, apart := false, narrowed := true }
def ObjectKeepsUptoSaid : Prop := objectKeepsUptoRow.holds Try.pinned (OpenSpec.upto objectKeepsSpec)

end Rows
end Go.Proofs.Ytanfgfclpjmngaa
