/-
  No cell of these rows narrows 'for every input' (looked for: loops, veiled, ifaces, maps, wideKeys, modest, calm, conditions, laid).
  DERIVED. THE GIVEN ROWS OF THIS SEAT. 8 by the template 'for every input the law returns true; each argument reads behind the call as it read before'; 0 by the template 'total and deterministic' (their statements: YtebpheijhmlpjaaTotals.lean).
  GIVEN WITH THE SEED: the statements are not yours to turn. If you find one false, say at which input.
  Laid BY PROGRAM, IN A SANDBOX (cutbox-rows.mjs): the forced cells as the released guide's own fill.sh prints them over the translation 261faa694cf28b1d… (all of the seat's roots in one cut). By AI agents, Wed Nov 11 2026. No macro, syntax, notation, axiom, sorry.
-/
import Derived.Test.YtebpheijhmlpjaaChecked
import GoSem.Claim
import GoSem.ClaimJoined
import GoSem.ClaimMapViews
import Derived.JoinedTies
import Derived.KernelRfl
namespace Go.Proofs.Ytebpheijhmlpjaa
/- THE CELL 'sum', in the pinned program and in every row, IS THE sha256 OF THE DUMP (.gsa) THAT YtebpheijhmlpjaaProg.lean LOADS. Nothing in Lean hashes anything: it is a label: what it is worth is what the hold of that sum in a sandbox is worth. -/
noncomputable def Try.pinned : Pinned := { name := "ytebpheijhmlpjaa", sum := "261faa694cf28b1d6634d2a5f7e61de17a0e112f430b5e7335ca278c06ac2cd9", checked := Try.checked }
namespace Rows
def none {H : Type} : Left H := { results := [], args := [] }

/-- 'haruspexlaw18.PathWeighs': WHATEVER THE INPUT: true; the input reads as it did. -/
def pathWeighsSpec : ChangeSpec := { name := "pathWeighs", fn := fun _ => fun
  | [d1, d2, d3, d4] => { results := [.lit (.bool true)], args := [d1, d2, d3, d4] }
  | _ => none }
def pathWeighsRow : OpenClaim := { program := "ytebpheijhmlpjaa", sum := "261faa694cf28b1d6634d2a5f7e61de17a0e112f430b5e7335ca278c06ac2cd9", func := "haruspex/haruspexlaw18.PathWeighs", spec := "pathWeighs", unfollowed := true, recurses := true, apart := false }
def PathWeighsSaid : Prop := pathWeighsRow.holds Try.pinned (OpenSpec.ofChange pathWeighsSpec)

/-- ITS FALSE NEIGHBOUR: 'it returns false'. Refute it at one input. -/
def pathWeighsWrong : ChangeSpec := { name := "pathWeighs", fn := fun _ => fun
  | [d1, d2, d3, d4] => { results := [.lit (.bool false)], args := [d1, d2, d3, d4] }
  | _ => none }
def PathWeighsWrongFalsely : Prop := pathWeighsRow.holds Try.pinned (OpenSpec.ofChange pathWeighsWrong)

/-- 'haruspexlaw18.PathFinds': WHATEVER THE INPUT: true; the input reads as it did. -/
def pathFindsSpec : ChangeSpec := { name := "pathFinds", fn := fun _ => fun
  | [d1, d2, d3, d4] => { results := [.lit (.bool true)], args := [d1, d2, d3, d4] }
  | _ => none }
def pathFindsRow : OpenClaim := { program := "ytebpheijhmlpjaa", sum := "261faa694cf28b1d6634d2a5f7e61de17a0e112f430b5e7335ca278c06ac2cd9", func := "haruspex/haruspexlaw18.PathFinds", spec := "pathFinds", unfollowed := true, recurses := true, apart := false }
def PathFindsSaid : Prop := pathFindsRow.holds Try.pinned (OpenSpec.ofChange pathFindsSpec)

/-- ITS FALSE NEIGHBOUR: 'it returns false'. Refute it at one input. -/
def pathFindsWrong : ChangeSpec := { name := "pathFinds", fn := fun _ => fun
  | [d1, d2, d3, d4] => { results := [.lit (.bool false)], args := [d1, d2, d3, d4] }
  | _ => none }
def PathFindsWrongFalsely : Prop := pathFindsRow.holds Try.pinned (OpenSpec.ofChange pathFindsWrong)

/-- 'haruspexlaw18.PathCounts': WHATEVER THE INPUT: true; the input reads as it did. -/
def pathCountsSpec : ChangeSpec := { name := "pathCounts", fn := fun _ => fun
  | [d1, d2, d3] => { results := [.lit (.bool true)], args := [d1, d2, d3] }
  | _ => none }
def pathCountsRow : OpenClaim := { program := "ytebpheijhmlpjaa", sum := "261faa694cf28b1d6634d2a5f7e61de17a0e112f430b5e7335ca278c06ac2cd9", func := "haruspex/haruspexlaw18.PathCounts", spec := "pathCounts", unfollowed := true, recurses := true, apart := false }
def PathCountsSaid : Prop := pathCountsRow.holds Try.pinned (OpenSpec.ofChange pathCountsSpec)

/-- ITS FALSE NEIGHBOUR: 'it returns false'. Refute it at one input. -/
def pathCountsWrong : ChangeSpec := { name := "pathCounts", fn := fun _ => fun
  | [d1, d2, d3] => { results := [.lit (.bool false)], args := [d1, d2, d3] }
  | _ => none }
def PathCountsWrongFalsely : Prop := pathCountsRow.holds Try.pinned (OpenSpec.ofChange pathCountsWrong)

/-- 'haruspexlaw18.PathGreatest': WHATEVER THE INPUT: true; the input reads as it did. -/
def pathGreatestSpec : ChangeSpec := { name := "pathGreatest", fn := fun _ => fun
  | [d1, d2] => { results := [.lit (.bool true)], args := [d1, d2] }
  | _ => none }
def pathGreatestRow : OpenClaim := { program := "ytebpheijhmlpjaa", sum := "261faa694cf28b1d6634d2a5f7e61de17a0e112f430b5e7335ca278c06ac2cd9", func := "haruspex/haruspexlaw18.PathGreatest", spec := "pathGreatest", unfollowed := true, recurses := true, apart := false }
def PathGreatestSaid : Prop := pathGreatestRow.holds Try.pinned (OpenSpec.ofChange pathGreatestSpec)

/-- ITS FALSE NEIGHBOUR: 'it returns false'. Refute it at one input. -/
def pathGreatestWrong : ChangeSpec := { name := "pathGreatest", fn := fun _ => fun
  | [d1, d2] => { results := [.lit (.bool false)], args := [d1, d2] }
  | _ => none }
def PathGreatestWrongFalsely : Prop := pathGreatestRow.holds Try.pinned (OpenSpec.ofChange pathGreatestWrong)

/-- 'haruspexlaw18.PathSums': WHATEVER THE INPUT: true; the input reads as it did. -/
def pathSumsSpec : ChangeSpec := { name := "pathSums", fn := fun _ => fun
  | [d] => { results := [.lit (.bool true)], args := [d] }
  | _ => none }
def pathSumsRow : OpenClaim := { program := "ytebpheijhmlpjaa", sum := "261faa694cf28b1d6634d2a5f7e61de17a0e112f430b5e7335ca278c06ac2cd9", func := "haruspex/haruspexlaw18.PathSums", spec := "pathSums", unfollowed := true, recurses := true, apart := false }
def PathSumsSaid : Prop := pathSumsRow.holds Try.pinned (OpenSpec.ofChange pathSumsSpec)

/-- ITS FALSE NEIGHBOUR: 'it returns false'. Refute it at one input. -/
def pathSumsWrong : ChangeSpec := { name := "pathSums", fn := fun _ => fun
  | [d] => { results := [.lit (.bool false)], args := [d] }
  | _ => none }
def PathSumsWrongFalsely : Prop := pathSumsRow.holds Try.pinned (OpenSpec.ofChange pathSumsWrong)

/-- 'haruspexlaw18.PathKnown': WHATEVER THE INPUT: true; the input reads as it did. -/
def pathKnownSpec : ChangeSpec := { name := "pathKnown", fn := fun _ => fun
  | [] => { results := [.lit (.bool true)], args := [] }
  | _ => none }
def pathKnownRow : OpenClaim := { program := "ytebpheijhmlpjaa", sum := "261faa694cf28b1d6634d2a5f7e61de17a0e112f430b5e7335ca278c06ac2cd9", func := "haruspex/haruspexlaw18.PathKnown", spec := "pathKnown", unfollowed := true, recurses := true, apart := false }
def PathKnownSaid : Prop := pathKnownRow.holds Try.pinned (OpenSpec.ofChange pathKnownSpec)

/-- ITS FALSE NEIGHBOUR: 'it returns false'. Refute it at one input. -/
def pathKnownWrong : ChangeSpec := { name := "pathKnown", fn := fun _ => fun
  | [] => { results := [.lit (.bool false)], args := [] }
  | _ => none }
def PathKnownWrongFalsely : Prop := pathKnownRow.holds Try.pinned (OpenSpec.ofChange pathKnownWrong)

/-- 'haruspexlaw18.PathListed': WHATEVER THE INPUT: true; the input reads as it did. -/
def pathListedSpec : ChangeSpec := { name := "pathListed", fn := fun _ => fun
  | [d1, d2, d3] => { results := [.lit (.bool true)], args := [d1, d2, d3] }
  | _ => none }
def pathListedRow : OpenClaim := { program := "ytebpheijhmlpjaa", sum := "261faa694cf28b1d6634d2a5f7e61de17a0e112f430b5e7335ca278c06ac2cd9", func := "haruspex/haruspexlaw18.PathListed", spec := "pathListed", unfollowed := true, recurses := true, apart := false }
def PathListedSaid : Prop := pathListedRow.holds Try.pinned (OpenSpec.ofChange pathListedSpec)

/-- ITS FALSE NEIGHBOUR: 'it returns false'. Refute it at one input. -/
def pathListedWrong : ChangeSpec := { name := "pathListed", fn := fun _ => fun
  | [d1, d2, d3] => { results := [.lit (.bool false)], args := [d1, d2, d3] }
  | _ => none }
def PathListedWrongFalsely : Prop := pathListedRow.holds Try.pinned (OpenSpec.ofChange pathListedWrong)

/-- 'haruspexlaw18.PathStates': WHATEVER THE INPUT: true; the input reads as it did. -/
def pathStatesSpec : ChangeSpec := { name := "pathStates", fn := fun _ => fun
  | [d1, d2] => { results := [.lit (.bool true)], args := [d1, d2] }
  | _ => none }
def pathStatesRow : OpenClaim := { program := "ytebpheijhmlpjaa", sum := "261faa694cf28b1d6634d2a5f7e61de17a0e112f430b5e7335ca278c06ac2cd9", func := "haruspex/haruspexlaw18.PathStates", spec := "pathStates", unfollowed := true, recurses := true, apart := false }
def PathStatesSaid : Prop := pathStatesRow.holds Try.pinned (OpenSpec.ofChange pathStatesSpec)

/-- ITS FALSE NEIGHBOUR: 'it returns false'. Refute it at one input. -/
def pathStatesWrong : ChangeSpec := { name := "pathStates", fn := fun _ => fun
  | [d1, d2] => { results := [.lit (.bool false)], args := [d1, d2] }
  | _ => none }
def PathStatesWrongFalsely : Prop := pathStatesRow.holds Try.pinned (OpenSpec.ofChange pathStatesWrong)

/- THE SECOND FORM. 'bulk': how many values and letters a reading holds, each counted each time it is reached (what is shared counts as often as it is met; a slice's spare places count too). A statement '..UptoSaid' is the law's where the arguments, and the package variables that the reading takes, are together of bulk at most 1048576: NARROWER than '..Said'. Prove '..Said' where nothing that the law and all that it calls make is longer than what came in: it says more and counts as full. Else prove '..UptoSaid'. A law counts once. -/
mutual
def uptoBulk {H : Type} : DataW H → Nat
  | .lit (.string bytes) => bytes.length + 1
  | .lit _ => 1
  | .nil => 1
  | .ptr d => uptoBulk d + 1
  | .slice elems spare => uptoBulkAll elems + uptoBulkAll spare + 1
  | .agg parts => uptoBulkAll parts + 1
  | .iface _ d => uptoBulk d + 1
  | .map entries => uptoBulkEntries entries + 1
  | .held _ => 1
def uptoBulkAll {H : Type} : List (DataW H) → Nat
  | [] => 0
  | d :: r => uptoBulk d + uptoBulkAll r
def uptoBulkEntries {H : Type} : List (Lit × DataW H) → Nat
  | [] => 0
  | x :: r => uptoBulkEntry x + uptoBulkEntries r
def uptoBulkEntry {H : Type} : Lit × DataW H → Nat
  | (.string bytes, d) => bytes.length + uptoBulk d + 1
  | (_, d) => uptoBulk d + 1
 end
def uptoSmall : (H : Type) → List (DataW H) → Bool := fun _ ds => decide (uptoBulkAll ds ≤ 1048576)
def OpenSpec.upto (s : _root_.Go.ChangeSpec) : _root_.Go.OpenSpec := { _root_.Go.OpenSpec.ofChange s with cond := some uptoSmall }

/-- 'haruspexlaw18.PathWeighs', WHERE WHAT IT READS IS OF BULK AT MOST 1048576: true; the input reads as it did. -/
def pathWeighsUptoRow : OpenClaim := { program := "ytebpheijhmlpjaa", sum := "261faa694cf28b1d6634d2a5f7e61de17a0e112f430b5e7335ca278c06ac2cd9", func := "haruspex/haruspexlaw18.PathWeighs", spec := "pathWeighs", unfollowed := true, recurses := true, apart := false, narrowed := true }
def PathWeighsUptoSaid : Prop := pathWeighsUptoRow.holds Try.pinned (OpenSpec.upto pathWeighsSpec)

/-- 'haruspexlaw18.PathFinds', WHERE WHAT IT READS IS OF BULK AT MOST 1048576: true; the input reads as it did. -/
def pathFindsUptoRow : OpenClaim := { program := "ytebpheijhmlpjaa", sum := "261faa694cf28b1d6634d2a5f7e61de17a0e112f430b5e7335ca278c06ac2cd9", func := "haruspex/haruspexlaw18.PathFinds", spec := "pathFinds", unfollowed := true, recurses := true, apart := false, narrowed := true }
def PathFindsUptoSaid : Prop := pathFindsUptoRow.holds Try.pinned (OpenSpec.upto pathFindsSpec)

/-- 'haruspexlaw18.PathCounts', WHERE WHAT IT READS IS OF BULK AT MOST 1048576: true; the input reads as it did. -/
def pathCountsUptoRow : OpenClaim := { program := "ytebpheijhmlpjaa", sum := "261faa694cf28b1d6634d2a5f7e61de17a0e112f430b5e7335ca278c06ac2cd9", func := "haruspex/haruspexlaw18.PathCounts", spec := "pathCounts", unfollowed := true, recurses := true, apart := false, narrowed := true }
def PathCountsUptoSaid : Prop := pathCountsUptoRow.holds Try.pinned (OpenSpec.upto pathCountsSpec)

/-- 'haruspexlaw18.PathGreatest', WHERE WHAT IT READS IS OF BULK AT MOST 1048576: true; the input reads as it did. -/
def pathGreatestUptoRow : OpenClaim := { program := "ytebpheijhmlpjaa", sum := "261faa694cf28b1d6634d2a5f7e61de17a0e112f430b5e7335ca278c06ac2cd9", func := "haruspex/haruspexlaw18.PathGreatest", spec := "pathGreatest", unfollowed := true, recurses := true, apart := false, narrowed := true }
def PathGreatestUptoSaid : Prop := pathGreatestUptoRow.holds Try.pinned (OpenSpec.upto pathGreatestSpec)

/-- 'haruspexlaw18.PathSums', WHERE WHAT IT READS IS OF BULK AT MOST 1048576: true; the input reads as it did. -/
def pathSumsUptoRow : OpenClaim := { program := "ytebpheijhmlpjaa", sum := "261faa694cf28b1d6634d2a5f7e61de17a0e112f430b5e7335ca278c06ac2cd9", func := "haruspex/haruspexlaw18.PathSums", spec := "pathSums", unfollowed := true, recurses := true, apart := false, narrowed := true }
def PathSumsUptoSaid : Prop := pathSumsUptoRow.holds Try.pinned (OpenSpec.upto pathSumsSpec)

/-- 'haruspexlaw18.PathKnown', WHERE WHAT IT READS IS OF BULK AT MOST 1048576: true; the input reads as it did. -/
def pathKnownUptoRow : OpenClaim := { program := "ytebpheijhmlpjaa", sum := "261faa694cf28b1d6634d2a5f7e61de17a0e112f430b5e7335ca278c06ac2cd9", func := "haruspex/haruspexlaw18.PathKnown", spec := "pathKnown", unfollowed := true, recurses := true, apart := false, narrowed := true }
def PathKnownUptoSaid : Prop := pathKnownUptoRow.holds Try.pinned (OpenSpec.upto pathKnownSpec)

/-- 'haruspexlaw18.PathListed', WHERE WHAT IT READS IS OF BULK AT MOST 1048576: true; the input reads as it did. -/
def pathListedUptoRow : OpenClaim := { program := "ytebpheijhmlpjaa", sum := "261faa694cf28b1d6634d2a5f7e61de17a0e112f430b5e7335ca278c06ac2cd9", func := "haruspex/haruspexlaw18.PathListed", spec := "pathListed", unfollowed := true, recurses := true, apart := false, narrowed := true }
def PathListedUptoSaid : Prop := pathListedUptoRow.holds Try.pinned (OpenSpec.upto pathListedSpec)

/-- 'haruspexlaw18.PathStates', WHERE WHAT IT READS IS OF BULK AT MOST 1048576: true; the input reads as it did. -/
def pathStatesUptoRow : OpenClaim := { program := "ytebpheijhmlpjaa", sum := "261faa694cf28b1d6634d2a5f7e61de17a0e112f430b5e7335ca278c06ac2cd9", func := "haruspex/haruspexlaw18.PathStates", spec := "pathStates", unfollowed := true, recurses := true, apart := false, narrowed := true }
def PathStatesUptoSaid : Prop := pathStatesUptoRow.holds Try.pinned (OpenSpec.upto pathStatesSpec)

end Rows
end Go.Proofs.Ytebpheijhmlpjaa
