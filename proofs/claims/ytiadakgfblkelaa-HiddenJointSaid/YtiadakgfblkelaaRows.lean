/-
  No cell of these rows narrows 'for every input' (looked for: loops, veiled, ifaces, maps, wideKeys, modest, calm, conditions, laid).
  DERIVED. THE GIVEN ROWS OF THIS SEAT. 8 by the template 'for every input the law returns true; each argument reads behind the call as it read before'; 0 by the template 'total and deterministic' (their statements: YtiadakgfblkelaaTotals.lean).
  GIVEN WITH THE SEED: the statements are not yours to turn. If you find one false, say at which input.
  Laid BY PROGRAM, IN A SANDBOX (cutbox-rows.mjs): the forced cells as the released guide's own fill.sh prints them over the translation 97df87c62b8fa21a… (all of the seat's roots in one cut). By AI agents, Wed Nov 11 2026. No macro, syntax, notation, axiom, sorry.
-/
import Derived.Test.YtiadakgfblkelaaChecked
import GoSem.Claim
import GoSem.ClaimJoined
import GoSem.ClaimMapViews
import Derived.JoinedTies
import Derived.KernelRfl
namespace Go.Proofs.Ytiadakgfblkelaa
/- THE CELL 'sum', in the pinned program and in every row, IS THE sha256 OF THE DUMP (.gsa) THAT YtiadakgfblkelaaProg.lean LOADS. Nothing in Lean hashes anything: it is a label: what it is worth is what the hold of that sum in a sandbox is worth. -/
noncomputable def Try.pinned : Pinned := { name := "ytiadakgfblkelaa", sum := "97df87c62b8fa21a0bb4e6bebe60af34f55984d069970947af7c2b1942927781", checked := Try.checked }
namespace Rows
def none {H : Type} : Left H := { results := [], args := [] }

/-- 'haruspexlaw17.HiddenTables': WHATEVER THE INPUT: true; the input reads as it did. -/
def hiddenTablesSpec : ChangeSpec := { name := "hiddenTables", fn := fun _ => fun
  | [d1, d2, d3, d4] => { results := [.lit (.bool true)], args := [d1, d2, d3, d4] }
  | _ => none }
def hiddenTablesRow : OpenClaim := { program := "ytiadakgfblkelaa", sum := "97df87c62b8fa21a0bb4e6bebe60af34f55984d069970947af7c2b1942927781", func := "haruspex/haruspexlaw17.HiddenTables", spec := "hiddenTables", unfollowed := true, recurses := true, plainKeys := false, apart := false }
def HiddenTablesSaid : Prop := hiddenTablesRow.holds Try.pinned (OpenSpec.ofChange hiddenTablesSpec)

/-- ITS FALSE NEIGHBOUR: 'it returns false'. Refute it at one input. -/
def hiddenTablesWrong : ChangeSpec := { name := "hiddenTables", fn := fun _ => fun
  | [d1, d2, d3, d4] => { results := [.lit (.bool false)], args := [d1, d2, d3, d4] }
  | _ => none }
def HiddenTablesWrongFalsely : Prop := hiddenTablesRow.holds Try.pinned (OpenSpec.ofChange hiddenTablesWrong)

/-- 'haruspexlaw17.HiddenPredicts': WHATEVER THE INPUT: true; the input reads as it did. -/
def hiddenPredictsSpec : ChangeSpec := { name := "hiddenPredicts", fn := fun _ => fun
  | [d1, d2, d3, d4, d5] => { results := [.lit (.bool true)], args := [d1, d2, d3, d4, d5] }
  | _ => none }
def hiddenPredictsRow : OpenClaim := { program := "ytiadakgfblkelaa", sum := "97df87c62b8fa21a0bb4e6bebe60af34f55984d069970947af7c2b1942927781", func := "haruspex/haruspexlaw17.HiddenPredicts", spec := "hiddenPredicts", unfollowed := true, recurses := true, plainKeys := false, apart := false }
def HiddenPredictsSaid : Prop := hiddenPredictsRow.holds Try.pinned (OpenSpec.ofChange hiddenPredictsSpec)

/-- ITS FALSE NEIGHBOUR: 'it returns false'. Refute it at one input. -/
def hiddenPredictsWrong : ChangeSpec := { name := "hiddenPredicts", fn := fun _ => fun
  | [d1, d2, d3, d4, d5] => { results := [.lit (.bool false)], args := [d1, d2, d3, d4, d5] }
  | _ => none }
def HiddenPredictsWrongFalsely : Prop := hiddenPredictsRow.holds Try.pinned (OpenSpec.ofChange hiddenPredictsWrong)

/-- 'haruspexlaw17.HiddenMeets': WHATEVER THE INPUT: true; the input reads as it did. -/
def hiddenMeetsSpec : ChangeSpec := { name := "hiddenMeets", fn := fun _ => fun
  | [d] => { results := [.lit (.bool true)], args := [d] }
  | _ => none }
def hiddenMeetsRow : OpenClaim := { program := "ytiadakgfblkelaa", sum := "97df87c62b8fa21a0bb4e6bebe60af34f55984d069970947af7c2b1942927781", func := "haruspex/haruspexlaw17.HiddenMeets", spec := "hiddenMeets", unfollowed := true, recurses := true, plainKeys := false, apart := false }
def HiddenMeetsSaid : Prop := hiddenMeetsRow.holds Try.pinned (OpenSpec.ofChange hiddenMeetsSpec)

/-- ITS FALSE NEIGHBOUR: 'it returns false'. Refute it at one input. -/
def hiddenMeetsWrong : ChangeSpec := { name := "hiddenMeets", fn := fun _ => fun
  | [d] => { results := [.lit (.bool false)], args := [d] }
  | _ => none }
def HiddenMeetsWrongFalsely : Prop := hiddenMeetsRow.holds Try.pinned (OpenSpec.ofChange hiddenMeetsWrong)

/-- 'haruspexlaw17.HiddenKnows': WHATEVER THE INPUT: true; the input reads as it did. -/
def hiddenKnowsSpec : ChangeSpec := { name := "hiddenKnows", fn := fun _ => fun
  | [d1, d2, d3, d4] => { results := [.lit (.bool true)], args := [d1, d2, d3, d4] }
  | _ => none }
def hiddenKnowsRow : OpenClaim := { program := "ytiadakgfblkelaa", sum := "97df87c62b8fa21a0bb4e6bebe60af34f55984d069970947af7c2b1942927781", func := "haruspex/haruspexlaw17.HiddenKnows", spec := "hiddenKnows", unfollowed := true, recurses := true, plainKeys := false, apart := false }
def HiddenKnowsSaid : Prop := hiddenKnowsRow.holds Try.pinned (OpenSpec.ofChange hiddenKnowsSpec)

/-- ITS FALSE NEIGHBOUR: 'it returns false'. Refute it at one input. -/
def hiddenKnowsWrong : ChangeSpec := { name := "hiddenKnows", fn := fun _ => fun
  | [d1, d2, d3, d4] => { results := [.lit (.bool false)], args := [d1, d2, d3, d4] }
  | _ => none }
def HiddenKnowsWrongFalsely : Prop := hiddenKnowsRow.holds Try.pinned (OpenSpec.ofChange hiddenKnowsWrong)

/-- 'haruspexlaw17.HiddenEnds': WHATEVER THE INPUT: true; the input reads as it did. -/
def hiddenEndsSpec : ChangeSpec := { name := "hiddenEnds", fn := fun _ => fun
  | [d1, d2] => { results := [.lit (.bool true)], args := [d1, d2] }
  | _ => none }
def hiddenEndsRow : OpenClaim := { program := "ytiadakgfblkelaa", sum := "97df87c62b8fa21a0bb4e6bebe60af34f55984d069970947af7c2b1942927781", func := "haruspex/haruspexlaw17.HiddenEnds", spec := "hiddenEnds", unfollowed := true, recurses := true, plainKeys := false, apart := false }
def HiddenEndsSaid : Prop := hiddenEndsRow.holds Try.pinned (OpenSpec.ofChange hiddenEndsSpec)

/-- ITS FALSE NEIGHBOUR: 'it returns false'. Refute it at one input. -/
def hiddenEndsWrong : ChangeSpec := { name := "hiddenEnds", fn := fun _ => fun
  | [d1, d2] => { results := [.lit (.bool false)], args := [d1, d2] }
  | _ => none }
def HiddenEndsWrongFalsely : Prop := hiddenEndsRow.holds Try.pinned (OpenSpec.ofChange hiddenEndsWrong)

/-- 'haruspexlaw17.HiddenNets': WHATEVER THE INPUT: true; the input reads as it did. -/
def hiddenNetsSpec : ChangeSpec := { name := "hiddenNets", fn := fun _ => fun
  | [d1, d2, d3, d4] => { results := [.lit (.bool true)], args := [d1, d2, d3, d4] }
  | _ => none }
def hiddenNetsRow : OpenClaim := { program := "ytiadakgfblkelaa", sum := "97df87c62b8fa21a0bb4e6bebe60af34f55984d069970947af7c2b1942927781", func := "haruspex/haruspexlaw17.HiddenNets", spec := "hiddenNets", unfollowed := true, recurses := true, plainKeys := false, apart := false }
def HiddenNetsSaid : Prop := hiddenNetsRow.holds Try.pinned (OpenSpec.ofChange hiddenNetsSpec)

/-- ITS FALSE NEIGHBOUR: 'it returns false'. Refute it at one input. -/
def hiddenNetsWrong : ChangeSpec := { name := "hiddenNets", fn := fun _ => fun
  | [d1, d2, d3, d4] => { results := [.lit (.bool false)], args := [d1, d2, d3, d4] }
  | _ => none }
def HiddenNetsWrongFalsely : Prop := hiddenNetsRow.holds Try.pinned (OpenSpec.ofChange hiddenNetsWrong)

/-- 'haruspexlaw17.HiddenKnown': WHATEVER THE INPUT: true; the input reads as it did. -/
def hiddenKnownSpec : ChangeSpec := { name := "hiddenKnown", fn := fun _ => fun
  | [] => { results := [.lit (.bool true)], args := [] }
  | _ => none }
def hiddenKnownRow : OpenClaim := { program := "ytiadakgfblkelaa", sum := "97df87c62b8fa21a0bb4e6bebe60af34f55984d069970947af7c2b1942927781", func := "haruspex/haruspexlaw17.HiddenKnown", spec := "hiddenKnown", unfollowed := true, recurses := true, plainKeys := false, apart := false }
def HiddenKnownSaid : Prop := hiddenKnownRow.holds Try.pinned (OpenSpec.ofChange hiddenKnownSpec)

/-- ITS FALSE NEIGHBOUR: 'it returns false'. Refute it at one input. -/
def hiddenKnownWrong : ChangeSpec := { name := "hiddenKnown", fn := fun _ => fun
  | [] => { results := [.lit (.bool false)], args := [] }
  | _ => none }
def HiddenKnownWrongFalsely : Prop := hiddenKnownRow.holds Try.pinned (OpenSpec.ofChange hiddenKnownWrong)

/-- 'haruspexlaw17.HiddenJoint': WHATEVER THE INPUT: true; the input reads as it did. -/
def hiddenJointSpec : ChangeSpec := { name := "hiddenJoint", fn := fun _ => fun
  | [d1, d2] => { results := [.lit (.bool true)], args := [d1, d2] }
  | _ => none }
def hiddenJointRow : OpenClaim := { program := "ytiadakgfblkelaa", sum := "97df87c62b8fa21a0bb4e6bebe60af34f55984d069970947af7c2b1942927781", func := "haruspex/haruspexlaw17.HiddenJoint", spec := "hiddenJoint", inPlace := ["slices.overlaps[int]"], unfollowed := true, recurses := true, plainKeys := false, apart := false }
def HiddenJointSaid : Prop := hiddenJointRow.holds Try.pinned (OpenSpec.ofChange hiddenJointSpec)

/-- ITS FALSE NEIGHBOUR: 'it returns false'. Refute it at one input. -/
def hiddenJointWrong : ChangeSpec := { name := "hiddenJoint", fn := fun _ => fun
  | [d1, d2] => { results := [.lit (.bool false)], args := [d1, d2] }
  | _ => none }
def HiddenJointWrongFalsely : Prop := hiddenJointRow.holds Try.pinned (OpenSpec.ofChange hiddenJointWrong)

/- THE SECOND FORM. 'bulk': how many values and letters a reading holds, each counted each time it is reached (what is shared counts as often as it is met; a slice's spare places count too). A statement '..UptoSaid' is the law's where the arguments, and the package variables that the reading takes, are together of bulk at most 1048576: NARROWER than '..Said'. Prove '..Said' where nothing that the law and all that it calls make is longer than what came in: it says more and counts as full. Else prove '..UptoSaid'. A law counts once. -/
mutual
def uptoBulk {H : Type} : DataW H → Nat
  | .lit (.string bytes) => bytes.length + 1
  | .lit _ => 1
  | .nil => 1
  | .ptr d => uptoBulk d + 1
  | .slice elems spare => uptoBulkAll elems + uptoBulkAll spare + 1
  | .agg parts => uptoBulkAll parts + 1
  | .iface _ d => uptoBulk d + 1
  | .map entries => uptoBulkEntries entries + 1
  | .held _ => 1
def uptoBulkAll {H : Type} : List (DataW H) → Nat
  | [] => 0
  | d :: r => uptoBulk d + uptoBulkAll r
def uptoBulkEntries {H : Type} : List (Lit × DataW H) → Nat
  | [] => 0
  | x :: r => uptoBulkEntry x + uptoBulkEntries r
def uptoBulkEntry {H : Type} : Lit × DataW H → Nat
  | (.string bytes, d) => bytes.length + uptoBulk d + 1
  | (_, d) => uptoBulk d + 1
 end
def uptoSmall : (H : Type) → List (DataW H) → Bool := fun _ ds => decide (uptoBulkAll ds ≤ 1048576)
def OpenSpec.upto (s : _root_.Go.ChangeSpec) : _root_.Go.OpenSpec := { _root_.Go.OpenSpec.ofChange s with cond := some uptoSmall }

/-- 'haruspexlaw17.HiddenTables', WHERE WHAT IT READS IS OF BULK AT MOST 1048576: true; the input reads as it did. -/
def hiddenTablesUptoRow : OpenClaim := { program := "ytiadakgfblkelaa", sum := "97df87c62b8fa21a0bb4e6bebe60af34f55984d069970947af7c2b1942927781", func := "haruspex/haruspexlaw17.HiddenTables", spec := "hiddenTables", unfollowed := true, recurses := true, plainKeys := false, apart := false, narrowed := true }
def HiddenTablesUptoSaid : Prop := hiddenTablesUptoRow.holds Try.pinned (OpenSpec.upto hiddenTablesSpec)

/-- 'haruspexlaw17.HiddenPredicts', WHERE WHAT IT READS IS OF BULK AT MOST 1048576: true; the input reads as it did. -/
def hiddenPredictsUptoRow : OpenClaim := { program := "ytiadakgfblkelaa", sum := "97df87c62b8fa21a0bb4e6bebe60af34f55984d069970947af7c2b1942927781", func := "haruspex/haruspexlaw17.HiddenPredicts", spec := "hiddenPredicts", unfollowed := true, recurses := true, plainKeys := false, apart := false, narrowed := true }
def HiddenPredictsUptoSaid : Prop := hiddenPredictsUptoRow.holds Try.pinned (OpenSpec.upto hiddenPredictsSpec)

/-- 'haruspexlaw17.HiddenMeets', WHERE WHAT IT READS IS OF BULK AT MOST 1048576: true; the input reads as it did. -/
def hiddenMeetsUptoRow : OpenClaim := { program := "ytiadakgfblkelaa", sum := "97df87c62b8fa21a0bb4e6bebe60af34f55984d069970947af7c2b1942927781", func := "haruspex/haruspexlaw17.HiddenMeets", spec := "hiddenMeets", unfollowed := true, recurses := true, plainKeys := false, apart := false, narrowed := true }
def HiddenMeetsUptoSaid : Prop := hiddenMeetsUptoRow.holds Try.pinned (OpenSpec.upto hiddenMeetsSpec)

/-- 'haruspexlaw17.HiddenKnows', WHERE WHAT IT READS IS OF BULK AT MOST 1048576: true; the input reads as it did. -/
def hiddenKnowsUptoRow : OpenClaim := { program := "ytiadakgfblkelaa", sum := "97df87c62b8fa21a0bb4e6bebe60af34f55984d069970947af7c2b1942927781", func := "haruspex/haruspexlaw17.HiddenKnows", spec := "hiddenKnows", unfollowed := true, recurses := true, plainKeys := false, apart := false, narrowed := true }
def HiddenKnowsUptoSaid : Prop := hiddenKnowsUptoRow.holds Try.pinned (OpenSpec.upto hiddenKnowsSpec)

/-- 'haruspexlaw17.HiddenEnds', WHERE WHAT IT READS IS OF BULK AT MOST 1048576: true; the input reads as it did. -/
def hiddenEndsUptoRow : OpenClaim := { program := "ytiadakgfblkelaa", sum := "97df87c62b8fa21a0bb4e6bebe60af34f55984d069970947af7c2b1942927781", func := "haruspex/haruspexlaw17.HiddenEnds", spec := "hiddenEnds", unfollowed := true, recurses := true, plainKeys := false, apart := false, narrowed := true }
def HiddenEndsUptoSaid : Prop := hiddenEndsUptoRow.holds Try.pinned (OpenSpec.upto hiddenEndsSpec)

/-- 'haruspexlaw17.HiddenNets', WHERE WHAT IT READS IS OF BULK AT MOST 1048576: true; the input reads as it did. -/
def hiddenNetsUptoRow : OpenClaim := { program := "ytiadakgfblkelaa", sum := "97df87c62b8fa21a0bb4e6bebe60af34f55984d069970947af7c2b1942927781", func := "haruspex/haruspexlaw17.HiddenNets", spec := "hiddenNets", unfollowed := true, recurses := true, plainKeys := false, apart := false, narrowed := true }
def HiddenNetsUptoSaid : Prop := hiddenNetsUptoRow.holds Try.pinned (OpenSpec.upto hiddenNetsSpec)

/-- 'haruspexlaw17.HiddenKnown', WHERE WHAT IT READS IS OF BULK AT MOST 1048576: true; the input reads as it did. -/
def hiddenKnownUptoRow : OpenClaim := { program := "ytiadakgfblkelaa", sum := "97df87c62b8fa21a0bb4e6bebe60af34f55984d069970947af7c2b1942927781", func := "haruspex/haruspexlaw17.HiddenKnown", spec := "hiddenKnown", unfollowed := true, recurses := true, plainKeys := false, apart := false, narrowed := true }
def HiddenKnownUptoSaid : Prop := hiddenKnownUptoRow.holds Try.pinned (OpenSpec.upto hiddenKnownSpec)

/-- 'haruspexlaw17.HiddenJoint', WHERE WHAT IT READS IS OF BULK AT MOST 1048576: true; the input reads as it did. -/
def hiddenJointUptoRow : OpenClaim := { program := "ytiadakgfblkelaa", sum := "97df87c62b8fa21a0bb4e6bebe60af34f55984d069970947af7c2b1942927781", func := "haruspex/haruspexlaw17.HiddenJoint", spec := "hiddenJoint", inPlace := ["slices.overlaps[int]"], unfollowed := true, recurses := true, plainKeys := false, apart := false, narrowed := true }
def HiddenJointUptoSaid : Prop := hiddenJointUptoRow.holds Try.pinned (OpenSpec.upto hiddenJointSpec)

end Rows
end Go.Proofs.Ytiadakgfblkelaa
