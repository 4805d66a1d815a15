/-
  No cell of these rows narrows 'for every input' (looked for: loops, veiled, ifaces, maps, wideKeys, modest, calm, conditions, laid).
  DERIVED. THE GIVEN ROWS OF THIS SEAT. 7 by the template 'for every input the law returns true; each argument reads behind the call as it read before'; 0 by the template 'total and deterministic' (their statements: YtapoljjoedcknaaTotals.lean).
  GIVEN WITH THE SEED: the statements are not yours to turn. If you find one false, say at which input.
  Laid BY PROGRAM, IN A SANDBOX (cutbox-rows.mjs): the forced cells as the released guide's own fill.sh prints them over the translation cafda50483d7cf86… (all of the seat's roots in one cut). By AI agents, Wed Nov 11 2026. No macro, syntax, notation, axiom, sorry.
-/
import Derived.Test.YtapoljjoedcknaaChecked
import GoSem.Claim
import GoSem.ClaimJoined
import GoSem.ClaimMapViews
import Derived.JoinedTies
import Derived.KernelRfl
namespace Go.Proofs.Ytapoljjoedcknaa
/- THE CELL 'sum', in the pinned program and in every row, IS THE sha256 OF THE DUMP (.gsa) THAT YtapoljjoedcknaaProg.lean LOADS. Nothing in Lean hashes anything: it is a label: what it is worth is what the hold of that sum in a sandbox is worth. -/
noncomputable def Try.pinned : Pinned := { name := "ytapoljjoedcknaa", sum := "cafda50483d7cf866d3040c2f1830b0caafe345213ebf7d3a2102eb921a7c0b6", checked := Try.checked }
namespace Rows
def none {H : Type} : Left H := { results := [], args := [] }

/-- 'haruspexlaw14.LiftChecks': WHATEVER THE INPUT: true; the input reads as it did. -/
def liftChecksSpec : ChangeSpec := { name := "liftChecks", fn := fun _ => fun
  | [d1, d2, d3] => { results := [.lit (.bool true)], args := [d1, d2, d3] }
  | _ => none }
def liftChecksRow : OpenClaim := { program := "ytapoljjoedcknaa", sum := "cafda50483d7cf866d3040c2f1830b0caafe345213ebf7d3a2102eb921a7c0b6", func := "haruspex/haruspexlaw14.LiftChecks", spec := "liftChecks", unfollowed := true, recurses := true, plainKeys := false, apart := false }
def LiftChecksSaid : Prop := liftChecksRow.holds Try.pinned (OpenSpec.ofChange liftChecksSpec)

/-- ITS FALSE NEIGHBOUR: 'it returns false'. Refute it at one input. -/
def liftChecksWrong : ChangeSpec := { name := "liftChecks", fn := fun _ => fun
  | [d1, d2, d3] => { results := [.lit (.bool false)], args := [d1, d2, d3] }
  | _ => none }
def LiftChecksWrongFalsely : Prop := liftChecksRow.holds Try.pinned (OpenSpec.ofChange liftChecksWrong)

/-- 'haruspexlaw14.LiftCounts': WHATEVER THE INPUT: true; the input reads as it did. -/
def liftCountsSpec : ChangeSpec := { name := "liftCounts", fn := fun _ => fun
  | [d1, d2, d3, d4] => { results := [.lit (.bool true)], args := [d1, d2, d3, d4] }
  | _ => none }
def liftCountsRow : OpenClaim := { program := "ytapoljjoedcknaa", sum := "cafda50483d7cf866d3040c2f1830b0caafe345213ebf7d3a2102eb921a7c0b6", func := "haruspex/haruspexlaw14.LiftCounts", spec := "liftCounts", unfollowed := true, recurses := true, plainKeys := false, apart := false }
def LiftCountsSaid : Prop := liftCountsRow.holds Try.pinned (OpenSpec.ofChange liftCountsSpec)

/-- ITS FALSE NEIGHBOUR: 'it returns false'. Refute it at one input. -/
def liftCountsWrong : ChangeSpec := { name := "liftCounts", fn := fun _ => fun
  | [d1, d2, d3, d4] => { results := [.lit (.bool false)], args := [d1, d2, d3, d4] }
  | _ => none }
def LiftCountsWrongFalsely : Prop := liftCountsRow.holds Try.pinned (OpenSpec.ofChange liftCountsWrong)

/-- 'haruspexlaw14.LiftNext': WHATEVER THE INPUT: true; the input reads as it did. -/
def liftNextSpec : ChangeSpec := { name := "liftNext", fn := fun _ => fun
  | [d1, d2, d3, d4] => { results := [.lit (.bool true)], args := [d1, d2, d3, d4] }
  | _ => none }
def liftNextRow : OpenClaim := { program := "ytapoljjoedcknaa", sum := "cafda50483d7cf866d3040c2f1830b0caafe345213ebf7d3a2102eb921a7c0b6", func := "haruspex/haruspexlaw14.LiftNext", spec := "liftNext", unfollowed := true, recurses := true, plainKeys := false, apart := false }
def LiftNextSaid : Prop := liftNextRow.holds Try.pinned (OpenSpec.ofChange liftNextSpec)

/-- ITS FALSE NEIGHBOUR: 'it returns false'. Refute it at one input. -/
def liftNextWrong : ChangeSpec := { name := "liftNext", fn := fun _ => fun
  | [d1, d2, d3, d4] => { results := [.lit (.bool false)], args := [d1, d2, d3, d4] }
  | _ => none }
def LiftNextWrongFalsely : Prop := liftNextRow.holds Try.pinned (OpenSpec.ofChange liftNextWrong)

/-- 'haruspexlaw14.LiftMeans': WHATEVER THE INPUT: true; the input reads as it did. -/
def liftMeansSpec : ChangeSpec := { name := "liftMeans", fn := fun _ => fun
  | [d1, d2] => { results := [.lit (.bool true)], args := [d1, d2] }
  | _ => none }
def liftMeansRow : OpenClaim := { program := "ytapoljjoedcknaa", sum := "cafda50483d7cf866d3040c2f1830b0caafe345213ebf7d3a2102eb921a7c0b6", func := "haruspex/haruspexlaw14.LiftMeans", spec := "liftMeans", unfollowed := true, recurses := true, plainKeys := false, apart := false }
def LiftMeansSaid : Prop := liftMeansRow.holds Try.pinned (OpenSpec.ofChange liftMeansSpec)

/-- ITS FALSE NEIGHBOUR: 'it returns false'. Refute it at one input. -/
def liftMeansWrong : ChangeSpec := { name := "liftMeans", fn := fun _ => fun
  | [d1, d2] => { results := [.lit (.bool false)], args := [d1, d2] }
  | _ => none }
def LiftMeansWrongFalsely : Prop := liftMeansRow.holds Try.pinned (OpenSpec.ofChange liftMeansWrong)

/-- 'haruspexlaw14.LiftEqual': WHATEVER THE INPUT: true; the input reads as it did. -/
def liftEqualSpec : ChangeSpec := { name := "liftEqual", fn := fun _ => fun
  | [d1, d2] => { results := [.lit (.bool true)], args := [d1, d2] }
  | _ => none }
def liftEqualRow : OpenClaim := { program := "ytapoljjoedcknaa", sum := "cafda50483d7cf866d3040c2f1830b0caafe345213ebf7d3a2102eb921a7c0b6", func := "haruspex/haruspexlaw14.LiftEqual", spec := "liftEqual", unfollowed := true, recurses := true, plainKeys := false, apart := false }
def LiftEqualSaid : Prop := liftEqualRow.holds Try.pinned (OpenSpec.ofChange liftEqualSpec)

/-- ITS FALSE NEIGHBOUR: 'it returns false'. Refute it at one input. -/
def liftEqualWrong : ChangeSpec := { name := "liftEqual", fn := fun _ => fun
  | [d1, d2] => { results := [.lit (.bool false)], args := [d1, d2] }
  | _ => none }
def LiftEqualWrongFalsely : Prop := liftEqualRow.holds Try.pinned (OpenSpec.ofChange liftEqualWrong)

/-- 'haruspexlaw14.LiftKnown': WHATEVER THE INPUT: true; the input reads as it did. -/
def liftKnownSpec : ChangeSpec := { name := "liftKnown", fn := fun _ => fun
  | [] => { results := [.lit (.bool true)], args := [] }
  | _ => none }
def liftKnownRow : OpenClaim := { program := "ytapoljjoedcknaa", sum := "cafda50483d7cf866d3040c2f1830b0caafe345213ebf7d3a2102eb921a7c0b6", func := "haruspex/haruspexlaw14.LiftKnown", spec := "liftKnown", unfollowed := true, recurses := true, plainKeys := false, apart := false }
def LiftKnownSaid : Prop := liftKnownRow.holds Try.pinned (OpenSpec.ofChange liftKnownSpec)

/-- ITS FALSE NEIGHBOUR: 'it returns false'. Refute it at one input. -/
def liftKnownWrong : ChangeSpec := { name := "liftKnown", fn := fun _ => fun
  | [] => { results := [.lit (.bool false)], args := [] }
  | _ => none }
def LiftKnownWrongFalsely : Prop := liftKnownRow.holds Try.pinned (OpenSpec.ofChange liftKnownWrong)

/-- 'haruspexlaw14.LiftGround': WHATEVER THE INPUT: true; the input reads as it did. -/
def liftGroundSpec : ChangeSpec := { name := "liftGround", fn := fun _ => fun
  | [d1, d2, d3] => { results := [.lit (.bool true)], args := [d1, d2, d3] }
  | _ => none }
def liftGroundRow : OpenClaim := { program := "ytapoljjoedcknaa", sum := "cafda50483d7cf866d3040c2f1830b0caafe345213ebf7d3a2102eb921a7c0b6", func := "haruspex/haruspexlaw14.LiftGround", spec := "liftGround", inPlace := ["slices.overlaps[int]"], unfollowed := true, recurses := true, plainKeys := false, apart := false }
def LiftGroundSaid : Prop := liftGroundRow.holds Try.pinned (OpenSpec.ofChange liftGroundSpec)

/-- ITS FALSE NEIGHBOUR: 'it returns false'. Refute it at one input. -/
def liftGroundWrong : ChangeSpec := { name := "liftGround", fn := fun _ => fun
  | [d1, d2, d3] => { results := [.lit (.bool false)], args := [d1, d2, d3] }
  | _ => none }
def LiftGroundWrongFalsely : Prop := liftGroundRow.holds Try.pinned (OpenSpec.ofChange liftGroundWrong)

/- THE SECOND FORM. 'bulk': how many values and letters a reading holds, each counted each time it is reached (what is shared counts as often as it is met; a slice's spare places count too). A statement '..UptoSaid' is the law's where the arguments, and the package variables that the reading takes, are together of bulk at most 1048576: NARROWER than '..Said'. Prove '..Said' where nothing that the law and all that it calls make is longer than what came in: it says more and counts as full. Else prove '..UptoSaid'. A law counts once. -/
mutual
def uptoBulk {H : Type} : DataW H → Nat
  | .lit (.string bytes) => bytes.length + 1
  | .lit _ => 1
  | .nil => 1
  | .ptr d => uptoBulk d + 1
  | .slice elems spare => uptoBulkAll elems + uptoBulkAll spare + 1
  | .agg parts => uptoBulkAll parts + 1
  | .iface _ d => uptoBulk d + 1
  | .map entries => uptoBulkEntries entries + 1
  | .held _ => 1
def uptoBulkAll {H : Type} : List (DataW H) → Nat
  | [] => 0
  | d :: r => uptoBulk d + uptoBulkAll r
def uptoBulkEntries {H : Type} : List (Lit × DataW H) → Nat
  | [] => 0
  | x :: r => uptoBulkEntry x + uptoBulkEntries r
def uptoBulkEntry {H : Type} : Lit × DataW H → Nat
  | (.string bytes, d) => bytes.length + uptoBulk d + 1
  | (_, d) => uptoBulk d + 1
 end
def uptoSmall : (H : Type) → List (DataW H) → Bool := fun _ ds => decide (uptoBulkAll ds ≤ 1048576)
def OpenSpec.upto (s : _root_.Go.ChangeSpec) : _root_.Go.OpenSpec := { _root_.Go.OpenSpec.ofChange s with cond := some uptoSmall }

/-- 'haruspexlaw14.LiftChecks', WHERE WHAT IT READS IS OF BULK AT MOST 1048576: true; the input reads as it did. -/
def liftChecksUptoRow : OpenClaim := { program := "ytapoljjoedcknaa", sum := "cafda50483d7cf866d3040c2f1830b0caafe345213ebf7d3a2102eb921a7c0b6", func := "haruspex/haruspexlaw14.LiftChecks", spec := "liftChecks", unfollowed := true, recurses := true, plainKeys := false, apart := false, narrowed := true }
def LiftChecksUptoSaid : Prop := liftChecksUptoRow.holds Try.pinned (OpenSpec.upto liftChecksSpec)

/-- 'haruspexlaw14.LiftCounts', WHERE WHAT IT READS IS OF BULK AT MOST 1048576: true; the input reads as it did. -/
def liftCountsUptoRow : OpenClaim := { program := "ytapoljjoedcknaa", sum := "cafda50483d7cf866d3040c2f1830b0caafe345213ebf7d3a2102eb921a7c0b6", func := "haruspex/haruspexlaw14.LiftCounts", spec := "liftCounts", unfollowed := true, recurses := true, plainKeys := false, apart := false, narrowed := true }
def LiftCountsUptoSaid : Prop := liftCountsUptoRow.holds Try.pinned (OpenSpec.upto liftCountsSpec)

/-- 'haruspexlaw14.LiftNext', WHERE WHAT IT READS IS OF BULK AT MOST 1048576: true; the input reads as it did. -/
def liftNextUptoRow : OpenClaim := { program := "ytapoljjoedcknaa", sum := "cafda50483d7cf866d3040c2f1830b0caafe345213ebf7d3a2102eb921a7c0b6", func := "haruspex/haruspexlaw14.LiftNext", spec := "liftNext", unfollowed := true, recurses := true, plainKeys := false, apart := false, narrowed := true }
def LiftNextUptoSaid : Prop := liftNextUptoRow.holds Try.pinned (OpenSpec.upto liftNextSpec)

/-- 'haruspexlaw14.LiftMeans', WHERE WHAT IT READS IS OF BULK AT MOST 1048576: true; the input reads as it did. -/
def liftMeansUptoRow : OpenClaim := { program := "ytapoljjoedcknaa", sum := "cafda50483d7cf866d3040c2f1830b0caafe345213ebf7d3a2102eb921a7c0b6", func := "haruspex/haruspexlaw14.LiftMeans", spec := "liftMeans", unfollowed := true, recurses := true, plainKeys := false, apart := false, narrowed := true }
def LiftMeansUptoSaid : Prop := liftMeansUptoRow.holds Try.pinned (OpenSpec.upto liftMeansSpec)

/-- 'haruspexlaw14.LiftEqual', WHERE WHAT IT READS IS OF BULK AT MOST 1048576: true; the input reads as it did. -/
def liftEqualUptoRow : OpenClaim := { program := "ytapoljjoedcknaa", sum := "cafda50483d7cf866d3040c2f1830b0caafe345213ebf7d3a2102eb921a7c0b6", func := "haruspex/haruspexlaw14.LiftEqual", spec := "liftEqual", unfollowed := true, recurses := true, plainKeys := false, apart := false, narrowed := true }
def LiftEqualUptoSaid : Prop := liftEqualUptoRow.holds Try.pinned (OpenSpec.upto liftEqualSpec)

/-- 'haruspexlaw14.LiftKnown', WHERE WHAT IT READS IS OF BULK AT MOST 1048576: true; the input reads as it did. -/
def liftKnownUptoRow : OpenClaim := { program := "ytapoljjoedcknaa", sum := "cafda50483d7cf866d3040c2f1830b0caafe345213ebf7d3a2102eb921a7c0b6", func := "haruspex/haruspexlaw14.LiftKnown", spec := "liftKnown", unfollowed := true, recurses := true, plainKeys := false, apart := false, narrowed := true }
def LiftKnownUptoSaid : Prop := liftKnownUptoRow.holds Try.pinned (OpenSpec.upto liftKnownSpec)

/-- 'haruspexlaw14.LiftGround', WHERE WHAT IT READS IS OF BULK AT MOST 1048576: true; the input reads as it did. -/
def liftGroundUptoRow : OpenClaim := { program := "ytapoljjoedcknaa", sum := "cafda50483d7cf866d3040c2f1830b0caafe345213ebf7d3a2102eb921a7c0b6", func := "haruspex/haruspexlaw14.LiftGround", spec := "liftGround", inPlace := ["slices.overlaps[int]"], unfollowed := true, recurses := true, plainKeys := false, apart := false, narrowed := true }
def LiftGroundUptoSaid : Prop := liftGroundUptoRow.holds Try.pinned (OpenSpec.upto liftGroundSpec)

end Rows
end Go.Proofs.Ytapoljjoedcknaa
