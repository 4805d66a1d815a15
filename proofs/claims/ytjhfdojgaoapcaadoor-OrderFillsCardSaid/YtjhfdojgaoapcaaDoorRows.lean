/-
  NARROWER THAN 'FOR EVERY INPUT', by the rows' own cells (each row's printed sentence says how): OrderWidths: laid · OrderGreedy: laid · OrderBests: laid · OrderBounds: laid · OrderChords: laid · OrderKnown: laid · OrderFills: laid · OrderLeast: laid.
  DERIVED. THE GIVEN ROWS OF THIS SEAT. 8 by the template 'for every input the law returns true; each argument reads behind the call as it read before'; 0 by the template 'total and deterministic' (their statements: YtjhfdojgaoapcaaDoorTotals.lean).
  GIVEN WITH THE SEED: the statements are not yours to turn. If you find one false, say at which input.
  Laid BY PROGRAM, IN A SANDBOX (cutbox-rows.mjs): the forced cells as the released guide's own fill.sh prints them over the translation 68c6d906dd886973… (all of the seat's roots in one cut). By AI agents, Wed Nov 11 2026. No macro, syntax, notation, axiom, sorry.
-/
import Derived.Test.YtjhfdojgaoapcaaDoorChecked
import GoSem.Claim
import GoSem.ClaimJoined
import GoSem.ClaimMapViews
import Derived.JoinedTies
import Derived.KernelRfl
namespace Go.Proofs.YtjhfdojgaoapcaaDoor
/- THE CELL 'sum', in the pinned program and in every row, IS THE sha256 OF THE DUMP (.gsa) THAT YtjhfdojgaoapcaaDoorProg.lean LOADS. Nothing in Lean hashes anything: it is a label: what it is worth is what the hold of that sum in a sandbox is worth. -/
noncomputable def Tryd.pinned : Pinned := { name := "ytjhfdojgaoapcaadoor", sum := "68c6d906dd8869737ee8c1f44bb7b32899351a5434aede21fb802db22a84422b", checked := Tryd.checked }
namespace Rows
def none {H : Type} : Left H := { results := [], args := [] }

/- WHAT THE LISTED PACKAGE-LEVEL VARIABLES READ AS WHEN THE CALL BEGINS. Each datum BY PROGRAM (the guide's laid-datum.mjs) off the statement by which the dump's own 'gosem.cut.vars' lays the variable. In a bare row this is a premise. The card (YtjhfdojgaoapcaaDoorCards.lean) ties it to the program's text. -/
def laid_math_bits_deBruijn32tab {H : Type} : DataW H := .agg [.lit (.int .u8 0), .lit (.int .u8 1), .lit (.int .u8 28), .lit (.int .u8 2), .lit (.int .u8 29), .lit (.int .u8 14), .lit (.int .u8 24), .lit (.int .u8 3), .lit (.int .u8 30), .lit (.int .u8 22), .lit (.int .u8 20), .lit (.int .u8 15), .lit (.int .u8 25), .lit (.int .u8 17), .lit (.int .u8 4), .lit (.int .u8 8), .lit (.int .u8 31), .lit (.int .u8 27), .lit (.int .u8 13), .lit (.int .u8 23), .lit (.int .u8 21), .lit (.int .u8 19), .lit (.int .u8 16), .lit (.int .u8 7), .lit (.int .u8 26), .lit (.int .u8 12), .lit (.int .u8 18), .lit (.int .u8 6), .lit (.int .u8 11), .lit (.int .u8 5), .lit (.int .u8 10), .lit (.int .u8 9)]
def laid_math_bits_deBruijn64tab {H : Type} : DataW H := .agg [.lit (.int .u8 0), .lit (.int .u8 1), .lit (.int .u8 56), .lit (.int .u8 2), .lit (.int .u8 57), .lit (.int .u8 49), .lit (.int .u8 28), .lit (.int .u8 3), .lit (.int .u8 61), .lit (.int .u8 58), .lit (.int .u8 42), .lit (.int .u8 50), .lit (.int .u8 38), .lit (.int .u8 29), .lit (.int .u8 17), .lit (.int .u8 4), .lit (.int .u8 62), .lit (.int .u8 47), .lit (.int .u8 59), .lit (.int .u8 36), .lit (.int .u8 45), .lit (.int .u8 43), .lit (.int .u8 51), .lit (.int .u8 22), .lit (.int .u8 53), .lit (.int .u8 39), .lit (.int .u8 33), .lit (.int .u8 30), .lit (.int .u8 24), .lit (.int .u8 18), .lit (.int .u8 12), .lit (.int .u8 5), .lit (.int .u8 63), .lit (.int .u8 55), .lit (.int .u8 48), .lit (.int .u8 27), .lit (.int .u8 60), .lit (.int .u8 41), .lit (.int .u8 37), .lit (.int .u8 16), .lit (.int .u8 46), .lit (.int .u8 35), .lit (.int .u8 44), .lit (.int .u8 21), .lit (.int .u8 52), .lit (.int .u8 32), .lit (.int .u8 23), .lit (.int .u8 11), .lit (.int .u8 54), .lit (.int .u8 26), .lit (.int .u8 40), .lit (.int .u8 15), .lit (.int .u8 34), .lit (.int .u8 20), .lit (.int .u8 31), .lit (.int .u8 10), .lit (.int .u8 25), .lit (.int .u8 14), .lit (.int .u8 19), .lit (.int .u8 9), .lit (.int .u8 13), .lit (.int .u8 8), .lit (.int .u8 7), .lit (.int .u8 6)]

/-- 'haruspexlaw08.OrderWidths': WHATEVER THE INPUT: true; the input reads as it did. -/
def orderWidthsSpec : ChangeSpec := { name := "orderWidths", fn := fun _ => fun
  | [d1, d2, d3] => { results := [.lit (.bool true)], args := [d1, d2, d3] }
  | _ => none }
def orderWidthsRow : OpenClaim := { program := "ytjhfdojgaoapcaadoor", sum := "68c6d906dd8869737ee8c1f44bb7b32899351a5434aede21fb802db22a84422b", func := "haruspex/haruspexlaw08.OrderWidths", spec := "orderWidths", unfollowed := true, recurses := true, named := ["math/bits.deBruijn32tab", "math/bits.deBruijn64tab"], apart := false, laid := [("math/bits.deBruijn32tab", laid_math_bits_deBruijn32tab), ("math/bits.deBruijn64tab", laid_math_bits_deBruijn64tab)] }
def OrderWidthsSaid : Prop := orderWidthsRow.holds Tryd.pinned (OpenSpec.ofChange orderWidthsSpec)

/-- ITS FALSE NEIGHBOUR: 'it returns false'. Refute it at one input. -/
def orderWidthsWrong : ChangeSpec := { name := "orderWidths", fn := fun _ => fun
  | [d1, d2, d3] => { results := [.lit (.bool false)], args := [d1, d2, d3] }
  | _ => none }
def OrderWidthsWrongFalsely : Prop := orderWidthsRow.holds Tryd.pinned (OpenSpec.ofChange orderWidthsWrong)

/-- 'haruspexlaw08.OrderGreedy': WHATEVER THE INPUT: true; the input reads as it did. -/
def orderGreedySpec : ChangeSpec := { name := "orderGreedy", fn := fun _ => fun
  | [d1, d2] => { results := [.lit (.bool true)], args := [d1, d2] }
  | _ => none }
def orderGreedyRow : OpenClaim := { program := "ytjhfdojgaoapcaadoor", sum := "68c6d906dd8869737ee8c1f44bb7b32899351a5434aede21fb802db22a84422b", func := "haruspex/haruspexlaw08.OrderGreedy", spec := "orderGreedy", unfollowed := true, recurses := true, named := ["math/bits.deBruijn32tab", "math/bits.deBruijn64tab"], apart := false, laid := [("math/bits.deBruijn32tab", laid_math_bits_deBruijn32tab), ("math/bits.deBruijn64tab", laid_math_bits_deBruijn64tab)] }
def OrderGreedySaid : Prop := orderGreedyRow.holds Tryd.pinned (OpenSpec.ofChange orderGreedySpec)

/-- ITS FALSE NEIGHBOUR: 'it returns false'. Refute it at one input. -/
def orderGreedyWrong : ChangeSpec := { name := "orderGreedy", fn := fun _ => fun
  | [d1, d2] => { results := [.lit (.bool false)], args := [d1, d2] }
  | _ => none }
def OrderGreedyWrongFalsely : Prop := orderGreedyRow.holds Tryd.pinned (OpenSpec.ofChange orderGreedyWrong)

/-- 'haruspexlaw08.OrderBests': WHATEVER THE INPUT: true; the input reads as it did. -/
def orderBestsSpec : ChangeSpec := { name := "orderBests", fn := fun _ => fun
  | [d1, d2] => { results := [.lit (.bool true)], args := [d1, d2] }
  | _ => none }
def orderBestsRow : OpenClaim := { program := "ytjhfdojgaoapcaadoor", sum := "68c6d906dd8869737ee8c1f44bb7b32899351a5434aede21fb802db22a84422b", func := "haruspex/haruspexlaw08.OrderBests", spec := "orderBests", unfollowed := true, recurses := true, named := ["math/bits.deBruijn32tab", "math/bits.deBruijn64tab"], apart := false, laid := [("math/bits.deBruijn32tab", laid_math_bits_deBruijn32tab), ("math/bits.deBruijn64tab", laid_math_bits_deBruijn64tab)] }
def OrderBestsSaid : Prop := orderBestsRow.holds Tryd.pinned (OpenSpec.ofChange orderBestsSpec)

/-- ITS FALSE NEIGHBOUR: 'it returns false'. Refute it at one input. -/
def orderBestsWrong : ChangeSpec := { name := "orderBests", fn := fun _ => fun
  | [d1, d2] => { results := [.lit (.bool false)], args := [d1, d2] }
  | _ => none }
def OrderBestsWrongFalsely : Prop := orderBestsRow.holds Tryd.pinned (OpenSpec.ofChange orderBestsWrong)

/-- 'haruspexlaw08.OrderBounds': WHATEVER THE INPUT: true; the input reads as it did. -/
def orderBoundsSpec : ChangeSpec := { name := "orderBounds", fn := fun _ => fun
  | [d] => { results := [.lit (.bool true)], args := [d] }
  | _ => none }
def orderBoundsRow : OpenClaim := { program := "ytjhfdojgaoapcaadoor", sum := "68c6d906dd8869737ee8c1f44bb7b32899351a5434aede21fb802db22a84422b", func := "haruspex/haruspexlaw08.OrderBounds", spec := "orderBounds", unfollowed := true, recurses := true, named := ["math/bits.deBruijn32tab", "math/bits.deBruijn64tab"], apart := false, laid := [("math/bits.deBruijn32tab", laid_math_bits_deBruijn32tab), ("math/bits.deBruijn64tab", laid_math_bits_deBruijn64tab)] }
def OrderBoundsSaid : Prop := orderBoundsRow.holds Tryd.pinned (OpenSpec.ofChange orderBoundsSpec)

/-- ITS FALSE NEIGHBOUR: 'it returns false'. Refute it at one input. -/
def orderBoundsWrong : ChangeSpec := { name := "orderBounds", fn := fun _ => fun
  | [d] => { results := [.lit (.bool false)], args := [d] }
  | _ => none }
def OrderBoundsWrongFalsely : Prop := orderBoundsRow.holds Tryd.pinned (OpenSpec.ofChange orderBoundsWrong)

/-- 'haruspexlaw08.OrderChords': WHATEVER THE INPUT: true; the input reads as it did. -/
def orderChordsSpec : ChangeSpec := { name := "orderChords", fn := fun _ => fun
  | [d] => { results := [.lit (.bool true)], args := [d] }
  | _ => none }
def orderChordsRow : OpenClaim := { program := "ytjhfdojgaoapcaadoor", sum := "68c6d906dd8869737ee8c1f44bb7b32899351a5434aede21fb802db22a84422b", func := "haruspex/haruspexlaw08.OrderChords", spec := "orderChords", unfollowed := true, recurses := true, named := ["math/bits.deBruijn32tab", "math/bits.deBruijn64tab"], apart := false, laid := [("math/bits.deBruijn32tab", laid_math_bits_deBruijn32tab), ("math/bits.deBruijn64tab", laid_math_bits_deBruijn64tab)] }
def OrderChordsSaid : Prop := orderChordsRow.holds Tryd.pinned (OpenSpec.ofChange orderChordsSpec)

/-- ITS FALSE NEIGHBOUR: 'it returns false'. Refute it at one input. -/
def orderChordsWrong : ChangeSpec := { name := "orderChords", fn := fun _ => fun
  | [d] => { results := [.lit (.bool false)], args := [d] }
  | _ => none }
def OrderChordsWrongFalsely : Prop := orderChordsRow.holds Tryd.pinned (OpenSpec.ofChange orderChordsWrong)

/-- 'haruspexlaw08.OrderKnown': WHATEVER THE INPUT: true; the input reads as it did. -/
def orderKnownSpec : ChangeSpec := { name := "orderKnown", fn := fun _ => fun
  | [] => { results := [.lit (.bool true)], args := [] }
  | _ => none }
def orderKnownRow : OpenClaim := { program := "ytjhfdojgaoapcaadoor", sum := "68c6d906dd8869737ee8c1f44bb7b32899351a5434aede21fb802db22a84422b", func := "haruspex/haruspexlaw08.OrderKnown", spec := "orderKnown", unfollowed := true, recurses := true, named := ["math/bits.deBruijn32tab", "math/bits.deBruijn64tab"], apart := false, laid := [("math/bits.deBruijn32tab", laid_math_bits_deBruijn32tab), ("math/bits.deBruijn64tab", laid_math_bits_deBruijn64tab)] }
def OrderKnownSaid : Prop := orderKnownRow.holds Tryd.pinned (OpenSpec.ofChange orderKnownSpec)

/-- ITS FALSE NEIGHBOUR: 'it returns false'. Refute it at one input. -/
def orderKnownWrong : ChangeSpec := { name := "orderKnown", fn := fun _ => fun
  | [] => { results := [.lit (.bool false)], args := [] }
  | _ => none }
def OrderKnownWrongFalsely : Prop := orderKnownRow.holds Tryd.pinned (OpenSpec.ofChange orderKnownWrong)

/-- 'haruspexlaw08.OrderFills': WHATEVER THE INPUT: true; the input reads as it did. -/
def orderFillsSpec : ChangeSpec := { name := "orderFills", fn := fun _ => fun
  | [d] => { results := [.lit (.bool true)], args := [d] }
  | _ => none }
def orderFillsRow : OpenClaim := { program := "ytjhfdojgaoapcaadoor", sum := "68c6d906dd8869737ee8c1f44bb7b32899351a5434aede21fb802db22a84422b", func := "haruspex/haruspexlaw08.OrderFills", spec := "orderFills", unfollowed := true, recurses := true, named := ["math/bits.deBruijn32tab", "math/bits.deBruijn64tab"], apart := false, laid := [("math/bits.deBruijn32tab", laid_math_bits_deBruijn32tab), ("math/bits.deBruijn64tab", laid_math_bits_deBruijn64tab)] }
def OrderFillsSaid : Prop := orderFillsRow.holds Tryd.pinned (OpenSpec.ofChange orderFillsSpec)

/-- ITS FALSE NEIGHBOUR: 'it returns false'. Refute it at one input. -/
def orderFillsWrong : ChangeSpec := { name := "orderFills", fn := fun _ => fun
  | [d] => { results := [.lit (.bool false)], args := [d] }
  | _ => none }
def OrderFillsWrongFalsely : Prop := orderFillsRow.holds Tryd.pinned (OpenSpec.ofChange orderFillsWrong)

/-- 'haruspexlaw08.OrderLeast': WHATEVER THE INPUT: true; the input reads as it did. -/
def orderLeastSpec : ChangeSpec := { name := "orderLeast", fn := fun _ => fun
  | [d] => { results := [.lit (.bool true)], args := [d] }
  | _ => none }
def orderLeastRow : OpenClaim := { program := "ytjhfdojgaoapcaadoor", sum := "68c6d906dd8869737ee8c1f44bb7b32899351a5434aede21fb802db22a84422b", func := "haruspex/haruspexlaw08.OrderLeast", spec := "orderLeast", unfollowed := true, recurses := true, named := ["math/bits.deBruijn32tab", "math/bits.deBruijn64tab"], apart := false, laid := [("math/bits.deBruijn32tab", laid_math_bits_deBruijn32tab), ("math/bits.deBruijn64tab", laid_math_bits_deBruijn64tab)] }
def OrderLeastSaid : Prop := orderLeastRow.holds Tryd.pinned (OpenSpec.ofChange orderLeastSpec)

/-- ITS FALSE NEIGHBOUR: 'it returns false'. Refute it at one input. -/
def orderLeastWrong : ChangeSpec := { name := "orderLeast", fn := fun _ => fun
  | [d] => { results := [.lit (.bool false)], args := [d] }
  | _ => none }
def OrderLeastWrongFalsely : Prop := orderLeastRow.holds Tryd.pinned (OpenSpec.ofChange orderLeastWrong)

/- THE SECOND FORM. 'bulk': how many values and letters a reading holds, each counted each time it is reached (what is shared counts as often as it is met; a slice's spare places count too). A statement '..UptoSaid' is the law's where the arguments, and the package variables that the reading takes, are together of bulk at most 1048576: NARROWER than '..Said'. Prove '..Said' where nothing that the law and all that it calls make is longer than what came in: it says more and counts as full. Else prove '..UptoSaid'. A law counts once. -/
mutual
def uptoBulk {H : Type} : DataW H → Nat
  | .lit (.string bytes) => bytes.length + 1
  | .lit _ => 1
  | .nil => 1
  | .ptr d => uptoBulk d + 1
  | .slice elems spare => uptoBulkAll elems + uptoBulkAll spare + 1
  | .agg parts => uptoBulkAll parts + 1
  | .iface _ d => uptoBulk d + 1
  | .map entries => uptoBulkEntries entries + 1
  | .held _ => 1
def uptoBulkAll {H : Type} : List (DataW H) → Nat
  | [] => 0
  | d :: r => uptoBulk d + uptoBulkAll r
def uptoBulkEntries {H : Type} : List (Lit × DataW H) → Nat
  | [] => 0
  | x :: r => uptoBulkEntry x + uptoBulkEntries r
def uptoBulkEntry {H : Type} : Lit × DataW H → Nat
  | (.string bytes, d) => bytes.length + uptoBulk d + 1
  | (_, d) => uptoBulk d + 1
 end
def uptoSmall : (H : Type) → List (DataW H) → Bool := fun _ ds => decide (uptoBulkAll ds ≤ 1048576)
def OpenSpec.upto (s : _root_.Go.ChangeSpec) : _root_.Go.OpenSpec := { _root_.Go.OpenSpec.ofChange s with cond := some uptoSmall }

/-- 'haruspexlaw08.OrderWidths', WHERE WHAT IT READS IS OF BULK AT MOST 1048576: true; the input reads as it did. -/
def orderWidthsUptoRow : OpenClaim := { program := "ytjhfdojgaoapcaadoor", sum := "68c6d906dd8869737ee8c1f44bb7b32899351a5434aede21fb802db22a84422b", func := "haruspex/haruspexlaw08.OrderWidths", spec := "orderWidths", unfollowed := true, recurses := true, named := ["math/bits.deBruijn32tab", "math/bits.deBruijn64tab"], apart := false, laid := [("math/bits.deBruijn32tab", laid_math_bits_deBruijn32tab), ("math/bits.deBruijn64tab", laid_math_bits_deBruijn64tab)], narrowed := true }
def OrderWidthsUptoSaid : Prop := orderWidthsUptoRow.holds Tryd.pinned (OpenSpec.upto orderWidthsSpec)

/-- 'haruspexlaw08.OrderGreedy', WHERE WHAT IT READS IS OF BULK AT MOST 1048576: true; the input reads as it did. -/
def orderGreedyUptoRow : OpenClaim := { program := "ytjhfdojgaoapcaadoor", sum := "68c6d906dd8869737ee8c1f44bb7b32899351a5434aede21fb802db22a84422b", func := "haruspex/haruspexlaw08.OrderGreedy", spec := "orderGreedy", unfollowed := true, recurses := true, named := ["math/bits.deBruijn32tab", "math/bits.deBruijn64tab"], apart := false, laid := [("math/bits.deBruijn32tab", laid_math_bits_deBruijn32tab), ("math/bits.deBruijn64tab", laid_math_bits_deBruijn64tab)], narrowed := true }
def OrderGreedyUptoSaid : Prop := orderGreedyUptoRow.holds Tryd.pinned (OpenSpec.upto orderGreedySpec)

/-- 'haruspexlaw08.OrderBests', WHERE WHAT IT READS IS OF BULK AT MOST 1048576: true; the input reads as it did. -/
def orderBestsUptoRow : OpenClaim := { program := "ytjhfdojgaoapcaadoor", sum := "68c6d906dd8869737ee8c1f44bb7b32899351a5434aede21fb802db22a84422b", func := "haruspex/haruspexlaw08.OrderBests", spec := "orderBests", unfollowed := true, recurses := true, named := ["math/bits.deBruijn32tab", "math/bits.deBruijn64tab"], apart := false, laid := [("math/bits.deBruijn32tab", laid_math_bits_deBruijn32tab), ("math/bits.deBruijn64tab", laid_math_bits_deBruijn64tab)], narrowed := true }
def OrderBestsUptoSaid : Prop := orderBestsUptoRow.holds Tryd.pinned (OpenSpec.upto orderBestsSpec)

/-- 'haruspexlaw08.OrderBounds', WHERE WHAT IT READS IS OF BULK AT MOST 1048576: true; the input reads as it did. -/
def orderBoundsUptoRow : OpenClaim := { program := "ytjhfdojgaoapcaadoor", sum := "68c6d906dd8869737ee8c1f44bb7b32899351a5434aede21fb802db22a84422b", func := "haruspex/haruspexlaw08.OrderBounds", spec := "orderBounds", unfollowed := true, recurses := true, named := ["math/bits.deBruijn32tab", "math/bits.deBruijn64tab"], apart := false, laid := [("math/bits.deBruijn32tab", laid_math_bits_deBruijn32tab), ("math/bits.deBruijn64tab", laid_math_bits_deBruijn64tab)], narrowed := true }
def OrderBoundsUptoSaid : Prop := orderBoundsUptoRow.holds Tryd.pinned (OpenSpec.upto orderBoundsSpec)

/-- 'haruspexlaw08.OrderChords', WHERE WHAT IT READS IS OF BULK AT MOST 1048576: true; the input reads as it did. -/
def orderChordsUptoRow : OpenClaim := { program := "ytjhfdojgaoapcaadoor", sum := "68c6d906dd8869737ee8c1f44bb7b32899351a5434aede21fb802db22a84422b", func := "haruspex/haruspexlaw08.OrderChords", spec := "orderChords", unfollowed := true, recurses := true, named := ["math/bits.deBruijn32tab", "math/bits.deBruijn64tab"], apart := false, laid := [("math/bits.deBruijn32tab", laid_math_bits_deBruijn32tab), ("math/bits.deBruijn64tab", laid_math_bits_deBruijn64tab)], narrowed := true }
def OrderChordsUptoSaid : Prop := orderChordsUptoRow.holds Tryd.pinned (OpenSpec.upto orderChordsSpec)

/-- 'haruspexlaw08.OrderKnown', WHERE WHAT IT READS IS OF BULK AT MOST 1048576: true; the input reads as it did. -/
def orderKnownUptoRow : OpenClaim := { program := "ytjhfdojgaoapcaadoor", sum := "68c6d906dd8869737ee8c1f44bb7b32899351a5434aede21fb802db22a84422b", func := "haruspex/haruspexlaw08.OrderKnown", spec := "orderKnown", unfollowed := true, recurses := true, named := ["math/bits.deBruijn32tab", "math/bits.deBruijn64tab"], apart := false, laid := [("math/bits.deBruijn32tab", laid_math_bits_deBruijn32tab), ("math/bits.deBruijn64tab", laid_math_bits_deBruijn64tab)], narrowed := true }
def OrderKnownUptoSaid : Prop := orderKnownUptoRow.holds Tryd.pinned (OpenSpec.upto orderKnownSpec)

/-- 'haruspexlaw08.OrderFills', WHERE WHAT IT READS IS OF BULK AT MOST 1048576: true; the input reads as it did. -/
def orderFillsUptoRow : OpenClaim := { program := "ytjhfdojgaoapcaadoor", sum := "68c6d906dd8869737ee8c1f44bb7b32899351a5434aede21fb802db22a84422b", func := "haruspex/haruspexlaw08.OrderFills", spec := "orderFills", unfollowed := true, recurses := true, named := ["math/bits.deBruijn32tab", "math/bits.deBruijn64tab"], apart := false, laid := [("math/bits.deBruijn32tab", laid_math_bits_deBruijn32tab), ("math/bits.deBruijn64tab", laid_math_bits_deBruijn64tab)], narrowed := true }
def OrderFillsUptoSaid : Prop := orderFillsUptoRow.holds Tryd.pinned (OpenSpec.upto orderFillsSpec)

/-- 'haruspexlaw08.OrderLeast', WHERE WHAT IT READS IS OF BULK AT MOST 1048576: true; the input reads as it did. -/
def orderLeastUptoRow : OpenClaim := { program := "ytjhfdojgaoapcaadoor", sum := "68c6d906dd8869737ee8c1f44bb7b32899351a5434aede21fb802db22a84422b", func := "haruspex/haruspexlaw08.OrderLeast", spec := "orderLeast", unfollowed := true, recurses := true, named := ["math/bits.deBruijn32tab", "math/bits.deBruijn64tab"], apart := false, laid := [("math/bits.deBruijn32tab", laid_math_bits_deBruijn32tab), ("math/bits.deBruijn64tab", laid_math_bits_deBruijn64tab)], narrowed := true }
def OrderLeastUptoSaid : Prop := orderLeastUptoRow.holds Tryd.pinned (OpenSpec.upto orderLeastSpec)

end Rows
end Go.Proofs.YtjhfdojgaoapcaaDoor
