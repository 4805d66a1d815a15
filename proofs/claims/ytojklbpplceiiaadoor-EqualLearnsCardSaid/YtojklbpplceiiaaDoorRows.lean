/-
  NARROWER THAN 'FOR EVERY INPUT', by the rows' own cells (each row's printed sentence says how): EqualSays: laid · EqualTurns: laid · EqualShares: laid · EqualKnown: laid · EqualShapes: laid · EqualPairs: laid · EqualClasses: laid · EqualFacts: laid · EqualLearns: laid.
  DERIVED. THE GIVEN ROWS OF THIS SEAT. 9 by the template 'for every input the law returns true; each argument reads behind the call as it read before'; 0 by the template 'total and deterministic' (their statements: YtojklbpplceiiaaDoorTotals.lean).
  GIVEN WITH THE SEED: the statements are not yours to turn. If you find one false, say at which input.
  Laid BY PROGRAM, IN A SANDBOX (cutbox-rows.mjs): the forced cells as the released guide's own fill.sh prints them over the translation 29966e251d7f882d… (all of the seat's roots in one cut). By AI agents, Wed Nov 11 2026. No macro, syntax, notation, axiom, sorry.
-/
import Derived.Test.YtojklbpplceiiaaDoorChecked
import GoSem.Claim
import GoSem.ClaimJoined
import GoSem.ClaimMapViews
import Derived.JoinedTies
import Derived.KernelRfl
namespace Go.Proofs.YtojklbpplceiiaaDoor
/- THE CELL 'sum', in the pinned program and in every row, IS THE sha256 OF THE DUMP (.gsa) THAT YtojklbpplceiiaaDoorProg.lean LOADS. Nothing in Lean hashes anything: it is a label: what it is worth is what the hold of that sum in a sandbox is worth. -/
noncomputable def Tryd.pinned : Pinned := { name := "ytojklbpplceiiaadoor", sum := "29966e251d7f882d959fe2961f260d6387a4d6795f501538bc3ee6e64f045592", checked := Tryd.checked }
namespace Rows
def none {H : Type} : Left H := { results := [], args := [] }

/- WHAT THE LISTED PACKAGE-LEVEL VARIABLES READ AS WHEN THE CALL BEGINS. Each datum BY PROGRAM (the guide's laid-datum.mjs) off the statement by which the dump's own 'gosem.cut.vars' lays the variable. In a bare row this is a premise. The card (YtojklbpplceiiaaDoorCards.lean) ties it to the program's text. -/
def laid_math_bits_deBruijn32tab {H : Type} : DataW H := .agg [.lit (.int .u8 0), .lit (.int .u8 1), .lit (.int .u8 28), .lit (.int .u8 2), .lit (.int .u8 29), .lit (.int .u8 14), .lit (.int .u8 24), .lit (.int .u8 3), .lit (.int .u8 30), .lit (.int .u8 22), .lit (.int .u8 20), .lit (.int .u8 15), .lit (.int .u8 25), .lit (.int .u8 17), .lit (.int .u8 4), .lit (.int .u8 8), .lit (.int .u8 31), .lit (.int .u8 27), .lit (.int .u8 13), .lit (.int .u8 23), .lit (.int .u8 21), .lit (.int .u8 19), .lit (.int .u8 16), .lit (.int .u8 7), .lit (.int .u8 26), .lit (.int .u8 12), .lit (.int .u8 18), .lit (.int .u8 6), .lit (.int .u8 11), .lit (.int .u8 5), .lit (.int .u8 10), .lit (.int .u8 9)]
def laid_math_bits_deBruijn64tab {H : Type} : DataW H := .agg [.lit (.int .u8 0), .lit (.int .u8 1), .lit (.int .u8 56), .lit (.int .u8 2), .lit (.int .u8 57), .lit (.int .u8 49), .lit (.int .u8 28), .lit (.int .u8 3), .lit (.int .u8 61), .lit (.int .u8 58), .lit (.int .u8 42), .lit (.int .u8 50), .lit (.int .u8 38), .lit (.int .u8 29), .lit (.int .u8 17), .lit (.int .u8 4), .lit (.int .u8 62), .lit (.int .u8 47), .lit (.int .u8 59), .lit (.int .u8 36), .lit (.int .u8 45), .lit (.int .u8 43), .lit (.int .u8 51), .lit (.int .u8 22), .lit (.int .u8 53), .lit (.int .u8 39), .lit (.int .u8 33), .lit (.int .u8 30), .lit (.int .u8 24), .lit (.int .u8 18), .lit (.int .u8 12), .lit (.int .u8 5), .lit (.int .u8 63), .lit (.int .u8 55), .lit (.int .u8 48), .lit (.int .u8 27), .lit (.int .u8 60), .lit (.int .u8 41), .lit (.int .u8 37), .lit (.int .u8 16), .lit (.int .u8 46), .lit (.int .u8 35), .lit (.int .u8 44), .lit (.int .u8 21), .lit (.int .u8 52), .lit (.int .u8 32), .lit (.int .u8 23), .lit (.int .u8 11), .lit (.int .u8 54), .lit (.int .u8 26), .lit (.int .u8 40), .lit (.int .u8 15), .lit (.int .u8 34), .lit (.int .u8 20), .lit (.int .u8 31), .lit (.int .u8 10), .lit (.int .u8 25), .lit (.int .u8 14), .lit (.int .u8 19), .lit (.int .u8 9), .lit (.int .u8 13), .lit (.int .u8 8), .lit (.int .u8 7), .lit (.int .u8 6)]

/-- 'haruspexlaw31.EqualSays': WHATEVER THE INPUT: true; the input reads as it did. -/
def equalSaysSpec : ChangeSpec := { name := "equalSays", fn := fun _ => fun
  | [d1, d2, d3] => { results := [.lit (.bool true)], args := [d1, d2, d3] }
  | _ => none }
def equalSaysRow : OpenClaim := { program := "ytojklbpplceiiaadoor", sum := "29966e251d7f882d959fe2961f260d6387a4d6795f501538bc3ee6e64f045592", func := "haruspex/haruspexlaw31.EqualSays", spec := "equalSays", unfollowed := true, recurses := true, named := ["math/bits.deBruijn32tab", "math/bits.deBruijn64tab"], plainKeys := false, apart := false, laid := [("math/bits.deBruijn32tab", laid_math_bits_deBruijn32tab), ("math/bits.deBruijn64tab", laid_math_bits_deBruijn64tab)] }
def EqualSaysSaid : Prop := equalSaysRow.holds Tryd.pinned (OpenSpec.ofChange equalSaysSpec)

/-- ITS FALSE NEIGHBOUR: 'it returns false'. Refute it at one input. -/
def equalSaysWrong : ChangeSpec := { name := "equalSays", fn := fun _ => fun
  | [d1, d2, d3] => { results := [.lit (.bool false)], args := [d1, d2, d3] }
  | _ => none }
def EqualSaysWrongFalsely : Prop := equalSaysRow.holds Tryd.pinned (OpenSpec.ofChange equalSaysWrong)

/-- 'haruspexlaw31.EqualTurns': WHATEVER THE INPUT: true; the input reads as it did. -/
def equalTurnsSpec : ChangeSpec := { name := "equalTurns", fn := fun _ => fun
  | [d1, d2] => { results := [.lit (.bool true)], args := [d1, d2] }
  | _ => none }
def equalTurnsRow : OpenClaim := { program := "ytojklbpplceiiaadoor", sum := "29966e251d7f882d959fe2961f260d6387a4d6795f501538bc3ee6e64f045592", func := "haruspex/haruspexlaw31.EqualTurns", spec := "equalTurns", unfollowed := true, recurses := true, named := ["math/bits.deBruijn32tab", "math/bits.deBruijn64tab"], plainKeys := false, apart := false, laid := [("math/bits.deBruijn32tab", laid_math_bits_deBruijn32tab), ("math/bits.deBruijn64tab", laid_math_bits_deBruijn64tab)] }
def EqualTurnsSaid : Prop := equalTurnsRow.holds Tryd.pinned (OpenSpec.ofChange equalTurnsSpec)

/-- ITS FALSE NEIGHBOUR: 'it returns false'. Refute it at one input. -/
def equalTurnsWrong : ChangeSpec := { name := "equalTurns", fn := fun _ => fun
  | [d1, d2] => { results := [.lit (.bool false)], args := [d1, d2] }
  | _ => none }
def EqualTurnsWrongFalsely : Prop := equalTurnsRow.holds Tryd.pinned (OpenSpec.ofChange equalTurnsWrong)

/-- 'haruspexlaw31.EqualShares': WHATEVER THE INPUT: true; the input reads as it did. -/
def equalSharesSpec : ChangeSpec := { name := "equalShares", fn := fun _ => fun
  | [d] => { results := [.lit (.bool true)], args := [d] }
  | _ => none }
def equalSharesRow : OpenClaim := { program := "ytojklbpplceiiaadoor", sum := "29966e251d7f882d959fe2961f260d6387a4d6795f501538bc3ee6e64f045592", func := "haruspex/haruspexlaw31.EqualShares", spec := "equalShares", unfollowed := true, recurses := true, named := ["math/bits.deBruijn32tab", "math/bits.deBruijn64tab"], plainKeys := false, apart := false, laid := [("math/bits.deBruijn32tab", laid_math_bits_deBruijn32tab), ("math/bits.deBruijn64tab", laid_math_bits_deBruijn64tab)] }
def EqualSharesSaid : Prop := equalSharesRow.holds Tryd.pinned (OpenSpec.ofChange equalSharesSpec)

/-- ITS FALSE NEIGHBOUR: 'it returns false'. Refute it at one input. -/
def equalSharesWrong : ChangeSpec := { name := "equalShares", fn := fun _ => fun
  | [d] => { results := [.lit (.bool false)], args := [d] }
  | _ => none }
def EqualSharesWrongFalsely : Prop := equalSharesRow.holds Tryd.pinned (OpenSpec.ofChange equalSharesWrong)

/-- 'haruspexlaw31.EqualKnown': WHATEVER THE INPUT: true; the input reads as it did. -/
def equalKnownSpec : ChangeSpec := { name := "equalKnown", fn := fun _ => fun
  | [] => { results := [.lit (.bool true)], args := [] }
  | _ => none }
def equalKnownRow : OpenClaim := { program := "ytojklbpplceiiaadoor", sum := "29966e251d7f882d959fe2961f260d6387a4d6795f501538bc3ee6e64f045592", func := "haruspex/haruspexlaw31.EqualKnown", spec := "equalKnown", unfollowed := true, recurses := true, named := ["math/bits.deBruijn32tab", "math/bits.deBruijn64tab"], plainKeys := false, apart := false, laid := [("math/bits.deBruijn32tab", laid_math_bits_deBruijn32tab), ("math/bits.deBruijn64tab", laid_math_bits_deBruijn64tab)] }
def EqualKnownSaid : Prop := equalKnownRow.holds Tryd.pinned (OpenSpec.ofChange equalKnownSpec)

/-- ITS FALSE NEIGHBOUR: 'it returns false'. Refute it at one input. -/
def equalKnownWrong : ChangeSpec := { name := "equalKnown", fn := fun _ => fun
  | [] => { results := [.lit (.bool false)], args := [] }
  | _ => none }
def EqualKnownWrongFalsely : Prop := equalKnownRow.holds Tryd.pinned (OpenSpec.ofChange equalKnownWrong)

/-- 'haruspexlaw31.EqualShapes': WHATEVER THE INPUT: true; the input reads as it did. -/
def equalShapesSpec : ChangeSpec := { name := "equalShapes", fn := fun _ => fun
  | [d1, d2, d3, d4] => { results := [.lit (.bool true)], args := [d1, d2, d3, d4] }
  | _ => none }
def equalShapesRow : OpenClaim := { program := "ytojklbpplceiiaadoor", sum := "29966e251d7f882d959fe2961f260d6387a4d6795f501538bc3ee6e64f045592", func := "haruspex/haruspexlaw31.EqualShapes", spec := "equalShapes", unfollowed := true, recurses := true, named := ["math/bits.deBruijn32tab", "math/bits.deBruijn64tab"], plainKeys := false, apart := false, laid := [("math/bits.deBruijn32tab", laid_math_bits_deBruijn32tab), ("math/bits.deBruijn64tab", laid_math_bits_deBruijn64tab)] }
def EqualShapesSaid : Prop := equalShapesRow.holds Tryd.pinned (OpenSpec.ofChange equalShapesSpec)

/-- ITS FALSE NEIGHBOUR: 'it returns false'. Refute it at one input. -/
def equalShapesWrong : ChangeSpec := { name := "equalShapes", fn := fun _ => fun
  | [d1, d2, d3, d4] => { results := [.lit (.bool false)], args := [d1, d2, d3, d4] }
  | _ => none }
def EqualShapesWrongFalsely : Prop := equalShapesRow.holds Tryd.pinned (OpenSpec.ofChange equalShapesWrong)

/-- 'haruspexlaw31.EqualPairs': WHATEVER THE INPUT: true; the input reads as it did. -/
def equalPairsSpec : ChangeSpec := { name := "equalPairs", fn := fun _ => fun
  | [d1, d2, d3, d4] => { results := [.lit (.bool true)], args := [d1, d2, d3, d4] }
  | _ => none }
def equalPairsRow : OpenClaim := { program := "ytojklbpplceiiaadoor", sum := "29966e251d7f882d959fe2961f260d6387a4d6795f501538bc3ee6e64f045592", func := "haruspex/haruspexlaw31.EqualPairs", spec := "equalPairs", unfollowed := true, recurses := true, named := ["math/bits.deBruijn32tab", "math/bits.deBruijn64tab"], plainKeys := false, apart := false, laid := [("math/bits.deBruijn32tab", laid_math_bits_deBruijn32tab), ("math/bits.deBruijn64tab", laid_math_bits_deBruijn64tab)] }
def EqualPairsSaid : Prop := equalPairsRow.holds Tryd.pinned (OpenSpec.ofChange equalPairsSpec)

/-- ITS FALSE NEIGHBOUR: 'it returns false'. Refute it at one input. -/
def equalPairsWrong : ChangeSpec := { name := "equalPairs", fn := fun _ => fun
  | [d1, d2, d3, d4] => { results := [.lit (.bool false)], args := [d1, d2, d3, d4] }
  | _ => none }
def EqualPairsWrongFalsely : Prop := equalPairsRow.holds Tryd.pinned (OpenSpec.ofChange equalPairsWrong)

/-- 'haruspexlaw31.EqualClasses': WHATEVER THE INPUT: true; the input reads as it did. -/
def equalClassesSpec : ChangeSpec := { name := "equalClasses", fn := fun _ => fun
  | [d1, d2] => { results := [.lit (.bool true)], args := [d1, d2] }
  | _ => none }
def equalClassesRow : OpenClaim := { program := "ytojklbpplceiiaadoor", sum := "29966e251d7f882d959fe2961f260d6387a4d6795f501538bc3ee6e64f045592", func := "haruspex/haruspexlaw31.EqualClasses", spec := "equalClasses", unfollowed := true, recurses := true, named := ["math/bits.deBruijn32tab", "math/bits.deBruijn64tab"], plainKeys := false, apart := false, laid := [("math/bits.deBruijn32tab", laid_math_bits_deBruijn32tab), ("math/bits.deBruijn64tab", laid_math_bits_deBruijn64tab)] }
def EqualClassesSaid : Prop := equalClassesRow.holds Tryd.pinned (OpenSpec.ofChange equalClassesSpec)

/-- ITS FALSE NEIGHBOUR: 'it returns false'. Refute it at one input. -/
def equalClassesWrong : ChangeSpec := { name := "equalClasses", fn := fun _ => fun
  | [d1, d2] => { results := [.lit (.bool false)], args := [d1, d2] }
  | _ => none }
def EqualClassesWrongFalsely : Prop := equalClassesRow.holds Tryd.pinned (OpenSpec.ofChange equalClassesWrong)

/-- 'haruspexlaw31.EqualFacts': WHATEVER THE INPUT: true; the input reads as it did. -/
def equalFactsSpec : ChangeSpec := { name := "equalFacts", fn := fun _ => fun
  | [d1, d2] => { results := [.lit (.bool true)], args := [d1, d2] }
  | _ => none }
def equalFactsRow : OpenClaim := { program := "ytojklbpplceiiaadoor", sum := "29966e251d7f882d959fe2961f260d6387a4d6795f501538bc3ee6e64f045592", func := "haruspex/haruspexlaw31.EqualFacts", spec := "equalFacts", unfollowed := true, recurses := true, named := ["math/bits.deBruijn32tab", "math/bits.deBruijn64tab"], plainKeys := false, apart := false, laid := [("math/bits.deBruijn32tab", laid_math_bits_deBruijn32tab), ("math/bits.deBruijn64tab", laid_math_bits_deBruijn64tab)] }
def EqualFactsSaid : Prop := equalFactsRow.holds Tryd.pinned (OpenSpec.ofChange equalFactsSpec)

/-- ITS FALSE NEIGHBOUR: 'it returns false'. Refute it at one input. -/
def equalFactsWrong : ChangeSpec := { name := "equalFacts", fn := fun _ => fun
  | [d1, d2] => { results := [.lit (.bool false)], args := [d1, d2] }
  | _ => none }
def EqualFactsWrongFalsely : Prop := equalFactsRow.holds Tryd.pinned (OpenSpec.ofChange equalFactsWrong)

/-- 'haruspexlaw31.EqualLearns': WHATEVER THE INPUT: true; the input reads as it did. -/
def equalLearnsSpec : ChangeSpec := { name := "equalLearns", fn := fun _ => fun
  | [d1, d2, d3, d4, d5] => { results := [.lit (.bool true)], args := [d1, d2, d3, d4, d5] }
  | _ => none }
def equalLearnsRow : OpenClaim := { program := "ytojklbpplceiiaadoor", sum := "29966e251d7f882d959fe2961f260d6387a4d6795f501538bc3ee6e64f045592", func := "haruspex/haruspexlaw31.EqualLearns", spec := "equalLearns", unfollowed := true, recurses := true, named := ["math/bits.deBruijn32tab", "math/bits.deBruijn64tab"], plainKeys := false, apart := false, laid := [("math/bits.deBruijn32tab", laid_math_bits_deBruijn32tab), ("math/bits.deBruijn64tab", laid_math_bits_deBruijn64tab)] }
def EqualLearnsSaid : Prop := equalLearnsRow.holds Tryd.pinned (OpenSpec.ofChange equalLearnsSpec)

/-- ITS FALSE NEIGHBOUR: 'it returns false'. Refute it at one input. -/
def equalLearnsWrong : ChangeSpec := { name := "equalLearns", fn := fun _ => fun
  | [d1, d2, d3, d4, d5] => { results := [.lit (.bool false)], args := [d1, d2, d3, d4, d5] }
  | _ => none }
def EqualLearnsWrongFalsely : Prop := equalLearnsRow.holds Tryd.pinned (OpenSpec.ofChange equalLearnsWrong)

/- THE SECOND FORM. 'bulk': how many values and letters a reading holds, each counted each time it is reached (what is shared counts as often as it is met; a slice's spare places count too). A statement '..UptoSaid' is the law's where the arguments, and the package variables that the reading takes, are together of bulk at most 1048576: NARROWER than '..Said'. Prove '..Said' where nothing that the law and all that it calls make is longer than what came in: it says more and counts as full. Else prove '..UptoSaid'. A law counts once. -/
mutual
def uptoBulk {H : Type} : DataW H → Nat
  | .lit (.string bytes) => bytes.length + 1
  | .lit _ => 1
  | .nil => 1
  | .ptr d => uptoBulk d + 1
  | .slice elems spare => uptoBulkAll elems + uptoBulkAll spare + 1
  | .agg parts => uptoBulkAll parts + 1
  | .iface _ d => uptoBulk d + 1
  | .map entries => uptoBulkEntries entries + 1
  | .held _ => 1
def uptoBulkAll {H : Type} : List (DataW H) → Nat
  | [] => 0
  | d :: r => uptoBulk d + uptoBulkAll r
def uptoBulkEntries {H : Type} : List (Lit × DataW H) → Nat
  | [] => 0
  | x :: r => uptoBulkEntry x + uptoBulkEntries r
def uptoBulkEntry {H : Type} : Lit × DataW H → Nat
  | (.string bytes, d) => bytes.length + uptoBulk d + 1
  | (_, d) => uptoBulk d + 1
 end
def uptoSmall : (H : Type) → List (DataW H) → Bool := fun _ ds => decide (uptoBulkAll ds ≤ 1048576)
def OpenSpec.upto (s : _root_.Go.ChangeSpec) : _root_.Go.OpenSpec := { _root_.Go.OpenSpec.ofChange s with cond := some uptoSmall }

/-- 'haruspexlaw31.EqualSays', WHERE WHAT IT READS IS OF BULK AT MOST 1048576: true; the input reads as it did. -/
def equalSaysUptoRow : OpenClaim := { program := "ytojklbpplceiiaadoor", sum := "29966e251d7f882d959fe2961f260d6387a4d6795f501538bc3ee6e64f045592", func := "haruspex/haruspexlaw31.EqualSays", spec := "equalSays", unfollowed := true, recurses := true, named := ["math/bits.deBruijn32tab", "math/bits.deBruijn64tab"], plainKeys := false, apart := false, laid := [("math/bits.deBruijn32tab", laid_math_bits_deBruijn32tab), ("math/bits.deBruijn64tab", laid_math_bits_deBruijn64tab)], narrowed := true }
def EqualSaysUptoSaid : Prop := equalSaysUptoRow.holds Tryd.pinned (OpenSpec.upto equalSaysSpec)

/-- 'haruspexlaw31.EqualTurns', WHERE WHAT IT READS IS OF BULK AT MOST 1048576: true; the input reads as it did. -/
def equalTurnsUptoRow : OpenClaim := { program := "ytojklbpplceiiaadoor", sum := "29966e251d7f882d959fe2961f260d6387a4d6795f501538bc3ee6e64f045592", func := "haruspex/haruspexlaw31.EqualTurns", spec := "equalTurns", unfollowed := true, recurses := true, named := ["math/bits.deBruijn32tab", "math/bits.deBruijn64tab"], plainKeys := false, apart := false, laid := [("math/bits.deBruijn32tab", laid_math_bits_deBruijn32tab), ("math/bits.deBruijn64tab", laid_math_bits_deBruijn64tab)], narrowed := true }
def EqualTurnsUptoSaid : Prop := equalTurnsUptoRow.holds Tryd.pinned (OpenSpec.upto equalTurnsSpec)

/-- 'haruspexlaw31.EqualShares', WHERE WHAT IT READS IS OF BULK AT MOST 1048576: true; the input reads as it did. -/
def equalSharesUptoRow : OpenClaim := { program := "ytojklbpplceiiaadoor", sum := "29966e251d7f882d959fe2961f260d6387a4d6795f501538bc3ee6e64f045592", func := "haruspex/haruspexlaw31.EqualShares", spec := "equalShares", unfollowed := true, recurses := true, named := ["math/bits.deBruijn32tab", "math/bits.deBruijn64tab"], plainKeys := false, apart := false, laid := [("math/bits.deBruijn32tab", laid_math_bits_deBruijn32tab), ("math/bits.deBruijn64tab", laid_math_bits_deBruijn64tab)], narrowed := true }
def EqualSharesUptoSaid : Prop := equalSharesUptoRow.holds Tryd.pinned (OpenSpec.upto equalSharesSpec)

/-- 'haruspexlaw31.EqualKnown', WHERE WHAT IT READS IS OF BULK AT MOST 1048576: true; the input reads as it did. -/
def equalKnownUptoRow : OpenClaim := { program := "ytojklbpplceiiaadoor", sum := "29966e251d7f882d959fe2961f260d6387a4d6795f501538bc3ee6e64f045592", func := "haruspex/haruspexlaw31.EqualKnown", spec := "equalKnown", unfollowed := true, recurses := true, named := ["math/bits.deBruijn32tab", "math/bits.deBruijn64tab"], plainKeys := false, apart := false, laid := [("math/bits.deBruijn32tab", laid_math_bits_deBruijn32tab), ("math/bits.deBruijn64tab", laid_math_bits_deBruijn64tab)], narrowed := true }
def EqualKnownUptoSaid : Prop := equalKnownUptoRow.holds Tryd.pinned (OpenSpec.upto equalKnownSpec)

/-- 'haruspexlaw31.EqualShapes', WHERE WHAT IT READS IS OF BULK AT MOST 1048576: true; the input reads as it did. -/
def equalShapesUptoRow : OpenClaim := { program := "ytojklbpplceiiaadoor", sum := "29966e251d7f882d959fe2961f260d6387a4d6795f501538bc3ee6e64f045592", func := "haruspex/haruspexlaw31.EqualShapes", spec := "equalShapes", unfollowed := true, recurses := true, named := ["math/bits.deBruijn32tab", "math/bits.deBruijn64tab"], plainKeys := false, apart := false, laid := [("math/bits.deBruijn32tab", laid_math_bits_deBruijn32tab), ("math/bits.deBruijn64tab", laid_math_bits_deBruijn64tab)], narrowed := true }
def EqualShapesUptoSaid : Prop := equalShapesUptoRow.holds Tryd.pinned (OpenSpec.upto equalShapesSpec)

/-- 'haruspexlaw31.EqualPairs', WHERE WHAT IT READS IS OF BULK AT MOST 1048576: true; the input reads as it did. -/
def equalPairsUptoRow : OpenClaim := { program := "ytojklbpplceiiaadoor", sum := "29966e251d7f882d959fe2961f260d6387a4d6795f501538bc3ee6e64f045592", func := "haruspex/haruspexlaw31.EqualPairs", spec := "equalPairs", unfollowed := true, recurses := true, named := ["math/bits.deBruijn32tab", "math/bits.deBruijn64tab"], plainKeys := false, apart := false, laid := [("math/bits.deBruijn32tab", laid_math_bits_deBruijn32tab), ("math/bits.deBruijn64tab", laid_math_bits_deBruijn64tab)], narrowed := true }
def EqualPairsUptoSaid : Prop := equalPairsUptoRow.holds Tryd.pinned (OpenSpec.upto equalPairsSpec)

/-- 'haruspexlaw31.EqualClasses', WHERE WHAT IT READS IS OF BULK AT MOST 1048576: true; the input reads as it did. -/
def equalClassesUptoRow : OpenClaim := { program := "ytojklbpplceiiaadoor", sum := "29966e251d7f882d959fe2961f260d6387a4d6795f501538bc3ee6e64f045592", func := "haruspex/haruspexlaw31.EqualClasses", spec := "equalClasses", unfollowed := true, recurses := true, named := ["math/bits.deBruijn32tab", "math/bits.deBruijn64tab"], plainKeys := false, apart := false, laid := [("math/bits.deBruijn32tab", laid_math_bits_deBruijn32tab), ("math/bits.deBruijn64tab", laid_math_bits_deBruijn64tab)], narrowed := true }
def EqualClassesUptoSaid : Prop := equalClassesUptoRow.holds Tryd.pinned (OpenSpec.upto equalClassesSpec)

/-- 'haruspexlaw31.EqualFacts', WHERE WHAT IT READS IS OF BULK AT MOST 1048576: true; the input reads as it did. -/
def equalFactsUptoRow : OpenClaim := { program := "ytojklbpplceiiaadoor", sum := "29966e251d7f882d959fe2961f260d6387a4d6795f501538bc3ee6e64f045592", func := "haruspex/haruspexlaw31.EqualFacts", spec := "equalFacts", unfollowed := true, recurses := true, named := ["math/bits.deBruijn32tab", "math/bits.deBruijn64tab"], plainKeys := false, apart := false, laid := [("math/bits.deBruijn32tab", laid_math_bits_deBruijn32tab), ("math/bits.deBruijn64tab", laid_math_bits_deBruijn64tab)], narrowed := true }
def EqualFactsUptoSaid : Prop := equalFactsUptoRow.holds Tryd.pinned (OpenSpec.upto equalFactsSpec)

/-- 'haruspexlaw31.EqualLearns', WHERE WHAT IT READS IS OF BULK AT MOST 1048576: true; the input reads as it did. -/
def equalLearnsUptoRow : OpenClaim := { program := "ytojklbpplceiiaadoor", sum := "29966e251d7f882d959fe2961f260d6387a4d6795f501538bc3ee6e64f045592", func := "haruspex/haruspexlaw31.EqualLearns", spec := "equalLearns", unfollowed := true, recurses := true, named := ["math/bits.deBruijn32tab", "math/bits.deBruijn64tab"], plainKeys := false, apart := false, laid := [("math/bits.deBruijn32tab", laid_math_bits_deBruijn32tab), ("math/bits.deBruijn64tab", laid_math_bits_deBruijn64tab)], narrowed := true }
def EqualLearnsUptoSaid : Prop := equalLearnsUptoRow.holds Tryd.pinned (OpenSpec.upto equalLearnsSpec)

end Rows
end Go.Proofs.YtojklbpplceiiaaDoor
