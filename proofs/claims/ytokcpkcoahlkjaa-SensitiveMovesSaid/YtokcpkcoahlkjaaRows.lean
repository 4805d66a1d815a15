/-
  No cell of these rows narrows 'for every input' (looked for: loops, veiled, ifaces, maps, wideKeys, modest, calm, conditions, laid).
  DERIVED. THE GIVEN ROWS OF THIS SEAT. 8 by the template 'for every input the law returns true; each argument reads behind the call as it read before'; 0 by the template 'total and deterministic' (their statements: YtokcpkcoahlkjaaTotals.lean).
  GIVEN WITH THE SEED: the statements are not yours to turn. If you find one false, say at which input.
  Laid BY PROGRAM, IN A SANDBOX (cutbox-rows.mjs): the forced cells as the released guide's own fill.sh prints them over the translation 75cc3f1d540d7ff7… (all of the seat's roots in one cut). By AI agents, Wed Nov 11 2026. No macro, syntax, notation, axiom, sorry.
-/
import Derived.Test.YtokcpkcoahlkjaaChecked
import GoSem.Claim
import GoSem.ClaimJoined
import GoSem.ClaimMapViews
import Derived.JoinedTies
import Derived.KernelRfl
namespace Go.Proofs.Ytokcpkcoahlkjaa
/- THE CELL 'sum', in the pinned program and in every row, IS THE sha256 OF THE DUMP (.gsa) THAT YtokcpkcoahlkjaaProg.lean LOADS. Nothing in Lean hashes anything: it is a label: what it is worth is what the hold of that sum in a sandbox is worth. -/
noncomputable def Try.pinned : Pinned := { name := "ytokcpkcoahlkjaa", sum := "75cc3f1d540d7ff7d28f2ea669269b3d4e6ef9d8a789d8c0b932b8ef3114b2ec", checked := Try.checked }
namespace Rows
def none {H : Type} : Left H := { results := [], args := [] }

/-- 'haruspexlaw24.SensitiveLines': WHATEVER THE INPUT: true; the input reads as it did. -/
def sensitiveLinesSpec : ChangeSpec := { name := "sensitiveLines", fn := fun _ => fun
  | [d1, d2, d3] => { results := [.lit (.bool true)], args := [d1, d2, d3] }
  | _ => none }
def sensitiveLinesRow : OpenClaim := { program := "ytokcpkcoahlkjaa", sum := "75cc3f1d540d7ff7d28f2ea669269b3d4e6ef9d8a789d8c0b932b8ef3114b2ec", func := "haruspex/haruspexlaw24.SensitiveLines", spec := "sensitiveLines", unfollowed := true, recurses := true, plainKeys := false, apart := false }
def SensitiveLinesSaid : Prop := sensitiveLinesRow.holds Try.pinned (OpenSpec.ofChange sensitiveLinesSpec)

/-- ITS FALSE NEIGHBOUR: 'it returns false'. Refute it at one input. -/
def sensitiveLinesWrong : ChangeSpec := { name := "sensitiveLines", fn := fun _ => fun
  | [d1, d2, d3] => { results := [.lit (.bool false)], args := [d1, d2, d3] }
  | _ => none }
def SensitiveLinesWrongFalsely : Prop := sensitiveLinesRow.holds Try.pinned (OpenSpec.ofChange sensitiveLinesWrong)

/-- 'haruspexlaw24.SensitiveThresholds': WHATEVER THE INPUT: true; the input reads as it did. -/
def sensitiveThresholdsSpec : ChangeSpec := { name := "sensitiveThresholds", fn := fun _ => fun
  | [d1, d2, d3, d4] => { results := [.lit (.bool true)], args := [d1, d2, d3, d4] }
  | _ => none }
def sensitiveThresholdsRow : OpenClaim := { program := "ytokcpkcoahlkjaa", sum := "75cc3f1d540d7ff7d28f2ea669269b3d4e6ef9d8a789d8c0b932b8ef3114b2ec", func := "haruspex/haruspexlaw24.SensitiveThresholds", spec := "sensitiveThresholds", unfollowed := true, recurses := true, plainKeys := false, apart := false }
def SensitiveThresholdsSaid : Prop := sensitiveThresholdsRow.holds Try.pinned (OpenSpec.ofChange sensitiveThresholdsSpec)

/-- ITS FALSE NEIGHBOUR: 'it returns false'. Refute it at one input. -/
def sensitiveThresholdsWrong : ChangeSpec := { name := "sensitiveThresholds", fn := fun _ => fun
  | [d1, d2, d3, d4] => { results := [.lit (.bool false)], args := [d1, d2, d3, d4] }
  | _ => none }
def SensitiveThresholdsWrongFalsely : Prop := sensitiveThresholdsRow.holds Try.pinned (OpenSpec.ofChange sensitiveThresholdsWrong)

/-- 'haruspexlaw24.SensitiveStays': WHATEVER THE INPUT: true; the input reads as it did. -/
def sensitiveStaysSpec : ChangeSpec := { name := "sensitiveStays", fn := fun _ => fun
  | [d] => { results := [.lit (.bool true)], args := [d] }
  | _ => none }
def sensitiveStaysRow : OpenClaim := { program := "ytokcpkcoahlkjaa", sum := "75cc3f1d540d7ff7d28f2ea669269b3d4e6ef9d8a789d8c0b932b8ef3114b2ec", func := "haruspex/haruspexlaw24.SensitiveStays", spec := "sensitiveStays", unfollowed := true, recurses := true, plainKeys := false, apart := false }
def SensitiveStaysSaid : Prop := sensitiveStaysRow.holds Try.pinned (OpenSpec.ofChange sensitiveStaysSpec)

/-- ITS FALSE NEIGHBOUR: 'it returns false'. Refute it at one input. -/
def sensitiveStaysWrong : ChangeSpec := { name := "sensitiveStays", fn := fun _ => fun
  | [d] => { results := [.lit (.bool false)], args := [d] }
  | _ => none }
def SensitiveStaysWrongFalsely : Prop := sensitiveStaysRow.holds Try.pinned (OpenSpec.ofChange sensitiveStaysWrong)

/-- 'haruspexlaw24.SensitiveSums': WHATEVER THE INPUT: true; the input reads as it did. -/
def sensitiveSumsSpec : ChangeSpec := { name := "sensitiveSums", fn := fun _ => fun
  | [d] => { results := [.lit (.bool true)], args := [d] }
  | _ => none }
def sensitiveSumsRow : OpenClaim := { program := "ytokcpkcoahlkjaa", sum := "75cc3f1d540d7ff7d28f2ea669269b3d4e6ef9d8a789d8c0b932b8ef3114b2ec", func := "haruspex/haruspexlaw24.SensitiveSums", spec := "sensitiveSums", unfollowed := true, recurses := true, plainKeys := false, apart := false }
def SensitiveSumsSaid : Prop := sensitiveSumsRow.holds Try.pinned (OpenSpec.ofChange sensitiveSumsSpec)

/-- ITS FALSE NEIGHBOUR: 'it returns false'. Refute it at one input. -/
def sensitiveSumsWrong : ChangeSpec := { name := "sensitiveSums", fn := fun _ => fun
  | [d] => { results := [.lit (.bool false)], args := [d] }
  | _ => none }
def SensitiveSumsWrongFalsely : Prop := sensitiveSumsRow.holds Try.pinned (OpenSpec.ofChange sensitiveSumsWrong)

/-- 'haruspexlaw24.SensitiveBack': WHATEVER THE INPUT: true; the input reads as it did. -/
def sensitiveBackSpec : ChangeSpec := { name := "sensitiveBack", fn := fun _ => fun
  | [d1, d2] => { results := [.lit (.bool true)], args := [d1, d2] }
  | _ => none }
def sensitiveBackRow : OpenClaim := { program := "ytokcpkcoahlkjaa", sum := "75cc3f1d540d7ff7d28f2ea669269b3d4e6ef9d8a789d8c0b932b8ef3114b2ec", func := "haruspex/haruspexlaw24.SensitiveBack", spec := "sensitiveBack", unfollowed := true, recurses := true, plainKeys := false, apart := false }
def SensitiveBackSaid : Prop := sensitiveBackRow.holds Try.pinned (OpenSpec.ofChange sensitiveBackSpec)

/-- ITS FALSE NEIGHBOUR: 'it returns false'. Refute it at one input. -/
def sensitiveBackWrong : ChangeSpec := { name := "sensitiveBack", fn := fun _ => fun
  | [d1, d2] => { results := [.lit (.bool false)], args := [d1, d2] }
  | _ => none }
def SensitiveBackWrongFalsely : Prop := sensitiveBackRow.holds Try.pinned (OpenSpec.ofChange sensitiveBackWrong)

/-- 'haruspexlaw24.SensitiveKeeps': WHATEVER THE INPUT: true; the input reads as it did. -/
def sensitiveKeepsSpec : ChangeSpec := { name := "sensitiveKeeps", fn := fun _ => fun
  | [d] => { results := [.lit (.bool true)], args := [d] }
  | _ => none }
def sensitiveKeepsRow : OpenClaim := { program := "ytokcpkcoahlkjaa", sum := "75cc3f1d540d7ff7d28f2ea669269b3d4e6ef9d8a789d8c0b932b8ef3114b2ec", func := "haruspex/haruspexlaw24.SensitiveKeeps", spec := "sensitiveKeeps", unfollowed := true, recurses := true, plainKeys := false, apart := false }
def SensitiveKeepsSaid : Prop := sensitiveKeepsRow.holds Try.pinned (OpenSpec.ofChange sensitiveKeepsSpec)

/-- ITS FALSE NEIGHBOUR: 'it returns false'. Refute it at one input. -/
def sensitiveKeepsWrong : ChangeSpec := { name := "sensitiveKeeps", fn := fun _ => fun
  | [d] => { results := [.lit (.bool false)], args := [d] }
  | _ => none }
def SensitiveKeepsWrongFalsely : Prop := sensitiveKeepsRow.holds Try.pinned (OpenSpec.ofChange sensitiveKeepsWrong)

/-- 'haruspexlaw24.SensitiveKnown': WHATEVER THE INPUT: true; the input reads as it did. -/
def sensitiveKnownSpec : ChangeSpec := { name := "sensitiveKnown", fn := fun _ => fun
  | [] => { results := [.lit (.bool true)], args := [] }
  | _ => none }
def sensitiveKnownRow : OpenClaim := { program := "ytokcpkcoahlkjaa", sum := "75cc3f1d540d7ff7d28f2ea669269b3d4e6ef9d8a789d8c0b932b8ef3114b2ec", func := "haruspex/haruspexlaw24.SensitiveKnown", spec := "sensitiveKnown", unfollowed := true, recurses := true, plainKeys := false, apart := false }
def SensitiveKnownSaid : Prop := sensitiveKnownRow.holds Try.pinned (OpenSpec.ofChange sensitiveKnownSpec)

/-- ITS FALSE NEIGHBOUR: 'it returns false'. Refute it at one input. -/
def sensitiveKnownWrong : ChangeSpec := { name := "sensitiveKnown", fn := fun _ => fun
  | [] => { results := [.lit (.bool false)], args := [] }
  | _ => none }
def SensitiveKnownWrongFalsely : Prop := sensitiveKnownRow.holds Try.pinned (OpenSpec.ofChange sensitiveKnownWrong)

/-- 'haruspexlaw24.SensitiveMoves': WHATEVER THE INPUT: true; the input reads as it did. -/
def sensitiveMovesSpec : ChangeSpec := { name := "sensitiveMoves", fn := fun _ => fun
  | [d1, d2] => { results := [.lit (.bool true)], args := [d1, d2] }
  | _ => none }
def sensitiveMovesRow : OpenClaim := { program := "ytokcpkcoahlkjaa", sum := "75cc3f1d540d7ff7d28f2ea669269b3d4e6ef9d8a789d8c0b932b8ef3114b2ec", func := "haruspex/haruspexlaw24.SensitiveMoves", spec := "sensitiveMoves", inPlace := ["slices.overlaps[int]"], unfollowed := true, recurses := true, plainKeys := false, apart := false }
def SensitiveMovesSaid : Prop := sensitiveMovesRow.holds Try.pinned (OpenSpec.ofChange sensitiveMovesSpec)

/-- ITS FALSE NEIGHBOUR: 'it returns false'. Refute it at one input. -/
def sensitiveMovesWrong : ChangeSpec := { name := "sensitiveMoves", fn := fun _ => fun
  | [d1, d2] => { results := [.lit (.bool false)], args := [d1, d2] }
  | _ => none }
def SensitiveMovesWrongFalsely : Prop := sensitiveMovesRow.holds Try.pinned (OpenSpec.ofChange sensitiveMovesWrong)

/- THE SECOND FORM. 'bulk': how many values and letters a reading holds, each counted each time it is reached (what is shared counts as often as it is met; a slice's spare places count too). A statement '..UptoSaid' is the law's where the arguments, and the package variables that the reading takes, are together of bulk at most 1048576: NARROWER than '..Said'. Prove '..Said' where nothing that the law and all that it calls make is longer than what came in: it says more and counts as full. Else prove '..UptoSaid'. A law counts once. -/
mutual
def uptoBulk {H : Type} : DataW H → Nat
  | .lit (.string bytes) => bytes.length + 1
  | .lit _ => 1
  | .nil => 1
  | .ptr d => uptoBulk d + 1
  | .slice elems spare => uptoBulkAll elems + uptoBulkAll spare + 1
  | .agg parts => uptoBulkAll parts + 1
  | .iface _ d => uptoBulk d + 1
  | .map entries => uptoBulkEntries entries + 1
  | .held _ => 1
def uptoBulkAll {H : Type} : List (DataW H) → Nat
  | [] => 0
  | d :: r => uptoBulk d + uptoBulkAll r
def uptoBulkEntries {H : Type} : List (Lit × DataW H) → Nat
  | [] => 0
  | x :: r => uptoBulkEntry x + uptoBulkEntries r
def uptoBulkEntry {H : Type} : Lit × DataW H → Nat
  | (.string bytes, d) => bytes.length + uptoBulk d + 1
  | (_, d) => uptoBulk d + 1
 end
def uptoSmall : (H : Type) → List (DataW H) → Bool := fun _ ds => decide (uptoBulkAll ds ≤ 1048576)
def OpenSpec.upto (s : _root_.Go.ChangeSpec) : _root_.Go.OpenSpec := { _root_.Go.OpenSpec.ofChange s with cond := some uptoSmall }

/-- 'haruspexlaw24.SensitiveLines', WHERE WHAT IT READS IS OF BULK AT MOST 1048576: true; the input reads as it did. -/
def sensitiveLinesUptoRow : OpenClaim := { program := "ytokcpkcoahlkjaa", sum := "75cc3f1d540d7ff7d28f2ea669269b3d4e6ef9d8a789d8c0b932b8ef3114b2ec", func := "haruspex/haruspexlaw24.SensitiveLines", spec := "sensitiveLines", unfollowed := true, recurses := true, plainKeys := false, apart := false, narrowed := true }
def SensitiveLinesUptoSaid : Prop := sensitiveLinesUptoRow.holds Try.pinned (OpenSpec.upto sensitiveLinesSpec)

/-- 'haruspexlaw24.SensitiveThresholds', WHERE WHAT IT READS IS OF BULK AT MOST 1048576: true; the input reads as it did. -/
def sensitiveThresholdsUptoRow : OpenClaim := { program := "ytokcpkcoahlkjaa", sum := "75cc3f1d540d7ff7d28f2ea669269b3d4e6ef9d8a789d8c0b932b8ef3114b2ec", func := "haruspex/haruspexlaw24.SensitiveThresholds", spec := "sensitiveThresholds", unfollowed := true, recurses := true, plainKeys := false, apart := false, narrowed := true }
def SensitiveThresholdsUptoSaid : Prop := sensitiveThresholdsUptoRow.holds Try.pinned (OpenSpec.upto sensitiveThresholdsSpec)

/-- 'haruspexlaw24.SensitiveStays', WHERE WHAT IT READS IS OF BULK AT MOST 1048576: true; the input reads as it did. -/
def sensitiveStaysUptoRow : OpenClaim := { program := "ytokcpkcoahlkjaa", sum := "75cc3f1d540d7ff7d28f2ea669269b3d4e6ef9d8a789d8c0b932b8ef3114b2ec", func := "haruspex/haruspexlaw24.SensitiveStays", spec := "sensitiveStays", unfollowed := true, recurses := true, plainKeys := false, apart := false, narrowed := true }
def SensitiveStaysUptoSaid : Prop := sensitiveStaysUptoRow.holds Try.pinned (OpenSpec.upto sensitiveStaysSpec)

/-- 'haruspexlaw24.SensitiveSums', WHERE WHAT IT READS IS OF BULK AT MOST 1048576: true; the input reads as it did. -/
def sensitiveSumsUptoRow : OpenClaim := { program := "ytokcpkcoahlkjaa", sum := "75cc3f1d540d7ff7d28f2ea669269b3d4e6ef9d8a789d8c0b932b8ef3114b2ec", func := "haruspex/haruspexlaw24.SensitiveSums", spec := "sensitiveSums", unfollowed := true, recurses := true, plainKeys := false, apart := false, narrowed := true }
def SensitiveSumsUptoSaid : Prop := sensitiveSumsUptoRow.holds Try.pinned (OpenSpec.upto sensitiveSumsSpec)

/-- 'haruspexlaw24.SensitiveBack', WHERE WHAT IT READS IS OF BULK AT MOST 1048576: true; the input reads as it did. -/
def sensitiveBackUptoRow : OpenClaim := { program := "ytokcpkcoahlkjaa", sum := "75cc3f1d540d7ff7d28f2ea669269b3d4e6ef9d8a789d8c0b932b8ef3114b2ec", func := "haruspex/haruspexlaw24.SensitiveBack", spec := "sensitiveBack", unfollowed := true, recurses := true, plainKeys := false, apart := false, narrowed := true }
def SensitiveBackUptoSaid : Prop := sensitiveBackUptoRow.holds Try.pinned (OpenSpec.upto sensitiveBackSpec)

/-- 'haruspexlaw24.SensitiveKeeps', WHERE WHAT IT READS IS OF BULK AT MOST 1048576: true; the input reads as it did. -/
def sensitiveKeepsUptoRow : OpenClaim := { program := "ytokcpkcoahlkjaa", sum := "75cc3f1d540d7ff7d28f2ea669269b3d4e6ef9d8a789d8c0b932b8ef3114b2ec", func := "haruspex/haruspexlaw24.SensitiveKeeps", spec := "sensitiveKeeps", unfollowed := true, recurses := true, plainKeys := false, apart := false, narrowed := true }
def SensitiveKeepsUptoSaid : Prop := sensitiveKeepsUptoRow.holds Try.pinned (OpenSpec.upto sensitiveKeepsSpec)

/-- 'haruspexlaw24.SensitiveKnown', WHERE WHAT IT READS IS OF BULK AT MOST 1048576: true; the input reads as it did. -/
def sensitiveKnownUptoRow : OpenClaim := { program := "ytokcpkcoahlkjaa", sum := "75cc3f1d540d7ff7d28f2ea669269b3d4e6ef9d8a789d8c0b932b8ef3114b2ec", func := "haruspex/haruspexlaw24.SensitiveKnown", spec := "sensitiveKnown", unfollowed := true, recurses := true, plainKeys := false, apart := false, narrowed := true }
def SensitiveKnownUptoSaid : Prop := sensitiveKnownUptoRow.holds Try.pinned (OpenSpec.upto sensitiveKnownSpec)

/-- 'haruspexlaw24.SensitiveMoves', WHERE WHAT IT READS IS OF BULK AT MOST 1048576: true; the input reads as it did. -/
def sensitiveMovesUptoRow : OpenClaim := { program := "ytokcpkcoahlkjaa", sum := "75cc3f1d540d7ff7d28f2ea669269b3d4e6ef9d8a789d8c0b932b8ef3114b2ec", func := "haruspex/haruspexlaw24.SensitiveMoves", spec := "sensitiveMoves", inPlace := ["slices.overlaps[int]"], unfollowed := true, recurses := true, plainKeys := false, apart := false, narrowed := true }
def SensitiveMovesUptoSaid : Prop := sensitiveMovesUptoRow.holds Try.pinned (OpenSpec.upto sensitiveMovesSpec)

end Rows
end Go.Proofs.Ytokcpkcoahlkjaa
