/-
  DERIVED. GIVEN WITH THE SEED: THE CARDS: each row of YtojklbpplceiiaaDoorRows.lean that lists a variable, with what it lists TIED to the program's text (the seventh form; the later family's looks); each row that meets fmt, with fmt's text TOLD by the authors' own Lean function (tested against real Go, not proved from fmt's source: count such statements apart). THE CARD IS WHAT COUNTS. Prove the row's statement (the work); the ties are given (YtojklbpplceiiaaDoorTie.lean); close each card by the builder's one call (the guide's Derived/Test/ToyasCard.lean, 'card_holds'). Laid BY PROGRAM, IN A SANDBOX (cutbox-door.mjs). By AI agents, Wed Nov 11 2026. No macro, syntax, notation, axiom, sorry.
-/
import Derived.Test.YtojklbpplceiiaaDoorRows
import GoSem.ClaimSeven
namespace Go.Proofs.YtojklbpplceiiaaDoor
namespace Rows

/-- THE TIED CARD OF 'haruspexlaw31.EqualSays'. -/
def equalSaysCard : Claim7 := { stood := { row := equalSaysRow, standIns := [], harness := (true, "d02020cf83a2cfb43741a16a96ace2586f95b159653362e7a3f0953b3eec6846"), looks := false }, kinds := [], alts := [], laidByText := true, laidKinds := [.data, .data], laidTests := true, laidLooks := .later }
def EqualSaysCardSaid : Prop := Claim7.holds Tryd.pinned (.plain (OpenSpec.ofChange equalSaysSpec)) equalSaysCard

/-- THE TIED CARD OF 'haruspexlaw31.EqualTurns'. -/
def equalTurnsCard : Claim7 := { stood := { row := equalTurnsRow, standIns := [], harness := (true, "d02020cf83a2cfb43741a16a96ace2586f95b159653362e7a3f0953b3eec6846"), looks := false }, kinds := [], alts := [], laidByText := true, laidKinds := [.data, .data], laidTests := true, laidLooks := .later }
def EqualTurnsCardSaid : Prop := Claim7.holds Tryd.pinned (.plain (OpenSpec.ofChange equalTurnsSpec)) equalTurnsCard

/-- THE TIED CARD OF 'haruspexlaw31.EqualShares'. -/
def equalSharesCard : Claim7 := { stood := { row := equalSharesRow, standIns := [], harness := (true, "d02020cf83a2cfb43741a16a96ace2586f95b159653362e7a3f0953b3eec6846"), looks := false }, kinds := [], alts := [], laidByText := true, laidKinds := [.data, .data], laidTests := true, laidLooks := .later }
def EqualSharesCardSaid : Prop := Claim7.holds Tryd.pinned (.plain (OpenSpec.ofChange equalSharesSpec)) equalSharesCard

/-- THE TIED CARD OF 'haruspexlaw31.EqualKnown'. -/
def equalKnownCard : Claim7 := { stood := { row := equalKnownRow, standIns := [], harness := (true, "d02020cf83a2cfb43741a16a96ace2586f95b159653362e7a3f0953b3eec6846"), looks := false }, kinds := [], alts := [], laidByText := true, laidKinds := [.data, .data], laidTests := true, laidLooks := .later }
def EqualKnownCardSaid : Prop := Claim7.holds Tryd.pinned (.plain (OpenSpec.ofChange equalKnownSpec)) equalKnownCard

/-- THE TIED CARD OF 'haruspexlaw31.EqualShapes'. -/
def equalShapesCard : Claim7 := { stood := { row := equalShapesRow, standIns := [], harness := (true, "d02020cf83a2cfb43741a16a96ace2586f95b159653362e7a3f0953b3eec6846"), looks := false }, kinds := [], alts := [], laidByText := true, laidKinds := [.data, .data], laidTests := true, laidLooks := .later }
def EqualShapesCardSaid : Prop := Claim7.holds Tryd.pinned (.plain (OpenSpec.ofChange equalShapesSpec)) equalShapesCard

/-- THE TIED CARD OF 'haruspexlaw31.EqualPairs'. -/
def equalPairsCard : Claim7 := { stood := { row := equalPairsRow, standIns := [], harness := (true, "d02020cf83a2cfb43741a16a96ace2586f95b159653362e7a3f0953b3eec6846"), looks := false }, kinds := [], alts := [], laidByText := true, laidKinds := [.data, .data], laidTests := true, laidLooks := .later }
def EqualPairsCardSaid : Prop := Claim7.holds Tryd.pinned (.plain (OpenSpec.ofChange equalPairsSpec)) equalPairsCard

/-- THE TIED CARD OF 'haruspexlaw31.EqualClasses'. -/
def equalClassesCard : Claim7 := { stood := { row := equalClassesRow, standIns := [], harness := (true, "d02020cf83a2cfb43741a16a96ace2586f95b159653362e7a3f0953b3eec6846"), looks := false }, kinds := [], alts := [], laidByText := true, laidKinds := [.data, .data], laidTests := true, laidLooks := .later }
def EqualClassesCardSaid : Prop := Claim7.holds Tryd.pinned (.plain (OpenSpec.ofChange equalClassesSpec)) equalClassesCard

/-- THE TIED CARD OF 'haruspexlaw31.EqualFacts'. -/
def equalFactsCard : Claim7 := { stood := { row := equalFactsRow, standIns := [], harness := (true, "d02020cf83a2cfb43741a16a96ace2586f95b159653362e7a3f0953b3eec6846"), looks := false }, kinds := [], alts := [], laidByText := true, laidKinds := [.data, .data], laidTests := true, laidLooks := .later }
def EqualFactsCardSaid : Prop := Claim7.holds Tryd.pinned (.plain (OpenSpec.ofChange equalFactsSpec)) equalFactsCard

/-- THE TIED CARD OF 'haruspexlaw31.EqualLearns'. -/
def equalLearnsCard : Claim7 := { stood := { row := equalLearnsRow, standIns := [], harness := (true, "d02020cf83a2cfb43741a16a96ace2586f95b159653362e7a3f0953b3eec6846"), looks := false }, kinds := [], alts := [], laidByText := true, laidKinds := [.data, .data], laidTests := true, laidLooks := .later }
def EqualLearnsCardSaid : Prop := Claim7.holds Tryd.pinned (.plain (OpenSpec.ofChange equalLearnsSpec)) equalLearnsCard

/-- THE SECOND FORM's CARD OF 'haruspexlaw31.EqualSays'. -/
def equalSaysUptoCard : Claim7 := { stood := { row := equalSaysUptoRow, standIns := [], harness := (true, "d02020cf83a2cfb43741a16a96ace2586f95b159653362e7a3f0953b3eec6846"), looks := false }, kinds := [], alts := [], laidByText := true, laidKinds := [.data, .data], laidTests := true, laidLooks := .later }
def EqualSaysUptoCardSaid : Prop := Claim7.holds Tryd.pinned (.plain (OpenSpec.upto equalSaysSpec)) equalSaysUptoCard

/-- THE SECOND FORM's CARD OF 'haruspexlaw31.EqualTurns'. -/
def equalTurnsUptoCard : Claim7 := { stood := { row := equalTurnsUptoRow, standIns := [], harness := (true, "d02020cf83a2cfb43741a16a96ace2586f95b159653362e7a3f0953b3eec6846"), looks := false }, kinds := [], alts := [], laidByText := true, laidKinds := [.data, .data], laidTests := true, laidLooks := .later }
def EqualTurnsUptoCardSaid : Prop := Claim7.holds Tryd.pinned (.plain (OpenSpec.upto equalTurnsSpec)) equalTurnsUptoCard

/-- THE SECOND FORM's CARD OF 'haruspexlaw31.EqualShares'. -/
def equalSharesUptoCard : Claim7 := { stood := { row := equalSharesUptoRow, standIns := [], harness := (true, "d02020cf83a2cfb43741a16a96ace2586f95b159653362e7a3f0953b3eec6846"), looks := false }, kinds := [], alts := [], laidByText := true, laidKinds := [.data, .data], laidTests := true, laidLooks := .later }
def EqualSharesUptoCardSaid : Prop := Claim7.holds Tryd.pinned (.plain (OpenSpec.upto equalSharesSpec)) equalSharesUptoCard

/-- THE SECOND FORM's CARD OF 'haruspexlaw31.EqualKnown'. -/
def equalKnownUptoCard : Claim7 := { stood := { row := equalKnownUptoRow, standIns := [], harness := (true, "d02020cf83a2cfb43741a16a96ace2586f95b159653362e7a3f0953b3eec6846"), looks := false }, kinds := [], alts := [], laidByText := true, laidKinds := [.data, .data], laidTests := true, laidLooks := .later }
def EqualKnownUptoCardSaid : Prop := Claim7.holds Tryd.pinned (.plain (OpenSpec.upto equalKnownSpec)) equalKnownUptoCard

/-- THE SECOND FORM's CARD OF 'haruspexlaw31.EqualShapes'. -/
def equalShapesUptoCard : Claim7 := { stood := { row := equalShapesUptoRow, standIns := [], harness := (true, "d02020cf83a2cfb43741a16a96ace2586f95b159653362e7a3f0953b3eec6846"), looks := false }, kinds := [], alts := [], laidByText := true, laidKinds := [.data, .data], laidTests := true, laidLooks := .later }
def EqualShapesUptoCardSaid : Prop := Claim7.holds Tryd.pinned (.plain (OpenSpec.upto equalShapesSpec)) equalShapesUptoCard

/-- THE SECOND FORM's CARD OF 'haruspexlaw31.EqualPairs'. -/
def equalPairsUptoCard : Claim7 := { stood := { row := equalPairsUptoRow, standIns := [], harness := (true, "d02020cf83a2cfb43741a16a96ace2586f95b159653362e7a3f0953b3eec6846"), looks := false }, kinds := [], alts := [], laidByText := true, laidKinds := [.data, .data], laidTests := true, laidLooks := .later }
def EqualPairsUptoCardSaid : Prop := Claim7.holds Tryd.pinned (.plain (OpenSpec.upto equalPairsSpec)) equalPairsUptoCard

/-- THE SECOND FORM's CARD OF 'haruspexlaw31.EqualClasses'. -/
def equalClassesUptoCard : Claim7 := { stood := { row := equalClassesUptoRow, standIns := [], harness := (true, "d02020cf83a2cfb43741a16a96ace2586f95b159653362e7a3f0953b3eec6846"), looks := false }, kinds := [], alts := [], laidByText := true, laidKinds := [.data, .data], laidTests := true, laidLooks := .later }
def EqualClassesUptoCardSaid : Prop := Claim7.holds Tryd.pinned (.plain (OpenSpec.upto equalClassesSpec)) equalClassesUptoCard

/-- THE SECOND FORM's CARD OF 'haruspexlaw31.EqualFacts'. -/
def equalFactsUptoCard : Claim7 := { stood := { row := equalFactsUptoRow, standIns := [], harness := (true, "d02020cf83a2cfb43741a16a96ace2586f95b159653362e7a3f0953b3eec6846"), looks := false }, kinds := [], alts := [], laidByText := true, laidKinds := [.data, .data], laidTests := true, laidLooks := .later }
def EqualFactsUptoCardSaid : Prop := Claim7.holds Tryd.pinned (.plain (OpenSpec.upto equalFactsSpec)) equalFactsUptoCard

/-- THE SECOND FORM's CARD OF 'haruspexlaw31.EqualLearns'. -/
def equalLearnsUptoCard : Claim7 := { stood := { row := equalLearnsUptoRow, standIns := [], harness := (true, "d02020cf83a2cfb43741a16a96ace2586f95b159653362e7a3f0953b3eec6846"), looks := false }, kinds := [], alts := [], laidByText := true, laidKinds := [.data, .data], laidTests := true, laidLooks := .later }
def EqualLearnsUptoCardSaid : Prop := Claim7.holds Tryd.pinned (.plain (OpenSpec.upto equalLearnsSpec)) equalLearnsUptoCard
end Rows
end Go.Proofs.YtojklbpplceiiaaDoor
