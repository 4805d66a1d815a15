/-
  DERIVED. GIVEN WITH THE SEED: THE CARDS: each row of YtcbhkobklhkiiaaDoorRows.lean that lists a variable, with what it lists TIED to the program's text (the seventh form; the later family's looks); each row that meets fmt, with fmt's text TOLD by the authors' own Lean function (tested against real Go, not proved from fmt's source: count such statements apart). THE CARD IS WHAT COUNTS. Prove the row's statement (the work); the ties are given (YtcbhkobklhkiiaaDoorTie.lean); close each card by the builder's one call (the guide's Derived/Test/ToyasCard.lean, 'card_holds'). Laid BY PROGRAM, IN A SANDBOX (cutbox-door.mjs). By AI agents, Wed Nov 11 2026. No macro, syntax, notation, axiom, sorry.
-/
import Derived.Test.YtcbhkobklhkiiaaDoorRows
import GoSem.ClaimSeven
namespace Go.Proofs.YtcbhkobklhkiiaaDoor
namespace Rows

/-- THE TIED CARD OF 'haruspexlaw10.TreeChecks'. -/
def treeChecksCard : Claim7 := { stood := { row := treeChecksRow, standIns := [], harness := (true, "f8ca3171f44bfda1400b5a35215c4bc936be843c4f80efe767f29357bf548e08"), looks := false }, kinds := [], alts := [], laidByText := true, laidKinds := [.data, .data], laidTests := true, laidLooks := .later }
def TreeChecksCardSaid : Prop := Claim7.holds Tryd.pinned (.plain (OpenSpec.ofChange treeChecksSpec)) treeChecksCard

/-- THE TIED CARD OF 'haruspexlaw10.TreeMakes'. -/
def treeMakesCard : Claim7 := { stood := { row := treeMakesRow, standIns := [], harness := (true, "f8ca3171f44bfda1400b5a35215c4bc936be843c4f80efe767f29357bf548e08"), looks := false }, kinds := [], alts := [], laidByText := true, laidKinds := [.data, .data], laidTests := true, laidLooks := .later }
def TreeMakesCardSaid : Prop := Claim7.holds Tryd.pinned (.plain (OpenSpec.ofChange treeMakesSpec)) treeMakesCard

/-- THE TIED CARD OF 'haruspexlaw10.TreeLeast'. -/
def treeLeastCard : Claim7 := { stood := { row := treeLeastRow, standIns := [], harness := (true, "f8ca3171f44bfda1400b5a35215c4bc936be843c4f80efe767f29357bf548e08"), looks := false }, kinds := [], alts := [], laidByText := true, laidKinds := [.data, .data], laidTests := true, laidLooks := .later }
def TreeLeastCardSaid : Prop := Claim7.holds Tryd.pinned (.plain (OpenSpec.ofChange treeLeastSpec)) treeLeastCard

/-- THE TIED CARD OF 'haruspexlaw10.TreeWidths'. -/
def treeWidthsCard : Claim7 := { stood := { row := treeWidthsRow, standIns := [], harness := (true, "f8ca3171f44bfda1400b5a35215c4bc936be843c4f80efe767f29357bf548e08"), looks := false }, kinds := [], alts := [], laidByText := true, laidKinds := [.data, .data], laidTests := true, laidLooks := .later }
def TreeWidthsCardSaid : Prop := Claim7.holds Tryd.pinned (.plain (OpenSpec.ofChange treeWidthsSpec)) treeWidthsCard

/-- THE TIED CARD OF 'haruspexlaw10.TreeSplits'. -/
def treeSplitsCard : Claim7 := { stood := { row := treeSplitsRow, standIns := [], harness := (true, "f8ca3171f44bfda1400b5a35215c4bc936be843c4f80efe767f29357bf548e08"), looks := false }, kinds := [], alts := [], laidByText := true, laidKinds := [.data, .data], laidTests := true, laidLooks := .later }
def TreeSplitsCardSaid : Prop := Claim7.holds Tryd.pinned (.plain (OpenSpec.ofChange treeSplitsSpec)) treeSplitsCard

/-- THE TIED CARD OF 'haruspexlaw10.TreeKnown'. -/
def treeKnownCard : Claim7 := { stood := { row := treeKnownRow, standIns := [], harness := (true, "f8ca3171f44bfda1400b5a35215c4bc936be843c4f80efe767f29357bf548e08"), looks := false }, kinds := [], alts := [], laidByText := true, laidKinds := [.data, .data], laidTests := true, laidLooks := .later }
def TreeKnownCardSaid : Prop := Claim7.holds Tryd.pinned (.plain (OpenSpec.ofChange treeKnownSpec)) treeKnownCard

/-- THE TIED CARD OF 'haruspexlaw10.TreeStands'. -/
def treeStandsCard : Claim7 := { stood := { row := treeStandsRow, standIns := [], harness := (true, "f8ca3171f44bfda1400b5a35215c4bc936be843c4f80efe767f29357bf548e08"), looks := false }, kinds := [], alts := [], laidByText := true, laidKinds := [.data, .data], laidTests := true, laidLooks := .later }
def TreeStandsCardSaid : Prop := Claim7.holds Tryd.pinned (.plain (OpenSpec.ofChange treeStandsSpec)) treeStandsCard

/-- THE SECOND FORM's CARD OF 'haruspexlaw10.TreeChecks'. -/
def treeChecksUptoCard : Claim7 := { stood := { row := treeChecksUptoRow, standIns := [], harness := (true, "f8ca3171f44bfda1400b5a35215c4bc936be843c4f80efe767f29357bf548e08"), looks := false }, kinds := [], alts := [], laidByText := true, laidKinds := [.data, .data], laidTests := true, laidLooks := .later }
def TreeChecksUptoCardSaid : Prop := Claim7.holds Tryd.pinned (.plain (OpenSpec.upto treeChecksSpec)) treeChecksUptoCard

/-- THE SECOND FORM's CARD OF 'haruspexlaw10.TreeMakes'. -/
def treeMakesUptoCard : Claim7 := { stood := { row := treeMakesUptoRow, standIns := [], harness := (true, "f8ca3171f44bfda1400b5a35215c4bc936be843c4f80efe767f29357bf548e08"), looks := false }, kinds := [], alts := [], laidByText := true, laidKinds := [.data, .data], laidTests := true, laidLooks := .later }
def TreeMakesUptoCardSaid : Prop := Claim7.holds Tryd.pinned (.plain (OpenSpec.upto treeMakesSpec)) treeMakesUptoCard

/-- THE SECOND FORM's CARD OF 'haruspexlaw10.TreeLeast'. -/
def treeLeastUptoCard : Claim7 := { stood := { row := treeLeastUptoRow, standIns := [], harness := (true, "f8ca3171f44bfda1400b5a35215c4bc936be843c4f80efe767f29357bf548e08"), looks := false }, kinds := [], alts := [], laidByText := true, laidKinds := [.data, .data], laidTests := true, laidLooks := .later }
def TreeLeastUptoCardSaid : Prop := Claim7.holds Tryd.pinned (.plain (OpenSpec.upto treeLeastSpec)) treeLeastUptoCard

/-- THE SECOND FORM's CARD OF 'haruspexlaw10.TreeWidths'. -/
def treeWidthsUptoCard : Claim7 := { stood := { row := treeWidthsUptoRow, standIns := [], harness := (true, "f8ca3171f44bfda1400b5a35215c4bc936be843c4f80efe767f29357bf548e08"), looks := false }, kinds := [], alts := [], laidByText := true, laidKinds := [.data, .data], laidTests := true, laidLooks := .later }
def TreeWidthsUptoCardSaid : Prop := Claim7.holds Tryd.pinned (.plain (OpenSpec.upto treeWidthsSpec)) treeWidthsUptoCard

/-- THE SECOND FORM's CARD OF 'haruspexlaw10.TreeSplits'. -/
def treeSplitsUptoCard : Claim7 := { stood := { row := treeSplitsUptoRow, standIns := [], harness := (true, "f8ca3171f44bfda1400b5a35215c4bc936be843c4f80efe767f29357bf548e08"), looks := false }, kinds := [], alts := [], laidByText := true, laidKinds := [.data, .data], laidTests := true, laidLooks := .later }
def TreeSplitsUptoCardSaid : Prop := Claim7.holds Tryd.pinned (.plain (OpenSpec.upto treeSplitsSpec)) treeSplitsUptoCard

/-- THE SECOND FORM's CARD OF 'haruspexlaw10.TreeKnown'. -/
def treeKnownUptoCard : Claim7 := { stood := { row := treeKnownUptoRow, standIns := [], harness := (true, "f8ca3171f44bfda1400b5a35215c4bc936be843c4f80efe767f29357bf548e08"), looks := false }, kinds := [], alts := [], laidByText := true, laidKinds := [.data, .data], laidTests := true, laidLooks := .later }
def TreeKnownUptoCardSaid : Prop := Claim7.holds Tryd.pinned (.plain (OpenSpec.upto treeKnownSpec)) treeKnownUptoCard

/-- THE SECOND FORM's CARD OF 'haruspexlaw10.TreeStands'. -/
def treeStandsUptoCard : Claim7 := { stood := { row := treeStandsUptoRow, standIns := [], harness := (true, "f8ca3171f44bfda1400b5a35215c4bc936be843c4f80efe767f29357bf548e08"), looks := false }, kinds := [], alts := [], laidByText := true, laidKinds := [.data, .data], laidTests := true, laidLooks := .later }
def TreeStandsUptoCardSaid : Prop := Claim7.holds Tryd.pinned (.plain (OpenSpec.upto treeStandsSpec)) treeStandsUptoCard
end Rows
end Go.Proofs.YtcbhkobklhkiiaaDoor
