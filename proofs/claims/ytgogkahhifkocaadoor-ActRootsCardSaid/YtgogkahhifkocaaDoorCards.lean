/-
  DERIVED. GIVEN WITH THE SEED: THE CARDS: each row of YtgogkahhifkocaaDoorRows.lean that lists a variable, with what it lists TIED to the program's text (the seventh form; the later family's looks); each row that meets fmt, with fmt's text TOLD by the authors' own Lean function (tested against real Go, not proved from fmt's source: count such statements apart). THE CARD IS WHAT COUNTS. Prove the row's statement (the work); the ties are given (YtgogkahhifkocaaDoorTie.lean); close each card by the builder's one call (the guide's Derived/Test/ToyasCard.lean, 'card_holds'). Laid BY PROGRAM, IN A SANDBOX (cutbox-door.mjs). By AI agents, Wed Nov 11 2026. No macro, syntax, notation, axiom, sorry.
-/
import Derived.Test.YtgogkahhifkocaaDoorRows
import GoSem.ClaimSeven
namespace Go.Proofs.YtgogkahhifkocaaDoor
namespace Rows

/-- THE TIED CARD OF 'haruspexlaw32.ActCuts'. -/
def actCutsCard : Claim7 := { stood := { row := actCutsRow, standIns := [], harness := (true, "c7c0346e07dd25c1da5c606156d707288ee71b8e69e4cdbac00fa6e1cf45c4b0"), looks := false }, kinds := [], alts := [], laidByText := true, laidKinds := [.data, .data], laidTests := true, laidLooks := .later }
def ActCutsCardSaid : Prop := Claim7.holds Tryd.pinned (.plain (OpenSpec.ofChange actCutsSpec)) actCutsCard

/-- THE TIED CARD OF 'haruspexlaw32.ActRoots'. -/
def actRootsCard : Claim7 := { stood := { row := actRootsRow, standIns := [], harness := (true, "c7c0346e07dd25c1da5c606156d707288ee71b8e69e4cdbac00fa6e1cf45c4b0"), looks := false }, kinds := [], alts := [], laidByText := true, laidKinds := [.data, .data], laidTests := true, laidLooks := .later }
def ActRootsCardSaid : Prop := Claim7.holds Tryd.pinned (.plain (OpenSpec.ofChange actRootsSpec)) actRootsCard

/-- THE TIED CARD OF 'haruspexlaw32.ActDoes'. -/
def actDoesCard : Claim7 := { stood := { row := actDoesRow, standIns := [], harness := (true, "c7c0346e07dd25c1da5c606156d707288ee71b8e69e4cdbac00fa6e1cf45c4b0"), looks := false }, kinds := [], alts := [], laidByText := true, laidKinds := [.data, .data], laidTests := true, laidLooks := .later }
def ActDoesCardSaid : Prop := Claim7.holds Tryd.pinned (.plain (OpenSpec.ofChange actDoesSpec)) actDoesCard

/-- THE TIED CARD OF 'haruspexlaw32.ActChooses'. -/
def actChoosesCard : Claim7 := { stood := { row := actChoosesRow, standIns := [], harness := (true, "c7c0346e07dd25c1da5c606156d707288ee71b8e69e4cdbac00fa6e1cf45c4b0"), looks := false }, kinds := [], alts := [], laidByText := true, laidKinds := [.data, .data], laidTests := true, laidLooks := .later }
def ActChoosesCardSaid : Prop := Claim7.holds Tryd.pinned (.plain (OpenSpec.ofChange actChoosesSpec)) actChoosesCard

/-- THE TIED CARD OF 'haruspexlaw32.ActRules'. -/
def actRulesCard : Claim7 := { stood := { row := actRulesRow, standIns := [], harness := (true, "c7c0346e07dd25c1da5c606156d707288ee71b8e69e4cdbac00fa6e1cf45c4b0"), looks := false }, kinds := [], alts := [], laidByText := true, laidKinds := [.data, .data], laidTests := true, laidLooks := .later }
def ActRulesCardSaid : Prop := Claim7.holds Tryd.pinned (.plain (OpenSpec.ofChange actRulesSpec)) actRulesCard

/-- THE TIED CARD OF 'haruspexlaw32.ActKnown'. -/
def actKnownCard : Claim7 := { stood := { row := actKnownRow, standIns := [], harness := (true, "c7c0346e07dd25c1da5c606156d707288ee71b8e69e4cdbac00fa6e1cf45c4b0"), looks := false }, kinds := [], alts := [], laidByText := true, laidKinds := [.data, .data], laidTests := true, laidLooks := .later }
def ActKnownCardSaid : Prop := Claim7.holds Tryd.pinned (.plain (OpenSpec.ofChange actKnownSpec)) actKnownCard

/-- THE TIED CARD OF 'haruspexlaw32.ActBest'. -/
def actBestCard : Claim7 := { stood := { row := actBestRow, standIns := [], harness := (true, "c7c0346e07dd25c1da5c606156d707288ee71b8e69e4cdbac00fa6e1cf45c4b0"), looks := false }, kinds := [], alts := [], laidByText := true, laidKinds := [.data, .data], laidTests := true, laidLooks := .later }
def ActBestCardSaid : Prop := Claim7.holds Tryd.pinned (.plain (OpenSpec.ofChange actBestSpec)) actBestCard

/-- THE TIED CARD OF 'haruspexlaw32.ActCalculus'. -/
def actCalculusCard : Claim7 := { stood := { row := actCalculusRow, standIns := [], harness := (true, "c7c0346e07dd25c1da5c606156d707288ee71b8e69e4cdbac00fa6e1cf45c4b0"), looks := false }, kinds := [], alts := [], laidByText := true, laidKinds := [.data, .data], laidTests := true, laidLooks := .later }
def ActCalculusCardSaid : Prop := Claim7.holds Tryd.pinned (.plain (OpenSpec.ofChange actCalculusSpec)) actCalculusCard

/-- THE SECOND FORM's CARD OF 'haruspexlaw32.ActCuts'. -/
def actCutsUptoCard : Claim7 := { stood := { row := actCutsUptoRow, standIns := [], harness := (true, "c7c0346e07dd25c1da5c606156d707288ee71b8e69e4cdbac00fa6e1cf45c4b0"), looks := false }, kinds := [], alts := [], laidByText := true, laidKinds := [.data, .data], laidTests := true, laidLooks := .later }
def ActCutsUptoCardSaid : Prop := Claim7.holds Tryd.pinned (.plain (OpenSpec.upto actCutsSpec)) actCutsUptoCard

/-- THE SECOND FORM's CARD OF 'haruspexlaw32.ActRoots'. -/
def actRootsUptoCard : Claim7 := { stood := { row := actRootsUptoRow, standIns := [], harness := (true, "c7c0346e07dd25c1da5c606156d707288ee71b8e69e4cdbac00fa6e1cf45c4b0"), looks := false }, kinds := [], alts := [], laidByText := true, laidKinds := [.data, .data], laidTests := true, laidLooks := .later }
def ActRootsUptoCardSaid : Prop := Claim7.holds Tryd.pinned (.plain (OpenSpec.upto actRootsSpec)) actRootsUptoCard

/-- THE SECOND FORM's CARD OF 'haruspexlaw32.ActDoes'. -/
def actDoesUptoCard : Claim7 := { stood := { row := actDoesUptoRow, standIns := [], harness := (true, "c7c0346e07dd25c1da5c606156d707288ee71b8e69e4cdbac00fa6e1cf45c4b0"), looks := false }, kinds := [], alts := [], laidByText := true, laidKinds := [.data, .data], laidTests := true, laidLooks := .later }
def ActDoesUptoCardSaid : Prop := Claim7.holds Tryd.pinned (.plain (OpenSpec.upto actDoesSpec)) actDoesUptoCard

/-- THE SECOND FORM's CARD OF 'haruspexlaw32.ActChooses'. -/
def actChoosesUptoCard : Claim7 := { stood := { row := actChoosesUptoRow, standIns := [], harness := (true, "c7c0346e07dd25c1da5c606156d707288ee71b8e69e4cdbac00fa6e1cf45c4b0"), looks := false }, kinds := [], alts := [], laidByText := true, laidKinds := [.data, .data], laidTests := true, laidLooks := .later }
def ActChoosesUptoCardSaid : Prop := Claim7.holds Tryd.pinned (.plain (OpenSpec.upto actChoosesSpec)) actChoosesUptoCard

/-- THE SECOND FORM's CARD OF 'haruspexlaw32.ActRules'. -/
def actRulesUptoCard : Claim7 := { stood := { row := actRulesUptoRow, standIns := [], harness := (true, "c7c0346e07dd25c1da5c606156d707288ee71b8e69e4cdbac00fa6e1cf45c4b0"), looks := false }, kinds := [], alts := [], laidByText := true, laidKinds := [.data, .data], laidTests := true, laidLooks := .later }
def ActRulesUptoCardSaid : Prop := Claim7.holds Tryd.pinned (.plain (OpenSpec.upto actRulesSpec)) actRulesUptoCard

/-- THE SECOND FORM's CARD OF 'haruspexlaw32.ActKnown'. -/
def actKnownUptoCard : Claim7 := { stood := { row := actKnownUptoRow, standIns := [], harness := (true, "c7c0346e07dd25c1da5c606156d707288ee71b8e69e4cdbac00fa6e1cf45c4b0"), looks := false }, kinds := [], alts := [], laidByText := true, laidKinds := [.data, .data], laidTests := true, laidLooks := .later }
def ActKnownUptoCardSaid : Prop := Claim7.holds Tryd.pinned (.plain (OpenSpec.upto actKnownSpec)) actKnownUptoCard

/-- THE SECOND FORM's CARD OF 'haruspexlaw32.ActBest'. -/
def actBestUptoCard : Claim7 := { stood := { row := actBestUptoRow, standIns := [], harness := (true, "c7c0346e07dd25c1da5c606156d707288ee71b8e69e4cdbac00fa6e1cf45c4b0"), looks := false }, kinds := [], alts := [], laidByText := true, laidKinds := [.data, .data], laidTests := true, laidLooks := .later }
def ActBestUptoCardSaid : Prop := Claim7.holds Tryd.pinned (.plain (OpenSpec.upto actBestSpec)) actBestUptoCard

/-- THE SECOND FORM's CARD OF 'haruspexlaw32.ActCalculus'. -/
def actCalculusUptoCard : Claim7 := { stood := { row := actCalculusUptoRow, standIns := [], harness := (true, "c7c0346e07dd25c1da5c606156d707288ee71b8e69e4cdbac00fa6e1cf45c4b0"), looks := false }, kinds := [], alts := [], laidByText := true, laidKinds := [.data, .data], laidTests := true, laidLooks := .later }
def ActCalculusUptoCardSaid : Prop := Claim7.holds Tryd.pinned (.plain (OpenSpec.upto actCalculusSpec)) actCalculusUptoCard
end Rows
end Go.Proofs.YtgogkahhifkocaaDoor
