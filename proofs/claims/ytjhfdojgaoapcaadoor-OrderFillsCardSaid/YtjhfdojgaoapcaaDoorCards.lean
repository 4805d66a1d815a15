/-
  DERIVED. GIVEN WITH THE SEED: THE CARDS: each row of YtjhfdojgaoapcaaDoorRows.lean that lists a variable, with what it lists TIED to the program's text (the seventh form; the later family's looks); each row that meets fmt, with fmt's text TOLD by the authors' own Lean function (tested against real Go, not proved from fmt's source: count such statements apart). THE CARD IS WHAT COUNTS. Prove the row's statement (the work); the ties are given (YtjhfdojgaoapcaaDoorTie.lean); close each card by the builder's one call (the guide's Derived/Test/ToyasCard.lean, 'card_holds'). Laid BY PROGRAM, IN A SANDBOX (cutbox-door.mjs). By AI agents, Wed Nov 11 2026. No macro, syntax, notation, axiom, sorry.
-/
import Derived.Test.YtjhfdojgaoapcaaDoorRows
import GoSem.ClaimSeven
namespace Go.Proofs.YtjhfdojgaoapcaaDoor
namespace Rows

/-- THE TIED CARD OF 'haruspexlaw08.OrderWidths'. -/
def orderWidthsCard : Claim7 := { stood := { row := orderWidthsRow, standIns := [], harness := (true, "2bbc4cc78ad26f318e243cdafbc26f4bfb94a10ac8ee7b9be9baf8cbd3f3cc1e"), looks := false }, kinds := [], alts := [], laidByText := true, laidKinds := [.data, .data], laidTests := true, laidLooks := .later }
def OrderWidthsCardSaid : Prop := Claim7.holds Tryd.pinned (.plain (OpenSpec.ofChange orderWidthsSpec)) orderWidthsCard

/-- THE TIED CARD OF 'haruspexlaw08.OrderGreedy'. -/
def orderGreedyCard : Claim7 := { stood := { row := orderGreedyRow, standIns := [], harness := (true, "2bbc4cc78ad26f318e243cdafbc26f4bfb94a10ac8ee7b9be9baf8cbd3f3cc1e"), looks := false }, kinds := [], alts := [], laidByText := true, laidKinds := [.data, .data], laidTests := true, laidLooks := .later }
def OrderGreedyCardSaid : Prop := Claim7.holds Tryd.pinned (.plain (OpenSpec.ofChange orderGreedySpec)) orderGreedyCard

/-- THE TIED CARD OF 'haruspexlaw08.OrderBests'. -/
def orderBestsCard : Claim7 := { stood := { row := orderBestsRow, standIns := [], harness := (true, "2bbc4cc78ad26f318e243cdafbc26f4bfb94a10ac8ee7b9be9baf8cbd3f3cc1e"), looks := false }, kinds := [], alts := [], laidByText := true, laidKinds := [.data, .data], laidTests := true, laidLooks := .later }
def OrderBestsCardSaid : Prop := Claim7.holds Tryd.pinned (.plain (OpenSpec.ofChange orderBestsSpec)) orderBestsCard

/-- THE TIED CARD OF 'haruspexlaw08.OrderBounds'. -/
def orderBoundsCard : Claim7 := { stood := { row := orderBoundsRow, standIns := [], harness := (true, "2bbc4cc78ad26f318e243cdafbc26f4bfb94a10ac8ee7b9be9baf8cbd3f3cc1e"), looks := false }, kinds := [], alts := [], laidByText := true, laidKinds := [.data, .data], laidTests := true, laidLooks := .later }
def OrderBoundsCardSaid : Prop := Claim7.holds Tryd.pinned (.plain (OpenSpec.ofChange orderBoundsSpec)) orderBoundsCard

/-- THE TIED CARD OF 'haruspexlaw08.OrderChords'. -/
def orderChordsCard : Claim7 := { stood := { row := orderChordsRow, standIns := [], harness := (true, "2bbc4cc78ad26f318e243cdafbc26f4bfb94a10ac8ee7b9be9baf8cbd3f3cc1e"), looks := false }, kinds := [], alts := [], laidByText := true, laidKinds := [.data, .data], laidTests := true, laidLooks := .later }
def OrderChordsCardSaid : Prop := Claim7.holds Tryd.pinned (.plain (OpenSpec.ofChange orderChordsSpec)) orderChordsCard

/-- THE TIED CARD OF 'haruspexlaw08.OrderKnown'. -/
def orderKnownCard : Claim7 := { stood := { row := orderKnownRow, standIns := [], harness := (true, "2bbc4cc78ad26f318e243cdafbc26f4bfb94a10ac8ee7b9be9baf8cbd3f3cc1e"), looks := false }, kinds := [], alts := [], laidByText := true, laidKinds := [.data, .data], laidTests := true, laidLooks := .later }
def OrderKnownCardSaid : Prop := Claim7.holds Tryd.pinned (.plain (OpenSpec.ofChange orderKnownSpec)) orderKnownCard

/-- THE TIED CARD OF 'haruspexlaw08.OrderFills'. -/
def orderFillsCard : Claim7 := { stood := { row := orderFillsRow, standIns := [], harness := (true, "2bbc4cc78ad26f318e243cdafbc26f4bfb94a10ac8ee7b9be9baf8cbd3f3cc1e"), looks := false }, kinds := [], alts := [], laidByText := true, laidKinds := [.data, .data], laidTests := true, laidLooks := .later }
def OrderFillsCardSaid : Prop := Claim7.holds Tryd.pinned (.plain (OpenSpec.ofChange orderFillsSpec)) orderFillsCard

/-- THE TIED CARD OF 'haruspexlaw08.OrderLeast'. -/
def orderLeastCard : Claim7 := { stood := { row := orderLeastRow, standIns := [], harness := (true, "2bbc4cc78ad26f318e243cdafbc26f4bfb94a10ac8ee7b9be9baf8cbd3f3cc1e"), looks := false }, kinds := [], alts := [], laidByText := true, laidKinds := [.data, .data], laidTests := true, laidLooks := .later }
def OrderLeastCardSaid : Prop := Claim7.holds Tryd.pinned (.plain (OpenSpec.ofChange orderLeastSpec)) orderLeastCard

/-- THE SECOND FORM's CARD OF 'haruspexlaw08.OrderWidths'. -/
def orderWidthsUptoCard : Claim7 := { stood := { row := orderWidthsUptoRow, standIns := [], harness := (true, "2bbc4cc78ad26f318e243cdafbc26f4bfb94a10ac8ee7b9be9baf8cbd3f3cc1e"), looks := false }, kinds := [], alts := [], laidByText := true, laidKinds := [.data, .data], laidTests := true, laidLooks := .later }
def OrderWidthsUptoCardSaid : Prop := Claim7.holds Tryd.pinned (.plain (OpenSpec.upto orderWidthsSpec)) orderWidthsUptoCard

/-- THE SECOND FORM's CARD OF 'haruspexlaw08.OrderGreedy'. -/
def orderGreedyUptoCard : Claim7 := { stood := { row := orderGreedyUptoRow, standIns := [], harness := (true, "2bbc4cc78ad26f318e243cdafbc26f4bfb94a10ac8ee7b9be9baf8cbd3f3cc1e"), looks := false }, kinds := [], alts := [], laidByText := true, laidKinds := [.data, .data], laidTests := true, laidLooks := .later }
def OrderGreedyUptoCardSaid : Prop := Claim7.holds Tryd.pinned (.plain (OpenSpec.upto orderGreedySpec)) orderGreedyUptoCard

/-- THE SECOND FORM's CARD OF 'haruspexlaw08.OrderBests'. -/
def orderBestsUptoCard : Claim7 := { stood := { row := orderBestsUptoRow, standIns := [], harness := (true, "2bbc4cc78ad26f318e243cdafbc26f4bfb94a10ac8ee7b9be9baf8cbd3f3cc1e"), looks := false }, kinds := [], alts := [], laidByText := true, laidKinds := [.data, .data], laidTests := true, laidLooks := .later }
def OrderBestsUptoCardSaid : Prop := Claim7.holds Tryd.pinned (.plain (OpenSpec.upto orderBestsSpec)) orderBestsUptoCard

/-- THE SECOND FORM's CARD OF 'haruspexlaw08.OrderBounds'. -/
def orderBoundsUptoCard : Claim7 := { stood := { row := orderBoundsUptoRow, standIns := [], harness := (true, "2bbc4cc78ad26f318e243cdafbc26f4bfb94a10ac8ee7b9be9baf8cbd3f3cc1e"), looks := false }, kinds := [], alts := [], laidByText := true, laidKinds := [.data, .data], laidTests := true, laidLooks := .later }
def OrderBoundsUptoCardSaid : Prop := Claim7.holds Tryd.pinned (.plain (OpenSpec.upto orderBoundsSpec)) orderBoundsUptoCard

/-- THE SECOND FORM's CARD OF 'haruspexlaw08.OrderChords'. -/
def orderChordsUptoCard : Claim7 := { stood := { row := orderChordsUptoRow, standIns := [], harness := (true, "2bbc4cc78ad26f318e243cdafbc26f4bfb94a10ac8ee7b9be9baf8cbd3f3cc1e"), looks := false }, kinds := [], alts := [], laidByText := true, laidKinds := [.data, .data], laidTests := true, laidLooks := .later }
def OrderChordsUptoCardSaid : Prop := Claim7.holds Tryd.pinned (.plain (OpenSpec.upto orderChordsSpec)) orderChordsUptoCard

/-- THE SECOND FORM's CARD OF 'haruspexlaw08.OrderKnown'. -/
def orderKnownUptoCard : Claim7 := { stood := { row := orderKnownUptoRow, standIns := [], harness := (true, "2bbc4cc78ad26f318e243cdafbc26f4bfb94a10ac8ee7b9be9baf8cbd3f3cc1e"), looks := false }, kinds := [], alts := [], laidByText := true, laidKinds := [.data, .data], laidTests := true, laidLooks := .later }
def OrderKnownUptoCardSaid : Prop := Claim7.holds Tryd.pinned (.plain (OpenSpec.upto orderKnownSpec)) orderKnownUptoCard

/-- THE SECOND FORM's CARD OF 'haruspexlaw08.OrderFills'. -/
def orderFillsUptoCard : Claim7 := { stood := { row := orderFillsUptoRow, standIns := [], harness := (true, "2bbc4cc78ad26f318e243cdafbc26f4bfb94a10ac8ee7b9be9baf8cbd3f3cc1e"), looks := false }, kinds := [], alts := [], laidByText := true, laidKinds := [.data, .data], laidTests := true, laidLooks := .later }
def OrderFillsUptoCardSaid : Prop := Claim7.holds Tryd.pinned (.plain (OpenSpec.upto orderFillsSpec)) orderFillsUptoCard

/-- THE SECOND FORM's CARD OF 'haruspexlaw08.OrderLeast'. -/
def orderLeastUptoCard : Claim7 := { stood := { row := orderLeastUptoRow, standIns := [], harness := (true, "2bbc4cc78ad26f318e243cdafbc26f4bfb94a10ac8ee7b9be9baf8cbd3f3cc1e"), looks := false }, kinds := [], alts := [], laidByText := true, laidKinds := [.data, .data], laidTests := true, laidLooks := .later }
def OrderLeastUptoCardSaid : Prop := Claim7.holds Tryd.pinned (.plain (OpenSpec.upto orderLeastSpec)) orderLeastUptoCard
end Rows
end Go.Proofs.YtjhfdojgaoapcaaDoor
