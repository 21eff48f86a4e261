/-
  DERIVED. GIVEN WITH THE SEED: THE CARDS: each row of YtbioehoeoalalaaDoorRows.lean that lists a variable, with what it lists TIED to the program's text (the seventh form; the later family's looks); each row that meets fmt, with fmt's text TOLD by the authors' own Lean function (tested against real Go, not proved from fmt's source: count such statements apart). THE CARD IS WHAT COUNTS. Prove the row's statement (the work); the ties are given (YtbioehoeoalalaaDoorTie.lean); close each card by the builder's one call (the guide's Derived/Test/ToyasCard.lean, 'card_holds'). Laid BY PROGRAM, IN A SANDBOX (cutbox-door.mjs). By AI agents, Wed Nov 11 2026. No macro, syntax, notation, axiom, sorry.
-/
import Derived.Test.YtbioehoeoalalaaDoorRows
import GoSem.ClaimSeven
namespace Go.Proofs.YtbioehoeoalalaaDoor
namespace Rows

/-- THE TIED CARD OF 'marginalialaw02.PlaceOffsets'. -/
def placeOffsetsCard : Claim7 := { stood := { row := placeOffsetsRow, standIns := [], harness := (true, "e2ea668c3426570bc4802cb2787fc25d30e478d1deaf16e05c1e33952e243d87"), looks := false }, kinds := [], alts := [], laidByText := true, laidKinds := [.data, .pinned], laidTests := true, laidLooks := .later }
def PlaceOffsetsCardSaid : Prop := Claim7.holds Tryd.pinned (.plain (OpenSpec.ofChange placeOffsetsSpec)) placeOffsetsCard

/-- THE TIED CARD OF 'marginalialaw02.PlaceSpans'. -/
def placeSpansCard : Claim7 := { stood := { row := placeSpansRow, standIns := [], harness := (true, "e2ea668c3426570bc4802cb2787fc25d30e478d1deaf16e05c1e33952e243d87"), looks := false }, kinds := [], alts := [], laidByText := true, laidKinds := [.data, .pinned], laidTests := true, laidLooks := .later }
def PlaceSpansCardSaid : Prop := Claim7.holds Tryd.pinned (.plain (OpenSpec.ofChange placeSpansSpec)) placeSpansCard

/-- THE TIED CARD OF 'marginalialaw02.PlaceBack'. -/
def placeBackCard : Claim7 := { stood := { row := placeBackRow, standIns := [], harness := (true, "e2ea668c3426570bc4802cb2787fc25d30e478d1deaf16e05c1e33952e243d87"), looks := false }, kinds := [], alts := [], laidByText := true, laidKinds := [.data, .pinned], laidTests := true, laidLooks := .later }
def PlaceBackCardSaid : Prop := Claim7.holds Tryd.pinned (.plain (OpenSpec.ofChange placeBackSpec)) placeBackCard

/-- THE TIED CARD OF 'marginalialaw02.PlaceWidths'. -/
def placeWidthsCard : Claim7 := { stood := { row := placeWidthsRow, standIns := [], harness := (true, "e2ea668c3426570bc4802cb2787fc25d30e478d1deaf16e05c1e33952e243d87"), looks := false }, kinds := [], alts := [], laidByText := true, laidKinds := [.data, .pinned], laidTests := true, laidLooks := .later }
def PlaceWidthsCardSaid : Prop := Claim7.holds Tryd.pinned (.plain (OpenSpec.ofChange placeWidthsSpec)) placeWidthsCard

/-- THE TIED CARD OF 'marginalialaw02.PlaceOrder'. -/
def placeOrderCard : Claim7 := { stood := { row := placeOrderRow, standIns := [], harness := (true, "e2ea668c3426570bc4802cb2787fc25d30e478d1deaf16e05c1e33952e243d87"), looks := false }, kinds := [], alts := [], laidByText := true, laidKinds := [.data, .pinned], laidTests := true, laidLooks := .later }
def PlaceOrderCardSaid : Prop := Claim7.holds Tryd.pinned (.plain (OpenSpec.ofChange placeOrderSpec)) placeOrderCard

/-- THE TIED CARD OF 'marginalialaw02.PlaceLines'. -/
def placeLinesCard : Claim7 := { stood := { row := placeLinesRow, standIns := [], harness := (true, "e2ea668c3426570bc4802cb2787fc25d30e478d1deaf16e05c1e33952e243d87"), looks := false }, kinds := [], alts := [], laidByText := true, laidKinds := [.data, .pinned], laidTests := true, laidLooks := .later }
def PlaceLinesCardSaid : Prop := Claim7.holds Tryd.pinned (.plain (OpenSpec.ofChange placeLinesSpec)) placeLinesCard

/-- THE TIED CARD OF 'marginalialaw02.PlaceMoves'. -/
def placeMovesCard : Claim7 := { stood := { row := placeMovesRow, standIns := [], harness := (true, "e2ea668c3426570bc4802cb2787fc25d30e478d1deaf16e05c1e33952e243d87"), looks := false }, kinds := [], alts := [], laidByText := true, laidKinds := [.data, .pinned], laidTests := true, laidLooks := .later }
def PlaceMovesCardSaid : Prop := Claim7.holds Tryd.pinned (.plain (OpenSpec.ofChange placeMovesSpec)) placeMovesCard

/-- THE SECOND FORM's CARD OF 'marginalialaw02.PlaceOffsets'. -/
def placeOffsetsUptoCard : Claim7 := { stood := { row := placeOffsetsUptoRow, standIns := [], harness := (true, "e2ea668c3426570bc4802cb2787fc25d30e478d1deaf16e05c1e33952e243d87"), looks := false }, kinds := [], alts := [], laidByText := true, laidKinds := [.data, .pinned], laidTests := true, laidLooks := .later }
def PlaceOffsetsUptoCardSaid : Prop := Claim7.holds Tryd.pinned (.plain (OpenSpec.upto placeOffsetsSpec)) placeOffsetsUptoCard

/-- THE SECOND FORM's CARD OF 'marginalialaw02.PlaceSpans'. -/
def placeSpansUptoCard : Claim7 := { stood := { row := placeSpansUptoRow, standIns := [], harness := (true, "e2ea668c3426570bc4802cb2787fc25d30e478d1deaf16e05c1e33952e243d87"), looks := false }, kinds := [], alts := [], laidByText := true, laidKinds := [.data, .pinned], laidTests := true, laidLooks := .later }
def PlaceSpansUptoCardSaid : Prop := Claim7.holds Tryd.pinned (.plain (OpenSpec.upto placeSpansSpec)) placeSpansUptoCard

/-- THE SECOND FORM's CARD OF 'marginalialaw02.PlaceBack'. -/
def placeBackUptoCard : Claim7 := { stood := { row := placeBackUptoRow, standIns := [], harness := (true, "e2ea668c3426570bc4802cb2787fc25d30e478d1deaf16e05c1e33952e243d87"), looks := false }, kinds := [], alts := [], laidByText := true, laidKinds := [.data, .pinned], laidTests := true, laidLooks := .later }
def PlaceBackUptoCardSaid : Prop := Claim7.holds Tryd.pinned (.plain (OpenSpec.upto placeBackSpec)) placeBackUptoCard

/-- THE SECOND FORM's CARD OF 'marginalialaw02.PlaceWidths'. -/
def placeWidthsUptoCard : Claim7 := { stood := { row := placeWidthsUptoRow, standIns := [], harness := (true, "e2ea668c3426570bc4802cb2787fc25d30e478d1deaf16e05c1e33952e243d87"), looks := false }, kinds := [], alts := [], laidByText := true, laidKinds := [.data, .pinned], laidTests := true, laidLooks := .later }
def PlaceWidthsUptoCardSaid : Prop := Claim7.holds Tryd.pinned (.plain (OpenSpec.upto placeWidthsSpec)) placeWidthsUptoCard

/-- THE SECOND FORM's CARD OF 'marginalialaw02.PlaceOrder'. -/
def placeOrderUptoCard : Claim7 := { stood := { row := placeOrderUptoRow, standIns := [], harness := (true, "e2ea668c3426570bc4802cb2787fc25d30e478d1deaf16e05c1e33952e243d87"), looks := false }, kinds := [], alts := [], laidByText := true, laidKinds := [.data, .pinned], laidTests := true, laidLooks := .later }
def PlaceOrderUptoCardSaid : Prop := Claim7.holds Tryd.pinned (.plain (OpenSpec.upto placeOrderSpec)) placeOrderUptoCard

/-- THE SECOND FORM's CARD OF 'marginalialaw02.PlaceLines'. -/
def placeLinesUptoCard : Claim7 := { stood := { row := placeLinesUptoRow, standIns := [], harness := (true, "e2ea668c3426570bc4802cb2787fc25d30e478d1deaf16e05c1e33952e243d87"), looks := false }, kinds := [], alts := [], laidByText := true, laidKinds := [.data, .pinned], laidTests := true, laidLooks := .later }
def PlaceLinesUptoCardSaid : Prop := Claim7.holds Tryd.pinned (.plain (OpenSpec.upto placeLinesSpec)) placeLinesUptoCard

/-- THE SECOND FORM's CARD OF 'marginalialaw02.PlaceMoves'. -/
def placeMovesUptoCard : Claim7 := { stood := { row := placeMovesUptoRow, standIns := [], harness := (true, "e2ea668c3426570bc4802cb2787fc25d30e478d1deaf16e05c1e33952e243d87"), looks := false }, kinds := [], alts := [], laidByText := true, laidKinds := [.data, .pinned], laidTests := true, laidLooks := .later }
def PlaceMovesUptoCardSaid : Prop := Claim7.holds Tryd.pinned (.plain (OpenSpec.upto placeMovesSpec)) placeMovesUptoCard
end Rows
end Go.Proofs.YtbioehoeoalalaaDoor
