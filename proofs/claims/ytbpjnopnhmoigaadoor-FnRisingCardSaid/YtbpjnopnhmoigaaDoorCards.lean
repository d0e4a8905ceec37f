/-
  DERIVED. GIVEN WITH THE SEED: THE CARDS: each row of YtbpjnopnhmoigaaDoorRows.lean that lists a variable, with what it lists TIED to the program's text (the seventh form; the later family's looks); each row that meets fmt, with fmt's text TOLD by the authors' own Lean function (tested against real Go, not proved from fmt's source: count such statements apart). THE CARD IS WHAT COUNTS. Prove the row's statement (the work); the ties are given (YtbpjnopnhmoigaaDoorTie.lean); close each card by the builder's one call (the guide's Derived/Test/ToyasCard.lean, 'card_holds'). Laid BY PROGRAM, IN A SANDBOX (cutbox-door.mjs). By AI agents, Wed Nov 11 2026. No macro, syntax, notation, axiom, sorry.
-/
import Derived.Test.YtbpjnopnhmoigaaDoorRows
import GoSem.ClaimSeven
namespace Go.Proofs.YtbpjnopnhmoigaaDoor
namespace Rows

/-- THE TIED CARD OF 'laws.FnExactBestTour'. -/
def fnExactBestTourCard : Claim7 := { stood := { row := fnExactBestTourRow, standIns := [], harness := (true, "603bd35227b6630495183fef819f7888032d4fd8299a0fbe79242d1c075e5dd7"), looks := false }, kinds := [], alts := [], laidByText := true, laidKinds := [.data], laidTests := true, laidLooks := .later }
def FnExactBestTourCardSaid : Prop := Claim7.holds Tryd.pinned (.plain (OpenSpec.ofChange fnExactBestTourSpec)) fnExactBestTourCard

/-- THE TIED CARD OF 'laws.FnExactFigureLength'. -/
def fnExactFigureLengthCard : Claim7 := { stood := { row := fnExactFigureLengthRow, standIns := [], harness := (true, "603bd35227b6630495183fef819f7888032d4fd8299a0fbe79242d1c075e5dd7"), looks := false }, kinds := [], alts := [], laidByText := true, laidKinds := [.data], laidTests := true, laidLooks := .later }
def FnExactFigureLengthCardSaid : Prop := Claim7.holds Tryd.pinned (.plain (OpenSpec.ofChange fnExactFigureLengthSpec)) fnExactFigureLengthCard

/-- THE TIED CARD OF 'laws.FnExactVisibleLines'. -/
def fnExactVisibleLinesCard : Claim7 := { stood := { row := fnExactVisibleLinesRow, standIns := [], harness := (true, "603bd35227b6630495183fef819f7888032d4fd8299a0fbe79242d1c075e5dd7"), looks := false }, kinds := [], alts := [], laidByText := true, laidKinds := [.data], laidTests := true, laidLooks := .later }
def FnExactVisibleLinesCardSaid : Prop := Claim7.holds Tryd.pinned (.plain (OpenSpec.ofChange fnExactVisibleLinesSpec)) fnExactVisibleLinesCard

/-- THE TIED CARD OF 'laws.FnExactVisibleStars'. -/
def fnExactVisibleStarsCard : Claim7 := { stood := { row := fnExactVisibleStarsRow, standIns := [], harness := (true, "603bd35227b6630495183fef819f7888032d4fd8299a0fbe79242d1c075e5dd7"), looks := false }, kinds := [], alts := [], laidByText := true, laidKinds := [.data], laidTests := true, laidLooks := .later }
def FnExactVisibleStarsCardSaid : Prop := Claim7.holds Tryd.pinned (.plain (OpenSpec.ofChange fnExactVisibleStarsSpec)) fnExactVisibleStarsCard

/-- THE TIED CARD OF 'laws.FnExactFigureSpan'. -/
def fnExactFigureSpanCard : Claim7 := { stood := { row := fnExactFigureSpanRow, standIns := [], harness := (true, "603bd35227b6630495183fef819f7888032d4fd8299a0fbe79242d1c075e5dd7"), looks := false }, kinds := [], alts := [], laidByText := true, laidKinds := [.data], laidTests := true, laidLooks := .later }
def FnExactFigureSpanCardSaid : Prop := Claim7.holds Tryd.pinned (.plain (OpenSpec.ofChange fnExactFigureSpanSpec)) fnExactFigureSpanCard

/-- THE TIED CARD OF 'laws.FnExactFigureCentre'. -/
def fnExactFigureCentreCard : Claim7 := { stood := { row := fnExactFigureCentreRow, standIns := [], harness := (true, "603bd35227b6630495183fef819f7888032d4fd8299a0fbe79242d1c075e5dd7"), looks := false }, kinds := [], alts := [], laidByText := true, laidKinds := [.data], laidTests := true, laidLooks := .later }
def FnExactFigureCentreCardSaid : Prop := Claim7.holds Tryd.pinned (.plain (OpenSpec.ofChange fnExactFigureCentreSpec)) fnExactFigureCentreCard

/-- THE TIED CARD OF 'laws.FnTours'. -/
def fnToursCard : Claim7 := { stood := { row := fnToursRow, standIns := [], harness := (true, "603bd35227b6630495183fef819f7888032d4fd8299a0fbe79242d1c075e5dd7"), looks := false }, kinds := [], alts := [], laidByText := true, laidKinds := [.data], laidTests := true, laidLooks := .later }
def FnToursCardSaid : Prop := Claim7.holds Tryd.pinned (.plain (OpenSpec.ofChange fnToursSpec)) fnToursCard

/-- THE TIED CARD OF 'laws.FnRising'. -/
def fnRisingCard : Claim7 := { stood := { row := fnRisingRow, standIns := [], harness := (true, "603bd35227b6630495183fef819f7888032d4fd8299a0fbe79242d1c075e5dd7"), looks := false }, kinds := [], alts := [], laidByText := true, laidKinds := [.data], laidTests := true, laidLooks := .later }
def FnRisingCardSaid : Prop := Claim7.holds Tryd.pinned (.plain (OpenSpec.ofChange fnRisingSpec)) fnRisingCard

/-- THE SECOND FORM's CARD OF 'laws.FnExactBestTour'. -/
def fnExactBestTourUptoCard : Claim7 := { stood := { row := fnExactBestTourUptoRow, standIns := [], harness := (true, "603bd35227b6630495183fef819f7888032d4fd8299a0fbe79242d1c075e5dd7"), looks := false }, kinds := [], alts := [], laidByText := true, laidKinds := [.data], laidTests := true, laidLooks := .later }
def FnExactBestTourUptoCardSaid : Prop := Claim7.holds Tryd.pinned (.plain (OpenSpec.upto fnExactBestTourSpec)) fnExactBestTourUptoCard

/-- THE SECOND FORM's CARD OF 'laws.FnExactFigureLength'. -/
def fnExactFigureLengthUptoCard : Claim7 := { stood := { row := fnExactFigureLengthUptoRow, standIns := [], harness := (true, "603bd35227b6630495183fef819f7888032d4fd8299a0fbe79242d1c075e5dd7"), looks := false }, kinds := [], alts := [], laidByText := true, laidKinds := [.data], laidTests := true, laidLooks := .later }
def FnExactFigureLengthUptoCardSaid : Prop := Claim7.holds Tryd.pinned (.plain (OpenSpec.upto fnExactFigureLengthSpec)) fnExactFigureLengthUptoCard

/-- THE SECOND FORM's CARD OF 'laws.FnExactVisibleLines'. -/
def fnExactVisibleLinesUptoCard : Claim7 := { stood := { row := fnExactVisibleLinesUptoRow, standIns := [], harness := (true, "603bd35227b6630495183fef819f7888032d4fd8299a0fbe79242d1c075e5dd7"), looks := false }, kinds := [], alts := [], laidByText := true, laidKinds := [.data], laidTests := true, laidLooks := .later }
def FnExactVisibleLinesUptoCardSaid : Prop := Claim7.holds Tryd.pinned (.plain (OpenSpec.upto fnExactVisibleLinesSpec)) fnExactVisibleLinesUptoCard

/-- THE SECOND FORM's CARD OF 'laws.FnExactVisibleStars'. -/
def fnExactVisibleStarsUptoCard : Claim7 := { stood := { row := fnExactVisibleStarsUptoRow, standIns := [], harness := (true, "603bd35227b6630495183fef819f7888032d4fd8299a0fbe79242d1c075e5dd7"), looks := false }, kinds := [], alts := [], laidByText := true, laidKinds := [.data], laidTests := true, laidLooks := .later }
def FnExactVisibleStarsUptoCardSaid : Prop := Claim7.holds Tryd.pinned (.plain (OpenSpec.upto fnExactVisibleStarsSpec)) fnExactVisibleStarsUptoCard

/-- THE SECOND FORM's CARD OF 'laws.FnExactFigureSpan'. -/
def fnExactFigureSpanUptoCard : Claim7 := { stood := { row := fnExactFigureSpanUptoRow, standIns := [], harness := (true, "603bd35227b6630495183fef819f7888032d4fd8299a0fbe79242d1c075e5dd7"), looks := false }, kinds := [], alts := [], laidByText := true, laidKinds := [.data], laidTests := true, laidLooks := .later }
def FnExactFigureSpanUptoCardSaid : Prop := Claim7.holds Tryd.pinned (.plain (OpenSpec.upto fnExactFigureSpanSpec)) fnExactFigureSpanUptoCard

/-- THE SECOND FORM's CARD OF 'laws.FnExactFigureCentre'. -/
def fnExactFigureCentreUptoCard : Claim7 := { stood := { row := fnExactFigureCentreUptoRow, standIns := [], harness := (true, "603bd35227b6630495183fef819f7888032d4fd8299a0fbe79242d1c075e5dd7"), looks := false }, kinds := [], alts := [], laidByText := true, laidKinds := [.data], laidTests := true, laidLooks := .later }
def FnExactFigureCentreUptoCardSaid : Prop := Claim7.holds Tryd.pinned (.plain (OpenSpec.upto fnExactFigureCentreSpec)) fnExactFigureCentreUptoCard

/-- THE SECOND FORM's CARD OF 'laws.FnTours'. -/
def fnToursUptoCard : Claim7 := { stood := { row := fnToursUptoRow, standIns := [], harness := (true, "603bd35227b6630495183fef819f7888032d4fd8299a0fbe79242d1c075e5dd7"), looks := false }, kinds := [], alts := [], laidByText := true, laidKinds := [.data], laidTests := true, laidLooks := .later }
def FnToursUptoCardSaid : Prop := Claim7.holds Tryd.pinned (.plain (OpenSpec.upto fnToursSpec)) fnToursUptoCard

/-- THE SECOND FORM's CARD OF 'laws.FnRising'. -/
def fnRisingUptoCard : Claim7 := { stood := { row := fnRisingUptoRow, standIns := [], harness := (true, "603bd35227b6630495183fef819f7888032d4fd8299a0fbe79242d1c075e5dd7"), looks := false }, kinds := [], alts := [], laidByText := true, laidKinds := [.data], laidTests := true, laidLooks := .later }
def FnRisingUptoCardSaid : Prop := Claim7.holds Tryd.pinned (.plain (OpenSpec.upto fnRisingSpec)) fnRisingUptoCard
end Rows
end Go.Proofs.YtbpjnopnhmoigaaDoor
