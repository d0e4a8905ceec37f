/-
  DERIVED. GIVEN WITH THE SEED: THE CARDS: each row of YtpnfhienffekoaaGreatDoorRows.lean that lists a variable, with what it lists TIED to the program's text (the seventh form; the later family's looks); each row that meets fmt, with fmt's text TOLD by the authors' own Lean function (tested against real Go, not proved from fmt's source: count such statements apart). THE CARD IS WHAT COUNTS. Prove the row's statement (the work); the ties are given (YtpnfhienffekoaaGreatDoorTie.lean); close each card by the builder's one call (the guide's Derived/Test/ToyasCard.lean, 'card_holds'). Laid BY PROGRAM, IN A SANDBOX (cutbox-door.mjs). By AI agents, Wed Nov 11 2026. No macro, syntax, notation, axiom, sorry.
-/
import Derived.Test.YtpnfhienffekoaaGreatDoorRows
import GoSem.ClaimSeven
namespace Go.Proofs.YtpnfhienffekoaaGreatDoor
namespace Rows

/-- THE TIED CARD OF 'laws.FnPlanets'. -/
def fnPlanetsCard : Claim7 := { stood := { row := fnPlanetsRow, standIns := [], harness := (true, "7df02e352032e7fcbcf90f2e9fbc716e42f27d209af5ec4ec03e828b4c3389d0"), looks := true }, kinds := [], alts := [], laidByText := true, laidKinds := [.data, .data, .data, .data, .sentinel, .sentinel, .data, .pinned], laidTests := true, laidLooks := .later }
def FnPlanetsCardSaid : Prop := Claim7.holds Tryz.pinned (.plain (OpenSpec.ofChange fnPlanetsSpec)) fnPlanetsCard

/-- THE TIED CARD OF 'laws.FnCatalogue'. -/
def fnCatalogueCard : Claim7 := { stood := { row := fnCatalogueRow, standIns := [], harness := (true, "7df02e352032e7fcbcf90f2e9fbc716e42f27d209af5ec4ec03e828b4c3389d0"), looks := true }, kinds := [], alts := [], laidByText := true, laidKinds := [.data, .data, .data, .data, .sentinel, .sentinel, .data, .pinned], laidTests := true, laidLooks := .later }
def FnCatalogueCardSaid : Prop := Claim7.holds Tryz.pinned (.plain (OpenSpec.ofChange fnCatalogueSpec)) fnCatalogueCard

/-- THE TIED CARD OF 'laws.FnFigures'. -/
def fnFiguresCard : Claim7 := { stood := { row := fnFiguresRow, standIns := [], harness := (true, "7df02e352032e7fcbcf90f2e9fbc716e42f27d209af5ec4ec03e828b4c3389d0"), looks := true }, kinds := [], alts := [], laidByText := true, laidKinds := [.data, .data, .data, .data, .sentinel, .sentinel, .data, .pinned], laidTests := true, laidLooks := .later }
def FnFiguresCardSaid : Prop := Claim7.holds Tryz.pinned (.plain (OpenSpec.ofChange fnFiguresSpec)) fnFiguresCard

/-- THE SECOND FORM's CARD OF 'laws.FnPlanets'. -/
def fnPlanetsUptoCard : Claim7 := { stood := { row := fnPlanetsUptoRow, standIns := [], harness := (true, "7df02e352032e7fcbcf90f2e9fbc716e42f27d209af5ec4ec03e828b4c3389d0"), looks := true }, kinds := [], alts := [], laidByText := true, laidKinds := [.data, .data, .data, .data, .sentinel, .sentinel, .data, .pinned], laidTests := true, laidLooks := .later }
def FnPlanetsUptoCardSaid : Prop := Claim7.holds Tryz.pinned (.plain (OpenSpec.upto fnPlanetsSpec)) fnPlanetsUptoCard

/-- THE SECOND FORM's CARD OF 'laws.FnCatalogue'. -/
def fnCatalogueUptoCard : Claim7 := { stood := { row := fnCatalogueUptoRow, standIns := [], harness := (true, "7df02e352032e7fcbcf90f2e9fbc716e42f27d209af5ec4ec03e828b4c3389d0"), looks := true }, kinds := [], alts := [], laidByText := true, laidKinds := [.data, .data, .data, .data, .sentinel, .sentinel, .data, .pinned], laidTests := true, laidLooks := .later }
def FnCatalogueUptoCardSaid : Prop := Claim7.holds Tryz.pinned (.plain (OpenSpec.upto fnCatalogueSpec)) fnCatalogueUptoCard

/-- THE SECOND FORM's CARD OF 'laws.FnFigures'. -/
def fnFiguresUptoCard : Claim7 := { stood := { row := fnFiguresUptoRow, standIns := [], harness := (true, "7df02e352032e7fcbcf90f2e9fbc716e42f27d209af5ec4ec03e828b4c3389d0"), looks := true }, kinds := [], alts := [], laidByText := true, laidKinds := [.data, .data, .data, .data, .sentinel, .sentinel, .data, .pinned], laidTests := true, laidLooks := .later }
def FnFiguresUptoCardSaid : Prop := Claim7.holds Tryz.pinned (.plain (OpenSpec.upto fnFiguresSpec)) fnFiguresUptoCard
end Rows
end Go.Proofs.YtpnfhienffekoaaGreatDoor
