/-
  DERIVED. GIVEN WITH THE SEED: THE CARDS: each row of YtngkdolohokcoaaDoorRows.lean that lists a variable, with what it lists TIED to the program's text (the seventh form; the later family's looks); each row that meets fmt, with fmt's text TOLD by the authors' own Lean function (tested against real Go, not proved from fmt's source: count such statements apart). THE CARD IS WHAT COUNTS. Prove the row's statement (the work); the ties are given (YtngkdolohokcoaaDoorTie.lean); close each card by the builder's one call (the guide's Derived/Test/ToyasCard.lean, 'card_holds'). Laid BY PROGRAM, IN A SANDBOX (cutbox-door.mjs). By AI agents, Wed Nov 11 2026. No macro, syntax, notation, axiom, sorry.
-/
import Derived.Test.YtngkdolohokcoaaDoorRows
import GoSem.ClaimSeven
namespace Go.Proofs.YtngkdolohokcoaaDoor
namespace Rows

/-- THE TIED CARD OF 'laws.FnExactStarText'. -/
def fnExactStarTextCard : Claim7 := { stood := { row := fnExactStarTextRow, standIns := [], harness := (true, "dc590d6eedeb345f29a961042316ced6e1d3d308e4be16ccc8444765c9ab6db2"), looks := true }, kinds := [], alts := [], laidByText := true, laidKinds := [.data, .data, .data], laidTests := true, laidLooks := .later }
def FnExactStarTextCardSaid : Prop := Claim7.holds Tryd.pinned (.plain (OpenSpec.ofChange fnExactStarTextSpec)) fnExactStarTextCard

/-- THE TIED CARD OF 'laws.FnExactSiteText'. -/
def fnExactSiteTextCard : Claim7 := { stood := { row := fnExactSiteTextRow, standIns := [], harness := (true, "dc590d6eedeb345f29a961042316ced6e1d3d308e4be16ccc8444765c9ab6db2"), looks := true }, kinds := [], alts := [], laidByText := true, laidKinds := [.data, .data, .data], laidTests := true, laidLooks := .later }
def FnExactSiteTextCardSaid : Prop := Claim7.holds Tryd.pinned (.plain (OpenSpec.ofChange fnExactSiteTextSpec)) fnExactSiteTextCard

/-- THE TIED CARD OF 'laws.FnExactPlanetText'. -/
def fnExactPlanetTextCard : Claim7 := { stood := { row := fnExactPlanetTextRow, standIns := [], harness := (true, "dc590d6eedeb345f29a961042316ced6e1d3d308e4be16ccc8444765c9ab6db2"), looks := true }, kinds := [], alts := [], laidByText := true, laidKinds := [.data, .data, .data], laidTests := true, laidLooks := .later }
def FnExactPlanetTextCardSaid : Prop := Claim7.holds Tryd.pinned (.plain (OpenSpec.ofChange fnExactPlanetTextSpec)) fnExactPlanetTextCard

/-- THE TIED CARD OF 'laws.FnExactFigureText'. -/
def fnExactFigureTextCard : Claim7 := { stood := { row := fnExactFigureTextRow, standIns := [], harness := (true, "dc590d6eedeb345f29a961042316ced6e1d3d308e4be16ccc8444765c9ab6db2"), looks := true }, kinds := [], alts := [], laidByText := true, laidKinds := [.data, .data, .data], laidTests := true, laidLooks := .later }
def FnExactFigureTextCardSaid : Prop := Claim7.holds Tryd.pinned (.plain (OpenSpec.ofChange fnExactFigureTextSpec)) fnExactFigureTextCard

/-- THE TIED CARD OF 'laws.FnExactReadStar'. -/
def fnExactReadStarCard : Claim7 := { stood := { row := fnExactReadStarRow, standIns := [], harness := (true, "dc590d6eedeb345f29a961042316ced6e1d3d308e4be16ccc8444765c9ab6db2"), looks := true }, kinds := [], alts := [], laidByText := true, laidKinds := [.data, .data, .data, .data, .sentinel, .sentinel, .pinned], laidTests := true, laidLooks := .later }
def FnExactReadStarCardSaid : Prop := Claim7.holds Tryd.pinned (.plain (OpenSpec.ofChange fnExactReadStarSpec)) fnExactReadStarCard

/-- THE TIED CARD OF 'laws.FnExactReadSite'. -/
def fnExactReadSiteCard : Claim7 := { stood := { row := fnExactReadSiteRow, standIns := [], harness := (true, "dc590d6eedeb345f29a961042316ced6e1d3d308e4be16ccc8444765c9ab6db2"), looks := true }, kinds := [], alts := [], laidByText := true, laidKinds := [.data, .data, .data, .data, .sentinel, .sentinel, .pinned], laidTests := true, laidLooks := .later }
def FnExactReadSiteCardSaid : Prop := Claim7.holds Tryd.pinned (.plain (OpenSpec.ofChange fnExactReadSiteSpec)) fnExactReadSiteCard

/-- THE TIED CARD OF 'laws.FnExactReadPlanet'. -/
def fnExactReadPlanetCard : Claim7 := { stood := { row := fnExactReadPlanetRow, standIns := [], harness := (true, "dc590d6eedeb345f29a961042316ced6e1d3d308e4be16ccc8444765c9ab6db2"), looks := true }, kinds := [], alts := [], laidByText := true, laidKinds := [.data, .data, .data, .data, .sentinel, .sentinel, .pinned], laidTests := true, laidLooks := .later }
def FnExactReadPlanetCardSaid : Prop := Claim7.holds Tryd.pinned (.plain (OpenSpec.ofChange fnExactReadPlanetSpec)) fnExactReadPlanetCard

/-- THE TIED CARD OF 'laws.FnExactReadFigure'. -/
def fnExactReadFigureCard : Claim7 := { stood := { row := fnExactReadFigureRow, standIns := [], harness := (true, "dc590d6eedeb345f29a961042316ced6e1d3d308e4be16ccc8444765c9ab6db2"), looks := true }, kinds := [], alts := [], laidByText := true, laidKinds := [.data, .data, .data, .data, .sentinel, .sentinel, .pinned], laidTests := true, laidLooks := .later }
def FnExactReadFigureCardSaid : Prop := Claim7.holds Tryd.pinned (.plain (OpenSpec.ofChange fnExactReadFigureSpec)) fnExactReadFigureCard

/-- THE SECOND FORM's CARD OF 'laws.FnExactStarText'. -/
def fnExactStarTextUptoCard : Claim7 := { stood := { row := fnExactStarTextUptoRow, standIns := [], harness := (true, "dc590d6eedeb345f29a961042316ced6e1d3d308e4be16ccc8444765c9ab6db2"), looks := true }, kinds := [], alts := [], laidByText := true, laidKinds := [.data, .data, .data], laidTests := true, laidLooks := .later }
def FnExactStarTextUptoCardSaid : Prop := Claim7.holds Tryd.pinned (.plain (OpenSpec.upto fnExactStarTextSpec)) fnExactStarTextUptoCard

/-- THE SECOND FORM's CARD OF 'laws.FnExactSiteText'. -/
def fnExactSiteTextUptoCard : Claim7 := { stood := { row := fnExactSiteTextUptoRow, standIns := [], harness := (true, "dc590d6eedeb345f29a961042316ced6e1d3d308e4be16ccc8444765c9ab6db2"), looks := true }, kinds := [], alts := [], laidByText := true, laidKinds := [.data, .data, .data], laidTests := true, laidLooks := .later }
def FnExactSiteTextUptoCardSaid : Prop := Claim7.holds Tryd.pinned (.plain (OpenSpec.upto fnExactSiteTextSpec)) fnExactSiteTextUptoCard

/-- THE SECOND FORM's CARD OF 'laws.FnExactPlanetText'. -/
def fnExactPlanetTextUptoCard : Claim7 := { stood := { row := fnExactPlanetTextUptoRow, standIns := [], harness := (true, "dc590d6eedeb345f29a961042316ced6e1d3d308e4be16ccc8444765c9ab6db2"), looks := true }, kinds := [], alts := [], laidByText := true, laidKinds := [.data, .data, .data], laidTests := true, laidLooks := .later }
def FnExactPlanetTextUptoCardSaid : Prop := Claim7.holds Tryd.pinned (.plain (OpenSpec.upto fnExactPlanetTextSpec)) fnExactPlanetTextUptoCard

/-- THE SECOND FORM's CARD OF 'laws.FnExactFigureText'. -/
def fnExactFigureTextUptoCard : Claim7 := { stood := { row := fnExactFigureTextUptoRow, standIns := [], harness := (true, "dc590d6eedeb345f29a961042316ced6e1d3d308e4be16ccc8444765c9ab6db2"), looks := true }, kinds := [], alts := [], laidByText := true, laidKinds := [.data, .data, .data], laidTests := true, laidLooks := .later }
def FnExactFigureTextUptoCardSaid : Prop := Claim7.holds Tryd.pinned (.plain (OpenSpec.upto fnExactFigureTextSpec)) fnExactFigureTextUptoCard

/-- THE SECOND FORM's CARD OF 'laws.FnExactReadStar'. -/
def fnExactReadStarUptoCard : Claim7 := { stood := { row := fnExactReadStarUptoRow, standIns := [], harness := (true, "dc590d6eedeb345f29a961042316ced6e1d3d308e4be16ccc8444765c9ab6db2"), looks := true }, kinds := [], alts := [], laidByText := true, laidKinds := [.data, .data, .data, .data, .sentinel, .sentinel, .pinned], laidTests := true, laidLooks := .later }
def FnExactReadStarUptoCardSaid : Prop := Claim7.holds Tryd.pinned (.plain (OpenSpec.upto fnExactReadStarSpec)) fnExactReadStarUptoCard

/-- THE SECOND FORM's CARD OF 'laws.FnExactReadSite'. -/
def fnExactReadSiteUptoCard : Claim7 := { stood := { row := fnExactReadSiteUptoRow, standIns := [], harness := (true, "dc590d6eedeb345f29a961042316ced6e1d3d308e4be16ccc8444765c9ab6db2"), looks := true }, kinds := [], alts := [], laidByText := true, laidKinds := [.data, .data, .data, .data, .sentinel, .sentinel, .pinned], laidTests := true, laidLooks := .later }
def FnExactReadSiteUptoCardSaid : Prop := Claim7.holds Tryd.pinned (.plain (OpenSpec.upto fnExactReadSiteSpec)) fnExactReadSiteUptoCard

/-- THE SECOND FORM's CARD OF 'laws.FnExactReadPlanet'. -/
def fnExactReadPlanetUptoCard : Claim7 := { stood := { row := fnExactReadPlanetUptoRow, standIns := [], harness := (true, "dc590d6eedeb345f29a961042316ced6e1d3d308e4be16ccc8444765c9ab6db2"), looks := true }, kinds := [], alts := [], laidByText := true, laidKinds := [.data, .data, .data, .data, .sentinel, .sentinel, .pinned], laidTests := true, laidLooks := .later }
def FnExactReadPlanetUptoCardSaid : Prop := Claim7.holds Tryd.pinned (.plain (OpenSpec.upto fnExactReadPlanetSpec)) fnExactReadPlanetUptoCard

/-- THE SECOND FORM's CARD OF 'laws.FnExactReadFigure'. -/
def fnExactReadFigureUptoCard : Claim7 := { stood := { row := fnExactReadFigureUptoRow, standIns := [], harness := (true, "dc590d6eedeb345f29a961042316ced6e1d3d308e4be16ccc8444765c9ab6db2"), looks := true }, kinds := [], alts := [], laidByText := true, laidKinds := [.data, .data, .data, .data, .sentinel, .sentinel, .pinned], laidTests := true, laidLooks := .later }
def FnExactReadFigureUptoCardSaid : Prop := Claim7.holds Tryd.pinned (.plain (OpenSpec.upto fnExactReadFigureSpec)) fnExactReadFigureUptoCard
end Rows
end Go.Proofs.YtngkdolohokcoaaDoor
