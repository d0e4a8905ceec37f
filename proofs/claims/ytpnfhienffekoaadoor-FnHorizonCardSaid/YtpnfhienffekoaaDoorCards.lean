/-
  DERIVED. GIVEN WITH THE SEED: THE CARDS: each row of YtpnfhienffekoaaDoorRows.lean that lists a variable, with what it lists TIED to the program's text (the seventh form; the later family's looks); each row that meets fmt, with fmt's text TOLD by the authors' own Lean function (tested against real Go, not proved from fmt's source: count such statements apart). THE CARD IS WHAT COUNTS. Prove the row's statement (the work); the ties are given (YtpnfhienffekoaaDoorTie.lean); close each card by the builder's one call (the guide's Derived/Test/ToyasCard.lean, 'card_holds'). Laid BY PROGRAM, IN A SANDBOX (cutbox-door.mjs). By AI agents, Wed Nov 11 2026. No macro, syntax, notation, axiom, sorry.
-/
import Derived.Test.YtpnfhienffekoaaDoorRows
import GoSem.ClaimSeven
namespace Go.Proofs.YtpnfhienffekoaaDoor
namespace Rows

/-- THE TIED CARD OF 'laws.FnHorizon'. -/
def fnHorizonCard : Claim7 := { stood := { row := fnHorizonRow, standIns := [], harness := (true, "5fd9f2f09ee645db8b20dd62ef9b7964c05dba35b9b71b130bf9437b3eba143a"), looks := true }, kinds := [], alts := [], laidByText := true, laidKinds := [.data, .data, .data, .data, .sentinel, .sentinel, .data, .pinned], laidTests := true, laidLooks := .later }
def FnHorizonCardSaid : Prop := Claim7.holds Tryd.pinned (.plain (OpenSpec.ofChange fnHorizonSpec)) fnHorizonCard

/-- THE SECOND FORM's CARD OF 'laws.FnHorizon'. -/
def fnHorizonUptoCard : Claim7 := { stood := { row := fnHorizonUptoRow, standIns := [], harness := (true, "5fd9f2f09ee645db8b20dd62ef9b7964c05dba35b9b71b130bf9437b3eba143a"), looks := true }, kinds := [], alts := [], laidByText := true, laidKinds := [.data, .data, .data, .data, .sentinel, .sentinel, .data, .pinned], laidTests := true, laidLooks := .later }
def FnHorizonUptoCardSaid : Prop := Claim7.holds Tryd.pinned (.plain (OpenSpec.upto fnHorizonSpec)) fnHorizonUptoCard
end Rows
end Go.Proofs.YtpnfhienffekoaaDoor
