/-
  DERIVED. GIVEN WITH THE SEED: THE CARDS: each row of YtbgjmahamhppfaaDoorRows.lean that lists a variable, with what it lists TIED to the program's text (the seventh form; the later family's looks); each row that meets fmt, with fmt's text TOLD by the authors' own Lean function (tested against real Go, not proved from fmt's source: count such statements apart). THE CARD IS WHAT COUNTS. Prove the row's statement (the work); the ties are given (YtbgjmahamhppfaaDoorTie.lean); close each card by the builder's one call (the guide's Derived/Test/ToyasCard.lean, 'card_holds'). Laid BY PROGRAM, IN A SANDBOX (cutbox-door.mjs). By AI agents, Wed Nov 11 2026. No macro, syntax, notation, axiom, sorry.
-/
import Derived.Test.YtbgjmahamhppfaaDoorRows
import GoSem.ClaimSeven
namespace Go.Proofs.YtbgjmahamhppfaaDoor
namespace Rows

/-- THE TIED CARD OF 'laws.FnExactPlaceInOrbit'. -/
def fnExactPlaceInOrbitCard : Claim7 := { stood := { row := fnExactPlaceInOrbitRow, standIns := [], harness := (true, "73c9c1a7bd021e957da5392902ae3a13dfa2dd4a6bbe278d2e260215616b2fd9"), looks := false }, kinds := [], alts := [], laidByText := true, laidKinds := [.data], laidTests := true, laidLooks := .later }
def FnExactPlaceInOrbitCardSaid : Prop := Claim7.holds Tryd.pinned (.plain (OpenSpec.ofChange fnExactPlaceInOrbitSpec)) fnExactPlaceInOrbitCard

/-- THE TIED CARD OF 'laws.FnExactHorizontalVector'. -/
def fnExactHorizontalVectorCard : Claim7 := { stood := { row := fnExactHorizontalVectorRow, standIns := [], harness := (true, "73c9c1a7bd021e957da5392902ae3a13dfa2dd4a6bbe278d2e260215616b2fd9"), looks := false }, kinds := [], alts := [], laidByText := true, laidKinds := [.data], laidTests := true, laidLooks := .later }
def FnExactHorizontalVectorCardSaid : Prop := Claim7.holds Tryd.pinned (.plain (OpenSpec.ofChange fnExactHorizontalVectorSpec)) fnExactHorizontalVectorCard

/-- THE TIED CARD OF 'laws.FnExactSettingHour'. -/
def fnExactSettingHourCard : Claim7 := { stood := { row := fnExactSettingHourRow, standIns := [], harness := (true, "73c9c1a7bd021e957da5392902ae3a13dfa2dd4a6bbe278d2e260215616b2fd9"), looks := false }, kinds := [], alts := [], laidByText := true, laidKinds := [.data], laidTests := true, laidLooks := .later }
def FnExactSettingHourCardSaid : Prop := Claim7.holds Tryd.pinned (.plain (OpenSpec.ofChange fnExactSettingHourSpec)) fnExactSettingHourCard

/-- THE TIED CARD OF 'laws.FnExactRisingOf'. -/
def fnExactRisingOfCard : Claim7 := { stood := { row := fnExactRisingOfRow, standIns := [], harness := (true, "73c9c1a7bd021e957da5392902ae3a13dfa2dd4a6bbe278d2e260215616b2fd9"), looks := false }, kinds := [], alts := [], laidByText := true, laidKinds := [.data], laidTests := true, laidLooks := .later }
def FnExactRisingOfCardSaid : Prop := Claim7.holds Tryd.pinned (.plain (OpenSpec.ofChange fnExactRisingOfSpec)) fnExactRisingOfCard

/-- THE TIED CARD OF 'laws.FnExactSettingOf'. -/
def fnExactSettingOfCard : Claim7 := { stood := { row := fnExactSettingOfRow, standIns := [], harness := (true, "73c9c1a7bd021e957da5392902ae3a13dfa2dd4a6bbe278d2e260215616b2fd9"), looks := false }, kinds := [], alts := [], laidByText := true, laidKinds := [.data], laidTests := true, laidLooks := .later }
def FnExactSettingOfCardSaid : Prop := Claim7.holds Tryd.pinned (.plain (OpenSpec.ofChange fnExactSettingOfSpec)) fnExactSettingOfCard

/-- THE TIED CARD OF 'laws.FnExactSeenAngle'. -/
def fnExactSeenAngleCard : Claim7 := { stood := { row := fnExactSeenAngleRow, standIns := [], harness := (true, "73c9c1a7bd021e957da5392902ae3a13dfa2dd4a6bbe278d2e260215616b2fd9"), looks := false }, kinds := [], alts := [], laidByText := true, laidKinds := [.data], laidTests := true, laidLooks := .later }
def FnExactSeenAngleCardSaid : Prop := Claim7.holds Tryd.pinned (.plain (OpenSpec.ofChange fnExactSeenAngleSpec)) fnExactSeenAngleCard

/-- THE TIED CARD OF 'laws.FnExactElongation'. -/
def fnExactElongationCard : Claim7 := { stood := { row := fnExactElongationRow, standIns := [], harness := (true, "73c9c1a7bd021e957da5392902ae3a13dfa2dd4a6bbe278d2e260215616b2fd9"), looks := false }, kinds := [], alts := [], laidByText := true, laidKinds := [.data], laidTests := true, laidLooks := .later }
def FnExactElongationCardSaid : Prop := Claim7.holds Tryd.pinned (.plain (OpenSpec.ofChange fnExactElongationSpec)) fnExactElongationCard

/-- THE TIED CARD OF 'laws.FnExactPhaseOf'. -/
def fnExactPhaseOfCard : Claim7 := { stood := { row := fnExactPhaseOfRow, standIns := [], harness := (true, "73c9c1a7bd021e957da5392902ae3a13dfa2dd4a6bbe278d2e260215616b2fd9"), looks := false }, kinds := [], alts := [], laidByText := true, laidKinds := [.data], laidTests := true, laidLooks := .later }
def FnExactPhaseOfCardSaid : Prop := Claim7.holds Tryd.pinned (.plain (OpenSpec.ofChange fnExactPhaseOfSpec)) fnExactPhaseOfCard

/-- THE TIED CARD OF 'laws.FnExactSeenDistance'. -/
def fnExactSeenDistanceCard : Claim7 := { stood := { row := fnExactSeenDistanceRow, standIns := [], harness := (true, "73c9c1a7bd021e957da5392902ae3a13dfa2dd4a6bbe278d2e260215616b2fd9"), looks := false }, kinds := [], alts := [], laidByText := true, laidKinds := [.data], laidTests := true, laidLooks := .later }
def FnExactSeenDistanceCardSaid : Prop := Claim7.holds Tryd.pinned (.plain (OpenSpec.ofChange fnExactSeenDistanceSpec)) fnExactSeenDistanceCard

/-- THE TIED CARD OF 'laws.FnExactIsRetrograde'. -/
def fnExactIsRetrogradeCard : Claim7 := { stood := { row := fnExactIsRetrogradeRow, standIns := [], harness := (true, "73c9c1a7bd021e957da5392902ae3a13dfa2dd4a6bbe278d2e260215616b2fd9"), looks := false }, kinds := [], alts := [], laidByText := true, laidKinds := [.data], laidTests := true, laidLooks := .later }
def FnExactIsRetrogradeCardSaid : Prop := Claim7.holds Tryd.pinned (.plain (OpenSpec.ofChange fnExactIsRetrogradeSpec)) fnExactIsRetrogradeCard

/-- THE TIED CARD OF 'laws.FnExactNearestDay'. -/
def fnExactNearestDayCard : Claim7 := { stood := { row := fnExactNearestDayRow, standIns := [], harness := (true, "73c9c1a7bd021e957da5392902ae3a13dfa2dd4a6bbe278d2e260215616b2fd9"), looks := false }, kinds := [], alts := [], laidByText := true, laidKinds := [.data], laidTests := true, laidLooks := .later }
def FnExactNearestDayCardSaid : Prop := Claim7.holds Tryd.pinned (.plain (OpenSpec.ofChange fnExactNearestDaySpec)) fnExactNearestDayCard

/-- THE SECOND FORM's CARD OF 'laws.FnExactPlaceInOrbit'. -/
def fnExactPlaceInOrbitUptoCard : Claim7 := { stood := { row := fnExactPlaceInOrbitUptoRow, standIns := [], harness := (true, "73c9c1a7bd021e957da5392902ae3a13dfa2dd4a6bbe278d2e260215616b2fd9"), looks := false }, kinds := [], alts := [], laidByText := true, laidKinds := [.data], laidTests := true, laidLooks := .later }
def FnExactPlaceInOrbitUptoCardSaid : Prop := Claim7.holds Tryd.pinned (.plain (OpenSpec.upto fnExactPlaceInOrbitSpec)) fnExactPlaceInOrbitUptoCard

/-- THE SECOND FORM's CARD OF 'laws.FnExactHorizontalVector'. -/
def fnExactHorizontalVectorUptoCard : Claim7 := { stood := { row := fnExactHorizontalVectorUptoRow, standIns := [], harness := (true, "73c9c1a7bd021e957da5392902ae3a13dfa2dd4a6bbe278d2e260215616b2fd9"), looks := false }, kinds := [], alts := [], laidByText := true, laidKinds := [.data], laidTests := true, laidLooks := .later }
def FnExactHorizontalVectorUptoCardSaid : Prop := Claim7.holds Tryd.pinned (.plain (OpenSpec.upto fnExactHorizontalVectorSpec)) fnExactHorizontalVectorUptoCard

/-- THE SECOND FORM's CARD OF 'laws.FnExactSettingHour'. -/
def fnExactSettingHourUptoCard : Claim7 := { stood := { row := fnExactSettingHourUptoRow, standIns := [], harness := (true, "73c9c1a7bd021e957da5392902ae3a13dfa2dd4a6bbe278d2e260215616b2fd9"), looks := false }, kinds := [], alts := [], laidByText := true, laidKinds := [.data], laidTests := true, laidLooks := .later }
def FnExactSettingHourUptoCardSaid : Prop := Claim7.holds Tryd.pinned (.plain (OpenSpec.upto fnExactSettingHourSpec)) fnExactSettingHourUptoCard

/-- THE SECOND FORM's CARD OF 'laws.FnExactRisingOf'. -/
def fnExactRisingOfUptoCard : Claim7 := { stood := { row := fnExactRisingOfUptoRow, standIns := [], harness := (true, "73c9c1a7bd021e957da5392902ae3a13dfa2dd4a6bbe278d2e260215616b2fd9"), looks := false }, kinds := [], alts := [], laidByText := true, laidKinds := [.data], laidTests := true, laidLooks := .later }
def FnExactRisingOfUptoCardSaid : Prop := Claim7.holds Tryd.pinned (.plain (OpenSpec.upto fnExactRisingOfSpec)) fnExactRisingOfUptoCard

/-- THE SECOND FORM's CARD OF 'laws.FnExactSettingOf'. -/
def fnExactSettingOfUptoCard : Claim7 := { stood := { row := fnExactSettingOfUptoRow, standIns := [], harness := (true, "73c9c1a7bd021e957da5392902ae3a13dfa2dd4a6bbe278d2e260215616b2fd9"), looks := false }, kinds := [], alts := [], laidByText := true, laidKinds := [.data], laidTests := true, laidLooks := .later }
def FnExactSettingOfUptoCardSaid : Prop := Claim7.holds Tryd.pinned (.plain (OpenSpec.upto fnExactSettingOfSpec)) fnExactSettingOfUptoCard

/-- THE SECOND FORM's CARD OF 'laws.FnExactSeenAngle'. -/
def fnExactSeenAngleUptoCard : Claim7 := { stood := { row := fnExactSeenAngleUptoRow, standIns := [], harness := (true, "73c9c1a7bd021e957da5392902ae3a13dfa2dd4a6bbe278d2e260215616b2fd9"), looks := false }, kinds := [], alts := [], laidByText := true, laidKinds := [.data], laidTests := true, laidLooks := .later }
def FnExactSeenAngleUptoCardSaid : Prop := Claim7.holds Tryd.pinned (.plain (OpenSpec.upto fnExactSeenAngleSpec)) fnExactSeenAngleUptoCard

/-- THE SECOND FORM's CARD OF 'laws.FnExactElongation'. -/
def fnExactElongationUptoCard : Claim7 := { stood := { row := fnExactElongationUptoRow, standIns := [], harness := (true, "73c9c1a7bd021e957da5392902ae3a13dfa2dd4a6bbe278d2e260215616b2fd9"), looks := false }, kinds := [], alts := [], laidByText := true, laidKinds := [.data], laidTests := true, laidLooks := .later }
def FnExactElongationUptoCardSaid : Prop := Claim7.holds Tryd.pinned (.plain (OpenSpec.upto fnExactElongationSpec)) fnExactElongationUptoCard

/-- THE SECOND FORM's CARD OF 'laws.FnExactPhaseOf'. -/
def fnExactPhaseOfUptoCard : Claim7 := { stood := { row := fnExactPhaseOfUptoRow, standIns := [], harness := (true, "73c9c1a7bd021e957da5392902ae3a13dfa2dd4a6bbe278d2e260215616b2fd9"), looks := false }, kinds := [], alts := [], laidByText := true, laidKinds := [.data], laidTests := true, laidLooks := .later }
def FnExactPhaseOfUptoCardSaid : Prop := Claim7.holds Tryd.pinned (.plain (OpenSpec.upto fnExactPhaseOfSpec)) fnExactPhaseOfUptoCard

/-- THE SECOND FORM's CARD OF 'laws.FnExactSeenDistance'. -/
def fnExactSeenDistanceUptoCard : Claim7 := { stood := { row := fnExactSeenDistanceUptoRow, standIns := [], harness := (true, "73c9c1a7bd021e957da5392902ae3a13dfa2dd4a6bbe278d2e260215616b2fd9"), looks := false }, kinds := [], alts := [], laidByText := true, laidKinds := [.data], laidTests := true, laidLooks := .later }
def FnExactSeenDistanceUptoCardSaid : Prop := Claim7.holds Tryd.pinned (.plain (OpenSpec.upto fnExactSeenDistanceSpec)) fnExactSeenDistanceUptoCard

/-- THE SECOND FORM's CARD OF 'laws.FnExactIsRetrograde'. -/
def fnExactIsRetrogradeUptoCard : Claim7 := { stood := { row := fnExactIsRetrogradeUptoRow, standIns := [], harness := (true, "73c9c1a7bd021e957da5392902ae3a13dfa2dd4a6bbe278d2e260215616b2fd9"), looks := false }, kinds := [], alts := [], laidByText := true, laidKinds := [.data], laidTests := true, laidLooks := .later }
def FnExactIsRetrogradeUptoCardSaid : Prop := Claim7.holds Tryd.pinned (.plain (OpenSpec.upto fnExactIsRetrogradeSpec)) fnExactIsRetrogradeUptoCard

/-- THE SECOND FORM's CARD OF 'laws.FnExactNearestDay'. -/
def fnExactNearestDayUptoCard : Claim7 := { stood := { row := fnExactNearestDayUptoRow, standIns := [], harness := (true, "73c9c1a7bd021e957da5392902ae3a13dfa2dd4a6bbe278d2e260215616b2fd9"), looks := false }, kinds := [], alts := [], laidByText := true, laidKinds := [.data], laidTests := true, laidLooks := .later }
def FnExactNearestDayUptoCardSaid : Prop := Claim7.holds Tryd.pinned (.plain (OpenSpec.upto fnExactNearestDaySpec)) fnExactNearestDayUptoCard
end Rows
end Go.Proofs.YtbgjmahamhppfaaDoor
