/-
  No cell of these rows narrows 'for every input' (looked for: loops, veiled, ifaces, maps, wideKeys, modest, calm, conditions, laid).
  DERIVED. THE GIVEN ROWS OF THIS SEAT. 11 by the template 'for every input the law returns true; each argument reads behind the call as it read before'; 0 by the template 'total and deterministic' (their statements: YthlkdbhbbihhjaaTotals.lean).
  GIVEN WITH THE SEED: the statements are not yours to turn. If you find one false, say at which input.
  Laid BY PROGRAM, IN A SANDBOX (cutbox-rows.mjs): the forced cells as the released guide's own fill.sh prints them over the translation dc3699d1bc2173dd… (all of the seat's roots in one cut). By AI agents, Wed Nov 11 2026. No macro, syntax, notation, axiom, sorry.
-/
import Derived.Test.YthlkdbhbbihhjaaChecked
import GoSem.Claim
import GoSem.ClaimJoined
import GoSem.ClaimMapViews
import Derived.JoinedTies
import Derived.KernelRfl
namespace Go.Proofs.Ythlkdbhbbihhjaa
/- THE CELL 'sum', in the pinned program and in every row, IS THE sha256 OF THE DUMP (.gsa) THAT YthlkdbhbbihhjaaProg.lean LOADS. Nothing in Lean hashes anything: it is a label: what it is worth is what the hold of that sum in a sandbox is worth. -/
noncomputable def Try.pinned : Pinned := { name := "ythlkdbhbbihhjaa", sum := "dc3699d1bc2173ddca1c8d963127ebf5934d6e32ae7dacb11ac55588695736c0", checked := Try.checked }
namespace Rows
def none {H : Type} : Left H := { results := [], args := [] }

/-- 'laws.FnExactValidDome': WHATEVER THE INPUT: true; the input reads as it did. -/
def fnExactValidDomeSpec : ChangeSpec := { name := "fnExactValidDome", fn := fun _ => fun
  | [d] => { results := [.lit (.bool true)], args := [d] }
  | _ => none }
def fnExactValidDomeRow : OpenClaim := { program := "ythlkdbhbbihhjaa", sum := "dc3699d1bc2173ddca1c8d963127ebf5934d6e32ae7dacb11ac55588695736c0", func := "loop.example/g00955/laws.FnExactValidDome", spec := "fnExactValidDome", apart := false }
def FnExactValidDomeSaid : Prop := fnExactValidDomeRow.holds Try.pinned (OpenSpec.ofChange fnExactValidDomeSpec)

/-- ITS FALSE NEIGHBOUR: 'it returns false'. Refute it at one input. -/
def fnExactValidDomeWrong : ChangeSpec := { name := "fnExactValidDome", fn := fun _ => fun
  | [d] => { results := [.lit (.bool false)], args := [d] }
  | _ => none }
def FnExactValidDomeWrongFalsely : Prop := fnExactValidDomeRow.holds Try.pinned (OpenSpec.ofChange fnExactValidDomeWrong)

/-- 'laws.FnExactValidSite': WHATEVER THE INPUT: true; the input reads as it did. -/
def fnExactValidSiteSpec : ChangeSpec := { name := "fnExactValidSite", fn := fun _ => fun
  | [d] => { results := [.lit (.bool true)], args := [d] }
  | _ => none }
def fnExactValidSiteRow : OpenClaim := { program := "ythlkdbhbbihhjaa", sum := "dc3699d1bc2173ddca1c8d963127ebf5934d6e32ae7dacb11ac55588695736c0", func := "loop.example/g00955/laws.FnExactValidSite", spec := "fnExactValidSite", apart := false }
def FnExactValidSiteSaid : Prop := fnExactValidSiteRow.holds Try.pinned (OpenSpec.ofChange fnExactValidSiteSpec)

/-- ITS FALSE NEIGHBOUR: 'it returns false'. Refute it at one input. -/
def fnExactValidSiteWrong : ChangeSpec := { name := "fnExactValidSite", fn := fun _ => fun
  | [d] => { results := [.lit (.bool false)], args := [d] }
  | _ => none }
def FnExactValidSiteWrongFalsely : Prop := fnExactValidSiteRow.holds Try.pinned (OpenSpec.ofChange fnExactValidSiteWrong)

/-- 'laws.FnExactValidPlanet': WHATEVER THE INPUT: true; the input reads as it did. -/
def fnExactValidPlanetSpec : ChangeSpec := { name := "fnExactValidPlanet", fn := fun _ => fun
  | [d] => { results := [.lit (.bool true)], args := [d] }
  | _ => none }
def fnExactValidPlanetRow : OpenClaim := { program := "ythlkdbhbbihhjaa", sum := "dc3699d1bc2173ddca1c8d963127ebf5934d6e32ae7dacb11ac55588695736c0", func := "loop.example/g00955/laws.FnExactValidPlanet", spec := "fnExactValidPlanet", apart := false }
def FnExactValidPlanetSaid : Prop := fnExactValidPlanetRow.holds Try.pinned (OpenSpec.ofChange fnExactValidPlanetSpec)

/-- ITS FALSE NEIGHBOUR: 'it returns false'. Refute it at one input. -/
def fnExactValidPlanetWrong : ChangeSpec := { name := "fnExactValidPlanet", fn := fun _ => fun
  | [d] => { results := [.lit (.bool false)], args := [d] }
  | _ => none }
def FnExactValidPlanetWrongFalsely : Prop := fnExactValidPlanetRow.holds Try.pinned (OpenSpec.ofChange fnExactValidPlanetWrong)

/-- 'laws.FnExactValidStar': WHATEVER THE INPUT: true; the input reads as it did. -/
def fnExactValidStarSpec : ChangeSpec := { name := "fnExactValidStar", fn := fun _ => fun
  | [d] => { results := [.lit (.bool true)], args := [d] }
  | _ => none }
def fnExactValidStarRow : OpenClaim := { program := "ythlkdbhbbihhjaa", sum := "dc3699d1bc2173ddca1c8d963127ebf5934d6e32ae7dacb11ac55588695736c0", func := "loop.example/g00955/laws.FnExactValidStar", spec := "fnExactValidStar", apart := false }
def FnExactValidStarSaid : Prop := fnExactValidStarRow.holds Try.pinned (OpenSpec.ofChange fnExactValidStarSpec)

/-- ITS FALSE NEIGHBOUR: 'it returns false'. Refute it at one input. -/
def fnExactValidStarWrong : ChangeSpec := { name := "fnExactValidStar", fn := fun _ => fun
  | [d] => { results := [.lit (.bool false)], args := [d] }
  | _ => none }
def FnExactValidStarWrongFalsely : Prop := fnExactValidStarRow.holds Try.pinned (OpenSpec.ofChange fnExactValidStarWrong)

/-- 'laws.FnExactFluxOf': WHATEVER THE INPUT: true; the input reads as it did. -/
def fnExactFluxOfSpec : ChangeSpec := { name := "fnExactFluxOf", fn := fun _ => fun
  | [d] => { results := [.lit (.bool true)], args := [d] }
  | _ => none }
def fnExactFluxOfRow : OpenClaim := { program := "ythlkdbhbbihhjaa", sum := "dc3699d1bc2173ddca1c8d963127ebf5934d6e32ae7dacb11ac55588695736c0", func := "loop.example/g00955/laws.FnExactFluxOf", spec := "fnExactFluxOf", apart := false }
def FnExactFluxOfSaid : Prop := fnExactFluxOfRow.holds Try.pinned (OpenSpec.ofChange fnExactFluxOfSpec)

/-- ITS FALSE NEIGHBOUR: 'it returns false'. Refute it at one input. -/
def fnExactFluxOfWrong : ChangeSpec := { name := "fnExactFluxOf", fn := fun _ => fun
  | [d] => { results := [.lit (.bool false)], args := [d] }
  | _ => none }
def FnExactFluxOfWrongFalsely : Prop := fnExactFluxOfRow.holds Try.pinned (OpenSpec.ofChange fnExactFluxOfWrong)

/-- 'laws.FnExactOrbitAngle': WHATEVER THE INPUT: true; the input reads as it did. -/
def fnExactOrbitAngleSpec : ChangeSpec := { name := "fnExactOrbitAngle", fn := fun _ => fun
  | [d1, d2] => { results := [.lit (.bool true)], args := [d1, d2] }
  | _ => none }
def fnExactOrbitAngleRow : OpenClaim := { program := "ythlkdbhbbihhjaa", sum := "dc3699d1bc2173ddca1c8d963127ebf5934d6e32ae7dacb11ac55588695736c0", func := "loop.example/g00955/laws.FnExactOrbitAngle", spec := "fnExactOrbitAngle", apart := false }
def FnExactOrbitAngleSaid : Prop := fnExactOrbitAngleRow.holds Try.pinned (OpenSpec.ofChange fnExactOrbitAngleSpec)

/-- ITS FALSE NEIGHBOUR: 'it returns false'. Refute it at one input. -/
def fnExactOrbitAngleWrong : ChangeSpec := { name := "fnExactOrbitAngle", fn := fun _ => fun
  | [d1, d2] => { results := [.lit (.bool false)], args := [d1, d2] }
  | _ => none }
def FnExactOrbitAngleWrongFalsely : Prop := fnExactOrbitAngleRow.holds Try.pinned (OpenSpec.ofChange fnExactOrbitAngleWrong)

/-- 'laws.FnExactMagnitudeOf': WHATEVER THE INPUT: true; the input reads as it did. -/
def fnExactMagnitudeOfSpec : ChangeSpec := { name := "fnExactMagnitudeOf", fn := fun _ => fun
  | [d] => { results := [.lit (.bool true)], args := [d] }
  | _ => none }
def fnExactMagnitudeOfRow : OpenClaim := { program := "ythlkdbhbbihhjaa", sum := "dc3699d1bc2173ddca1c8d963127ebf5934d6e32ae7dacb11ac55588695736c0", func := "loop.example/g00955/laws.FnExactMagnitudeOf", spec := "fnExactMagnitudeOf", apart := false }
def FnExactMagnitudeOfSaid : Prop := fnExactMagnitudeOfRow.holds Try.pinned (OpenSpec.ofChange fnExactMagnitudeOfSpec)

/-- ITS FALSE NEIGHBOUR: 'it returns false'. Refute it at one input. -/
def fnExactMagnitudeOfWrong : ChangeSpec := { name := "fnExactMagnitudeOf", fn := fun _ => fun
  | [d] => { results := [.lit (.bool false)], args := [d] }
  | _ => none }
def FnExactMagnitudeOfWrongFalsely : Prop := fnExactMagnitudeOfRow.holds Try.pinned (OpenSpec.ofChange fnExactMagnitudeOfWrong)

/-- 'laws.FnExactDomeArea': WHATEVER THE INPUT: true; the input reads as it did. -/
def fnExactDomeAreaSpec : ChangeSpec := { name := "fnExactDomeArea", fn := fun _ => fun
  | [d] => { results := [.lit (.bool true)], args := [d] }
  | _ => none }
def fnExactDomeAreaRow : OpenClaim := { program := "ythlkdbhbbihhjaa", sum := "dc3699d1bc2173ddca1c8d963127ebf5934d6e32ae7dacb11ac55588695736c0", func := "loop.example/g00955/laws.FnExactDomeArea", spec := "fnExactDomeArea", apart := false }
def FnExactDomeAreaSaid : Prop := fnExactDomeAreaRow.holds Try.pinned (OpenSpec.ofChange fnExactDomeAreaSpec)

/-- ITS FALSE NEIGHBOUR: 'it returns false'. Refute it at one input. -/
def fnExactDomeAreaWrong : ChangeSpec := { name := "fnExactDomeArea", fn := fun _ => fun
  | [d] => { results := [.lit (.bool false)], args := [d] }
  | _ => none }
def FnExactDomeAreaWrongFalsely : Prop := fnExactDomeAreaRow.holds Try.pinned (OpenSpec.ofChange fnExactDomeAreaWrong)

/-- 'laws.FnExactCulminationAltitude': WHATEVER THE INPUT: true; the input reads as it did. -/
def fnExactCulminationAltitudeSpec : ChangeSpec := { name := "fnExactCulminationAltitude", fn := fun _ => fun
  | [d1, d2] => { results := [.lit (.bool true)], args := [d1, d2] }
  | _ => none }
def fnExactCulminationAltitudeRow : OpenClaim := { program := "ythlkdbhbbihhjaa", sum := "dc3699d1bc2173ddca1c8d963127ebf5934d6e32ae7dacb11ac55588695736c0", func := "loop.example/g00955/laws.FnExactCulminationAltitude", spec := "fnExactCulminationAltitude", apart := false }
def FnExactCulminationAltitudeSaid : Prop := fnExactCulminationAltitudeRow.holds Try.pinned (OpenSpec.ofChange fnExactCulminationAltitudeSpec)

/-- ITS FALSE NEIGHBOUR: 'it returns false'. Refute it at one input. -/
def fnExactCulminationAltitudeWrong : ChangeSpec := { name := "fnExactCulminationAltitude", fn := fun _ => fun
  | [d1, d2] => { results := [.lit (.bool false)], args := [d1, d2] }
  | _ => none }
def FnExactCulminationAltitudeWrongFalsely : Prop := fnExactCulminationAltitudeRow.holds Try.pinned (OpenSpec.ofChange fnExactCulminationAltitudeWrong)

/-- 'laws.FnExactLowestAltitude': WHATEVER THE INPUT: true; the input reads as it did. -/
def fnExactLowestAltitudeSpec : ChangeSpec := { name := "fnExactLowestAltitude", fn := fun _ => fun
  | [d1, d2] => { results := [.lit (.bool true)], args := [d1, d2] }
  | _ => none }
def fnExactLowestAltitudeRow : OpenClaim := { program := "ythlkdbhbbihhjaa", sum := "dc3699d1bc2173ddca1c8d963127ebf5934d6e32ae7dacb11ac55588695736c0", func := "loop.example/g00955/laws.FnExactLowestAltitude", spec := "fnExactLowestAltitude", apart := false }
def FnExactLowestAltitudeSaid : Prop := fnExactLowestAltitudeRow.holds Try.pinned (OpenSpec.ofChange fnExactLowestAltitudeSpec)

/-- ITS FALSE NEIGHBOUR: 'it returns false'. Refute it at one input. -/
def fnExactLowestAltitudeWrong : ChangeSpec := { name := "fnExactLowestAltitude", fn := fun _ => fun
  | [d1, d2] => { results := [.lit (.bool false)], args := [d1, d2] }
  | _ => none }
def FnExactLowestAltitudeWrongFalsely : Prop := fnExactLowestAltitudeRow.holds Try.pinned (OpenSpec.ofChange fnExactLowestAltitudeWrong)

/-- 'laws.FnExactSynodicPeriod': WHATEVER THE INPUT: true; the input reads as it did. -/
def fnExactSynodicPeriodSpec : ChangeSpec := { name := "fnExactSynodicPeriod", fn := fun _ => fun
  | [d1, d2] => { results := [.lit (.bool true)], args := [d1, d2] }
  | _ => none }
def fnExactSynodicPeriodRow : OpenClaim := { program := "ythlkdbhbbihhjaa", sum := "dc3699d1bc2173ddca1c8d963127ebf5934d6e32ae7dacb11ac55588695736c0", func := "loop.example/g00955/laws.FnExactSynodicPeriod", spec := "fnExactSynodicPeriod", apart := false }
def FnExactSynodicPeriodSaid : Prop := fnExactSynodicPeriodRow.holds Try.pinned (OpenSpec.ofChange fnExactSynodicPeriodSpec)

/-- ITS FALSE NEIGHBOUR: 'it returns false'. Refute it at one input. -/
def fnExactSynodicPeriodWrong : ChangeSpec := { name := "fnExactSynodicPeriod", fn := fun _ => fun
  | [d1, d2] => { results := [.lit (.bool false)], args := [d1, d2] }
  | _ => none }
def FnExactSynodicPeriodWrongFalsely : Prop := fnExactSynodicPeriodRow.holds Try.pinned (OpenSpec.ofChange fnExactSynodicPeriodWrong)

/- THE SECOND FORM. 'bulk': how many values and letters a reading holds, each counted each time it is reached (what is shared counts as often as it is met; a slice's spare places count too). A statement '..UptoSaid' is the law's where the arguments, and the package variables that the reading takes, are together of bulk at most 1048576: NARROWER than '..Said'. Prove '..Said' where nothing that the law and all that it calls make is longer than what came in: it says more and counts as full. Else prove '..UptoSaid'. A law counts once. -/
mutual
def uptoBulk {H : Type} : DataW H → Nat
  | .lit (.string bytes) => bytes.length + 1
  | .lit _ => 1
  | .nil => 1
  | .ptr d => uptoBulk d + 1
  | .slice elems spare => uptoBulkAll elems + uptoBulkAll spare + 1
  | .agg parts => uptoBulkAll parts + 1
  | .iface _ d => uptoBulk d + 1
  | .map entries => uptoBulkEntries entries + 1
  | .held _ => 1
def uptoBulkAll {H : Type} : List (DataW H) → Nat
  | [] => 0
  | d :: r => uptoBulk d + uptoBulkAll r
def uptoBulkEntries {H : Type} : List (Lit × DataW H) → Nat
  | [] => 0
  | x :: r => uptoBulkEntry x + uptoBulkEntries r
def uptoBulkEntry {H : Type} : Lit × DataW H → Nat
  | (.string bytes, d) => bytes.length + uptoBulk d + 1
  | (_, d) => uptoBulk d + 1
 end
def uptoSmall : (H : Type) → List (DataW H) → Bool := fun _ ds => decide (uptoBulkAll ds ≤ 1048576)
def OpenSpec.upto (s : _root_.Go.ChangeSpec) : _root_.Go.OpenSpec := { _root_.Go.OpenSpec.ofChange s with cond := some uptoSmall }

/-- 'laws.FnExactValidDome', WHERE WHAT IT READS IS OF BULK AT MOST 1048576: true; the input reads as it did. -/
def fnExactValidDomeUptoRow : OpenClaim := { program := "ythlkdbhbbihhjaa", sum := "dc3699d1bc2173ddca1c8d963127ebf5934d6e32ae7dacb11ac55588695736c0", func := "loop.example/g00955/laws.FnExactValidDome", spec := "fnExactValidDome", apart := false, narrowed := true }
def FnExactValidDomeUptoSaid : Prop := fnExactValidDomeUptoRow.holds Try.pinned (OpenSpec.upto fnExactValidDomeSpec)

/-- 'laws.FnExactValidSite', WHERE WHAT IT READS IS OF BULK AT MOST 1048576: true; the input reads as it did. -/
def fnExactValidSiteUptoRow : OpenClaim := { program := "ythlkdbhbbihhjaa", sum := "dc3699d1bc2173ddca1c8d963127ebf5934d6e32ae7dacb11ac55588695736c0", func := "loop.example/g00955/laws.FnExactValidSite", spec := "fnExactValidSite", apart := false, narrowed := true }
def FnExactValidSiteUptoSaid : Prop := fnExactValidSiteUptoRow.holds Try.pinned (OpenSpec.upto fnExactValidSiteSpec)

/-- 'laws.FnExactValidPlanet', WHERE WHAT IT READS IS OF BULK AT MOST 1048576: true; the input reads as it did. -/
def fnExactValidPlanetUptoRow : OpenClaim := { program := "ythlkdbhbbihhjaa", sum := "dc3699d1bc2173ddca1c8d963127ebf5934d6e32ae7dacb11ac55588695736c0", func := "loop.example/g00955/laws.FnExactValidPlanet", spec := "fnExactValidPlanet", apart := false, narrowed := true }
def FnExactValidPlanetUptoSaid : Prop := fnExactValidPlanetUptoRow.holds Try.pinned (OpenSpec.upto fnExactValidPlanetSpec)

/-- 'laws.FnExactValidStar', WHERE WHAT IT READS IS OF BULK AT MOST 1048576: true; the input reads as it did. -/
def fnExactValidStarUptoRow : OpenClaim := { program := "ythlkdbhbbihhjaa", sum := "dc3699d1bc2173ddca1c8d963127ebf5934d6e32ae7dacb11ac55588695736c0", func := "loop.example/g00955/laws.FnExactValidStar", spec := "fnExactValidStar", apart := false, narrowed := true }
def FnExactValidStarUptoSaid : Prop := fnExactValidStarUptoRow.holds Try.pinned (OpenSpec.upto fnExactValidStarSpec)

/-- 'laws.FnExactFluxOf', WHERE WHAT IT READS IS OF BULK AT MOST 1048576: true; the input reads as it did. -/
def fnExactFluxOfUptoRow : OpenClaim := { program := "ythlkdbhbbihhjaa", sum := "dc3699d1bc2173ddca1c8d963127ebf5934d6e32ae7dacb11ac55588695736c0", func := "loop.example/g00955/laws.FnExactFluxOf", spec := "fnExactFluxOf", apart := false, narrowed := true }
def FnExactFluxOfUptoSaid : Prop := fnExactFluxOfUptoRow.holds Try.pinned (OpenSpec.upto fnExactFluxOfSpec)

/-- 'laws.FnExactOrbitAngle', WHERE WHAT IT READS IS OF BULK AT MOST 1048576: true; the input reads as it did. -/
def fnExactOrbitAngleUptoRow : OpenClaim := { program := "ythlkdbhbbihhjaa", sum := "dc3699d1bc2173ddca1c8d963127ebf5934d6e32ae7dacb11ac55588695736c0", func := "loop.example/g00955/laws.FnExactOrbitAngle", spec := "fnExactOrbitAngle", apart := false, narrowed := true }
def FnExactOrbitAngleUptoSaid : Prop := fnExactOrbitAngleUptoRow.holds Try.pinned (OpenSpec.upto fnExactOrbitAngleSpec)

/-- 'laws.FnExactMagnitudeOf', WHERE WHAT IT READS IS OF BULK AT MOST 1048576: true; the input reads as it did. -/
def fnExactMagnitudeOfUptoRow : OpenClaim := { program := "ythlkdbhbbihhjaa", sum := "dc3699d1bc2173ddca1c8d963127ebf5934d6e32ae7dacb11ac55588695736c0", func := "loop.example/g00955/laws.FnExactMagnitudeOf", spec := "fnExactMagnitudeOf", apart := false, narrowed := true }
def FnExactMagnitudeOfUptoSaid : Prop := fnExactMagnitudeOfUptoRow.holds Try.pinned (OpenSpec.upto fnExactMagnitudeOfSpec)

/-- 'laws.FnExactDomeArea', WHERE WHAT IT READS IS OF BULK AT MOST 1048576: true; the input reads as it did. -/
def fnExactDomeAreaUptoRow : OpenClaim := { program := "ythlkdbhbbihhjaa", sum := "dc3699d1bc2173ddca1c8d963127ebf5934d6e32ae7dacb11ac55588695736c0", func := "loop.example/g00955/laws.FnExactDomeArea", spec := "fnExactDomeArea", apart := false, narrowed := true }
def FnExactDomeAreaUptoSaid : Prop := fnExactDomeAreaUptoRow.holds Try.pinned (OpenSpec.upto fnExactDomeAreaSpec)

/-- 'laws.FnExactCulminationAltitude', WHERE WHAT IT READS IS OF BULK AT MOST 1048576: true; the input reads as it did. -/
def fnExactCulminationAltitudeUptoRow : OpenClaim := { program := "ythlkdbhbbihhjaa", sum := "dc3699d1bc2173ddca1c8d963127ebf5934d6e32ae7dacb11ac55588695736c0", func := "loop.example/g00955/laws.FnExactCulminationAltitude", spec := "fnExactCulminationAltitude", apart := false, narrowed := true }
def FnExactCulminationAltitudeUptoSaid : Prop := fnExactCulminationAltitudeUptoRow.holds Try.pinned (OpenSpec.upto fnExactCulminationAltitudeSpec)

/-- 'laws.FnExactLowestAltitude', WHERE WHAT IT READS IS OF BULK AT MOST 1048576: true; the input reads as it did. -/
def fnExactLowestAltitudeUptoRow : OpenClaim := { program := "ythlkdbhbbihhjaa", sum := "dc3699d1bc2173ddca1c8d963127ebf5934d6e32ae7dacb11ac55588695736c0", func := "loop.example/g00955/laws.FnExactLowestAltitude", spec := "fnExactLowestAltitude", apart := false, narrowed := true }
def FnExactLowestAltitudeUptoSaid : Prop := fnExactLowestAltitudeUptoRow.holds Try.pinned (OpenSpec.upto fnExactLowestAltitudeSpec)

/-- 'laws.FnExactSynodicPeriod', WHERE WHAT IT READS IS OF BULK AT MOST 1048576: true; the input reads as it did. -/
def fnExactSynodicPeriodUptoRow : OpenClaim := { program := "ythlkdbhbbihhjaa", sum := "dc3699d1bc2173ddca1c8d963127ebf5934d6e32ae7dacb11ac55588695736c0", func := "loop.example/g00955/laws.FnExactSynodicPeriod", spec := "fnExactSynodicPeriod", apart := false, narrowed := true }
def FnExactSynodicPeriodUptoSaid : Prop := fnExactSynodicPeriodUptoRow.holds Try.pinned (OpenSpec.upto fnExactSynodicPeriodSpec)

end Rows
end Go.Proofs.Ythlkdbhbbihhjaa
