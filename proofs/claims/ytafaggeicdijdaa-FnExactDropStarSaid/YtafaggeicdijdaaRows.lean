/-
  No cell of these rows narrows 'for every input' (looked for: loops, veiled, ifaces, maps, wideKeys, modest, calm, conditions, laid).
  DERIVED. THE GIVEN ROWS OF THIS SEAT. 10 by the template 'for every input the law returns true; each argument reads behind the call as it read before'; 0 by the template 'total and deterministic' (their statements: YtafaggeicdijdaaTotals.lean).
  GIVEN WITH THE SEED: the statements are not yours to turn. If you find one false, say at which input.
  Laid BY PROGRAM, IN A SANDBOX (cutbox-rows.mjs): the forced cells as the released guide's own fill.sh prints them over the translation 9a3469f1f357b0f7… (all of the seat's roots in one cut). By AI agents, Wed Nov 11 2026. No macro, syntax, notation, axiom, sorry.
-/
import Derived.Test.YtafaggeicdijdaaChecked
import GoSem.Claim
import GoSem.ClaimJoined
import GoSem.ClaimMapViews
import Derived.JoinedTies
import Derived.KernelRfl
namespace Go.Proofs.Ytafaggeicdijdaa
/- THE CELL 'sum', in the pinned program and in every row, IS THE sha256 OF THE DUMP (.gsa) THAT YtafaggeicdijdaaProg.lean LOADS. Nothing in Lean hashes anything: it is a label: what it is worth is what the hold of that sum in a sandbox is worth. -/
noncomputable def Try.pinned : Pinned := { name := "ytafaggeicdijdaa", sum := "9a3469f1f357b0f7732db8babd5c67afed365b7314a21cb0c2b10f536a054ea8", checked := Try.checked }
namespace Rows
def none {H : Type} : Left H := { results := [], args := [] }

/-- 'laws.FnExactSameStars': WHATEVER THE INPUT: true; the input reads as it did. -/
def fnExactSameStarsSpec : ChangeSpec := { name := "fnExactSameStars", fn := fun _ => fun
  | [d1, d2] => { results := [.lit (.bool true)], args := [d1, d2] }
  | _ => none }
def fnExactSameStarsRow : OpenClaim := { program := "ytafaggeicdijdaa", sum := "9a3469f1f357b0f7732db8babd5c67afed365b7314a21cb0c2b10f536a054ea8", func := "loop.example/g00955/laws.FnExactSameStars", spec := "fnExactSameStars", apart := false }
def FnExactSameStarsSaid : Prop := fnExactSameStarsRow.holds Try.pinned (OpenSpec.ofChange fnExactSameStarsSpec)

/-- ITS FALSE NEIGHBOUR: 'it returns false'. Refute it at one input. -/
def fnExactSameStarsWrong : ChangeSpec := { name := "fnExactSameStars", fn := fun _ => fun
  | [d1, d2] => { results := [.lit (.bool false)], args := [d1, d2] }
  | _ => none }
def FnExactSameStarsWrongFalsely : Prop := fnExactSameStarsRow.holds Try.pinned (OpenSpec.ofChange fnExactSameStarsWrong)

/-- 'laws.FnExactValidPlanets': WHATEVER THE INPUT: true; the input reads as it did. -/
def fnExactValidPlanetsSpec : ChangeSpec := { name := "fnExactValidPlanets", fn := fun _ => fun
  | [d] => { results := [.lit (.bool true)], args := [d] }
  | _ => none }
def fnExactValidPlanetsRow : OpenClaim := { program := "ytafaggeicdijdaa", sum := "9a3469f1f357b0f7732db8babd5c67afed365b7314a21cb0c2b10f536a054ea8", func := "loop.example/g00955/laws.FnExactValidPlanets", spec := "fnExactValidPlanets", apart := false }
def FnExactValidPlanetsSaid : Prop := fnExactValidPlanetsRow.holds Try.pinned (OpenSpec.ofChange fnExactValidPlanetsSpec)

/-- ITS FALSE NEIGHBOUR: 'it returns false'. Refute it at one input. -/
def fnExactValidPlanetsWrong : ChangeSpec := { name := "fnExactValidPlanets", fn := fun _ => fun
  | [d] => { results := [.lit (.bool false)], args := [d] }
  | _ => none }
def FnExactValidPlanetsWrongFalsely : Prop := fnExactValidPlanetsRow.holds Try.pinned (OpenSpec.ofChange fnExactValidPlanetsWrong)

/-- 'laws.FnExactValidStars': WHATEVER THE INPUT: true; the input reads as it did. -/
def fnExactValidStarsSpec : ChangeSpec := { name := "fnExactValidStars", fn := fun _ => fun
  | [d] => { results := [.lit (.bool true)], args := [d] }
  | _ => none }
def fnExactValidStarsRow : OpenClaim := { program := "ytafaggeicdijdaa", sum := "9a3469f1f357b0f7732db8babd5c67afed365b7314a21cb0c2b10f536a054ea8", func := "loop.example/g00955/laws.FnExactValidStars", spec := "fnExactValidStars", apart := false }
def FnExactValidStarsSaid : Prop := fnExactValidStarsRow.holds Try.pinned (OpenSpec.ofChange fnExactValidStarsSpec)

/-- ITS FALSE NEIGHBOUR: 'it returns false'. Refute it at one input. -/
def fnExactValidStarsWrong : ChangeSpec := { name := "fnExactValidStars", fn := fun _ => fun
  | [d] => { results := [.lit (.bool false)], args := [d] }
  | _ => none }
def FnExactValidStarsWrongFalsely : Prop := fnExactValidStarsRow.holds Try.pinned (OpenSpec.ofChange fnExactValidStarsWrong)

/-- 'laws.FnExactTotalMagnitude': WHATEVER THE INPUT: true; the input reads as it did. -/
def fnExactTotalMagnitudeSpec : ChangeSpec := { name := "fnExactTotalMagnitude", fn := fun _ => fun
  | [d] => { results := [.lit (.bool true)], args := [d] }
  | _ => none }
def fnExactTotalMagnitudeRow : OpenClaim := { program := "ytafaggeicdijdaa", sum := "9a3469f1f357b0f7732db8babd5c67afed365b7314a21cb0c2b10f536a054ea8", func := "loop.example/g00955/laws.FnExactTotalMagnitude", spec := "fnExactTotalMagnitude", apart := false }
def FnExactTotalMagnitudeSaid : Prop := fnExactTotalMagnitudeRow.holds Try.pinned (OpenSpec.ofChange fnExactTotalMagnitudeSpec)

/-- ITS FALSE NEIGHBOUR: 'it returns false'. Refute it at one input. -/
def fnExactTotalMagnitudeWrong : ChangeSpec := { name := "fnExactTotalMagnitude", fn := fun _ => fun
  | [d] => { results := [.lit (.bool false)], args := [d] }
  | _ => none }
def FnExactTotalMagnitudeWrongFalsely : Prop := fnExactTotalMagnitudeRow.holds Try.pinned (OpenSpec.ofChange fnExactTotalMagnitudeWrong)

/-- 'laws.FnExactDropStar': WHATEVER THE INPUT: true; the input reads as it did. -/
def fnExactDropStarSpec : ChangeSpec := { name := "fnExactDropStar", fn := fun _ => fun
  | [d1, d2] => { results := [.lit (.bool true)], args := [d1, d2] }
  | _ => none }
def fnExactDropStarRow : OpenClaim := { program := "ytafaggeicdijdaa", sum := "9a3469f1f357b0f7732db8babd5c67afed365b7314a21cb0c2b10f536a054ea8", func := "loop.example/g00955/laws.FnExactDropStar", spec := "fnExactDropStar", unfollowed := true, recurses := true, apart := false }
def FnExactDropStarSaid : Prop := fnExactDropStarRow.holds Try.pinned (OpenSpec.ofChange fnExactDropStarSpec)

/-- ITS FALSE NEIGHBOUR: 'it returns false'. Refute it at one input. -/
def fnExactDropStarWrong : ChangeSpec := { name := "fnExactDropStar", fn := fun _ => fun
  | [d1, d2] => { results := [.lit (.bool false)], args := [d1, d2] }
  | _ => none }
def FnExactDropStarWrongFalsely : Prop := fnExactDropStarRow.holds Try.pinned (OpenSpec.ofChange fnExactDropStarWrong)

/-- 'laws.FnExactValidFigure': WHATEVER THE INPUT: true; the input reads as it did. -/
def fnExactValidFigureSpec : ChangeSpec := { name := "fnExactValidFigure", fn := fun _ => fun
  | [d1, d2] => { results := [.lit (.bool true)], args := [d1, d2] }
  | _ => none }
def fnExactValidFigureRow : OpenClaim := { program := "ytafaggeicdijdaa", sum := "9a3469f1f357b0f7732db8babd5c67afed365b7314a21cb0c2b10f536a054ea8", func := "loop.example/g00955/laws.FnExactValidFigure", spec := "fnExactValidFigure", apart := false }
def FnExactValidFigureSaid : Prop := fnExactValidFigureRow.holds Try.pinned (OpenSpec.ofChange fnExactValidFigureSpec)

/-- ITS FALSE NEIGHBOUR: 'it returns false'. Refute it at one input. -/
def fnExactValidFigureWrong : ChangeSpec := { name := "fnExactValidFigure", fn := fun _ => fun
  | [d1, d2] => { results := [.lit (.bool false)], args := [d1, d2] }
  | _ => none }
def FnExactValidFigureWrongFalsely : Prop := fnExactValidFigureRow.holds Try.pinned (OpenSpec.ofChange fnExactValidFigureWrong)

/-- 'laws.FnExactAddStar': WHATEVER THE INPUT: true; the input reads as it did. -/
def fnExactAddStarSpec : ChangeSpec := { name := "fnExactAddStar", fn := fun _ => fun
  | [d1, d2] => { results := [.lit (.bool true)], args := [d1, d2] }
  | _ => none }
def fnExactAddStarRow : OpenClaim := { program := "ytafaggeicdijdaa", sum := "9a3469f1f357b0f7732db8babd5c67afed365b7314a21cb0c2b10f536a054ea8", func := "loop.example/g00955/laws.FnExactAddStar", spec := "fnExactAddStar", inPlace := ["slices.overlaps[loop.example/g00955/impl.Star]"], apart := false }
def FnExactAddStarSaid : Prop := fnExactAddStarRow.holds Try.pinned (OpenSpec.ofChange fnExactAddStarSpec)

/-- ITS FALSE NEIGHBOUR: 'it returns false'. Refute it at one input. -/
def fnExactAddStarWrong : ChangeSpec := { name := "fnExactAddStar", fn := fun _ => fun
  | [d1, d2] => { results := [.lit (.bool false)], args := [d1, d2] }
  | _ => none }
def FnExactAddStarWrongFalsely : Prop := fnExactAddStarRow.holds Try.pinned (OpenSpec.ofChange fnExactAddStarWrong)

/-- 'laws.FnExactBrightestFirst': WHATEVER THE INPUT: true; the input reads as it did. -/
def fnExactBrightestFirstSpec : ChangeSpec := { name := "fnExactBrightestFirst", fn := fun _ => fun
  | [d] => { results := [.lit (.bool true)], args := [d] }
  | _ => none }
def fnExactBrightestFirstRow : OpenClaim := { program := "ytafaggeicdijdaa", sum := "9a3469f1f357b0f7732db8babd5c67afed365b7314a21cb0c2b10f536a054ea8", func := "loop.example/g00955/laws.FnExactBrightestFirst", spec := "fnExactBrightestFirst", unfollowed := true, recurses := true, apart := false }
def FnExactBrightestFirstSaid : Prop := fnExactBrightestFirstRow.holds Try.pinned (OpenSpec.ofChange fnExactBrightestFirstSpec)

/-- ITS FALSE NEIGHBOUR: 'it returns false'. Refute it at one input. -/
def fnExactBrightestFirstWrong : ChangeSpec := { name := "fnExactBrightestFirst", fn := fun _ => fun
  | [d] => { results := [.lit (.bool false)], args := [d] }
  | _ => none }
def FnExactBrightestFirstWrongFalsely : Prop := fnExactBrightestFirstRow.holds Try.pinned (OpenSpec.ofChange fnExactBrightestFirstWrong)

/-- 'laws.FnExactFigureParts': WHATEVER THE INPUT: true; the input reads as it did. -/
def fnExactFigurePartsSpec : ChangeSpec := { name := "fnExactFigureParts", fn := fun _ => fun
  | [d1, d2] => { results := [.lit (.bool true)], args := [d1, d2] }
  | _ => none }
def fnExactFigurePartsRow : OpenClaim := { program := "ytafaggeicdijdaa", sum := "9a3469f1f357b0f7732db8babd5c67afed365b7314a21cb0c2b10f536a054ea8", func := "loop.example/g00955/laws.FnExactFigureParts", spec := "fnExactFigureParts", recurses := true, apart := false }
def FnExactFigurePartsSaid : Prop := fnExactFigurePartsRow.holds Try.pinned (OpenSpec.ofChange fnExactFigurePartsSpec)

/-- ITS FALSE NEIGHBOUR: 'it returns false'. Refute it at one input. -/
def fnExactFigurePartsWrong : ChangeSpec := { name := "fnExactFigureParts", fn := fun _ => fun
  | [d1, d2] => { results := [.lit (.bool false)], args := [d1, d2] }
  | _ => none }
def FnExactFigurePartsWrongFalsely : Prop := fnExactFigurePartsRow.holds Try.pinned (OpenSpec.ofChange fnExactFigurePartsWrong)

/-- 'laws.FnExactFigureStars': WHATEVER THE INPUT: true; the input reads as it did. -/
def fnExactFigureStarsSpec : ChangeSpec := { name := "fnExactFigureStars", fn := fun _ => fun
  | [d1, d2] => { results := [.lit (.bool true)], args := [d1, d2] }
  | _ => none }
def fnExactFigureStarsRow : OpenClaim := { program := "ytafaggeicdijdaa", sum := "9a3469f1f357b0f7732db8babd5c67afed365b7314a21cb0c2b10f536a054ea8", func := "loop.example/g00955/laws.FnExactFigureStars", spec := "fnExactFigureStars", recurses := true, apart := false }
def FnExactFigureStarsSaid : Prop := fnExactFigureStarsRow.holds Try.pinned (OpenSpec.ofChange fnExactFigureStarsSpec)

/-- ITS FALSE NEIGHBOUR: 'it returns false'. Refute it at one input. -/
def fnExactFigureStarsWrong : ChangeSpec := { name := "fnExactFigureStars", fn := fun _ => fun
  | [d1, d2] => { results := [.lit (.bool false)], args := [d1, d2] }
  | _ => none }
def FnExactFigureStarsWrongFalsely : Prop := fnExactFigureStarsRow.holds Try.pinned (OpenSpec.ofChange fnExactFigureStarsWrong)

/- THE SECOND FORM. 'bulk': how many values and letters a reading holds, each counted each time it is reached (what is shared counts as often as it is met; a slice's spare places count too). A statement '..UptoSaid' is the law's where the arguments, and the package variables that the reading takes, are together of bulk at most 1048576: NARROWER than '..Said'. Prove '..Said' where nothing that the law and all that it calls make is longer than what came in: it says more and counts as full. Else prove '..UptoSaid'. A law counts once. -/
mutual
def uptoBulk {H : Type} : DataW H → Nat
  | .lit (.string bytes) => bytes.length + 1
  | .lit _ => 1
  | .nil => 1
  | .ptr d => uptoBulk d + 1
  | .slice elems spare => uptoBulkAll elems + uptoBulkAll spare + 1
  | .agg parts => uptoBulkAll parts + 1
  | .iface _ d => uptoBulk d + 1
  | .map entries => uptoBulkEntries entries + 1
  | .held _ => 1
def uptoBulkAll {H : Type} : List (DataW H) → Nat
  | [] => 0
  | d :: r => uptoBulk d + uptoBulkAll r
def uptoBulkEntries {H : Type} : List (Lit × DataW H) → Nat
  | [] => 0
  | x :: r => uptoBulkEntry x + uptoBulkEntries r
def uptoBulkEntry {H : Type} : Lit × DataW H → Nat
  | (.string bytes, d) => bytes.length + uptoBulk d + 1
  | (_, d) => uptoBulk d + 1
 end
def uptoSmall : (H : Type) → List (DataW H) → Bool := fun _ ds => decide (uptoBulkAll ds ≤ 1048576)
def OpenSpec.upto (s : _root_.Go.ChangeSpec) : _root_.Go.OpenSpec := { _root_.Go.OpenSpec.ofChange s with cond := some uptoSmall }

/-- 'laws.FnExactSameStars', WHERE WHAT IT READS IS OF BULK AT MOST 1048576: true; the input reads as it did. -/
def fnExactSameStarsUptoRow : OpenClaim := { program := "ytafaggeicdijdaa", sum := "9a3469f1f357b0f7732db8babd5c67afed365b7314a21cb0c2b10f536a054ea8", func := "loop.example/g00955/laws.FnExactSameStars", spec := "fnExactSameStars", apart := false, narrowed := true }
def FnExactSameStarsUptoSaid : Prop := fnExactSameStarsUptoRow.holds Try.pinned (OpenSpec.upto fnExactSameStarsSpec)

/-- 'laws.FnExactValidPlanets', WHERE WHAT IT READS IS OF BULK AT MOST 1048576: true; the input reads as it did. -/
def fnExactValidPlanetsUptoRow : OpenClaim := { program := "ytafaggeicdijdaa", sum := "9a3469f1f357b0f7732db8babd5c67afed365b7314a21cb0c2b10f536a054ea8", func := "loop.example/g00955/laws.FnExactValidPlanets", spec := "fnExactValidPlanets", apart := false, narrowed := true }
def FnExactValidPlanetsUptoSaid : Prop := fnExactValidPlanetsUptoRow.holds Try.pinned (OpenSpec.upto fnExactValidPlanetsSpec)

/-- 'laws.FnExactValidStars', WHERE WHAT IT READS IS OF BULK AT MOST 1048576: true; the input reads as it did. -/
def fnExactValidStarsUptoRow : OpenClaim := { program := "ytafaggeicdijdaa", sum := "9a3469f1f357b0f7732db8babd5c67afed365b7314a21cb0c2b10f536a054ea8", func := "loop.example/g00955/laws.FnExactValidStars", spec := "fnExactValidStars", apart := false, narrowed := true }
def FnExactValidStarsUptoSaid : Prop := fnExactValidStarsUptoRow.holds Try.pinned (OpenSpec.upto fnExactValidStarsSpec)

/-- 'laws.FnExactTotalMagnitude', WHERE WHAT IT READS IS OF BULK AT MOST 1048576: true; the input reads as it did. -/
def fnExactTotalMagnitudeUptoRow : OpenClaim := { program := "ytafaggeicdijdaa", sum := "9a3469f1f357b0f7732db8babd5c67afed365b7314a21cb0c2b10f536a054ea8", func := "loop.example/g00955/laws.FnExactTotalMagnitude", spec := "fnExactTotalMagnitude", apart := false, narrowed := true }
def FnExactTotalMagnitudeUptoSaid : Prop := fnExactTotalMagnitudeUptoRow.holds Try.pinned (OpenSpec.upto fnExactTotalMagnitudeSpec)

/-- 'laws.FnExactDropStar', WHERE WHAT IT READS IS OF BULK AT MOST 1048576: true; the input reads as it did. -/
def fnExactDropStarUptoRow : OpenClaim := { program := "ytafaggeicdijdaa", sum := "9a3469f1f357b0f7732db8babd5c67afed365b7314a21cb0c2b10f536a054ea8", func := "loop.example/g00955/laws.FnExactDropStar", spec := "fnExactDropStar", unfollowed := true, recurses := true, apart := false, narrowed := true }
def FnExactDropStarUptoSaid : Prop := fnExactDropStarUptoRow.holds Try.pinned (OpenSpec.upto fnExactDropStarSpec)

/-- 'laws.FnExactValidFigure', WHERE WHAT IT READS IS OF BULK AT MOST 1048576: true; the input reads as it did. -/
def fnExactValidFigureUptoRow : OpenClaim := { program := "ytafaggeicdijdaa", sum := "9a3469f1f357b0f7732db8babd5c67afed365b7314a21cb0c2b10f536a054ea8", func := "loop.example/g00955/laws.FnExactValidFigure", spec := "fnExactValidFigure", apart := false, narrowed := true }
def FnExactValidFigureUptoSaid : Prop := fnExactValidFigureUptoRow.holds Try.pinned (OpenSpec.upto fnExactValidFigureSpec)

/-- 'laws.FnExactAddStar', WHERE WHAT IT READS IS OF BULK AT MOST 1048576: true; the input reads as it did. -/
def fnExactAddStarUptoRow : OpenClaim := { program := "ytafaggeicdijdaa", sum := "9a3469f1f357b0f7732db8babd5c67afed365b7314a21cb0c2b10f536a054ea8", func := "loop.example/g00955/laws.FnExactAddStar", spec := "fnExactAddStar", inPlace := ["slices.overlaps[loop.example/g00955/impl.Star]"], apart := false, narrowed := true }
def FnExactAddStarUptoSaid : Prop := fnExactAddStarUptoRow.holds Try.pinned (OpenSpec.upto fnExactAddStarSpec)

/-- 'laws.FnExactBrightestFirst', WHERE WHAT IT READS IS OF BULK AT MOST 1048576: true; the input reads as it did. -/
def fnExactBrightestFirstUptoRow : OpenClaim := { program := "ytafaggeicdijdaa", sum := "9a3469f1f357b0f7732db8babd5c67afed365b7314a21cb0c2b10f536a054ea8", func := "loop.example/g00955/laws.FnExactBrightestFirst", spec := "fnExactBrightestFirst", unfollowed := true, recurses := true, apart := false, narrowed := true }
def FnExactBrightestFirstUptoSaid : Prop := fnExactBrightestFirstUptoRow.holds Try.pinned (OpenSpec.upto fnExactBrightestFirstSpec)

/-- 'laws.FnExactFigureParts', WHERE WHAT IT READS IS OF BULK AT MOST 1048576: true; the input reads as it did. -/
def fnExactFigurePartsUptoRow : OpenClaim := { program := "ytafaggeicdijdaa", sum := "9a3469f1f357b0f7732db8babd5c67afed365b7314a21cb0c2b10f536a054ea8", func := "loop.example/g00955/laws.FnExactFigureParts", spec := "fnExactFigureParts", recurses := true, apart := false, narrowed := true }
def FnExactFigurePartsUptoSaid : Prop := fnExactFigurePartsUptoRow.holds Try.pinned (OpenSpec.upto fnExactFigurePartsSpec)

/-- 'laws.FnExactFigureStars', WHERE WHAT IT READS IS OF BULK AT MOST 1048576: true; the input reads as it did. -/
def fnExactFigureStarsUptoRow : OpenClaim := { program := "ytafaggeicdijdaa", sum := "9a3469f1f357b0f7732db8babd5c67afed365b7314a21cb0c2b10f536a054ea8", func := "loop.example/g00955/laws.FnExactFigureStars", spec := "fnExactFigureStars", recurses := true, apart := false, narrowed := true }
def FnExactFigureStarsUptoSaid : Prop := fnExactFigureStarsUptoRow.holds Try.pinned (OpenSpec.upto fnExactFigureStarsSpec)

end Rows
end Go.Proofs.Ytafaggeicdijdaa
