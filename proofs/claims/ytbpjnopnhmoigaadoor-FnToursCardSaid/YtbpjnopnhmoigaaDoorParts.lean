/- Contracts of the functions that count a figure's parts: the program's. -/
import Derived.Test.YtbpjnopnhmoigaaDoorPlainParts
import Derived.Test.YtbpjnopnhmoigaaDoorGrpFig
import Derived.Test.YtbpjnopnhmoigaaDoorBright
namespace Go.Proofs.YtbpjnopnhmoigaaDoor
set_option linter.unusedVariables false
set_option linter.unusedSimpArgs false
open Go.RowKit
/-- the ends of valid lines are indices -/
theorem ends_at {m : Int} {L : List (List Int)} (h : vLines m L = true) {k : Nat} {x : Int} (hx : (setI (endsL L))[k]? = some x) : 0 ≤ x ∧ x < m := endsL_bd h ((setI_mem _ _).1 (List.mem_of_getElem? hx))
end Go.Proofs.YtbpjnopnhmoigaaDoor
