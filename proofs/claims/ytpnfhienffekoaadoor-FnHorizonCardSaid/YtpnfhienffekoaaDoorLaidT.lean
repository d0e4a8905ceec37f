/- What the tied cards' rows ask of the library's tables and variables. -/
import Derived.Test.YtpnfhienffekoaaDoorTxt
import Derived.Test.YtpnfhienffekoaaDoorRows
import Derived.Test.YtpnfhienffekoaaDoorCards
import Derived.Test.YtpnfhienffekoaaDoorTie
import Derived.OpenShut
import Derived.OpenVars
import Derived.ProofKit
import Derived.LaidMore
import Derived.Stop.LaidErr
import Derived.Deep.DeepHandedRow
import Derived.Deep.DeepWitnessRowRef
import Derived.Lib.LaidTab
namespace Go.Proofs.YtpnfhienffekoaaDoor
set_option linter.unusedVariables false
set_option linter.unusedSimpArgs false
open Go.RowKit
theorem gPow : Tryd.prog.globalNamed "internal/strconv.uint64pow10" = some 5 := by kernel_rfl
theorem gPowType : (Tryd.prog.globals[5]?).map (·.type) = some 116 := by kernel_rfl
theorem cellsPow : Tryd.prog.cellsOf 116 = 20 := by kernel_rfl
theorem cellsU64 : Tryd.prog.cellsOf 61 = 1 := by kernel_rfl
theorem powOk_of {W : World} {rest : List (String × DataW Unit)} (h : laidMet Tryd.prog (("internal/strconv.uint64pow10", Lib.tabData .u64 Lib.pow10Tab) :: rest) W) : PowOk W :=
  Lib.tabIs_of_head gPow gPowType Tryd.underlying116 Tryd.underlying61 cellsU64 cellsPow h
theorem powOk_tail {W : World} {a b : String × DataW Unit} {rest : List (String × DataW Unit)} (h : laidMet Tryd.prog (a :: b :: ("internal/strconv.uint64pow10", Lib.tabData .u64 Lib.pow10Tab) :: rest) W) : PowOk W := powOk_of h.tail.tail
end Go.Proofs.YtpnfhienffekoaaDoor
