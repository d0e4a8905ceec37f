/- What the tied cards' rows ask of the library's tables and variables. -/
import Derived.Test.YtpnfhienffekoaaGreatDoorTxt
import Derived.Test.YtpnfhienffekoaaGreatDoorRows
import Derived.Test.YtpnfhienffekoaaGreatDoorCards
import Derived.Test.YtpnfhienffekoaaGreatDoorTie
import Derived.OpenShut
import Derived.OpenVars
import Derived.ProofKit
import Derived.LaidMore
import Derived.Stop.LaidErr
import Derived.Deep.DeepHandedRow
import Derived.Deep.DeepWitnessRowRef
import Derived.Lib.LaidTab
namespace Go.Proofs.YtpnfhienffekoaaGreatDoor
set_option linter.unusedVariables false
set_option linter.unusedSimpArgs false
open Go.RowKit
theorem gPow : Tryz.prog.globalNamed "internal/strconv.uint64pow10" = some 3 := by kernel_rfl
theorem gPowType : (Tryz.prog.globals[3]?).map (·.type) = some 220 := by kernel_rfl
theorem cellsPow : Tryz.prog.cellsOf 220 = 20 := by kernel_rfl
theorem cellsU64 : Tryz.prog.cellsOf 127 = 1 := by kernel_rfl
theorem powOk_of {W : World} {rest : List (String × DataW Unit)} (h : laidMet Tryz.prog (("internal/strconv.uint64pow10", Lib.tabData .u64 Lib.pow10Tab) :: rest) W) : PowOk W :=
  Lib.tabIs_of_head gPow gPowType Tryz.underlying220 Tryz.underlying127 cellsU64 cellsPow h
theorem powOk_tail {W : World} {a b : String × DataW Unit} {rest : List (String × DataW Unit)} (h : laidMet Tryz.prog (a :: b :: ("internal/strconv.uint64pow10", Lib.tabData .u64 Lib.pow10Tab) :: rest) W) : PowOk W := powOk_of h.tail.tail
end Go.Proofs.YtpnfhienffekoaaGreatDoor
