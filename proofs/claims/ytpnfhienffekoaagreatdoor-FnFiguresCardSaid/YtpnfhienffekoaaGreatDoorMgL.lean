/- LaidT, LaidR, in one text. -/
import Derived.Test.YtpnfhienffekoaaGreatDoorMgD
import Derived.Test.YtpnfhienffekoaaGreatDoorRows
import Derived.Test.YtpnfhienffekoaaGreatDoorCards
import Derived.Test.YtpnfhienffekoaaGreatDoorTie
import Derived.OpenShut
import Derived.OpenVars
import Derived.ProofKit
import Derived.LaidMore
import Derived.Stop.LaidErr
import Derived.Deep.DeepHandedRow
import Derived.Deep.DeepWitnessRowRef
import Derived.Lib.LaidTab
import Derived.Test.YtpnfhienffekoaaGreatDoorRead
namespace Go.Proofs.YtpnfhienffekoaaGreatDoor
set_option linter.unusedVariables false
set_option linter.unusedSimpArgs false
open Go.RowKit
theorem gPow : Tryz.prog.globalNamed "internal/strconv.uint64pow10" = some 3 := by kernel_rfl
theorem gPowType : (Tryz.prog.globals[3]?).map (·.type) = some 220 := by kernel_rfl
theorem cellsPow : Tryz.prog.cellsOf 220 = 20 := by kernel_rfl
theorem cellsU64 : Tryz.prog.cellsOf 127 = 1 := by kernel_rfl
theorem powOk_of {W : World} {rest : List (String × DataW Unit)} (h : laidMet Tryz.prog (("internal/strconv.uint64pow10", Lib.tabData .u64 Lib.pow10Tab) :: rest) W) : PowOk W :=
  Lib.tabIs_of_head gPow gPowType Tryz.underlying220 Tryz.underlying127 cellsU64 cellsPow h
theorem powOk_tail {W : World} {a b : String × DataW Unit} {rest : List (String × DataW Unit)} (h : laidMet Tryz.prog (a :: b :: ("internal/strconv.uint64pow10", Lib.tabData .u64 Lib.pow10Tab) :: rest) W) : PowOk W := powOk_of h.tail.tail
end Go.Proofs.YtpnfhienffekoaaGreatDoor
namespace Go.Proofs.YtpnfhienffekoaaGreatDoor
set_option linter.unusedVariables false
set_option linter.unusedSimpArgs false
open Go.RowKit
theorem gRng : Tryz.prog.globalNamed "strconv.ErrRange" = some 5 := by kernel_rfl
theorem gSyn : Tryz.prog.globalNamed "strconv.ErrSyntax" = some 4 := by kernel_rfl
theorem gRngType : (Tryz.prog.globals[5]?).map (·.type) = some 159 := by kernel_rfl
theorem gSynType : (Tryz.prog.globals[4]?).map (·.type) = some 159 := by kernel_rfl
theorem cellsErr : Tryz.prog.cellsOf 243 = 1 := by kernel_rfl
theorem cellsStr : Tryz.prog.cellsOf 9 = 1 := by kernel_rfl
theorem starErr : "*" ++ "errors.errorString" = "*errors.errorString" := by decide
theorem rowErr (u : TypeId) (h : Tryz.prog.typeName? 3 u = some "*errors.errorString") : u = 241 :=
  typeName_ptr_named (nm := "errors.errorString") (by rw [starErr]; kernel_rfl) (by kernel_rfl) (by decide) u (by rw [starErr]; exact h)
theorem errAt_rng {W : World} {text : List UInt8} {r : List (String × DataW Unit)} (h : laidMet Tryz.prog (("strconv.ErrRange", .iface "*errors.errorString" (.ptr (.agg [.lit (.string text)]))) :: r) W) : ErrAt W 5 := by
  obtain ⟨a, s, hv, _, _, _⟩ := laid_sentinel h gRng gRngType Tryz.underlying159 rowErr Tryz.underlying241 Tryz.underlying243 rfl rfl Tryz.underlying9 cellsErr cellsStr
  exact ⟨_, by simpa using World.var?_cell gRng hv 0, .inr ⟨_, _, rfl⟩⟩
theorem errAt_syn {W : World} {text : List UInt8} {r : List (String × DataW Unit)} (h : laidMet Tryz.prog (("strconv.ErrSyntax", .iface "*errors.errorString" (.ptr (.agg [.lit (.string text)]))) :: r) W) : ErrAt W 4 := by
  obtain ⟨a, s, hv, _, _, _⟩ := laid_sentinel h gSyn gSynType Tryz.underlying159 rowErr Tryz.underlying241 Tryz.underlying243 rfl rfl Tryz.underlying9 cellsErr cellsStr
  exact ⟨_, by simpa using World.var?_cell gSyn hv 0, .inr ⟨_, _, rfl⟩⟩
theorem txtOk_of {W : World} {a b c : String × DataW Unit} {t1 t2 : List UInt8} {r : List (String × DataW Unit)}
    (h : laidMet Tryz.prog (a :: b :: ("internal/strconv.uint64pow10", Lib.tabData .u64 Lib.pow10Tab) :: c :: ("strconv.ErrRange", .iface "*errors.errorString" (.ptr (.agg [.lit (.string t1)]))) :: ("strconv.ErrSyntax", .iface "*errors.errorString" (.ptr (.agg [.lit (.string t2)]))) :: r) W) (hs : W.ShapedOpen Tryz.prog) : TxtOk W :=
  ⟨powOk_of h.tail.tail, Tryz.laysSpl.s1_3 W hs, errAt_syn h.tail.tail.tail.tail.tail, errAt_rng h.tail.tail.tail.tail⟩
end Go.Proofs.YtpnfhienffekoaaGreatDoor
