/- Contracts of the texts of stars and sites. -/
import Derived.Test.YtpnfhienffekoaaDoorDec
import Derived.Test.YtpnfhienffekoaaDoorGrpNum
namespace Go.Proofs.YtpnfhienffekoaaDoor
set_option linter.unusedVariables false
set_option linter.unusedSimpArgs false
open Go.RowKit
def starO (l : List UInt8) (r d m c : Int) : List UInt8 := if vStar l r d m c = true then starT l [r, d, m, c] else []
theorem starO_yes {l : List UInt8} {r d m c : Int} (h : vStar l r d m c = true) : starO l r d m c = l ++ 32 :: (Lib.itoa r ++ 32 :: (Lib.itoa d ++ 32 :: (Lib.itoa m ++ 32 :: Lib.itoa c))) := by rw [starO, if_pos h]; rfl
theorem starO_no {l : List UInt8} {r d m c : Int} (h : vStar l r d m c = false) : starO l r d m c = [] := by rw [starO, if_neg (by rw [h]; exact Bool.false_ne_true)]
def siteO (l : List UInt8) (lo la : Int) : List UInt8 := if vSite l lo la = true then siteT l lo la else []
theorem siteO_yes {l : List UInt8} {lo la : Int} (h : vSite l lo la = true) : siteO l lo la = l ++ 32 :: (angT lo ++ 32 :: angT la) := by rw [siteO, if_pos h]; rfl
theorem siteO_no {l : List UInt8} {lo la : Int} (h : vSite l lo la = false) : siteO l lo la = [] := by rw [siteO, if_neg (by rw [h]; exact Bool.false_ne_true)]
end Go.Proofs.YtpnfhienffekoaaDoor
