/- Contracts of the program's function that puts the brightest stars first. -/
import Derived.Test.YtbpjnopnhmoigaaDoorGrpSort
import Derived.Test.YtbpjnopnhmoigaaDoorGrpList
import Derived.Test.YtbpjnopnhmoigaaDoorGrpFigs
import Derived.Test.YtbpjnopnhmoigaaDoorGrpOwn
namespace Go.Proofs.YtbpjnopnhmoigaaDoor
set_option linter.unusedVariables false
set_option linter.unusedSimpArgs false
open Go.RowKit
/-- the magnitude of the star with that index -/
def magK (l : List Sta) (x : Int) : Int := match l[x.toNat]? with
  | some s => s.ma
  | none => 0
theorem magK_at {l : List Sta} {k : Nat} {x : Sta} (h : l[k]? = some x) : magK l (k : Int) = x.ma := by simp [magK, h]
theorem cmpZ_sign (a b : Int) : cmpZ a b < 0 ↔ a < b := by
  unfold cmpZ
  repeat' split
  all_goals omega
/-- what BrightestFirst answers -/
def brO (l : List Sta) : List Int × Int := if vStars l then (sortL (magK l) (upFrom 0 l.length), 0) else ([], 1)
theorem brO_no {l : List Sta} (h : vStars l = false) : brO l = ([], 1) := by simp [brO, h]
theorem brO_yes {l : List Sta} (h : vStars l = true) : brO l = (sortL (magK l) (upFrom 0 l.length), 0) := by simp [brO, h]
theorem upFrom_rise (j : Int) : ∀ n : Nat, (upFrom j n).Pairwise (· < ·)
  | 0 => .nil
  | n + 1 => by
    rw [upFrom, List.pairwise_append]
    refine ⟨upFrom_rise j n, by simp, fun a ha b hb => ?_⟩
    rw [List.mem_singleton] at hb
    subst hb
    obtain ⟨k, hk, e⟩ := List.getElem_of_mem ha
    rw [upFrom_length] at hk
    have h2 := upFrom_at j n k hk
    rw [List.getElem?_eq_getElem (by rw [upFrom_length]; exact hk), e] at h2
    injection h2 with h2
    omega
theorem gt_upFrom {n k : Nat} (h : k < n) : gt (upFrom 0 n) k = (k : Int) := by rw [gt_at (upFrom_at 0 n k h)]; omega
theorem brO_len (l : List Sta) : (brO l).1.length ≤ 24 := by
  unfold brO
  split
  · next h =>
    have := vStars_len h
    show (sortL _ _).length ≤ 24
    rw [(sortL_all _ _ (upFrom_rise 0 l.length)).1, upFrom_length]; exact this
  · simp
end Go.Proofs.YtbpjnopnhmoigaaDoor
