/- Contracts of the functions on sines of the reference, on angles of directions and between angles. -/
import Derived.Test.YtpnfhienffekoaaGreatDoorAng
import Derived.Test.YtpnfhienffekoaaGreatDoorGrpPure
namespace Go.Proofs.YtpnfhienffekoaaGreatDoor
set_option linter.unusedVariables false
set_option linter.unusedSimpArgs false
open Go.RowKit
theorem absOf_is {a b : Int} (h : absI a = b) (w : World) (h1 : -9000000000000000000 ≤ a) (h2 : a ≤ 9000000000000000000) :
    Calls Tryz.prog 65 #[.int .i64 a] w fun e w' => e = .returned (.int .i64 b) ∧ w = w' := by subst h; exact absOf_any a w h1 h2
/-- the search of the arc, in both texts -/
theorem arc_step (u v lo hi m : Int) (h : lo < hi) (hm : (lo + hi) / 2 = m) : (cosI m * u ≤ sinI m * v → bsI (arcP u v) lo hi = bsI (arcP u v) lo m) ∧ (¬ cosI m * u ≤ sinI m * v → bsI (arcP u v) lo hi = bsI (arcP u v) (m + 1) hi) := by
  subst hm
  refine ⟨fun hc => bsI_yes _ _ _ h (by simp [arcP, hc]), fun hc => bsI_no _ _ _ h (by simp [arcP, hc])⟩
theorem prod_bd (s v : Int) (hs : -1000000 ≤ s ∧ s ≤ 1000000) (hv : 0 ≤ v ∧ v ≤ 1000000000000) : -1000000000000000000 ≤ s * v ∧ s * v ≤ 1000000000000000000 := by
  have := mul_small s v 1000000 1000000000000 hs hv; omega
theorem minI_bd (a b c : Int) (ha : 0 ≤ a ∧ a ≤ c) (hb : 0 ≤ b ∧ b ≤ c) : 0 ≤ minI a b ∧ minI a b ≤ c := by unfold minI; split <;> omega
theorem maxI_bd (a b c : Int) (ha : 0 ≤ a ∧ a ≤ c) (hb : 0 ≤ b ∧ b ≤ c) : 0 ≤ maxI a b ∧ maxI a b ≤ c := by unfold maxI; split <;> omega
theorem absI_le (a c : Int) (h : -c ≤ a ∧ a ≤ c) : 0 ≤ absI a ∧ absI a ≤ c := by unfold absI; split <;> omega
end Go.Proofs.YtpnfhienffekoaaGreatDoor
