/- Plain functions on domes, sites and planets: what the program and the reference answer. Nothing of the program is named here. -/
import Derived.Test.YtbpjnopnhmoigaaDoorPlain
namespace Go.Proofs.YtbpjnopnhmoigaaDoor
set_option linter.unusedVariables false
set_option linter.unusedSimpArgs false

/-- an answer with a code: the value, or nothing -/
def okO (b : Bool) (code : Int) (x : Int × Int) : Int × Int := if b then x else (0, code)
theorem okO_yes {b : Bool} {c : Int} {x : Int × Int} (h : b = true) : okO b c x = x := by rw [okO, if_pos h]
theorem okO_no {b : Bool} {c : Int} {x : Int × Int} (h : b = false) : okO b c x = (0, c) := by rw [okO, if_neg (by rw [h]; exact Bool.false_ne_true)]
/-- the reference's code for a site and three angles -/
def askI (n : List UInt8) (lo la a1 a2 d : Int) : Int := if vSite n lo la then (if inB a1 0 359999 && inB a2 0 359999 && inB d (-90000) 90000 then 0 else 2) else 1
def milliI (d m : Int) : Int := d * 86400000 + m
def angleI (p u d m : Int) : Int := (u + milliI d m * 360000 / (p * 86400)) % 360000
def orbO (n : List UInt8) (p r u d m : Int) : Int × Int := okO (vPlanet n p r u && vMoment d m) 1 (angleI p u d m, 0)
def areaO (n : List UInt8) (r t : Int) : Int × Int := okO (vDome n r t) 1 (rnd (628318 * r * r) 100000, 0)
def culmO (n : List UInt8) (lo la d : Int) : Int × Int := okO (vSite n lo la) 1 (okO (inB d (-90000) 90000) 2 (90000 - absI (la - d), 0))
def lowO (n : List UInt8) (lo la d : Int) : Int × Int := okO (vSite n lo la) 1 (okO (inB d (-90000) 90000) 2 (absI (la + d) - 90000, 0))
def synO (n1 : List UInt8) (p1 r1 u1 : Int) (n2 : List UInt8) (p2 r2 u2 : Int) : Int × Int :=
  okO (vPlanet n1 p1 r1 u1 && vPlanet n2 p2 r2 u2) 1 (okO (!(p1 == p2)) 6 (rnd (p1 * p2) (absI (p1 - p2)), 0))
theorem vDome_bd {n : List UInt8} {r t : Int} (h : vDome n r t = true) : 1000 ≤ r ∧ r ≤ 30000 := by
  simp only [vDome, Bool.and_eq_true, inB_iff] at h; omega
theorem vSite_bd {n : List UInt8} {lo la : Int} (h : vSite n lo la = true) : -180000 ≤ lo ∧ lo ≤ 180000 ∧ -90000 ≤ la ∧ la ≤ 90000 := by
  simp only [vSite, Bool.and_eq_true, inB_iff] at h; omega
theorem vPlanet_bd {n : List UInt8} {p r u : Int} (h : vPlanet n p r u = true) : 1000 ≤ p ∧ p ≤ 100000000 ∧ 1 ≤ r ∧ r ≤ 50000 ∧ 0 ≤ u ∧ u ≤ 359999 := by
  simp only [vPlanet, Bool.and_eq_true, inB_iff] at h; omega
theorem vMoment_bd {d m : Int} (h : vMoment d m = true) : 0 ≤ d ∧ d ≤ 99999 ∧ 0 ≤ m ∧ m ≤ 86399999 := by
  simp only [vMoment, Bool.and_eq_true, inB_iff] at h; omega
theorem milliI_bd {d m : Int} (h : 0 ≤ d ∧ d ≤ 99999 ∧ 0 ≤ m ∧ m ≤ 86399999) : 0 ≤ milliI d m ∧ milliI d m ≤ 8639999999999 := by
  unfold milliI; omega
theorem angleI_bd (p u d m : Int) : 0 ≤ angleI p u d m ∧ angleI p u d m ≤ 359999 := by unfold angleI; omega
/-- the turn of a planet is within bounds -/
theorem turn_bd (T p : Int) (h1 : 0 ≤ T) (h2 : T ≤ 8639999999999) (h3 : 1000 ≤ p) : 0 ≤ T * 360000 / (p * 86400) ∧ T * 360000 / (p * 86400) ≤ 36000000000 := by
  refine ⟨Int.ediv_nonneg (by omega) (by omega), ?_⟩
  have : T * 360000 / (p * 86400) < 36000000001 := by
    rw [Int.ediv_lt_iff_lt_mul (by omega)]; omega
  omega
end Go.Proofs.YtbpjnopnhmoigaaDoor
