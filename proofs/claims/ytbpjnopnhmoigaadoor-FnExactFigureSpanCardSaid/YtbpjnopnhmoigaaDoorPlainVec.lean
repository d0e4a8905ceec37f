/- Plain functions on vectors and on the direction of a star over a horizon. Nothing of the program is named here. -/
import Derived.Test.YtbpjnopnhmoigaaDoorPlainSky
import Derived.Test.YtbpjnopnhmoigaaDoorPlainArc
namespace Go.Proofs.YtbpjnopnhmoigaaDoor
set_option linter.unusedVariables false
set_option linter.unusedSimpArgs false
/-- is there a vector -/
def vVec (x y z : Int) : Bool := inB x (-2000000) 2000000 && (inB y (-2000000) 2000000 && inB z (-2000000) 2000000)
/-- the direction of two angles -/
def dirX (l b : Int) : Int := rnd (cosI b * cosI l) 1000000
def dirY (l b : Int) : Int := rnd (cosI b * sinI l) 1000000
def dirZ (b : Int) : Int := sinI b
/-- a vector turned around the second axis -/
def rotX (x z a : Int) : Int := rnd (x * cosI a + z * sinI a) 1000000
def rotZ (x z a : Int) : Int := rnd (z * cosI a - x * sinI a) 1000000
/-- a vector turned around the third axis -/
def rzX (x y a : Int) : Int := rnd (x * cosI a - y * sinI a) 1000000
def rzY (x y a : Int) : Int := rnd (x * sinI a + y * cosI a) 1000000
theorem unit_prod (a b : Int) (ha : -1000000 ≤ a ∧ a ≤ 1000000) (hb : -1000000 ≤ b ∧ b ≤ 1000000) : -1000000000000 ≤ a * b ∧ a * b ≤ 1000000000000 := by
  rcases Int.le_total 0 b with h | h
  · have := mul_small a b 1000000 1000000 ha ⟨h, hb.2⟩; omega
  · have := mul_small a (-b) 1000000 1000000 ha ⟨by omega, by omega⟩
    rw [Int.mul_neg] at this; omega
theorem two_prod (a b : Int) (ha : -2000000 ≤ a ∧ a ≤ 2000000) (hb : -1000000 ≤ b ∧ b ≤ 1000000) : -2000000000000 ≤ a * b ∧ a * b ≤ 2000000000000 := by
  rcases Int.le_total 0 b with h | h
  · have := mul_small a b 2000000 1000000 ha ⟨h, hb.2⟩; omega
  · have := mul_small a (-b) 2000000 1000000 ha ⟨by omega, by omega⟩
    rw [Int.mul_neg] at this; omega
theorem rnd_unit (a : Int) (h : -1000000000000 ≤ a ∧ a ≤ 1000000000000) : -1000000 ≤ rnd a 1000000 ∧ rnd a 1000000 ≤ 1000000 := rnd_between _ _ _ _ (by omega) (by omega) (by omega)
theorem rnd_two (a : Int) (h : -2000000000000 ≤ a ∧ a ≤ 2000000000000) : -2000000 ≤ rnd a 1000000 ∧ rnd a 1000000 ≤ 2000000 := rnd_between _ _ _ _ (by omega) (by omega) (by omega)
theorem dirX_bd (l b : Int) : -1000000 ≤ dirX l b ∧ dirX l b ≤ 1000000 := rnd_unit _ (unit_prod _ _ (cosI_bd b) (cosI_bd l))
theorem dirY_bd (l b : Int) : -1000000 ≤ dirY l b ∧ dirY l b ≤ 1000000 := rnd_unit _ (unit_prod _ _ (cosI_bd b) (sinI_bd l))
theorem dirZ_bd (b : Int) : -1000000 ≤ dirZ b ∧ dirZ b ≤ 1000000 := sinI_bd b
theorem rotX_bd {x z : Int} (hx : -1000000 ≤ x ∧ x ≤ 1000000) (hz : -1000000 ≤ z ∧ z ≤ 1000000) (a : Int) : -2000000 ≤ rotX x z a ∧ rotX x z a ≤ 2000000 := by
  have := unit_prod _ _ hx (cosI_bd a)
  have := unit_prod _ _ hz (sinI_bd a)
  exact rnd_two _ (by omega)
theorem rotZ_bd {x z : Int} (hx : -1000000 ≤ x ∧ x ≤ 1000000) (hz : -1000000 ≤ z ∧ z ≤ 1000000) (a : Int) : -2000000 ≤ rotZ x z a ∧ rotZ x z a ≤ 2000000 := by
  have := unit_prod _ _ hz (cosI_bd a)
  have := unit_prod _ _ hx (sinI_bd a)
  exact rnd_two _ (by omega)
theorem vVec_ok {x y z : Int} (hx : -2000000 ≤ x ∧ x ≤ 2000000) (hy : -2000000 ≤ y ∧ y ≤ 2000000) (hz : -2000000 ≤ z ∧ z ≤ 2000000) : vVec x y z = true := by
  have h1 : inB x (-2000000) 2000000 = true := (inB_iff _ _ _).2 hx
  have h2 : inB y (-2000000) 2000000 = true := (inB_iff _ _ _).2 hy
  have h3 : inB z (-2000000) 2000000 = true := (inB_iff _ _ _).2 hz
  simp [vVec, h1, h2, h3]
/-- the direction of a star over a horizon: north, west (or east), up -/
def hvX (la s r d : Int) : Int := rotZ (dirX (r - s) d) (dirZ d) la
def hvY (s r d : Int) : Int := dirY (r - s) d
def hvZ (la s r d : Int) : Int := rotX (dirX (r - s) d) (dirZ d) la
theorem hvX_bd (la s r d : Int) : -2000000 ≤ hvX la s r d ∧ hvX la s r d ≤ 2000000 := rotZ_bd (dirX_bd _ _) (dirZ_bd _) _
theorem hvY_bd (s r d : Int) : -1000000 ≤ hvY s r d ∧ hvY s r d ≤ 1000000 := dirY_bd _ _
theorem hvZ_bd (la s r d : Int) : -2000000 ≤ hvZ la s r d ∧ hvZ la s r d ≤ 2000000 := rotX_bd (dirX_bd _ _) (dirZ_bd _) _
theorem hv_ok (la s r d : Int) : vVec (hvX la s r d) (hvY s r d) (hvZ la s r d) = true := by
  have := hvY_bd s r d
  exact vVec_ok (hvX_bd _ _ _ _) (by omega) (hvZ_bd _ _ _ _)
/-- what HorizontalVector answers -/
def hvO (n : List UInt8) (lo la s r d : Int) : Int × Int × Int × Int := if askI n lo la s r d == 0 then (hvX la s r d, hvY s r d, hvZ la s r d, 0) else (0, 0, 0, askI n lo la s r d)
theorem hvO_ok {n : List UInt8} {lo la s r d : Int} (h : askI n lo la s r d = 0) : hvO n lo la s r d = (hvX la s r d, hvY s r d, hvZ la s r d, 0) := by rw [hvO, h]; rfl
theorem hvO_no {n : List UInt8} {lo la s r d : Int} (h : ¬ askI n lo la s r d = 0) : hvO n lo la s r d = (0, 0, 0, askI n lo la s r d) := by rw [hvO, if_neg (by simpa using h)]
/-- is a star not up, an hour angle behind its culmination -/
def dnP (la d h : Int) : Bool := decide (hvZ la h 0 d ≤ 0)
end Go.Proofs.YtbpjnopnhmoigaaDoor
