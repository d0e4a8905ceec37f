/- Plain functions on the angles of a vector. Nothing of the program is named here. -/
import Derived.Test.YtoddkojbeoifkaaDoorPlainSep
import Derived.Test.YtoddkojbeoifkaaDoorPlainSett
namespace Go.Proofs.YtoddkojbeoifkaaDoor
set_option linter.unusedVariables false
set_option linter.unusedSimpArgs false
def lonI (v : V3) : Int := (arcO v.y v.x).1
def flatI (v : V3) : Int := rootI (v.x * v.x + v.y * v.y)
def latR (v : V3) : Int := arcI v.z (flatI v)
def latI (v : V3) : Int := if 90000 < latR v then latR v - 360000 else latR v
/-- what AnglesOf answers -/
def anglesO (v : V3) : Int × Int × Int := if zeroV v then (0, 0, 6) else (lonI v, latI v, 0)
theorem anglesO_zero {v : V3} (h : zeroV v = true) : anglesO v = (0, 0, 6) := by rw [anglesO, if_pos h]
theorem anglesO_yes {v : V3} (h : zeroV v = false) : anglesO v = (lonI v, latI v, 0) := by rw [anglesO, if_neg (by rw [h]; exact Bool.false_ne_true)]
theorem flatI_bd {v : V3} (h : v.md) : 0 ≤ flatI v ∧ flatI v ≤ 4000000 := by
  obtain ⟨h1, h2, _⟩ := h
  have := sq_bd _ h1
  have := sq_bd _ h2
  exact ⟨rootI_nonneg _, rootI_le _ 4000000 (by have e : ((4000000 : Nat) : Int) = 4000000 := rfl; rw [e]; omega)⟩
theorem sq_zero {x : Int} (h : x * x ≤ 0) : x = 0 := by
  rcases Int.lt_trichotomy x 0 with h0 | h0 | h0
  · have := Int.mul_pos_of_neg_of_neg h0 h0; omega
  · exact h0
  · have := Int.mul_pos h0 h0; omega
theorem flat_zero {v : V3} (h : v.md) (h0 : flatI v = 0) : v.x = 0 ∧ v.y = 0 := by
  obtain ⟨h1, h2, _⟩ := h
  have a1 := sq_bd _ h1
  have a2 := sq_bd _ h2
  have := (rootI_spec (v.x * v.x + v.y * v.y) (by omega)).2
  rw [show rootI (v.x * v.x + v.y * v.y) = 0 from h0] at this
  exact ⟨sq_zero (by omega), sq_zero (by omega)⟩
theorem inB_big {x : Int} (h : -4000000 ≤ x ∧ x ≤ 4000000) : inB x (-1000000000000) 1000000000000 = true := (inB_iff _ _ _).2 (by omega)
theorem lat_arc {v : V3} (h : v.md) (hz : zeroV v = false) : arcO v.z (flatI v) = (latR v, 0) := by
  have f := flatI_bd h
  have i1 : inB (flatI v) (-1000000000000) 1000000000000 = true := inB_big (by omega)
  have i2 : inB v.z (-1000000000000) 1000000000000 = true := inB_big (by have := h.2.2; omega)
  have : (flatI v == 0 && v.z == 0) = false := by
    cases hf : flatI v == 0 with
    | false => rfl
    | true =>
      have := flat_zero h (by simpa using hf)
      simp only [zeroV, this.1, this.2, beq_self_eq_true, Bool.true_and] at hz
      rw [hz]; rfl
  rw [arcO, i1, i2, this]; rfl
theorem lon_arc {v : V3} (h : v.md) (hz : ¬ (v.x = 0 ∧ v.y = 0)) : lonI v = arcI v.y v.x := by
  have i1 : inB v.x (-1000000000000) 1000000000000 = true := inB_big (by have := h.1; omega)
  have i2 : inB v.y (-1000000000000) 1000000000000 = true := inB_big (by have := h.2.1; omega)
  have : (v.x == 0 && v.y == 0) = false := by
    cases hx : v.x == 0 with
    | false => rfl
    | true =>
      cases hy : v.y == 0 with
      | false => rfl
      | true => exact absurd ⟨by simpa using hx, by simpa using hy⟩ hz
  rw [lonI, arcO, i1, i2, this]; rfl
theorem lon_none {v : V3} (hz : v.x = 0 ∧ v.y = 0) : lonI v = 0 := by
  have i1 : inB 0 (-1000000000000) 1000000000000 = true := by decide
  rw [lonI, hz.1, hz.2, arcO, i1]; rfl
theorem lonI_bd {v : V3} (h : v.md) : 0 ≤ lonI v ∧ lonI v < 360000 := by
  by_cases hz : v.x = 0 ∧ v.y = 0
  · rw [lon_none hz]; omega
  · rw [lon_arc h hz]; exact arcI_bd _ _
def hvV (la s r d : Int) : V3 := ⟨hvX la s r d, hvY s r d, hvZ la s r d⟩
theorem hvV_md (la s r d : Int) : (hvV la s r d).md := by
  have := hvY_bd s r d
  exact ⟨hvX_bd _ _ _ _, ⟨by show -2000000 ≤ hvY s r d; omega, by show hvY s r d ≤ 2000000; omega⟩, hvZ_bd _ _ _ _⟩
/-- what Horizontal answers -/
def horO (n : List UInt8) (lo la s r d : Int) : Int × Int × Int := if askI n lo la s r d == 0 then anglesO (hvV la s r d) else (0, 0, askI n lo la s r d)
theorem horO_ok {n : List UInt8} {lo la s r d : Int} (h : askI n lo la s r d = 0) : horO n lo la s r d = anglesO (hvV la s r d) := by rw [horO, h]; rfl
theorem horO_no {n : List UInt8} {lo la s r d : Int} (h : ¬ askI n lo la s r d = 0) : horO n lo la s r d = (0, 0, askI n lo la s r d) := by rw [horO, if_neg (by simpa using h)]
/-- the vector of a direction over a horizon, turned back -/
def eqV (la a h : Int) : V3 := ⟨rotX (dirZ h) (dirX a h) (-la), dirY a h, rotZ (dirZ h) (dirX a h) (-la)⟩
theorem eqV_md (la a h : Int) : (eqV la a h).md := by
  have := dirY_bd a h
  exact ⟨rotX_bd (dirZ_bd _) (dirX_bd _ _) _, ⟨by show -2000000 ≤ dirY a h; omega, by show dirY a h ≤ 2000000; omega⟩, rotZ_bd (dirZ_bd _) (dirX_bd _ _) _⟩
/-- what EquatorialOf answers -/
def equO (n : List UInt8) (lo la s a h : Int) : Int × Int × Int := if askI n lo la s a h == 0 then (if zeroV (eqV la a h) then (0, 0, 6) else (nrm (s + lonI (eqV la a h)), latI (eqV la a h), 0)) else (0, 0, askI n lo la s a h)
theorem equO_no {n : List UInt8} {lo la s a h : Int} (hk : ¬ askI n lo la s a h = 0) : equO n lo la s a h = (0, 0, askI n lo la s a h) := by rw [equO, if_neg (by simpa using hk)]
theorem equO_zero {n : List UInt8} {lo la s a h : Int} (hk : askI n lo la s a h = 0) (hz : zeroV (eqV la a h) = true) : equO n lo la s a h = (0, 0, 6) := by rw [equO, hk, hz]; rfl
theorem equO_yes {n : List UInt8} {lo la s a h : Int} (hk : askI n lo la s a h = 0) (hz : zeroV (eqV la a h) = false) : equO n lo la s a h = (nrm (s + lonI (eqV la a h)), latI (eqV la a h), 0) := by rw [equO, hk, hz]; rfl
end Go.Proofs.YtoddkojbeoifkaaDoor
