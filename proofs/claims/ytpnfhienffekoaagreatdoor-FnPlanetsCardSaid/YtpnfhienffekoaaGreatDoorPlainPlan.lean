/- Plain functions on planets: places, ways, what is seen. Nothing of the program is named here. -/
import Derived.Test.YtpnfhienffekoaaGreatDoorGrpPure
namespace Go.Proofs.YtpnfhienffekoaaGreatDoor
set_option linter.unusedVariables false
set_option linter.unusedSimpArgs false
/-- a planet's fields -/
structure PlB where
  n : ByteArray
  p : Int
  r : Int
  u : Int
def vP (P : PlB) : Bool := vPlanet P.n.data.toList P.p P.r P.u
def angP (P : PlB) (d m : Int) : Int := angleI P.p P.u d m
def plX (P : PlB) (d m : Int) : Int := rnd (P.r * cosI (angP P d m)) 1000
def plY (P : PlB) (d m : Int) : Int := rnd (P.r * sinI (angP P d m)) 1000
def plO (P : PlB) (d m : Int) : Int × Int × Int := if vP P && vMoment d m then (plX P d m, plY P d m, 0) else (0, 0, 1)
def wyX (P Q : PlB) (d m : Int) : Int := plX P d m - plX Q d m
def wyY (P Q : PlB) (d m : Int) : Int := plY P d m - plY Q d m
def wyV (P Q : PlB) (d m : Int) : Bool := vP P && (vP Q && vMoment d m)
def wyZ (P Q : PlB) (d m : Int) : Bool := (wyX P Q d m == 0) && (wyY P Q d m == 0)
def wyC (P Q : PlB) (d m : Int) : Int := if wyV P Q d m then (if wyZ P Q d m then 6 else 0) else 1
theorem vP_bd {P : PlB} (h : vP P = true) : 1000 ≤ P.p ∧ P.p ≤ 100000000 ∧ 1 ≤ P.r ∧ P.r ≤ 50000 ∧ 0 ≤ P.u ∧ P.u ≤ 359999 := vPlanet_bd h
theorem wyC_no {P Q : PlB} {d m : Int} (h : wyV P Q d m = false) : wyC P Q d m = 1 := by rw [wyC, h]; rfl
theorem wyC_zero {P Q : PlB} {d m : Int} (h : wyV P Q d m = true) (hz : wyZ P Q d m = true) : wyC P Q d m = 6 := by rw [wyC, h, hz]; rfl
theorem wyC_ok {P Q : PlB} {d m : Int} (h : wyV P Q d m = true) (hz : wyZ P Q d m = false) : wyC P Q d m = 0 := by rw [wyC, h, hz]; rfl
theorem wyV_parts {P Q : PlB} {d m : Int} (h : wyV P Q d m = true) : vP P = true ∧ vP Q = true ∧ vMoment d m = true := by simpa [wyV] using h
theorem wyZ_iff (P Q : PlB) (d m : Int) : wyZ P Q d m = true ↔ wyX P Q d m = 0 ∧ wyY P Q d m = 0 := by simp [wyZ]
theorem wyZ_iff' (P Q : PlB) (d m : Int) : wyZ P Q d m = false ↔ ¬ (wyX P Q d m = 0 ∧ wyY P Q d m = 0) := by rw [← wyZ_iff, Bool.not_eq_true]
theorem coord_bd (r s : Int) (h1 : 1 ≤ r) (h2 : r ≤ 50000) (hs : -1000000 ≤ s ∧ s ≤ 1000000) : -50000000000 ≤ r * s ∧ r * s ≤ 50000000000 ∧ -50000000 ≤ rnd (r * s) 1000 ∧ rnd (r * s) 1000 ≤ 50000000 := by
  have m := mul_small s r 1000000 50000 hs (by omega)
  rw [Int.mul_comm s r] at m
  have := rnd_between (r * s) 1000 (-50000000) 50000000 (by omega) (by omega) (by omega)
  omega
theorem plX_bd {P : PlB} (h : vP P = true) (d m : Int) : -50000000 ≤ plX P d m ∧ plX P d m ≤ 50000000 := by
  have b := vP_bd h
  have := coord_bd P.r (cosI (angP P d m)) (by omega) (by omega) (cosI_bd _)
  unfold plX; omega
theorem plY_bd {P : PlB} (h : vP P = true) (d m : Int) : -50000000 ≤ plY P d m ∧ plY P d m ≤ 50000000 := by
  have b := vP_bd h
  have := coord_bd P.r (sinI (angP P d m)) (by omega) (by omega) (sinI_bd _)
  unfold plY; omega
theorem wy_bd {P Q : PlB} {d m : Int} (h : wyV P Q d m = true) : -100000000 ≤ wyX P Q d m ∧ wyX P Q d m ≤ 100000000 ∧ -100000000 ≤ wyY P Q d m ∧ wyY P Q d m ≤ 100000000 := by
  obtain ⟨h1, h2, _⟩ := wyV_parts h
  have := plX_bd h1 d m
  have := plX_bd h2 d m
  have := plY_bd h1 d m
  have := plY_bd h2 d m
  unfold wyX wyY; omega
/-- what SeenAngle answers -/
def seenO (P Q : PlB) (d m : Int) : Int × Int := if wyC P Q d m == 0 then (arcI (wyY P Q d m) (wyX P Q d m), 0) else (0, wyC P Q d m)
theorem seenO_ok {P Q : PlB} {d m : Int} (h : wyC P Q d m = 0) : seenO P Q d m = (arcI (wyY P Q d m) (wyX P Q d m), 0) := by rw [seenO, h]; rfl
theorem seenO_no {P Q : PlB} {d m : Int} (h : wyC P Q d m ≠ 0) : seenO P Q d m = (0, wyC P Q d m) := by
  rw [seenO, if_neg (by simpa using h)]
theorem wyC_cases (P Q : PlB) (d m : Int) : (wyC P Q d m = 1 ∧ wyV P Q d m = false) ∨ (wyC P Q d m = 6 ∧ wyV P Q d m = true ∧ wyZ P Q d m = true) ∨ (wyC P Q d m = 0 ∧ wyV P Q d m = true ∧ wyZ P Q d m = false) := by
  cases h1 : wyV P Q d m with
  | false => exact .inl ⟨wyC_no h1, rfl⟩
  | true =>
    cases h2 : wyZ P Q d m with
    | true => exact .inr (.inl ⟨wyC_zero h1 h2, rfl, rfl⟩)
    | false => exact .inr (.inr ⟨wyC_ok h1 h2, rfl, rfl⟩)
/-- what SeenDistance answers -/
def distO (P Q : PlB) (d m : Int) : Int × Int := if wyC P Q d m == 0 then (rootI (wyX P Q d m * wyX P Q d m + wyY P Q d m * wyY P Q d m), 0) else (0, wyC P Q d m)
theorem distO_ok {P Q : PlB} {d m : Int} (h : wyC P Q d m = 0) : distO P Q d m = (rootI (wyX P Q d m * wyX P Q d m + wyY P Q d m * wyY P Q d m), 0) := by rw [distO, h]; rfl
theorem distO_no {P Q : PlB} {d m : Int} (h : wyC P Q d m ≠ 0) : distO P Q d m = (0, wyC P Q d m) := by
  rw [distO, if_neg (by simpa using h)]
theorem sq_bdP (x c : Int) (h : -c ≤ x ∧ x ≤ c) : 0 ≤ x * x ∧ x * x ≤ c * c := by
  rcases Int.le_total 0 x with h0 | h0
  · exact ⟨Int.mul_nonneg h0 h0, Int.mul_le_mul h.2 h.2 h0 (by omega)⟩
  · have e : x * x = (-x) * (-x) := by rw [Int.neg_mul_neg]
    rw [e]
    exact ⟨Int.mul_nonneg (by omega) (by omega), Int.mul_le_mul (by omega) (by omega) (by omega) (by omega)⟩
theorem arc_in {y x : Int} (hx : -1000000000000 ≤ x ∧ x ≤ 1000000000000) (hy : -1000000000000 ≤ y ∧ y ≤ 1000000000000) (hz : ¬ (x = 0 ∧ y = 0)) : arcO y x = (arcI y x, 0) := by
  have h1 : inB x (-1000000000000) 1000000000000 = true := (inB_iff _ _ _).2 hx
  have h2 : inB y (-1000000000000) 1000000000000 = true := (inB_iff _ _ _).2 hy
  have h3 : (x == 0 && y == 0) = false := by simp; omega
  rw [arcO, h1, h2, h3]; rfl
/-- Elongation, PhaseOf -/
def elO (P Q : PlB) (d m : Int) : Int × Int := if wyC P Q d m == 0 then (betI (arcI (wyY P Q d m) (wyX P Q d m)) (angP Q d m + 180000), 0) else (0, wyC P Q d m)
theorem elO_ok {P Q : PlB} {d m : Int} (h : wyC P Q d m = 0) : elO P Q d m = (betI (arcI (wyY P Q d m) (wyX P Q d m)) (angP Q d m + 180000), 0) := by rw [elO, h]; rfl
theorem elO_no {P Q : PlB} {d m : Int} (h : wyC P Q d m ≠ 0) : elO P Q d m = (0, wyC P Q d m) := by
  rw [elO, if_neg (by simpa using h)]
def phI (P Q : PlB) (d m : Int) : Int := betI (angP P d m + 180000) (arcI (wyY Q P d m) (wyX Q P d m))
def phO (P Q : PlB) (d m : Int) : Int × Int := if wyC P Q d m == 0 then (rnd (1000 * (1000000 + cosI (phI P Q d m))) 2000000, 0) else (0, wyC P Q d m)
theorem phO_ok {P Q : PlB} {d m : Int} (h : wyC P Q d m = 0) : phO P Q d m = (rnd (1000 * (1000000 + cosI (phI P Q d m))) 2000000, 0) := by rw [phO, h]; rfl
theorem phO_no {P Q : PlB} {d m : Int} (h : wyC P Q d m ≠ 0) : phO P Q d m = (0, wyC P Q d m) := by
  rw [phO, if_neg (by simpa using h)]
theorem wyC_symm (P Q : PlB) (d m : Int) : wyC P Q d m = wyC Q P d m := by
  have h1 : wyV P Q d m = wyV Q P d m := by
    unfold wyV; cases vP P <;> cases vP Q <;> rfl
  have h2 : wyZ P Q d m = wyZ Q P d m := by
    rw [Bool.eq_iff_iff, wyZ_iff, wyZ_iff]; unfold wyX wyY; omega
  unfold wyC; rw [h1, h2]
theorem nrm_twice (a : Int) : nrm (nrm a) = nrm a := by unfold nrm; omega
theorem betI_nrm (a b : Int) : betI a (nrm b) = betI a b ∧ betI (nrm a) b = betI a b := by
  unfold betI difI; rw [nrm_twice, nrm_twice]; exact ⟨rfl, rfl⟩
end Go.Proofs.YtpnfhienffekoaaGreatDoor
