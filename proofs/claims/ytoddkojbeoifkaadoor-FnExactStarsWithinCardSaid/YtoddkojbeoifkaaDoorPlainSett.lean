/- Plain function on the hour at which a star sets. Nothing of the program is named here. -/
import Derived.Test.YtoddkojbeoifkaaDoorPlainVec
namespace Go.Proofs.YtoddkojbeoifkaaDoor
set_option linter.unusedVariables false
set_option linter.unusedSimpArgs false
/-- what SettingHour answers -/
def settO (n : List UInt8) (lo la d : Int) : Int × Int := if vSite n lo la then (if inB d (-90000) 90000 then (if dnP la d 0 || !dnP la d 180000 then (0, 6) else (bsI (dnP la d) 0 180000, 0)) else (0, 2)) else (0, 1)
theorem settO_site {n : List UInt8} {lo la d : Int} (h : vSite n lo la = false) : settO n lo la d = (0, 1) := by rw [settO, h]; rfl
theorem settO_range {n : List UInt8} {lo la d : Int} (h : vSite n lo la = true) (h2 : inB d (-90000) 90000 = false) : settO n lo la d = (0, 2) := by rw [settO, h, h2]; rfl
theorem settO_low {n : List UInt8} {lo la d : Int} (h : vSite n lo la = true) (h2 : inB d (-90000) 90000 = true) (h3 : dnP la d 0 = true) : settO n lo la d = (0, 6) := by rw [settO, h, h2, h3]; rfl
theorem settO_high {n : List UInt8} {lo la d : Int} (h : vSite n lo la = true) (h2 : inB d (-90000) 90000 = true) (h3 : dnP la d 0 = false) (h4 : dnP la d 180000 = false) : settO n lo la d = (0, 6) := by rw [settO, h, h2, h3, h4]; rfl
theorem settO_yes {n : List UInt8} {lo la d : Int} (h : vSite n lo la = true) (h2 : inB d (-90000) 90000 = true) (h3 : dnP la d 0 = false) (h4 : dnP la d 180000 = true) : settO n lo la d = (bsI (dnP la d) 0 180000, 0) := by rw [settO, h, h2, h3, h4]; rfl
theorem settO_bd (n : List UInt8) (lo la d : Int) : 0 ≤ (settO n lo la d).1 ∧ (settO n lo la d).1 ≤ 180000 := by
  have := bsI_bd (dnP la d) 0 180000 (by omega)
  unfold settO; repeat' split
  all_goals (simp; try omega)
theorem askI_zero {n : List UInt8} {lo la d h : Int} (h1 : vSite n lo la = true) (h2 : 0 ≤ h ∧ h ≤ 359999) (h3 : inB d (-90000) 90000 = true) : askI n lo la h 0 d = 0 := by
  have e1 : inB h 0 359999 = true := (inB_iff _ _ _).2 h2
  have e2 : inB 0 0 359999 = true := by decide
  simp [askI, h1, e1, e2, h3]
def setI (la d : Int) : Int := if dnP la d 0 || !dnP la d 180000 then 0 else bsI (dnP la d) 0 180000
def setB (la d : Int) : Bool := !(dnP la d 0 || !dnP la d 180000)
theorem set_no {la d : Int} (h : (dnP la d 0 || !dnP la d 180000) = true) : setI la d = 0 ∧ setB la d = false := by rw [setI, setB, h]; exact ⟨rfl, rfl⟩
theorem set_yes {la d : Int} (h : (dnP la d 0 || !dnP la d 180000) = false) : setI la d = bsI (dnP la d) 0 180000 ∧ setB la d = true := by rw [setI, setB, h]; exact ⟨rfl, rfl⟩
/-- what RisingOf and SettingOf answer -/
def riseO (n : List UInt8) (lo la r d : Int) (sg : Int) : Int × Int := if vSite n lo la then (if vDir r d then (if (settO n lo la d).2 == 0 then (nrm (r + sg * (settO n lo la d).1), 0) else (0, (settO n lo la d).2)) else (0, 2)) else (0, 1)
theorem riseO_site {n : List UInt8} {lo la r d sg : Int} (h : vSite n lo la = false) : riseO n lo la r d sg = (0, 1) := by rw [riseO, h]; rfl
theorem riseO_range {n : List UInt8} {lo la r d sg : Int} (h : vSite n lo la = true) (h2 : vDir r d = false) : riseO n lo la r d sg = (0, 2) := by rw [riseO, h, h2]; rfl
theorem riseO_no {n : List UInt8} {lo la r d sg : Int} (h : vSite n lo la = true) (h2 : vDir r d = true) (h3 : (settO n lo la d).2 = 6) : riseO n lo la r d sg = (0, 6) := by rw [riseO, h, h2, h3]; rfl
theorem riseO_yes {n : List UInt8} {lo la r d sg : Int} {h : Int} (h1 : vSite n lo la = true) (h2 : vDir r d = true) (h3 : settO n lo la d = (h, 0)) : riseO n lo la r d sg = (nrm (r + sg * h), 0) := by rw [riseO, h1, h2, h3]; rfl
theorem vDir_bd {r d : Int} (h : vDir r d = true) : 0 ≤ r ∧ r ≤ 359999 ∧ -90000 ≤ d ∧ d ≤ 90000 := by
  simp only [vDir, Bool.and_eq_true, inB_iff] at h; omega
theorem vDir_d {r d : Int} (h : vDir r d = true) : inB d (-90000) 90000 = true := by
  have := vDir_bd h; exact (inB_iff _ _ _).2 (by omega)
/-- the four ways of SettingHour -/
theorem sett_cases (la d : Int) : dnP la d 0 = true ∨ (dnP la d 0 = false ∧ dnP la d 180000 = false) ∨ (dnP la d 0 = false ∧ dnP la d 180000 = true) := by
  cases dnP la d 0 <;> cases dnP la d 180000 <;> simp
theorem settO_two {n : List UInt8} {lo la d : Int} (h : vSite n lo la = true) (h2 : inB d (-90000) 90000 = true) : (settO n lo la d = (0, 6) ∧ (dnP la d 0 || !dnP la d 180000) = true) ∨ (∃ k, settO n lo la d = (k, 0) ∧ 0 ≤ k ∧ k ≤ 180000 ∧ k = bsI (dnP la d) 0 180000 ∧ (dnP la d 0 || !dnP la d 180000) = false) := by
  cases hq : (dnP la d 0 || !dnP la d 180000) with
  | true => exact .inl ⟨by rw [settO, h, h2, hq]; rfl, rfl⟩
  | false =>
    have := bsI_bd (dnP la d) 0 180000 (by omega)
    exact .inr ⟨_, by rw [settO, h, h2, hq]; rfl, this.1, this.2, rfl, rfl⟩
end Go.Proofs.YtoddkojbeoifkaaDoor
