/- Plain laws: what the functions of the horizon answer together. Nothing of the program is named here. -/
import Derived.Test.YtpnfhienffekoaaDoorPlainHigh
namespace Go.Proofs.YtpnfhienffekoaaDoor
set_option linter.unusedVariables false
set_option linter.unusedSimpArgs false
theorem norm_zero {v : V3} (h : 999730000000 ≤ sqV v) : zeroV v = false := by
  cases hz : zeroV v with
  | false => rfl
  | true => have := zero_sq hz; omega
theorem hv_zero (la s r d : Int) : zeroV (hvV la s r d) = false := norm_zero (hv_norm la s r d).1
theorem eq_zero (la a b : Int) : zeroV (eqV la a b) = false := norm_zero (eq_norm la a b).1
theorem askI_val {n : List UInt8} {lo la a b d : Int} (h : askI n lo la a b d = 0) : vSite n lo la = true ∧ (0 ≤ a ∧ a ≤ 359999) ∧ (0 ≤ b ∧ b ≤ 359999) ∧ (-90000 ≤ d ∧ d ≤ 90000) := by
  unfold askI at h
  split at h
  · next h1 =>
    split at h
    · next h2 =>
      simp only [Bool.and_eq_true, inB_iff] at h2
      exact ⟨h1, h2.1.1, h2.1.2, h2.2⟩
    · omega
  · omega
theorem askI_mk {n : List UInt8} {lo la a b d : Int} (h1 : vSite n lo la = true) (h2 : 0 ≤ a ∧ a ≤ 359999) (h3 : 0 ≤ b ∧ b ≤ 359999) (h4 : -90000 ≤ d ∧ d ≤ 90000) : askI n lo la a b d = 0 := by
  unfold askI
  rw [if_pos h1, if_pos]
  simp [inB]; omega
theorem hz_no {n : List UInt8} {lo la s r d : Int} (h : (horO n lo la s r d).2.2 ≠ 0) : (horO n lo la s r d).1 = 0 ∧ (horO n lo la s r d).2.1 = 0 := by
  by_cases hk : askI n lo la s r d = 0
  · rw [horO_ok hk, anglesO_yes (hv_zero _ _ _ _)] at h; exact absurd rfl h
  · rw [horO_no hk]; exact ⟨rfl, rfl⟩
/-- to the horizon and back -/
theorem hz_yes {n : List UInt8} {lo la s r d : Int} (h : (horO n lo la s r d).2.2 = 0) : ∃ az al hi lw a2 d2 sp, horO n lo la s r d = (az, al, 0) ∧ culmO n lo la d = (hi, 0) ∧ lowO n lo la d = (lw, 0) ∧ al ≤ hi + 60 ∧ lw - 60 ≤ al ∧ (-1000000 ≤ hi ∧ hi ≤ 1000000) ∧ (-1000000 ≤ lw ∧ lw ≤ 1000000) ∧ (0 ≤ az ∧ az < 360000) ∧ equO n lo la s az al = (a2, d2, 0) ∧ (0 ≤ a2 ∧ a2 < 360000) ∧ (-90000 ≤ d2 ∧ d2 ≤ 90000) ∧ sepO (dirV a2 d2) (dirV r d) = (sp, 0) ∧ sp ≤ 100 ∧ vSite n lo la = true ∧ (0 ≤ r ∧ r ≤ 359999) ∧ (-90000 ≤ d ∧ d ≤ 90000) := by
  by_cases hk : askI n lo la s r d = 0
  · obtain ⟨v1, hs, hr, hd⟩ := askI_val hk
    have hla : -90000 ≤ la ∧ la ≤ 90000 := by have := vSite_bd v1; omega
    have hin : inB d (-90000) 90000 = true := (inB_iff _ _ _).2 hd
    have hb := alt_bound (s := s) (r := r) hla hd
    have hbk := hor_back la s r d
    have bl := lonI_bd (hvV_md la s r d)
    have ba := lat_bd (hvV la s r d)
    rw [horO_ok hk, anglesO_yes (hv_zero _ _ _ _)]
    have hk2 : askI n lo la s (lonI (hvV la s r d)) (latI (hvV la s r d)) = 0 := askI_mk v1 hs (by omega) ba
    refine ⟨_, _, 90000 - absI (la - d), absI (la + d) - 90000, _, _, _, rfl, ?_, ?_, hb.1, hb.2, ?_, ?_, bl, equO_yes hk2 (eq_zero _ _ _), ?_, ?_, ?_, hbk, v1, hr, hd⟩
    · rw [culmO, okO_yes v1, okO_yes hin]
    · rw [lowO, okO_yes v1, okO_yes hin]
    · have := absI_bd (la - d); omega
    · have := absI_bd (la + d); omega
    · exact nrm_bd _
    · exact lat_bd _
    · have hok := (sep_ang (dir_unit (nrm (s + lonI (eqV la (lonI (hvV la s r d)) (latI (hvV la s r d))))) (latI (eqV la (lonI (hvV la s r d)) (latI (hvV la s r d))))) (dir_unit r d)).1
      rw [sepO, sepI, if_pos hok, if_pos hok]
  · rw [horO_no hk] at h; exact absurd h hk
end Go.Proofs.YtpnfhienffekoaaDoor
