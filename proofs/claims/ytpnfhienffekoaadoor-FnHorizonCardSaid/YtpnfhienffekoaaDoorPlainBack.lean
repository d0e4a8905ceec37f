/- Plain laws: the angles of a vector lead back to it, nearly; to the horizon and back. Nothing of the program is named here. -/
import Derived.Test.YtpnfhienffekoaaDoorPlainSep3
namespace Go.Proofs.YtpnfhienffekoaaDoor
set_option linter.unusedVariables false
set_option linter.unusedSimpArgs false
theorem lat_sc (v : V3) : cosI (latI v) = cosI (latR v) ∧ sinI (latI v) = sinI (latR v) := by
  unfold latI
  split
  · have h1 := cosI_turn (latR v) (-1)
    have h2 := sinI_turn (latR v) (-1)
    rw [show latR v + 360000 * -1 = latR v - 360000 by omega] at h1 h2
    exact ⟨h1, h2⟩
  · exact ⟨rfl, rfl⟩
theorem lat_bd (v : V3) : -90000 ≤ latI v ∧ latI v ≤ 90000 := by
  have hf : 0 ≤ flatI v := rootI_nonneg _
  have hb := arcB_bd (absI v.z) (absI (flatI v))
  have e : latR v = arcB (absI v.z) (absI (flatI v)) ∨ latR v = nrm (-arcB (absI v.z) (absI (flatI v))) := by
    unfold latR arcI
    by_cases hz : 0 ≤ v.z
    · rw [if_pos ⟨hf, hz⟩]; exact .inl rfl
    · rw [if_neg (by omega), if_neg hz, if_neg (by omega)]; exact .inr rfl
  unfold latI
  generalize arcB (absI v.z) (absI (flatI v)) = b at *
  rcases e with e | e
  · rw [e]; split <;> omega
  · rw [e]; unfold nrm; split <;> omega
theorem lon_fit {v : V3} (h : v.md) : Fit v.y v.x (lonI v) := by
  by_cases hz : v.x = 0 ∧ v.y = 0
  · rw [lon_none hz, hz.1, hz.2]; unfold Fit; omega
  · rw [lon_arc h hz]; exact arcI_fit _ _
theorem lat_fit (v : V3) : Fit v.z (flatI v) (latI v) := by
  have h := arcI_fit v.z (flatI v)
  unfold Fit at *
  rw [(lat_sc v).1, (lat_sc v).2]
  exact h
theorem sq_ge {a b : Int} (h0 : 0 ≤ a) (h : b * b ≤ a * a) : b ≤ a := sq_lt h0 h
/-- the direction of the angles of a vector is nearly the vector -/
theorem back_near {v : V3} (h : v.md) (hn : 999730000000 ≤ sqV v ∧ sqV v ≤ 1000270000000) : (dirX (lonI v) (latI v) - v.x) * (dirX (lonI v) (latI v) - v.x) + (dirY (lonI v) (latI v) - v.y) * (dirY (lonI v) (latI v) - v.y) + (dirZ (latI v) - v.z) * (dirZ (latI v) - v.z) ≤ 480 * 480 := by
  have f1 := lat_fit v
  have f2 := lon_fit h
  have bF := flatI_bd h
  have hG0 : 0 ≤ v.x * v.x + v.y * v.y := by have := sq_nn v.x; have := sq_nn v.y; omega
  have hr := rootI_spec (v.x * v.x + v.y * v.y) hG0
  change flatI v * flatI v ≤ _ ∧ _ < (flatI v + 1) * (flatI v + 1) at hr
  have r1 := rnd_err (cosI (latI v) * cosI (lonI v))
  have r2 := rnd_err (cosI (latI v) * sinI (lonI v))
  change _ ≤ 1000000 * dirX (lonI v) (latI v) - _ ∧ 1000000 * dirX (lonI v) (latI v) - _ ≤ _ at r1
  change _ ≤ 1000000 * dirY (lonI v) (latI v) - _ ∧ 1000000 * dirY (lonI v) (latI v) - _ ≤ _ at r2
  have nb := norm_near (latI v)
  have nl := norm_near (lonI v)
  have cb := cosI_bd (latI v)
  have sb := sinI_bd (latI v)
  have cl := cosI_bd (lonI v)
  have sl := sinI_bd (lonI v)
  have i1 := norm_id (flatI v) v.z (cosI (latI v)) (sinI (latI v))
  have i2 := norm_id v.x v.y (cosI (lonI v)) (sinI (lonI v))
  unfold sqV at hn
  unfold dirZ
  unfold Fit at f1 f2
  generalize dirX (lonI v) (latI v) = ex at *
  generalize dirY (lonI v) (latI v) = ey at *
  generalize cosI (latI v) = C at *
  generalize sinI (latI v) = S at *
  generalize cosI (lonI v) = c at *
  generalize sinI (lonI v) = s at *
  generalize flatI v = F at *
  obtain ⟨X, Y, Z⟩ := v
  dsimp only at *
  clear h
  have e1 : (F + 1) * (F + 1) = F * F + 2 * F + 1 := by grind
  have hZ := sq_nn Z
  have bF2 : F ≤ 1001000 := by have := sq_bd2 (a := F) (b := 1001000) (by omega) (by omega); omega
  -- how high
  obtain ⟨n, hnn⟩ : ∃ n, n = C * C + S * S := ⟨_, rfl⟩
  obtain ⟨m, hm⟩ : ∃ n, n = c * c + s * s := ⟨_, rfl⟩
  obtain ⟨re2, hre2⟩ : ∃ n, n = F * C + Z * S := ⟨_, rfl⟩
  obtain ⟨im2, him2⟩ : ∃ n, n = Z * C - F * S := ⟨_, rfl⟩
  obtain ⟨re1, hre1⟩ : ∃ n, n = X * c + Y * s := ⟨_, rfl⟩
  obtain ⟨im1, him1⟩ : ∃ n, n = Y * c - X * s := ⟨_, rfl⟩
  rw [← hnn] at nb i1
  rw [← hm] at nl i2
  rw [← hre2] at f1 i1
  rw [← him2] at f1 i1
  rw [← hre1] at f2 i2
  rw [← him1] at f2 i2
  have b2 := sq_bd2 (a := im2) (b := 22300000) (by omega) (by omega)
  have u1 : (F * F + Z * Z) * n ≤ 1000270000000 * 1000081000000 := Int.mul_le_mul (by omega) nb.2 (by omega) (by omega)
  have u2 : 999727000000 * 999919000000 ≤ (F * F + Z * Z) * n := Int.mul_le_mul (by omega) nb.1 (by omega) (by omega)
  have u3 := sq_nn im2
  have a1 := sq_lt (a := re2) (b := 1000180000000) (by omega) (by omega)
  have a2 := sq_ge (a := re2) (b := 999820000000) f1.2 (by omega)
  have v1 : n * (C - F) = (n - re2) * C + im2 * S := by rw [hnn, hre2, him2]; grind
  have v2 : n * (S - Z) = (n - re2) * S - im2 * C := by rw [hnn, hre2, him2]; grind
  have w1 : (n * (C - F)) * (n * (C - F)) + (n * (S - Z)) * (n * (S - Z)) = ((n - re2) * (n - re2) + im2 * im2) * n := by
    rw [v1, v2, hnn]; grind
  have w2 := mul_in (A := 261000000) (B := 261000000) (a := n - re2) (b := n - re2) (by omega) (by omega)
  have w3 := mul_in (A := 22300000) (B := 22300000) b2 b2
  have hQ : (C - F) * (C - F) + (S - Z) * (S - Z) ≤ 262 * 262 := by
    have e2 : (n * (C - F)) * (n * (C - F)) + (n * (S - Z)) * (n * (S - Z)) = n * (n * ((C - F) * (C - F) + (S - Z) * (S - Z))) := by grind
    have e3 : ((n - re2) * (n - re2) + im2 * im2) * n = n * ((n - re2) * (n - re2) + im2 * im2) := Int.mul_comm _ _
    rw [e2, e3] at w1
    have e4 := Int.eq_of_mul_eq_mul_left (show n ≠ 0 by omega) w1
    rcases Int.lt_or_le (262 * 262) ((C - F) * (C - F) + (S - Z) * (S - Z)) with hlt | hle
    · exfalso
      have : 999919000000 * 68645 ≤ n * ((C - F) * (C - F) + (S - Z) * (S - Z)) := Int.mul_le_mul nb.1 (by omega) (by omega) (by omega)
      omega
    · exact hle
  have hCF := sq_bd2 (a := C - F) (b := 262) (by omega) (by have := sq_nn (S - Z); omega)
  -- how far around
  have b1 : im1 * im1 ≤ 22300000 * 22300000 := by
    have : (F + 1) * (F + 1) ≤ 1001001 * 1001001 := Int.mul_le_mul (by omega) (by omega) (by omega) (by omega)
    omega
  have t1 : re1 ≤ 1000041 * (F + 1) := by
    refine sq_lt (by omega) ?_
    have k1 : (X * X + Y * Y) * m ≤ ((F + 1) * (F + 1)) * 1000081000000 := Int.mul_le_mul (by omega) nl.2 (by omega) (sq_nn _)
    have k2 := sq_nn im1
    have k3 : 1000041 * (F + 1) * (1000041 * (F + 1)) = 1000082001681 * ((F + 1) * (F + 1)) := by grind
    have k4 := sq_nn (F + 1)
    omega
  have t2 : 999950 * F ≤ re1 := by
    refine sq_lt f2.2 ?_
    have k1 : (F * F) * 999919000000 ≤ (X * X + Y * Y) * m := Int.mul_le_mul hr.1 nl.1 (by omega) hG0
    have k3 : 999950 * F * (999950 * F) = 999900002500 * (F * F) := by grind
    have k4 := sq_nn F
    by_cases hF0 : F = 0
    · subst hF0
      have := sq_nn re1
      omega
    · have k5 : 1 * F ≤ F * F := Int.mul_le_mul_of_nonneg_right (by omega) (by omega)
      omega
  have p1 := mul_in (A := 262) (B := 1000081000000) (a := C - F) (b := m) hCF (by omega)
  have p2 := mul_in (A := 1001000) (B := 81000000) (a := F) (b := m - 1000000000000) (by omega) (by omega)
  obtain ⟨g, hg⟩ : ∃ g, g = C * m - 1000000 * re1 := ⟨_, rfl⟩
  have hgb : -397000000000000 ≤ g ∧ g ≤ 397000000000000 := by
    have e2 : g = (C - F) * m + F * (m - 1000000000000) + 1000000 * (1000000 * F - re1) := by rw [hg]; grind
    rw [e2]
    omega
  have v3 : m * (C * c - 1000000 * X) = g * c + 1000000 * im1 * s := by rw [hg, hm, hre1, him1]; grind
  have v4 : m * (C * s - 1000000 * Y) = g * s - 1000000 * im1 * c := by rw [hg, hm, hre1, him1]; grind
  have w4 : (m * (C * c - 1000000 * X)) * (m * (C * c - 1000000 * X)) + (m * (C * s - 1000000 * Y)) * (m * (C * s - 1000000 * Y)) = (g * g + 1000000000000 * (im1 * im1)) * m := by
    rw [v3, v4, hm]; grind
  have w5 := mul_in hgb hgb
  have hR : (C * c - 1000000 * X) * (C * c - 1000000 * X) + (C * s - 1000000 * Y) * (C * s - 1000000 * Y) ≤ 398000000 * 398000000 := by
    have e2 : (m * (C * c - 1000000 * X)) * (m * (C * c - 1000000 * X)) + (m * (C * s - 1000000 * Y)) * (m * (C * s - 1000000 * Y)) = m * (m * ((C * c - 1000000 * X) * (C * c - 1000000 * X) + (C * s - 1000000 * Y) * (C * s - 1000000 * Y))) := by grind
    have e3 : (g * g + 1000000000000 * (im1 * im1)) * m = m * (g * g + 1000000000000 * (im1 * im1)) := Int.mul_comm _ _
    rw [e2, e3] at w4
    have e4 := Int.eq_of_mul_eq_mul_left (show m ≠ 0 by omega) w4
    generalize (C * c - 1000000 * X) * (C * c - 1000000 * X) + (C * s - 1000000 * Y) * (C * s - 1000000 * Y) = T at *
    rcases Int.lt_or_le (398000000 * 398000000) T with hlt | hle
    · exfalso
      have : 999919000000 * (398000000 * 398000000) ≤ m * T := Int.mul_le_mul nl.1 (by omega) (by omega) (by omega)
      omega
    · exact hle
  -- rounded
  have hE := mink (a := C * c - 1000000 * X) (b := C * s - 1000000 * Y) (c := 0) (p := 1000000 * ex - C * c) (q := 1000000 * ey - C * s) (r := 0) (A := 398000000) (B := 870000) (by omega) (by omega) (by omega)
    (sq_small3 (B := 500000) r1 r2 (by omega) (by omega))
  have e5 : C * c - 1000000 * X + (1000000 * ex - C * c) = 1000000 * (ex - X) := by omega
  have e6 : C * s - 1000000 * Y + (1000000 * ey - C * s) = 1000000 * (ey - Y) := by omega
  rw [e5, e6] at hE
  have e7 : 1000000 * (ex - X) * (1000000 * (ex - X)) + 1000000 * (ey - Y) * (1000000 * (ey - Y)) + (0 + 0) * (0 + 0) = 1000000000000 * ((ex - X) * (ex - X) + (ey - Y) * (ey - Y)) := by grind
  rw [e7] at hE
  have := sq_nn (C - F)
  omega
end Go.Proofs.YtpnfhienffekoaaDoor
