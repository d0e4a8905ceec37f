/- Plain laws: to the horizon and back; how high a star stands. Nothing of the program is named here. -/
import Derived.Test.YtpnfhienffekoaaDoorPlainBack
namespace Go.Proofs.YtpnfhienffekoaaDoor
set_option linter.unusedVariables false
set_option linter.unusedSimpArgs false
/-- a vector that is turned around the second axis keeps its length, nearly -/
theorem turn_norm {p q y : Int} (a : Int) (h : 999835000000 ≤ p * p + q * q + y * y ∧ p * p + q * q + y * y ≤ 1000165000000) : 999730000000 ≤ rotX p q a * rotX p q a + rotZ p q a * rotZ p q a + y * y ∧ rotX p q a * rotX p q a + rotZ p q a * rotZ p q a + y * y ≤ 1000270000000 := by
  have r1 := rnd_err (p * cosI a + q * sinI a)
  have r2 := rnd_err (q * cosI a - p * sinI a)
  change _ ≤ 1000000 * rotX p q a - _ ∧ 1000000 * rotX p q a - _ ≤ _ at r1
  change _ ≤ 1000000 * rotZ p q a - _ ∧ 1000000 * rotZ p q a - _ ≤ _ at r2
  have nb := norm_near a
  generalize rotX p q a = X at *
  generalize rotZ p q a = Z at *
  obtain ⟨A, hA⟩ : ∃ A, A = p * cosI a + q * sinI a := ⟨_, rfl⟩
  obtain ⟨B, hB⟩ : ∃ B, B = q * cosI a - p * sinI a := ⟨_, rfl⟩
  obtain ⟨n, hn⟩ : ∃ n, n = cosI a * cosI a + sinI a * sinI a := ⟨_, rfl⟩
  have e : A * A + B * B = (p * p + q * q) * n := by rw [hA, hB, hn]; grind
  rw [← hA] at r1
  rw [← hB] at r2
  rw [← hn] at nb
  clear hA hB hn
  have hp := sq_nn p
  have hq := sq_nn q
  have hy := sq_nn y
  have m1 := mul_in (A := 1000165000000) (B := 81000000) (a := p * p + q * q) (b := n - 1000000000000) (by omega) (by omega)
  have e1 : (p * p + q * q) * n = 1000000000000 * (p * p + q * q) + (p * p + q * q) * (n - 1000000000000) := by grind
  have hA := sq_nn A
  have hB := sq_nn B
  have bA := sq_bd2 (a := A) (b := 1001000000000) (by omega) (by omega)
  have bB := sq_bd2 (a := B) (b := 1001000000000) (by omega) (by omega)
  obtain ⟨d1, hd1⟩ : ∃ d, d = 1000000 * X - A := ⟨_, rfl⟩
  obtain ⟨d2, hd2⟩ : ∃ d, d = 1000000 * Z - B := ⟨_, rfl⟩
  rw [← hd1] at r1
  rw [← hd2] at r2
  have e2 : 1000000000000 * (X * X + Z * Z) = (A * A + B * B) + 2 * (A * d1) + 2 * (B * d2) + d1 * d1 + d2 * d2 := by
    have a1 : 1000000 * X = A + d1 := by omega
    have a2 : 1000000 * Z = B + d2 := by omega
    have a3 : 1000000000000 * (X * X + Z * Z) = (1000000 * X) * (1000000 * X) + (1000000 * Z) * (1000000 * Z) := by grind
    rw [a3, a1, a2]; grind
  have m2 := mul_in bA r1
  have m3 := mul_in bB r2
  have m4 := mul_in r1 r1
  have m5 := mul_in r2 r2
  omega
theorem hv_norm (la s r d : Int) : 999730000000 ≤ sqV (hvV la s r d) ∧ sqV (hvV la s r d) ≤ 1000270000000 := by
  have h := dir_norm (r - s) d
  have k := turn_norm (p := dirX (r - s) d) (q := dirZ d) (y := dirY (r - s) d) la (by unfold sqV dirV at h; dsimp only at h; omega)
  unfold sqV hvV hvX hvY hvZ
  dsimp only
  omega
theorem eq_norm (la a b : Int) : 999730000000 ≤ sqV (eqV la a b) ∧ sqV (eqV la a b) ≤ 1000270000000 := by
  have h := dir_norm a b
  have k := turn_norm (p := dirZ b) (q := dirX a b) (y := dirY a b) (-la) (by unfold sqV dirV at h; dsimp only at h; omega)
  unfold sqV eqV
  dsimp only
  omega
/-- turned to the horizon and back -/
theorem there_back (la s r d : Int) : ∃ v, v = eqV la (lonI (hvV la s r d)) (latI (hvV la s r d)) ∧ (v.x - dirX (r - s) d) * (v.x - dirX (r - s) d) + (v.y - dirY (r - s) d) * (v.y - dirY (r - s) d) + (v.z - dirZ d) * (v.z - dirZ d) ≤ 565 * 565 := by
  refine ⟨_, rfl, ?_⟩
  have hb := back_near (hvV_md la s r d) (hv_norm la s r d)
  have hn := dir_norm (r - s) d
  generalize lonI (hvV la s r d) = az at *
  generalize latI (hvV la s r d) = al at *
  unfold eqV hvV hvX hvY hvZ at *
  unfold sqV dirV at hn
  dsimp only at *
  generalize dirX (r - s) d = x0 at *
  generalize dirY (r - s) d = y0 at *
  generalize dirZ d = z0 at *
  generalize dirX az al = ex at *
  generalize dirY az al = ey at *
  generalize dirZ al = ez at *
  have r3 := rnd_err (x0 * cosI la + z0 * sinI la)
  have r4 := rnd_err (z0 * cosI la - x0 * sinI la)
  have r1 := rnd_err (ez * cosI (-la) + ex * sinI (-la))
  have r2 := rnd_err (ex * cosI (-la) - ez * sinI (-la))
  change _ ≤ 1000000 * rotX x0 z0 la - _ ∧ 1000000 * rotX x0 z0 la - _ ≤ _ at r3
  change _ ≤ 1000000 * rotZ x0 z0 la - _ ∧ 1000000 * rotZ x0 z0 la - _ ≤ _ at r4
  change _ ≤ 1000000 * rotX ez ex (-la) - _ ∧ 1000000 * rotX ez ex (-la) - _ ≤ _ at r1
  change _ ≤ 1000000 * rotZ ez ex (-la) - _ ∧ 1000000 * rotZ ez ex (-la) - _ ≤ _ at r2
  rw [cosI_neg, sinI_neg] at r1 r2
  generalize rotX x0 z0 la = hz at *
  generalize rotZ x0 z0 la = hx at *
  generalize rotX ez ex (-la) = qx at *
  generalize rotZ ez ex (-la) = qz at *
  have nb := norm_near la
  have bc := cosI_bd la
  have bs := sinI_bd la
  generalize cosI la = c at *
  generalize sinI la = s at *
  obtain ⟨n, hnn⟩ : ∃ n, n = c * c + s * s := ⟨_, rfl⟩
  rw [← hnn] at nb
  obtain ⟨t1, h1⟩ : ∃ t, t = 1000000 * qx - (ez * c + ex * -s) := ⟨_, rfl⟩
  obtain ⟨t2, h2⟩ : ∃ t, t = 1000000 * qz - (ex * c - ez * -s) := ⟨_, rfl⟩
  obtain ⟨t3, h3⟩ : ∃ t, t = 1000000 * hz - (x0 * c + z0 * s) := ⟨_, rfl⟩
  obtain ⟨t4, h4⟩ : ∃ t, t = 1000000 * hx - (z0 * c - x0 * s) := ⟨_, rfl⟩
  rw [← h1] at r1
  rw [← h2] at r2
  rw [← h3] at r3
  rw [← h4] at r4
  obtain ⟨dx, hdx⟩ : ∃ t, t = ex - hx := ⟨_, rfl⟩
  obtain ⟨dy, hdy⟩ : ∃ t, t = ey - y0 := ⟨_, rfl⟩
  obtain ⟨dz, hdz⟩ : ∃ t, t = ez - hz := ⟨_, rfl⟩
  rw [← hdx, ← hdy, ← hdz] at hb
  have E1 : 1000000000000 * (qx - x0) = x0 * (n - 1000000000000) + (t3 * c - t4 * s + 1000000 * t1) + 1000000 * (dz * c - dx * s) := by
    rw [h1, h3, h4, hdx, hdz, hnn]; grind
  have E2 : 1000000000000 * (qz - z0) = z0 * (n - 1000000000000) + (t4 * c + t3 * s + 1000000 * t2) + 1000000 * (dx * c + dz * s) := by
    rw [h2, h3, h4, hdx, hdz, hnn]; grind
  rw [← hdy]
  clear h1 h2 h3 h4 hdx hdz
  -- three parts
  have p1 := mul_in (A := 500000) (B := 1000000) (a := t3) (b := c) r3 bc
  have p2 := mul_in (A := 500000) (B := 1000000) (a := t4) (b := s) r4 bs
  have p3 := mul_in (A := 500000) (B := 1000000) (a := t4) (b := c) r4 bc
  have p4 := mul_in (A := 500000) (B := 1000000) (a := t3) (b := s) r3 bs
  have Q2 := sq_small3 (a := t3 * c - t4 * s + 1000000 * t1) (b := t4 * c + t3 * s + 1000000 * t2) (c := 0) (B := 1500000000000) (E := 2600000000000 * 2600000000000) (by omega) (by omega) (by omega) (by omega)
  have hy0 := sq_nn y0
  have Q1 : x0 * (n - 1000000000000) * (x0 * (n - 1000000000000)) + z0 * (n - 1000000000000) * (z0 * (n - 1000000000000)) + 0 * 0 ≤ 81100000000000 * 81100000000000 := by
    have e : x0 * (n - 1000000000000) * (x0 * (n - 1000000000000)) + z0 * (n - 1000000000000) * (z0 * (n - 1000000000000)) + 0 * 0 = (x0 * x0 + z0 * z0) * ((n - 1000000000000) * (n - 1000000000000)) := by grind
    have k1 := mul_in (A := 81000000) (B := 81000000) (a := n - 1000000000000) (b := n - 1000000000000) (by omega) (by omega)
    have k2 : (x0 * x0 + z0 * z0) * ((n - 1000000000000) * (n - 1000000000000)) ≤ 1000165000000 * (81000000 * 81000000) := Int.mul_le_mul (by omega) k1.2 (sq_nn _) (by omega)
    rw [e]; omega
  have Q3 : 1000000 * (dz * c - dx * s) * (1000000 * (dz * c - dx * s)) + 1000000 * (dx * c + dz * s) * (1000000 * (dx * c + dz * s)) + 1000000000000 * dy * (1000000000000 * dy) ≤ 480100000000000 * 480100000000000 := by
    have e : 1000000 * (dz * c - dx * s) * (1000000 * (dz * c - dx * s)) + 1000000 * (dx * c + dz * s) * (1000000 * (dx * c + dz * s)) + 1000000000000 * dy * (1000000000000 * dy) = 1000000000000 * ((dx * dx + dz * dz) * n + 1000000000000 * (dy * dy)) := by rw [hnn]; grind
    have k1 := sq_nn dx
    have k2 := sq_nn dz
    have k3 := sq_nn dy
    have k4 : (dx * dx + dz * dz) * n ≤ (dx * dx + dz * dz) * 1000081000000 := Int.mul_le_mul_of_nonneg_left nb.2 (by omega)
    rw [e]; omega
  have M1 := mink (by omega) (by omega) Q1 Q2
  have M2 := mink (by omega) (by omega) M1 Q3
  rw [← E1, ← E2, show (0 : Int) + 0 + 1000000000000 * dy = 1000000000000 * dy by omega] at M2
  have e : 1000000000000 * (qx - x0) * (1000000000000 * (qx - x0)) + 1000000000000 * (qz - z0) * (1000000000000 * (qz - z0)) + 1000000000000 * dy * (1000000000000 * dy) = 1000000000000000000000000 * ((qx - x0) * (qx - x0) + dy * dy + (qz - z0) * (qz - z0)) := by grind
  rw [e] at M2
  omega
/-- a direction that is turned around the third axis -/
theorem dir_turn (l s b : Int) : (-83000000000000 ≤ 1000000000000 * dirX (s + l) b - 1000000 * (dirX l b * cosI s - dirY l b * sinI s) ∧ 1000000000000 * dirX (s + l) b - 1000000 * (dirX l b * cosI s - dirY l b * sinI s) ≤ 83000000000000) ∧ (-83000000000000 ≤ 1000000000000 * dirY (s + l) b - 1000000 * (dirX l b * sinI s + dirY l b * cosI s) ∧ 1000000000000 * dirY (s + l) b - 1000000 * (dirX l b * sinI s + dirY l b * cosI s) ≤ 83000000000000) := by
  have hadd := addOk s l
  unfold AddOk at hadd
  have r1 := rnd_err (cosI b * cosI (s + l))
  have r2 := rnd_err (cosI b * sinI (s + l))
  have r3 := rnd_err (cosI b * cosI l)
  have r4 := rnd_err (cosI b * sinI l)
  change _ ≤ 1000000 * dirX (s + l) b - _ ∧ 1000000 * dirX (s + l) b - _ ≤ _ at r1
  change _ ≤ 1000000 * dirY (s + l) b - _ ∧ 1000000 * dirY (s + l) b - _ ≤ _ at r2
  change _ ≤ 1000000 * dirX l b - _ ∧ 1000000 * dirX l b - _ ≤ _ at r3
  change _ ≤ 1000000 * dirY l b - _ ∧ 1000000 * dirY l b - _ ≤ _ at r4
  have bb := cosI_bd b
  have bc := cosI_bd s
  have bs := sinI_bd s
  generalize dirX (s + l) b = X at *
  generalize dirY (s + l) b = Y at *
  generalize dirX l b = x at *
  generalize dirY l b = y at *
  generalize cosI (s + l) = Ct at *
  generalize sinI (s + l) = St at *
  generalize cosI s = Cs at *
  generalize sinI s = Ss at *
  generalize cosI l = Cl at *
  generalize sinI l = Sl at *
  generalize cosI b = C at *
  obtain ⟨⟨a1, a2⟩, a3, a4⟩ := hadd
  obtain ⟨t1, h1⟩ : ∃ t, t = 1000000 * X - C * Ct := ⟨_, rfl⟩
  obtain ⟨t2, h2⟩ : ∃ t, t = 1000000 * Y - C * St := ⟨_, rfl⟩
  obtain ⟨t3, h3⟩ : ∃ t, t = 1000000 * x - C * Cl := ⟨_, rfl⟩
  obtain ⟨t4, h4⟩ : ∃ t, t = 1000000 * y - C * Sl := ⟨_, rfl⟩
  obtain ⟨u1, k1⟩ : ∃ t, t = Cs * Cl - Ss * Sl - 1000000 * Ct := ⟨_, rfl⟩
  obtain ⟨u2, k2⟩ : ∃ t, t = Ss * Cl + Cs * Sl - 1000000 * St := ⟨_, rfl⟩
  rw [← k1] at a1 a2
  rw [← k2] at a3 a4
  rw [← h1] at r1
  rw [← h2] at r2
  rw [← h3] at r3
  rw [← h4] at r4
  have E1 : 1000000000000 * X - 1000000 * (x * Cs - y * Ss) = -(C * u1) + 1000000 * t1 - t3 * Cs + t4 * Ss := by rw [h1, h3, h4, k1]; grind
  have E2 : 1000000000000 * Y - 1000000 * (x * Ss + y * Cs) = -(C * u2) + 1000000 * t2 - t3 * Ss - t4 * Cs := by rw [h2, h3, h4, k2]; grind
  rw [E1, E2]
  have m1 := mul_in (A := 1000000) (B := 81000000) (a := C) (b := u1) bb ⟨a1, a2⟩
  have m2 := mul_in (A := 1000000) (B := 81000000) (a := C) (b := u2) bb ⟨a3, a4⟩
  have p1 := mul_in (A := 500000) (B := 1000000) (a := t3) (b := Cs) r3 bc
  have p2 := mul_in (A := 500000) (B := 1000000) (a := t4) (b := Ss) r4 bs
  have p3 := mul_in (A := 500000) (B := 1000000) (a := t3) (b := Ss) r3 bs
  have p4 := mul_in (A := 500000) (B := 1000000) (a := t4) (b := Cs) r4 bc
  omega
theorem dir_nrm (a b : Int) : dirV (nrm a) b = dirV a b := by unfold dirV dirX dirY; rw [cosI_nrm, sinI_nrm]
/-- to the horizon and back leads to the same direction, nearly -/
theorem hor_back (la s r d : Int) : sepI (dirV (nrm (s + lonI (eqV la (lonI (hvV la s r d)) (latI (hvV la s r d))))) (latI (eqV la (lonI (hvV la s r d)) (latI (hvV la s r d))))) (dirV r d) ≤ 100 := by
  obtain ⟨v, hv, h1⟩ := there_back la s r d
  rw [← hv]
  have hmd : v.md := by rw [hv]; exact eqV_md _ _ _
  have hnm : 999730000000 ≤ sqV v ∧ sqV v ≤ 1000270000000 := by rw [hv]; exact eq_norm _ _ _
  have h2 := back_near hmd hnm
  clear hv hnm hmd
  rw [dir_nrm]
  refine sep_near (dir_unit _ _) (dir_unit _ _) ?_
  generalize lonI v = L at *
  generalize latI v = B at *
  have T1 := dir_turn L s B
  have T2 := dir_turn (r - s) s d
  rw [show s + (r - s) = r by omega] at T2
  unfold dirV
  dsimp only
  have M := mink (a := dirX L B - v.x) (b := dirY L B - v.y) (c := dirZ B - v.z) (p := v.x - dirX (r - s) d) (q := v.y - dirY (r - s) d) (r := v.z - dirZ d) (A := 480) (B := 565) (by omega) (by omega) h2 h1
  rw [show dirX L B - v.x + (v.x - dirX (r - s) d) = dirX L B - dirX (r - s) d by omega, show dirY L B - v.y + (v.y - dirY (r - s) d) = dirY L B - dirY (r - s) d by omega, show dirZ B - v.z + (v.z - dirZ d) = dirZ B - dirZ d by omega] at M
  clear h1 h2
  have nb := norm_near s
  generalize dirX (s + L) B = X at *
  generalize dirY (s + L) B = Y at *
  generalize dirX r d = X2 at *
  generalize dirY r d = Y2 at *
  generalize dirZ B = Z at *
  generalize dirZ d = Z2 at *
  generalize dirX L B = x at *
  generalize dirY L B = y at *
  generalize dirX (r - s) d = x2 at *
  generalize dirY (r - s) d = y2 at *
  generalize cosI s = c at *
  generalize sinI s = w at *
  obtain ⟨a, ha⟩ : ∃ a, a = x - x2 := ⟨_, rfl⟩
  obtain ⟨b, hb⟩ : ∃ a, a = y - y2 := ⟨_, rfl⟩
  obtain ⟨e, he⟩ : ∃ a, a = Z - Z2 := ⟨_, rfl⟩
  rw [← ha, ← hb, ← he] at M
  rw [← he]
  obtain ⟨⟨t1, t2⟩, t3, t4⟩ := T1
  obtain ⟨⟨t5, t6⟩, t7, t8⟩ := T2
  obtain ⟨g1, hg1⟩ : ∃ g, g = 1000000000000 * (X - X2) - 1000000 * (a * c - b * w) := ⟨_, rfl⟩
  obtain ⟨g2, hg2⟩ : ∃ g, g = 1000000000000 * (Y - Y2) - 1000000 * (a * w + b * c) := ⟨_, rfl⟩
  have bg1 : -166000000000000 ≤ g1 ∧ g1 ≤ 166000000000000 := by
    have e1 : g1 = (1000000000000 * X - 1000000 * (x * c - y * w)) - (1000000000000 * X2 - 1000000 * (x2 * c - y2 * w)) := by rw [hg1, ha, hb]; grind
    omega
  have bg2 : -166000000000000 ≤ g2 ∧ g2 ≤ 166000000000000 := by
    have e1 : g2 = (1000000000000 * Y - 1000000 * (x * w + y * c)) - (1000000000000 * Y2 - 1000000 * (x2 * w + y2 * c)) := by rw [hg2, ha, hb]; grind
    omega
  have Q1 : 1000000 * (a * c - b * w) * (1000000 * (a * c - b * w)) + 1000000 * (a * w + b * c) * (1000000 * (a * w + b * c)) + 1000000000000 * e * (1000000000000 * e) ≤ 1046000000000000 * 1046000000000000 := by
    have e1 : 1000000 * (a * c - b * w) * (1000000 * (a * c - b * w)) + 1000000 * (a * w + b * c) * (1000000 * (a * w + b * c)) + 1000000000000 * e * (1000000000000 * e) = 1000000000000 * ((a * a + b * b) * (c * c + w * w) + 1000000000000 * (e * e)) := by grind
    have k1 := sq_nn a
    have k2 := sq_nn b
    have k3 := sq_nn e
    have k4 : (a * a + b * b) * (c * c + w * w) ≤ (a * a + b * b) * 1000081000000 := Int.mul_le_mul_of_nonneg_left nb.2 (by omega)
    rw [e1]; omega
  have Q2 := sq_small3 (a := g1) (b := g2) (c := 0) (B := 166000000000000) (E := 290000000000000 * 290000000000000) bg1 bg2 (by omega) (by omega)
  have M2 := mink (by omega) (by omega) Q1 Q2
  rw [show 1000000 * (a * c - b * w) + g1 = 1000000000000 * (X - X2) by omega, show 1000000 * (a * w + b * c) + g2 = 1000000000000 * (Y - Y2) by omega, Int.add_zero] at M2
  have e1 : 1000000000000 * (X - X2) * (1000000000000 * (X - X2)) + 1000000000000 * (Y - Y2) * (1000000000000 * (Y - Y2)) + 1000000000000 * e * (1000000000000 * e) = 1000000000000000000000000 * ((X - X2) * (X - X2) + (Y - Y2) * (Y - Y2) + e * e) := by grind
  rw [e1] at M2
  omega
end Go.Proofs.YtpnfhienffekoaaDoor
