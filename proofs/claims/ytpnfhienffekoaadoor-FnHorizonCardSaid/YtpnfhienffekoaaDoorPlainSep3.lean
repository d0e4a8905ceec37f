/- Plain laws: the angle between two directions fits them; three directions; near vectors are near directions. Nothing of the program is named here. -/
import Derived.Test.YtpnfhienffekoaaDoorPlainIm
namespace Go.Proofs.YtpnfhienffekoaaDoor
set_option linter.unusedVariables false
set_option linter.unusedSimpArgs false
theorem rnd_err (a : Int) : -500000 ≤ 1000000 * rnd a 1000000 - a ∧ 1000000 * rnd a 1000000 - a ≤ 500000 := by
  unfold rnd; split <;> omega
def dotE (a b : V3) : Int := a.x * b.x + a.y * b.y + a.z * b.z
def crE (a b : V3) : Int := (a.y * b.z - a.z * b.y) * (a.y * b.z - a.z * b.y) + (a.z * b.x - a.x * b.z) * (a.z * b.x - a.x * b.z) + (a.x * b.y - a.y * b.x) * (a.x * b.y - a.y * b.x)
theorem crE_nn (a b : V3) : 0 ≤ crE a b := by
  have h1 := sq_nn (a.y * b.z - a.z * b.y)
  have h2 := sq_nn (a.z * b.x - a.x * b.z)
  have h3 := sq_nn (a.x * b.y - a.y * b.x)
  unfold crE; omega
theorem lagr (a b : V3) : dotE a b * dotE a b + crE a b = sqV a * sqV b := by unfold dotE crE sqV; grind
theorem cs3 (a b c : V3) : (dotE a b * dotE b c - dotE a c * sqV b) * (dotE a b * dotE b c - dotE a c * sqV b) ≤ crE a b * crE b c := by
  obtain ⟨u1, hu1⟩ : ∃ u, u = a.y * b.z - a.z * b.y := ⟨_, rfl⟩
  obtain ⟨u2, hu2⟩ : ∃ u, u = a.z * b.x - a.x * b.z := ⟨_, rfl⟩
  obtain ⟨u3, hu3⟩ : ∃ u, u = a.x * b.y - a.y * b.x := ⟨_, rfl⟩
  obtain ⟨v1, hv1⟩ : ∃ u, u = b.y * c.z - b.z * c.y := ⟨_, rfl⟩
  obtain ⟨v2, hv2⟩ : ∃ u, u = b.z * c.x - b.x * c.z := ⟨_, rfl⟩
  obtain ⟨v3, hv3⟩ : ∃ u, u = b.x * c.y - b.y * c.x := ⟨_, rfl⟩
  have e : dotE a b * dotE b c - dotE a c * sqV b = u1 * v1 + u2 * v2 + u3 * v3 := by
    rw [hu1, hu2, hu3, hv1, hv2, hv3]; unfold dotE sqV; grind
  have e1 : crE a b = u1 * u1 + u2 * u2 + u3 * u3 := by rw [hu1, hu2, hu3]; rfl
  have e2 : crE b c = v1 * v1 + v2 * v2 + v3 * v3 := by rw [hv1, hv2, hv3]; rfl
  rw [e, e1, e2]
  clear e e1 e2 hu1 hu2 hu3 hv1 hv2 hv3
  have s1 := sq_nn (u1 * v2 - u2 * v1)
  have s2 := sq_nn (u2 * v3 - u3 * v2)
  have s3 := sq_nn (u1 * v3 - u3 * v1)
  have e : (u1 * u1 + u2 * u2 + u3 * u3) * (v1 * v1 + v2 * v2 + v3 * v3) = (u1 * v1 + u2 * v2 + u3 * v3) * (u1 * v1 + u2 * v2 + u3 * v3) + (u1 * v2 - u2 * v1) * (u1 * v2 - u2 * v1) + (u2 * v3 - u3 * v2) * (u2 * v3 - u3 * v2) + (u1 * v3 - u3 * v1) * (u1 * v3 - u3 * v1) := by grind
  omega
def unitV (v : V3) : Prop := 999000000000 ≤ sqV v ∧ sqV v ≤ 1001000000000
/-- the length of rounded numbers -/
theorem len_err {C1 C2 C3 c1 c2 c3 y Y E : Int} (hE : 0 ≤ E) (he : (1000000 * c1 - C1) * (1000000 * c1 - C1) + (1000000 * c2 - C2) * (1000000 * c2 - C2) + (1000000 * c3 - C3) * (1000000 * c3 - C3) ≤ E * E)
    (y0 : 0 ≤ y) (y1 : y * y ≤ c1 * c1 + c2 * c2 + c3 * c3) (y2 : c1 * c1 + c2 * c2 + c3 * c3 < (y + 1) * (y + 1))
    (Y0 : 0 ≤ Y) (Y1 : Y * Y ≤ C1 * C1 + C2 * C2 + C3 * C3) (Y2 : C1 * C1 + C2 * C2 + C3 * C3 < (Y + 1) * (Y + 1)) : -(E + 1000000) ≤ 1000000 * y - Y ∧ 1000000 * y - Y ≤ E + 1 := by
  obtain ⟨d1, h1⟩ : ∃ d, d = 1000000 * c1 - C1 := ⟨_, rfl⟩
  obtain ⟨d2, h2⟩ : ∃ d, d = 1000000 * c2 - C2 := ⟨_, rfl⟩
  obtain ⟨d3, h3⟩ : ∃ d, d = 1000000 * c3 - C3 := ⟨_, rfl⟩
  rw [← h1, ← h2, ← h3] at he
  have k1 := mink (a := C1) (b := C2) (c := C3) (A := Y + 1) (by omega) hE (by omega) he
  have k2 := mink (a := 1000000 * c1) (b := 1000000 * c2) (c := 1000000 * c3) (p := -d1) (q := -d2) (r := -d3) (A := 1000000 * (y + 1)) (B := E) (by omega) hE (by
    have e1 : 1000000 * c1 * (1000000 * c1) + 1000000 * c2 * (1000000 * c2) + 1000000 * c3 * (1000000 * c3) = 1000000000000 * (c1 * c1 + c2 * c2 + c3 * c3) := by grind
    have e2 : 1000000 * (y + 1) * (1000000 * (y + 1)) = 1000000000000 * ((y + 1) * (y + 1)) := by grind
    omega) (by rw [Int.neg_mul_neg, Int.neg_mul_neg, Int.neg_mul_neg]; exact he)
  rw [show 1000000 * c1 + -d1 = C1 by omega, show 1000000 * c2 + -d2 = C2 by omega, show 1000000 * c3 + -d3 = C3 by omega] at k2
  rw [show C1 + d1 = 1000000 * c1 by omega, show C2 + d2 = 1000000 * c2 by omega, show C3 + d3 = 1000000 * c3 by omega] at k1
  have m1 := sq_lt (a := Y) (b := 1000000 * (y + 1) + E) (by omega) (by omega)
  have m2 := sq_lt (a := 1000000 * y) (b := Y + 1 + E) (by omega) (by
    have e1 : 1000000 * c1 * (1000000 * c1) + 1000000 * c2 * (1000000 * c2) + 1000000 * c3 * (1000000 * c3) = 1000000000000 * (c1 * c1 + c2 * c2 + c3 * c3) := by grind
    have e2 : 1000000 * y * (1000000 * y) = 1000000000000 * (y * y) := by grind
    omega)
  omega
theorem sq_small3 {a b c B E : Int} (h1 : -B ≤ a ∧ a ≤ B) (h2 : -B ≤ b ∧ b ≤ B) (h3 : -B ≤ c ∧ c ≤ B) (h : 3 * (B * B) ≤ E) : a * a + b * b + c * c ≤ E := by
  have k1 := mul_in h1 h1
  have k2 := mul_in h2 h2
  have k3 := mul_in h3 h3
  omega
theorem zero_sq {v : V3} (h : zeroV v = true) : sqV v = 0 := by
  simp only [zeroV, Bool.and_eq_true, beq_iff_eq] at h
  unfold sqV; rw [h.1, h.2.1, h.2.2]; rfl
theorem unit_zero {v : V3} (h : unitV v) : zeroV v = false := by
  cases hz : zeroV v with
  | false => rfl
  | true => have := zero_sq hz; unfold unitV at h; omega
theorem arcI_up {y x : Int} (h : 0 ≤ y) : arcI y x ≤ 180000 := by
  have := arcB_bd (absI y) (absI x)
  unfold arcI
  split
  · omega
  · first | omega | (rw [if_pos h]; omega)
theorem cr_len {a b : V3} {Y : Int} (Y0 : 0 ≤ Y) (Y1 : Y * Y ≤ crE a b) (Y2 : crE a b < (Y + 1) * (Y + 1)) : -1900000 ≤ 1000000 * lenV (crV a b) - Y ∧ 1000000 * lenV (crV a b) - Y ≤ 1900000 := by
  have hq : 0 ≤ sqV (crV a b) := by
    have h1 := sq_nn (crV a b).x
    have h2 := sq_nn (crV a b).y
    have h3 := sq_nn (crV a b).z
    unfold sqV; omega
  have hr := rootI_spec (sqV (crV a b)) hq
  have e := len_err (C1 := a.y * b.z - a.z * b.y) (C2 := a.z * b.x - a.x * b.z) (C3 := a.x * b.y - a.y * b.x) (c1 := (crV a b).x) (c2 := (crV a b).y) (c3 := (crV a b).z) (y := lenV (crV a b)) (Y := Y) (E := 870000) (by omega)
    (sq_small3 (B := 500000) (rnd_err _) (rnd_err _) (rnd_err _) (by omega)) (rootI_nonneg _) hr.1 hr.2 Y0 Y1 Y2
  omega
/-- the angle between two directions fits them -/
theorem sep_ang {a b : V3} (ha : unitV a) (hb : unitV b) : sepOk a b = true ∧ ∃ Y, Ang (dotE a b) (crE a b) (sepI a b) 25000000000000 Y := by
  have hl := lagr a b
  have hS := crE_nn a b
  have hd := rnd_err (dotE a b)
  have hN : 998001000000000000000000 ≤ dotE a b * dotE a b + crE a b ∧ dotE a b * dotE a b + crE a b ≤ 1002001000000000000000000 := by
    rw [hl]
    have k1 : 999000000000 * 999000000000 ≤ sqV a * sqV b := Int.mul_le_mul ha.1 hb.1 (by omega) (by have := ha.1; omega)
    have k2 : sqV a * sqV b ≤ 1001000000000 * 1001000000000 := Int.mul_le_mul ha.2 hb.2 (by have := hb.1; omega) (by omega)
    omega
  have hok : sepOk a b = true := by
    unfold sepOk
    rw [unit_zero ha, unit_zero hb]
    cases h1 : lenV (crV a b) == 0 with
    | false => rfl
    | true =>
      cases h2 : dotV a b == 0 with
      | false => rfl
      | true =>
        exfalso
        have h1' : lenV (crV a b) = 0 := by simpa using h1
        have h2' : rnd (dotE a b) 1000000 = 0 := by simpa [dotV, dotE] using h2
        rw [h2'] at hd
        obtain ⟨Y, Y0, Y1, Y2⟩ := sqrt_ex (crE a b) hS
        have hY := cr_len Y0 Y1 Y2
        rw [h1'] at hY
        have k1 : (Y + 1) * (Y + 1) ≤ 1900001 * 1900001 := Int.mul_le_mul (by omega) (by omega) (by omega) (by omega)
        have k2 := mul_in (A := 500000) (B := 500000) (a := dotE a b) (b := dotE a b) (by omega) (by omega)
        omega
  refine ⟨hok, ?_⟩
  have := mkAng (D := dotE a b) (S := crE a b) (x := dotV a b) (y := lenV (crV a b)) (ex := 500000) (ey := 1900000) (K := 25000000000000) hS hN hd (fun Y h0 h1 h2 => cr_len h0 h1 h2) (arcI_fit _ _) (by omega) (by omega) (by omega)
  unfold sepI
  rw [if_pos hok]
  exact this
theorem sepI_half (a b : V3) : 0 ≤ sepI a b ∧ sepI a b ≤ 180000 := by
  refine ⟨(sepI_bd a b).1, ?_⟩
  unfold sepI
  split
  · exact arcI_up (rootI_nonneg _)
  · omega
/-- three directions -/
theorem sep_tri {a b c : V3} (ha : unitV a) (hb : unitV b) (hc : unitV c) : sepI a c < sepI a b + sepI b c + 20 := by
  obtain ⟨Y1, A1⟩ := (sep_ang ha hb).2
  obtain ⟨Y2, A2⟩ := (sep_ang hb hc).2
  obtain ⟨Y3, A3⟩ := (sep_ang ha hc).2
  have e : sinI 20 = 349 := by decide +kernel
  exact triangle ha hb hc (lagr a b) (lagr b c) (lagr a c) (cs3 a b c) A1 A2 A3 (by omega) (sepI_half a b).1 (sepI_half b c).1 (sepI_half a c).2 (by omega) (by rw [e]; omega)
/-- a direction is about as long as one -/
theorem dir_norm (l b : Int) : 999835000000 ≤ sqV (dirV l b) ∧ sqV (dirV l b) ≤ 1000165000000 := by
  have h1 := rnd_err (cosI b * cosI l)
  have h2 := rnd_err (cosI b * sinI l)
  have bb := cosI_bd b
  have bl := cosI_bd l
  have bs := sinI_bd l
  have nb := norm_near b
  have nl := norm_near l
  have k1 := unit_prod _ _ bb bl
  have k2 := unit_prod _ _ bb bs
  have e : 1000000000000 * sqV (dirV l b) = (1000000 * dirX l b) * (1000000 * dirX l b) + (1000000 * dirY l b) * (1000000 * dirY l b) + 1000000000000 * (sinI b * sinI b) := by
    unfold sqV dirV dirZ; grind
  obtain ⟨d1, hd1⟩ : ∃ d, d = 1000000 * rnd (cosI b * cosI l) 1000000 - cosI b * cosI l := ⟨_, rfl⟩
  obtain ⟨d2, hd2⟩ : ∃ d, d = 1000000 * rnd (cosI b * sinI l) 1000000 - cosI b * sinI l := ⟨_, rfl⟩
  rw [← hd1] at h1
  rw [← hd2] at h2
  have e1 : 1000000 * dirX l b = cosI b * cosI l + d1 := by unfold dirX; omega
  have e2 : 1000000 * dirY l b = cosI b * sinI l + d2 := by unfold dirY; omega
  rw [e1, e2] at e
  have m1 := mul_in (A := 1000000000000) (B := 500000) k1 h1
  have m2 := mul_in (A := 1000000000000) (B := 500000) k2 h2
  have m3 := mul_in h1 h1
  have m4 := mul_in h2 h2
  have e3 : (cosI b * cosI l + d1) * (cosI b * cosI l + d1) + (cosI b * sinI l + d2) * (cosI b * sinI l + d2) + 1000000000000 * (sinI b * sinI b) = cosI b * cosI b * (cosI l * cosI l + sinI l * sinI l - 1000000000000) + 1000000000000 * (cosI b * cosI b + sinI b * sinI b) + 2 * (cosI b * cosI l * d1) + 2 * (cosI b * sinI l * d2) + d1 * d1 + d2 * d2 := by grind
  rw [e3] at e
  have m5 := mul_in (A := 1000000000000) (B := 81000000) (a := cosI b * cosI b) (b := cosI l * cosI l + sinI l * sinI l - 1000000000000) (by have := mul_in (A := 1000000) (B := 1000000) bb bb; omega) (by omega)
  generalize cosI b * cosI b * (cosI l * cosI l + sinI l * sinI l - 1000000000000) = t1 at *
  generalize cosI b * cosI l * d1 = t2 at *
  generalize cosI b * sinI l * d2 = t3 at *
  generalize d1 * d1 = t4 at *
  generalize d2 * d2 = t5 at *
  omega
theorem dir_unit (l b : Int) : unitV (dirV l b) := by have := dir_norm l b; unfold unitV; omega
/-- near vectors are near directions -/
theorem sep_near {a b : V3} (ha : unitV a) (hb : unitV b) (h : (a.x - b.x) * (a.x - b.x) + (a.y - b.y) * (a.y - b.y) + (a.z - b.z) * (a.z - b.z) ≤ 1600 * 1600) : sepI a b ≤ 100 := by
  have hok := (sep_ang ha hb).1
  have hS := crE_nn a b
  obtain ⟨Y, Y0, Y1, Y2⟩ := sqrt_ex (crE a b) hS
  have hY := cr_len Y0 Y1 Y2
  have hd := rnd_err (dotE a b)
  obtain ⟨ha1, ha2⟩ := ha
  obtain ⟨hb1, hb2⟩ := hb
  have e1 : 2 * dotE a b = sqV a + sqV b - ((a.x - b.x) * (a.x - b.x) + (a.y - b.y) * (a.y - b.y) + (a.z - b.z) * (a.z - b.z)) := by unfold dotE sqV; grind
  have e2 : crE a b + (a.x * (a.x - b.x) + a.y * (a.y - b.y) + a.z * (a.z - b.z)) * (a.x * (a.x - b.x) + a.y * (a.y - b.y) + a.z * (a.z - b.z)) = sqV a * ((a.x - b.x) * (a.x - b.x) + (a.y - b.y) * (a.y - b.y) + (a.z - b.z) * (a.z - b.z)) := by unfold crE sqV; grind
  have hq : 0 ≤ (a.x - b.x) * (a.x - b.x) + (a.y - b.y) * (a.y - b.y) + (a.z - b.z) * (a.z - b.z) := by
    have h1 := sq_nn (a.x - b.x)
    have h2 := sq_nn (a.y - b.y)
    have h3 := sq_nn (a.z - b.z)
    omega
  have h4 := sq_nn (a.x * (a.x - b.x) + a.y * (a.y - b.y) + a.z * (a.z - b.z))
  have k1 : sqV a * ((a.x - b.x) * (a.x - b.x) + (a.y - b.y) * (a.y - b.y) + (a.z - b.z) * (a.z - b.z)) ≤ 1001000000000 * (1600 * 1600) := Int.mul_le_mul ha2 h hq (by omega)
  have k2 := sq_lt (a := Y) (b := 1601000000) (by omega) (by omega)
  have hx : 998000 ≤ dotV a b := by
    have : dotV a b = rnd (dotE a b) 1000000 := rfl
    omega
  have hy : lenV (crV a b) ≤ 1603 := by omega
  have hy0 : 0 ≤ lenV (crV a b) := rootI_nonneg _
  unfold sepI
  rw [if_pos hok]
  generalize lenV (crV a b) = y at *
  generalize dotV a b = x at *
  unfold arcI
  rw [if_pos ⟨by omega, hy0⟩, show absI y = y by unfold absI; split <;> omega, show absI x = x by unfold absI; split <;> omega, arcB, if_neg (by omega), show minI x y = y by unfold minI; split <;> omega, show maxI x y = x by unfold maxI; split <;> omega]
  have hb := arcL_bd y x
  have ha := bsI_at (arcP y x) 0 45000 (by omega)
  change (arcL y x = 45000 ∨ _) ∧ (arcL y x = 0 ∨ arcP y x (arcL y x - 1) = false) at ha
  generalize arcL y x = m at *
  rcases Int.lt_or_le 100 m with hlt | hle
  · exfalso
    rcases ha.2 with h1 | h1
    · omega
    · simp only [arcP, decide_eq_false_iff_not, Int.not_le] at h1
      have s1 := sinQ_mono (a := 100) (c := m - 1) (by omega) (by omega) (by omega)
      rw [← sinI_lo (by omega) (by omega), ← sinI_lo (by omega) (by omega), show sinI 100 = 1745 by decide +kernel] at s1
      have c1 := cosI_bd (m - 1)
      have k3 : 1745 * 998000 ≤ sinI (m - 1) * x := Int.mul_le_mul s1 hx (by omega) (by omega)
      have k4 : cosI (m - 1) * y ≤ 1000000 * 1603 := by
        have a1 : cosI (m - 1) * y ≤ 1000000 * y := Int.mul_le_mul_of_nonneg_right c1.2 hy0
        omega
      omega
  · exact hle
end Go.Proofs.YtpnfhienffekoaaDoor
