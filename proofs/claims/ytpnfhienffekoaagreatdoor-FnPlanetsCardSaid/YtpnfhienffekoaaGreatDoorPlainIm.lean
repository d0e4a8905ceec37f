/- Plain laws: how well an arc fits its direction; the angle between two directions, and three of them. Nothing of the program is named here. -/
import Derived.Test.YtpnfhienffekoaaGreatDoorPlainTri
import Derived.Test.YtpnfhienffekoaaGreatDoorGrpPure
namespace Go.Proofs.YtpnfhienffekoaaGreatDoor
set_option linter.unusedVariables false
set_option linter.unusedSimpArgs false
theorem rnd_step {a d b m : Int} (hb : 0 < b) (h0 : 0 ≤ a) (hd : 0 ≤ d) (hm : d ≤ b * m) : rnd (a + d) b ≤ rnd a b + m := by
  unfold rnd
  rw [if_pos (by omega), if_pos h0]
  have e : (2 * a + b) / (2 * b) + m = (2 * a + b + m * (2 * b)) / (2 * b) := by rw [Int.add_mul_ediv_right _ _ (by omega)]
  rw [e]
  refine Int.ediv_le_ediv (by omega) ?_
  have : m * (2 * b) = 2 * (b * m) := by grind
  omega
theorem sinQ_next {a m : Int} (h0 : 0 ≤ a) (h1 : a < 90000) (hm : ∀ k : Nat, k < 90 → 1000 * (k : Int) ≤ a → a < 1000 * ((k : Int) + 1) → sinAt (k + 1) - sinAt k ≤ 1000 * m) : sinQ (a + 1) ≤ sinQ a + m := by
  obtain ⟨k, hk⟩ : ∃ k : Nat, a / 1000 = k := ⟨(a / 1000).toNat, by omega⟩
  have hs := sinAt_step k (by omega)
  have hd := hm k (by omega) (by omega) (by omega)
  have e1 : sinQ a = sinAt k + rnd ((sinAt (k + 1) - sinAt k) * (a % 1000)) 1000 := by
    unfold sinQ; rw [show (a / 1000).toNat = k by omega]
  have e2 : sinQ (a + 1) = sinAt k + rnd ((sinAt (k + 1) - sinAt k) * (a % 1000 + 1)) 1000 := by
    by_cases h : a % 1000 = 999
    · rw [show a + 1 = 1000 * ((k + 1 : Nat) : Int) by omega, sinQ_zero, h]
      have := rnd_between ((sinAt (k + 1) - sinAt k) * (999 + 1)) 1000 (sinAt (k + 1) - sinAt k) (sinAt (k + 1) - sinAt k) (by omega) (by omega) (by omega)
      omega
    · unfold sinQ; rw [show ((a + 1) / 1000).toNat = k by omega, show (a + 1) % 1000 = a % 1000 + 1 by omega]
  rw [e1, e2]
  have h2 := rnd_step (a := (sinAt (k + 1) - sinAt k) * (a % 1000)) (d := sinAt (k + 1) - sinAt k) (b := 1000) (m := m) (by omega) (Int.mul_nonneg (by omega) (by omega)) (by omega) hd
  have e3 : (sinAt (k + 1) - sinAt k) * (a % 1000 + 1) = (sinAt (k + 1) - sinAt k) * (a % 1000) + (sinAt (k + 1) - sinAt k) := by grind
  rw [e3]
  omega
theorem slope_hi : (List.range 90).all (fun k => decide (k < 45 ∨ sinAt (k + 1) - sinAt k ≤ 13000)) = true := by decide +kernel
theorem sinQ_next18 {a : Int} (h0 : 0 ≤ a) (h1 : a < 90000) : sinQ (a + 1) ≤ sinQ a + 18 := sinQ_next h0 h1 fun k hk _ _ => by have := sinAt_step k hk; omega
theorem sinQ_next13 {a : Int} (h0 : 45000 ≤ a) (h1 : a < 90000) : sinQ (a + 1) ≤ sinQ a + 13 := sinQ_next (by omega) h1 fun k hk a1 a2 => by
  have := of_decide_eq_true (List.all_eq_true.1 slope_hi k (List.mem_range.2 hk))
  omega
theorem sinI_lo {a : Int} (h0 : 0 ≤ a) (h1 : a ≤ 90000) : sinI a = sinQ a := by
  unfold sinI; rw [nrm_of (by omega) (by omega), sinN_lo (by omega), sinH_lo h1]
theorem cos_comp (m : Int) : cosI (90000 - m) = sinI m := by
  rw [cosI_sin, show 90000 - m + 90000 = -m + 180000 by omega, sinI_half, sinI_neg]; omega
theorem sin_comp (m : Int) : sinI (90000 - m) = cosI m := by
  rw [← cosI_neg m, cosI_sin (-m)]; congr 1; omega
theorem cos_supp (m : Int) : cosI (180000 - m) = -(cosI m) := by
  rw [cosI_sin, show 180000 - m + 90000 = (90000 - m) + 180000 by omega, sinI_half, sin_comp]
theorem sin_supp (m : Int) : sinI (180000 - m) = sinI m := by
  rw [show 180000 - m = -m + 180000 by omega, sinI_half, sinI_neg]; omega
theorem cos_half (m : Int) : cosI (180000 + m) = -(cosI m) := by
  rw [cosI_sin, cosI_sin, show 180000 + m + 90000 = m + 90000 + 180000 by omega, sinI_half]
theorem sin_half' (m : Int) : sinI (180000 + m) = -(sinI m) := by
  rw [show 180000 + m = m + 180000 by omega, sinI_half]
/-- the angle of the first eighth fits its direction -/
theorem arcL_fit {u v : Int} (h0 : 0 ≤ u) (h : u ≤ v) : 0 ≤ v * sinI (arcL u v) - u * cosI (arcL u v) ∧ v * sinI (arcL u v) - u * cosI (arcL u v) ≤ 18 * v + 13 * u := by
  have hb := arcL_bd u v
  have ha := bsI_at (arcP u v) 0 45000 (by omega)
  change (arcL u v = 45000 ∨ _) ∧ (arcL u v = 0 ∨ arcP u v (arcL u v - 1) = false) at ha
  have e1 : arcP u v (arcL u v) = true := by
    rcases ha.1 with h1 | h1
    · rw [h1]
      have e1 : cosI 45000 = 707107 := by decide +kernel
      have e2 : sinI 45000 = 707107 := by decide +kernel
      simp only [arcP, e1, e2, decide_eq_true_eq]; omega
    · exact h1
  generalize arcL u v = m at *
  simp only [arcP, decide_eq_true_eq] at e1
  have c1 : v * sinI m = sinI m * v := Int.mul_comm _ _
  have c2 : u * cosI m = cosI m * u := Int.mul_comm _ _
  refine ⟨by omega, ?_⟩
  rcases ha.2 with h1 | h1
  · subst h1
    have e2 : sinI 0 = 0 := by decide +kernel
    have e3 : cosI 0 = 1000000 := by decide +kernel
    rw [e2, e3] at *
    omega
  · simp only [arcP, decide_eq_false_iff_not, Int.not_le] at h1
    by_cases hm : m = 0
    · subst hm
      have e2 : sinI 0 = 0 := by decide +kernel
      have e3 : cosI 0 = 1000000 := by decide +kernel
      rw [e2, e3] at *
      omega
    · have s1 := sinQ_next18 (a := m - 1) (by omega) (by omega)
      have s2 := sinQ_next13 (a := 90000 - m) (by omega) (by omega)
      rw [show m - 1 + 1 = m by omega, ← sinI_lo (by omega) (by omega), ← sinI_lo (by omega) (by omega)] at s1
      rw [show 90000 - m + 1 = 90000 - (m - 1) by omega, ← cosI_lo (by omega) (by omega), ← cosI_lo (by omega) (by omega)] at s2
      have k1 : v * sinI m ≤ v * (sinI (m - 1) + 18) := Int.mul_le_mul_of_nonneg_left s1 (by omega)
      have k2 : u * cosI (m - 1) ≤ u * (cosI m + 13) := Int.mul_le_mul_of_nonneg_left s2 h0
      have d1 : v * (sinI (m - 1) + 18) = sinI (m - 1) * v + 18 * v := by grind
      have d2 : u * (cosI m + 13) = u * cosI m + 13 * u := by grind
      have d3 : u * cosI (m - 1) = cosI (m - 1) * u := Int.mul_comm _ _
      omega
theorem fit_sq {u v w : Int} (h0 : 0 ≤ w) (h1 : w ≤ 18 * v + 13 * u) : w * w ≤ 493 * (u * u + v * v) := by
  have k1 : w * w ≤ (18 * v + 13 * u) * (18 * v + 13 * u) := Int.mul_le_mul h1 h1 h0 (by omega)
  have k2 := sq_nn (13 * v - 18 * u)
  have e : 493 * (u * u + v * v) = (18 * v + 13 * u) * (18 * v + 13 * u) + (13 * v - 18 * u) * (13 * v - 18 * u) := by grind
  omega
/-- an angle and a direction -/
def Fit (y x p : Int) : Prop := (y * cosI p - x * sinI p) * (y * cosI p - x * sinI p) ≤ 493 * (x * x + y * y) ∧ 0 ≤ x * cosI p + y * sinI p
theorem arcB_fit {y x : Int} (hy : 0 ≤ y) (hx : 0 ≤ x) : Fit y x (arcB y x) := by
  have hb := arcL_bd (minI x y) (maxI x y)
  have hs := cosI_pos (a := arcL (minI x y) (maxI x y)) (by omega) (by omega)
  have hs2 : 0 ≤ sinI (arcL (minI x y) (maxI x y)) := by rw [sinI_lo (by omega) (by omega)]; exact (sinQ_bd _ (by omega) (by omega)).1
  unfold Fit arcB
  by_cases h : x < y
  · have hf := arcL_fit (u := x) (v := y) hx (by omega)
    rw [if_pos h]
    rw [minI, if_pos h, maxI, if_neg (by omega)] at *
    rw [cos_comp, sin_comp]
    generalize arcL x y = m at *
    have := fit_sq hf.1 hf.2
    exact ⟨this, by have := Int.mul_nonneg hx hs2; have := Int.mul_nonneg hy hs; omega⟩
  · have e : minI x y = y ∧ maxI x y = x := by unfold minI maxI; constructor <;> split <;> omega
    rw [e.1, e.2] at hs hs2 hb ⊢
    rw [if_neg h]
    have hf := arcL_fit (u := y) (v := x) hy (by omega)
    generalize arcL y x = m at *
    have := fit_sq hf.1 hf.2
    refine ⟨?_, by have := Int.mul_nonneg hx hs; have := Int.mul_nonneg hy hs2; omega⟩
    have e : (y * cosI m - x * sinI m) * (y * cosI m - x * sinI m) = (x * sinI m - y * cosI m) * (x * sinI m - y * cosI m) := by grind
    rw [e]; omega
theorem absI_mul (a : Int) : absI a * absI a = a * a := by unfold absI; split; exact Int.neg_mul_neg a a; rfl
theorem fit_flip {y x p y' x' p' : Int} (h : Fit y x p) (e1 : y' * cosI p' - x' * sinI p' = y * cosI p - x * sinI p ∨ y' * cosI p' - x' * sinI p' = -(y * cosI p - x * sinI p)) (e2 : x' * cosI p' + y' * sinI p' = x * cosI p + y * sinI p) (e3 : x' * x' + y' * y' = x * x + y * y) : Fit y' x' p' := by
  unfold Fit at *
  rw [e2, e3]
  rcases e1 with e1 | e1
  · rw [e1]; exact h
  · rw [e1, Int.neg_mul_neg]; exact h
/-- the angle of a direction fits it -/
theorem arcI_fit (y x : Int) : Fit y x (arcI y x) := by
  have hf := arcB_fit (y := absI y) (x := absI x) (absI_bd y).1 (absI_bd x).1
  have e0 : x * x + y * y = absI x * absI x + absI y * absI y := by rw [absI_mul, absI_mul]
  have ay := absI_bd y
  have ax := absI_bd x
  unfold arcI
  generalize arcB (absI y) (absI x) = b at *
  split
  · rw [show absI y = y by unfold absI; split <;> omega, show absI x = x by unfold absI; split <;> omega] at hf
    exact hf
  · split
    · refine fit_flip hf ?_ ?_ e0
      · rw [cos_supp, sin_supp, show absI y = y by unfold absI; split <;> omega, show absI x = -x by unfold absI; split <;> omega]
        right; grind
      · rw [cos_supp, sin_supp, show absI y = y by unfold absI; split <;> omega, show absI x = -x by unfold absI; split <;> omega]
        grind
    · split
      · refine fit_flip hf ?_ ?_ e0
        · rw [cos_half, sin_half', show absI y = -y by unfold absI; split <;> omega, show absI x = -x by unfold absI; split <;> omega]
          left; grind
        · rw [cos_half, sin_half', show absI y = -y by unfold absI; split <;> omega, show absI x = -x by unfold absI; split <;> omega]
          grind
      · refine fit_flip hf ?_ ?_ e0
        · rw [cosI_nrm, sinI_nrm, cosI_neg, sinI_neg, show absI y = -y by unfold absI; split <;> omega, show absI x = x by unfold absI; split <;> omega]
          right; grind
        · rw [cosI_nrm, sinI_nrm, cosI_neg, sinI_neg, show absI y = -y by unfold absI; split <;> omega, show absI x = x by unfold absI; split <;> omega]
          grind
/-- the lengths of two vectors together -/
theorem mink {a b c p q r A B : Int} (hA : 0 ≤ A) (hB : 0 ≤ B) (h1 : a * a + b * b + c * c ≤ A * A) (h2 : p * p + q * q + r * r ≤ B * B) : (a + p) * (a + p) + (b + q) * (b + q) + (c + r) * (c + r) ≤ (A + B) * (A + B) := by
  have k : a * p + b * q + c * r ≤ A * B := by
    refine sq_lt (Int.mul_nonneg hA hB) ?_
    have s1 := sq_nn (a * q - b * p)
    have s2 := sq_nn (b * r - c * q)
    have s3 := sq_nn (a * r - c * p)
    have e1 : (a * p + b * q + c * r) * (a * p + b * q + c * r) + ((a * q - b * p) * (a * q - b * p) + (b * r - c * q) * (b * r - c * q) + (a * r - c * p) * (a * r - c * p)) = (a * a + b * b + c * c) * (p * p + q * q + r * r) := by grind
    have e2 : (a * a + b * b + c * c) * (p * p + q * q + r * r) ≤ (A * A) * (B * B) := Int.mul_le_mul h1 h2 (by have := sq_nn p; have := sq_nn q; have := sq_nn r; omega) (sq_nn A)
    have e3 : (A * A) * (B * B) = (A * B) * (A * B) := by grind
    omega
  have e4 : (a + p) * (a + p) + (b + q) * (b + q) + (c + r) * (c + r) = (a * a + b * b + c * c) + (p * p + q * q + r * r) + 2 * (a * p + b * q + c * r) := by grind
  have e5 : (A + B) * (A + B) = A * A + B * B + 2 * (A * B) := by grind
  omega
/-- an arc of rounded numbers -/
theorem mkAng {D S x y p ex ey K : Int} (hS : 0 ≤ S) (hN : 998001000000000000000000 ≤ D * D + S ∧ D * D + S ≤ 1002001000000000000000000)
    (hx : -ex ≤ 1000000 * x - D ∧ 1000000 * x - D ≤ ex) (hy : ∀ Y : Int, 0 ≤ Y → Y * Y ≤ S → S < (Y + 1) * (Y + 1) → -ey ≤ 1000000 * y - Y ∧ 1000000 * y - Y ≤ ey)
    (hf : Fit y x p) (h0 : 0 ≤ ex ∧ 0 ≤ ey ∧ ex + ey ≤ 1000000000) (hK : 22250000000000 + 1000000 * (ex + ey) ≤ K) (hK2 : K ≤ 200000000000000) : ∃ Y, Ang D S p K Y := by
  obtain ⟨Y, y0, y1, y2⟩ := sqrt_ex S hS
  have hy' := hy Y y0 y1 y2
  refine ⟨Y, ?_⟩
  obtain ⟨f1, f2⟩ := hf
  have bc := cosI_bd p
  have bs := sinI_bd p
  have hn := norm_near p
  have hD := sq_nn D
  have bD := sq_bd2 (a := D) (b := 1001000000000) (by omega) (by omega)
  have bY := sq_bd2 (a := Y) (b := 1001000000000) (by omega) (by omega)
  have e2 : (Y + 1) * (Y + 1) = Y * Y + 2 * Y + 1 := by grind
  -- the squares of the rounded numbers
  obtain ⟨dx, hdx⟩ : ∃ d, d = 1000000 * x - D := ⟨_, rfl⟩
  obtain ⟨dy, hdy⟩ : ∃ d, d = 1000000 * y - Y := ⟨_, rfl⟩
  rw [← hdx] at hx
  rw [← hdy] at hy'
  have q1 := mul_in (A := 1001000000000) (B := ex) (a := D) (b := dx) (by omega) hx
  have q2 := mul_in (A := 1001000000000) (B := ey) (a := Y) (b := dy) (by omega) hy'
  have q3 := mul_in hx hx
  have q4 := mul_in hy' hy'
  have q5 : ex * ex ≤ 1000000000 * 1000000000 := Int.mul_le_mul (by omega) (by omega) (by omega) (by omega)
  have q6 : ey * ey ≤ 1000000000 * 1000000000 := Int.mul_le_mul (by omega) (by omega) (by omega) (by omega)
  have e3 : 1000000000000 * (x * x + y * y) = (D * D + Y * Y) + 2 * (D * dx) + 2 * (Y * dy) + dx * dx + dy * dy := by
    have a1 : 1000000 * x = D + dx := by omega
    have a2 : 1000000 * y = Y + dy := by omega
    have a3 : 1000000000000 * (x * x + y * y) = (1000000 * x) * (1000000 * x) + (1000000 * y) * (1000000 * y) := by grind
    rw [a3, a1, a2]; grind
  have q7 : x * x + y * y ≤ 1004020000000 := by omega
  have q8 := sq_bd2 (a := y * cosI p - x * sinI p) (b := 22250000) (by omega) (by omega)
  -- back to the exact numbers
  have e4 : Y * cosI p - D * sinI p = 1000000 * (y * cosI p - x * sinI p) - dy * cosI p + dx * sinI p := by
    rw [hdx, hdy]; grind
  have e5 : D * cosI p + Y * sinI p = 1000000 * (x * cosI p + y * sinI p) - dx * cosI p - dy * sinI p := by
    rw [hdx, hdy]; grind
  have r1 := mul_in (A := ey) (B := 1000000) (a := dy) (b := cosI p) hy' (by omega)
  have r2 := mul_in (A := ex) (B := 1000000) (a := dx) (b := sinI p) hx (by omega)
  have r3 := mul_in (A := ex) (B := 1000000) (a := dx) (b := cosI p) hx (by omega)
  have r4 := mul_in (A := ey) (B := 1000000) (a := dy) (b := sinI p) hy' (by omega)
  have him : -K ≤ Y * cosI p - D * sinI p ∧ Y * cosI p - D * sinI p ≤ K := by rw [e4]; omega
  refine ⟨y0, y1, y2, him, ?_⟩
  have hi := norm_id D Y (cosI p) (sinI p)
  have hpos : -2000000000000000 ≤ D * cosI p + Y * sinI p := by rw [e5]; omega
  have m1 : 998000000000000000000000 * 999919000000 ≤ (D * D + Y * Y) * (cosI p * cosI p + sinI p * sinI p) := Int.mul_le_mul (by omega) hn.1 (by omega) (by omega)
  have m2 := mul_in him him
  have m3 : K * K ≤ 200000000000000 * 200000000000000 := Int.mul_le_mul hK2 hK2 (by omega) (by omega)
  generalize D * cosI p + Y * sinI p = re at *
  generalize Y * cosI p - D * sinI p = im at *
  rcases Int.lt_or_le re 980000000000000000 with hlt | hge
  · exfalso
    have := mul_in (A := 980000000000000000) (B := 980000000000000000) (a := re) (b := re) (by omega) (by omega)
    omega
  · exact hge
end Go.Proofs.YtpnfhienffekoaaGreatDoor
