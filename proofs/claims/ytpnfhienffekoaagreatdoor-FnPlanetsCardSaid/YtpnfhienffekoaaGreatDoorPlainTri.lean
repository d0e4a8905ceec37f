/- Plain laws: three directions: an angle between two of them is not greater than the two others together, nearly. Nothing of the program is named here. -/
import Derived.Test.YtpnfhienffekoaaGreatDoorPlainTurn
namespace Go.Proofs.YtpnfhienffekoaaGreatDoor
set_option linter.unusedVariables false
set_option linter.unusedSimpArgs false
theorem isqrt (n : Nat) : ∃ Y : Int, 0 ≤ Y ∧ Y * Y ≤ n ∧ (n : Int) < (Y + 1) * (Y + 1) := by
  induction n with
  | zero => exact ⟨0, by omega, by decide, by decide⟩
  | succ n ih =>
    obtain ⟨Y, h0, h1, h2⟩ := ih
    by_cases h : ((n + 1 : Nat) : Int) < (Y + 1) * (Y + 1)
    · exact ⟨Y, h0, by omega, h⟩
    · refine ⟨Y + 1, by omega, by omega, ?_⟩
      have e : (Y + 1 + 1) * (Y + 1 + 1) = (Y + 1) * (Y + 1) + 2 * Y + 3 := by grind
      omega
theorem sqrt_ex (S : Int) (h : 0 ≤ S) : ∃ Y : Int, 0 ≤ Y ∧ Y * Y ≤ S ∧ S < (Y + 1) * (Y + 1) := by
  obtain ⟨Y, hY⟩ := isqrt S.toNat
  rw [show ((S.toNat : Nat) : Int) = S by omega] at hY
  exact ⟨Y, hY⟩
theorem sq_nn (a : Int) : 0 ≤ a * a := by
  rcases Int.le_total 0 a with h | h
  · exact Int.mul_nonneg h h
  · exact Int.mul_nonneg_of_nonpos_of_nonpos h h
theorem sq_lt {a b : Int} (h0 : 0 ≤ b) (h : a * a ≤ b * b) : a ≤ b := by
  rcases Int.lt_or_le b a with hlt | hle
  · have := Int.mul_lt_mul_of_pos_left hlt (show 0 < a by omega)
    have h2 : b * b ≤ a * b := Int.mul_le_mul_of_nonneg_right (by omega) h0
    omega
  · exact hle
theorem sq_bd2 {a b : Int} (h0 : 0 ≤ b) (h : a * a ≤ b * b) : -b ≤ a ∧ a ≤ b := by
  refine ⟨?_, sq_lt h0 h⟩
  have := sq_lt (a := -a) h0 (by rw [Int.neg_mul_neg]; exact h)
  omega
/-- the contradiction: two points on one circle, of which one is before and behind the other -/
theorem tri_contra {A B U V : Int} (hB : 0 ≤ B) (hV : 0 ≤ V) (bU : -1100000000000000000000000 ≤ U ∧ U ≤ 1100000000000000000000000) (bV : V ≤ 1100000000000000000000000)
    (h1 : U - 4000000000000 ≤ A) (h2 : A * A + B * B ≤ U * U + V * V + 20000000000000000000000000000000000000) (h3 : U * U + V * V ≤ A * A + B * B + 20000000000000000000000000000000000000)
    (h4 : 18000000000000000000000000000000000000000000 ≤ B * U - A * V) : False := by
  by_cases hU : 0 ≤ U
  · have k1 : (U - 4000000000000) * V ≤ A * V := Int.mul_le_mul_of_nonneg_right h1 hV
    have e1 : (U - 4000000000000) * V = U * V - 4000000000000 * V := by grind
    have k2 : 16000000000000000000 ≤ B - V := by
      rcases Int.lt_or_le (B - V) 16000000000000000000 with hlt | hle
      · exfalso
        have k3 : (B - V) * U ≤ 16000000000000000000 * U := Int.mul_le_mul_of_nonneg_right (by omega) hU
        have e2 : (B - V) * U = B * U - U * V := by grind
        omega
      · exact hle
    have k4 : (V + 16000000000000000000) * (V + 16000000000000000000) ≤ B * B := Int.mul_le_mul (by omega) (by omega) (by omega) hB
    have e3 : (V + 16000000000000000000) * (V + 16000000000000000000) = V * V + 32000000000000000000 * V + 256000000000000000000000000000000000000 := by grind
    by_cases ht : 4000000000000 ≤ U
    · have k5 : (U - 4000000000000) * (U - 4000000000000) ≤ A * A := Int.mul_le_mul h1 h1 (by omega) (by omega)
      have e4 : (U - 4000000000000) * (U - 4000000000000) = U * U - 8000000000000 * U + 16000000000000000000000000 := by grind
      omega
    · have k5 := sq_nn A
      have k6 : U * U ≤ 4000000000000 * 4000000000000 := Int.mul_le_mul (by omega) (by omega) hU (by omega)
      omega
  · have kBU : B * U ≤ 0 := Int.mul_nonpos_of_nonneg_of_nonpos hB (by omega)
    have hA : A < 0 := by
      rcases Int.lt_or_le A 0 with h | h
      · exact h
      · have := Int.mul_nonneg h hV; omega
    have k1 : (U - 4000000000000) * V ≤ A * V := Int.mul_le_mul_of_nonneg_right h1 hV
    have e1 : (U - 4000000000000) * V = U * V - 4000000000000 * V := by grind
    have k2 : 16000000000000000000 ≤ V - B := by
      rcases Int.lt_or_le (V - B) 16000000000000000000 with hlt | hle
      · exfalso
        have k3 : (V - B) * (-U) ≤ 16000000000000000000 * (-U) := Int.mul_le_mul_of_nonneg_right (by omega) (by omega)
        have e2 : (V - B) * (-U) = B * U - U * V := by grind
        omega
      · exact hle
    have k4 : (B + 16000000000000000000) * (B + 16000000000000000000) ≤ V * V := Int.mul_le_mul (by omega) (by omega) (by omega) hV
    have e3 : (B + 16000000000000000000) * (B + 16000000000000000000) = B * B + 32000000000000000000 * B + 256000000000000000000000000000000000000 := by grind
    have k5 : (-A) * (-A) ≤ (4000000000000 - U) * (4000000000000 - U) := Int.mul_le_mul (by omega) (by omega) (by omega) (by omega)
    have e4 : (-A) * (-A) = A * A := Int.neg_mul_neg A A
    have e5 : (4000000000000 - U) * (4000000000000 - U) = U * U - 8000000000000 * U + 16000000000000000000000000 := by grind
    omega
/-- how two vectors' dot product and the root of their cross product's square stand to an angle of the table -/
structure Ang (D S p K Y : Int) : Prop where
  y0 : 0 ≤ Y
  lo : Y * Y ≤ S
  hi : S < (Y + 1) * (Y + 1)
  im : -K ≤ Y * cosI p - D * sinI p ∧ Y * cosI p - D * sinI p ≤ K
  re : 980000000000000000 ≤ D * cosI p + Y * sinI p
theorem turn_bd3 {a b c d : Int} (h1 : -1000000 ≤ a ∧ a ≤ 1000000) (h2 : -1000000 ≤ b ∧ b ≤ 1000000) (h3 : -81000000 ≤ c ∧ c ≤ 81000000) (h4 : -81000000 ≤ d ∧ d ≤ 81000000) : -162000000000000 ≤ a * c + b * d ∧ a * c + b * d ≤ 162000000000000 := by
  have m1 := mul_in (A := 1000000) (B := 81000000) h1 h3
  have m2 := mul_in (A := 1000000) (B := 81000000) h2 h4
  omega
/-- the product of three points of the table, turned back by two of them -/
theorem turn_three (p q g : Int) : ∃ X Y : Int, X = cosI g * (cosI p * cosI q - sinI p * sinI q) + sinI g * (sinI p * cosI q + cosI p * sinI q) ∧ Y = sinI g * (cosI p * cosI q - sinI p * sinI q) - cosI g * (sinI p * cosI q + cosI p * sinI q) ∧
    (-243000000000000 ≤ X - 1000000000000 * cosI (g - (p + q)) ∧ X - 1000000000000 * cosI (g - (p + q)) ≤ 243000000000000) ∧ (-243000000000000 ≤ Y - 1000000000000 * sinI (g - (p + q)) ∧ Y - 1000000000000 * sinI (g - (p + q)) ≤ 243000000000000) := by
  refine ⟨_, _, rfl, rfl, ?_⟩
  have h1 := addOk p q
  have h2 := addOk g (-(p + q))
  unfold AddOk at h1 h2
  rw [cosI_neg, sinI_neg, show g + -(p + q) = g - (p + q) by omega] at h2
  have bg1 := cosI_bd g
  have bg2 := sinI_bd g
  obtain ⟨⟨a1, a2⟩, a3, a4⟩ := h1
  obtain ⟨⟨c1, c2⟩, c3, c4⟩ := h2
  generalize cosI p * cosI q - sinI p * sinI q = Mr at *
  generalize sinI p * cosI q + cosI p * sinI q = Mi at *
  generalize cosI (p + q) = Ct at *
  generalize sinI (p + q) = St at *
  generalize cosI (g - (p + q)) = Cd at *
  generalize sinI (g - (p + q)) = Sd at *
  generalize cosI g = Cg at *
  generalize sinI g = Sg at *
  have t1 := turn_bd3 (a := Cg) (b := Sg) (c := Mr - 1000000 * Ct) (d := Mi - 1000000 * St) (by omega) (by omega) (by omega) (by omega)
  have t2 := turn_bd3 (a := Sg) (b := -Cg) (c := Mr - 1000000 * Ct) (d := Mi - 1000000 * St) (by omega) (by omega) (by omega) (by omega)
  have e1 : Cg * Mr + Sg * Mi - 1000000000000 * Cd = (Cg * (Mr - 1000000 * Ct) + Sg * (Mi - 1000000 * St)) + 1000000 * (Cg * Ct - Sg * -St - 1000000 * Cd) := by grind
  have e2 : Sg * Mr - Cg * Mi - 1000000000000 * Sd = (Sg * (Mr - 1000000 * Ct) + -Cg * (Mi - 1000000 * St)) + 1000000 * (Sg * Ct + Cg * -St - 1000000 * Sd) := by grind
  rw [e1, e2]
  omega
/-- the imaginary part of a product, when the angle stays -/
theorem im_lo {a1 b1 a2 b2 a3 b3 X Y K y0 : Int} (hK0 : 0 ≤ K) (hK : K ≤ 200000000000000) (ha1 : 980000000000000000 ≤ a1 ∧ a1 ≤ 1020000000000000000) (ha2 : 980000000000000000 ≤ a2 ∧ a2 ≤ 1020000000000000000) (ha3 : 980000000000000000 ≤ a3 ∧ a3 ≤ 1020000000000000000)
    (hb1 : -K ≤ b1 ∧ b1 ≤ K) (hb2 : -K ≤ b2 ∧ b2 ≤ K) (hb3 : -K ≤ b3 ∧ b3 ≤ K) (hX : -1010000000000000000 ≤ X ∧ X ≤ 1010000000000000000) (hY : y0 ≤ Y) (hy0 : 0 ≤ y0) :
    (94 * y0 - 318 * K) * 10000000000000000000000000000000000000000000000000000 ≤ (a3 * (a1 * a2 - b1 * b2) + b3 * (a1 * b2 + a2 * b1)) * Y + (b3 * (a1 * a2 - b1 * b2) - a3 * (a1 * b2 + a2 * b1)) * X := by
  have m1 : 980000000000000000 * 980000000000000000 ≤ a1 * a2 := Int.mul_le_mul ha1.1 ha2.1 (by omega) (by omega)
  have m2 : a1 * a2 ≤ 1020000000000000000 * 1020000000000000000 := Int.mul_le_mul ha1.2 ha2.2 (by omega) (by omega)
  have m3 := mul_in hb1 hb2
  have m4 : K * K ≤ 200000000000000 * 200000000000000 := Int.mul_le_mul hK hK hK0 (by omega)
  have m5 := mul_in (A := 1020000000000000000) (B := K) (a := a1) (b := b2) (by omega) hb2
  have m6 := mul_in (A := 1020000000000000000) (B := K) (a := a2) (b := b1) (by omega) hb1
  generalize hP : a1 * a2 - b1 * b2 = P at *
  generalize hQ : a1 * b2 + a2 * b1 = Q at *
  have bP : 960000000000000000000000000000000000 ≤ P ∧ P ≤ 1041000000000000000000000000000000000 := by omega
  have bQ : -(2040000000000000000 * K) ≤ Q ∧ Q ≤ 2040000000000000000 * K := by omega
  have bQ2 : -408000000000000000000000000000000 ≤ Q ∧ Q ≤ 408000000000000000000000000000000 := by omega
  clear hP hQ m1 m2 m3 m4 m5 m6
  have n1 : 980000000000000000 * 960000000000000000000000000000000000 ≤ a3 * P := Int.mul_le_mul ha3.1 bP.1 (by omega) (by omega)
  have n2 := mul_in (A := K) (B := 408000000000000000000000000000000) hb3 bQ2
  have n3 := mul_in (A := K) (B := 1041000000000000000000000000000000000) (b := P) hb3 (by omega)
  have n4 := mul_in (A := 1020000000000000000) (B := 2040000000000000000 * K) (a := a3) (b := Q) (by omega) bQ
  generalize hR : a3 * P + b3 * Q = R at *
  generalize hT : b3 * P - a3 * Q = T at *
  have bR : 940000000000000000000000000000000000000000000000000000 ≤ R := by omega
  have bT : -(3122000000000000000000000000000000000 * K) ≤ T ∧ T ≤ 3122000000000000000000000000000000000 * K := by omega
  clear hR hT n1 n2 n3 n4
  have o1 : 940000000000000000000000000000000000000000000000000000 * y0 ≤ R * Y := Int.mul_le_mul bR hY hy0 (by omega)
  have o2 := mul_in (A := 3122000000000000000000000000000000000 * K) (B := 1010000000000000000) bT hX
  generalize R * Y = RY at *
  generalize T * X = TX at *
  omega
theorem norm_id (D Y C S : Int) : (D * C + Y * S) * (D * C + Y * S) + (Y * C - D * S) * (Y * C - D * S) = (D * D + Y * Y) * (C * C + S * S) := by grind
theorem back_re (D Y C S : Int) : D * (C * C + S * S) = (D * C + Y * S) * C - (Y * C - D * S) * S := by grind
theorem prod_re (D1 Y1 D2 Y2 Cp Sp Cq Sq : Int) : (D1 * Cp + Y1 * Sp) * (D2 * Cq + Y2 * Sq) - (Y1 * Cp - D1 * Sp) * (Y2 * Cq - D2 * Sq) = (D1 * D2 - Y1 * Y2) * (Cp * Cq - Sp * Sq) + (D1 * Y2 + D2 * Y1) * (Sp * Cq + Cp * Sq) := by grind
theorem prod_im (D1 Y1 D2 Y2 Cp Sp Cq Sq : Int) : (D1 * Cp + Y1 * Sp) * (Y2 * Cq - D2 * Sq) + (D2 * Cq + Y2 * Sq) * (Y1 * Cp - D1 * Sp) = (D1 * Y2 + D2 * Y1) * (Cp * Cq - Sp * Sq) - (D1 * D2 - Y1 * Y2) * (Sp * Cq + Cp * Sq) := by grind
theorem norm_prod (Cp Sp Cq Sq : Int) : (Cp * Cq - Sp * Sq) * (Cp * Cq - Sp * Sq) + (Sp * Cq + Cp * Sq) * (Sp * Cq + Cp * Sq) = (Cp * Cp + Sp * Sp) * (Cq * Cq + Sq * Sq) := by grind
theorem three_im (D Y C S U V Mr Mi : Int) : ((D * C + Y * S) * (U * Mr + V * Mi) + (Y * C - D * S) * (V * Mr - U * Mi)) * (S * Mr - C * Mi) + ((Y * C - D * S) * (U * Mr + V * Mi) - (D * C + Y * S) * (V * Mr - U * Mi)) * (C * Mr + S * Mi) = (C * C + S * S) * (Mr * Mr + Mi * Mi) * (Y * U - D * V) := by grind
theorem back_v (U V Mr Mi : Int) : V * (Mr * Mr + Mi * Mi) = (U * Mr + V * Mi) * Mi + (V * Mr - U * Mi) * Mr := by grind
theorem back_u (U V Mr Mi : Int) : U * (Mr * Mr + Mi * Mi) = (U * Mr + V * Mi) * Mr - (V * Mr - U * Mi) * Mi := by grind
theorem pos_of_mul {n x : Int} (hn : 0 < n) (h : 0 < x * n) : 0 < x := by
  rcases Int.lt_or_le 0 x with h1 | h1
  · exact h1
  · have := Int.mul_nonpos_of_nonpos_of_nonneg h1 (Int.le_of_lt hn); omega
/-- what holds of a pair -/
theorem Ang.bounds {D S p K Y n1 n2 : Int} (h : Ang D S p K Y) (hK : 0 ≤ K ∧ K ≤ 200000000000000) (e : D * D + S = n1 * n2) (h1 : 999000000000 ≤ n1 ∧ n1 ≤ 1001000000000) (h2 : 999000000000 ≤ n2 ∧ n2 ≤ 1001000000000) :
    (-1001000000000 ≤ D ∧ D ≤ 1001000000000) ∧ Y ≤ 1001000000000 ∧ D * cosI p + Y * sinI p ≤ 1020000000000000000 ∧ D * D + Y * Y ≤ n1 * n2 ∧ n1 * n2 - 2100000000000 ≤ D * D + Y * Y := by
  have hn : n1 * n2 ≤ 1001000000000 * 1001000000000 := Int.mul_le_mul h1.2 h2.2 (by omega) (by omega)
  have hD := sq_nn D
  have hY := sq_nn Y
  have hlo := h.lo
  have hhi := h.hi
  have e2 : (Y + 1) * (Y + 1) = Y * Y + 2 * Y + 1 := by grind
  have bD := sq_bd2 (a := D) (b := 1001000000000) (by omega) (by omega)
  have bY := sq_bd2 (a := Y) (b := 1001000000000) (by omega) (by omega)
  refine ⟨bD, bY.2, ?_, by omega, by omega⟩
  have hi := norm_id D Y (cosI p) (sinI p)
  have hnp := norm_near p
  have hb := sq_nn (Y * cosI p - D * sinI p)
  have hm : (D * D + Y * Y) * (cosI p * cosI p + sinI p * sinI p) ≤ (1001000000000 * 1001000000000) * 1000081000000 := Int.mul_le_mul (by omega) hnp.2 (by omega) (by omega)
  have := sq_bd2 (a := D * cosI p + Y * sinI p) (b := 1020000000000000000) (by omega) (by omega)
  exact this.2
theorem sin_mid {s d : Int} (hs : 0 ≤ s) (hs2 : s ≤ 1000) (h1 : s ≤ d) (h2 : d ≤ 180000 - s) : sinI s ≤ sinI d := by
  have e : sinI s = cosI (90000 - s) := by
    rw [cosI_sin, show 90000 - s + 90000 = -s + 180000 by omega, sinI_half, sinI_neg]; omega
  by_cases h : d ≤ 90000
  · have e2 : sinI d = cosI (90000 - d) := by
      rw [cosI_sin, show 90000 - d + 90000 = -d + 180000 by omega, sinI_half, sinI_neg]; omega
    rw [e, e2]
    exact cosI_fall (by omega) (by omega) (by omega)
  · have e2 : sinI d = cosI (d - 90000) := by rw [cosI_sin]; congr 1; omega
    rw [e, e2]
    exact cosI_fall (by omega) (by omega) (by omega)
theorem cos_small {p : Int} (h0 : 0 ≤ p) (h1 : p ≤ 1000) : 999000 ≤ cosI p ∧ 0 ≤ sinI p ∧ sinI p ≤ 20000 := by
  have a := cosI_fall (a := p) (c := 1000) h0 h1 (by omega)
  have e1 : cosI 1000 = 999848 := by decide +kernel
  have e2 : sinI p = sinQ p := by unfold sinI; rw [nrm_of (by omega) (by omega), sinN_lo (by omega), sinH_lo (by omega)]
  have e3 := sinQ_mono (a := p) (c := 1000) h0 h1 (by omega)
  have e4 : sinQ 1000 = 17452 := by decide +kernel
  have e5 := sinQ_bd p h0 (by omega)
  omega
/-- an angle is not greater than the two others together -/
theorem triangle {D1 S1 D2 S2 D3 S3 Na Nb Nc p q g K s Y1 Y2 Y3 : Int} (hNa : 999000000000 ≤ Na ∧ Na ≤ 1001000000000) (hNb : 999000000000 ≤ Nb ∧ Nb ≤ 1001000000000) (hNc : 999000000000 ≤ Nc ∧ Nc ≤ 1001000000000)
    (e1 : D1 * D1 + S1 = Na * Nb) (e2 : D2 * D2 + S2 = Nb * Nc) (e3 : D3 * D3 + S3 = Na * Nc) (cs : (D1 * D2 - D3 * Nb) * (D1 * D2 - D3 * Nb) ≤ S1 * S2)
    (A1 : Ang D1 S1 p K Y1) (A2 : Ang D2 S2 q K Y2) (A3 : Ang D3 S3 g K Y3) (hK : 0 ≤ K ∧ K ≤ 200000000000000)
    (hp : 0 ≤ p) (hq : 0 ≤ q) (hg : g ≤ 180000) (hs : 0 ≤ s ∧ s ≤ 1000) (hc : 2000000000000000 ≤ 94 * (1000000000000 * sinI s - 243000000000000) - 318 * K) : g < p + q + s := by
  rcases Int.lt_or_le g (p + q + s) with hlt | hle
  · exact hlt
  exfalso
  obtain ⟨bD1, bY1, ba1, f1a, f1b⟩ := A1.bounds hK e1 hNa hNb
  obtain ⟨bD2, bY2, ba2, f2a, f2b⟩ := A2.bounds hK e2 hNb hNc
  obtain ⟨bD3, bY3, ba3, f3a, f3b⟩ := A3.bounds hK e3 hNa hNc
  have y1 := A1.y0
  have y2 := A2.y0
  have y3 := A3.y0
  -- the first inequality: by Cauchy
  have i1 : D1 * D2 - Y1 * Y2 - 4000000000000 ≤ Nb * D3 := by
    have h0 : S1 * S2 ≤ ((Y1 + 1) * (Y1 + 1)) * ((Y2 + 1) * (Y2 + 1)) := by
      have hs1 : 0 ≤ S1 := by have := A1.lo; have := sq_nn Y1; omega
      have hs2 : 0 ≤ S2 := by have := A2.lo; have := sq_nn Y2; omega
      exact Int.mul_le_mul (Int.le_of_lt A1.hi) (Int.le_of_lt A2.hi) hs2 (sq_nn _)
    have h1 : ((Y1 + 1) * (Y1 + 1)) * ((Y2 + 1) * (Y2 + 1)) = ((Y1 + 1) * (Y2 + 1)) * ((Y1 + 1) * (Y2 + 1)) := by grind
    have h2 := sq_lt (a := D1 * D2 - D3 * Nb) (b := (Y1 + 1) * (Y2 + 1)) (Int.mul_nonneg (by omega) (by omega)) (by omega)
    have h3 : (Y1 + 1) * (Y2 + 1) = Y1 * Y2 + Y1 + Y2 + 1 := by grind
    have h4 : D3 * Nb = Nb * D3 := Int.mul_comm _ _
    omega
  -- the circle
  have i2 : (Nb * D3) * (Nb * D3) + (Nb * Y3) * (Nb * Y3) = Nb * Nb * (D3 * D3 + Y3 * Y3) := by grind
  have i3 : (D1 * D2 - Y1 * Y2) * (D1 * D2 - Y1 * Y2) + (D1 * Y2 + D2 * Y1) * (D1 * Y2 + D2 * Y1) = (D1 * D1 + Y1 * Y1) * (D2 * D2 + Y2 * Y2) := by grind
  have hNN : 0 ≤ Nb * Nb ∧ Nb * Nb ≤ 1001000000000 * 1001000000000 := ⟨sq_nn _, Int.mul_le_mul hNb.2 hNb.2 (by omega) (by omega)⟩
  have hAB : 0 ≤ Na * Nb ∧ Na * Nb ≤ 1001000000000 * 1001000000000 := ⟨Int.mul_nonneg (by omega) (by omega), Int.mul_le_mul hNa.2 hNb.2 (by omega) (by omega)⟩
  have hBC : 0 ≤ Nb * Nc ∧ Nb * Nc ≤ 1001000000000 * 1001000000000 := ⟨Int.mul_nonneg (by omega) (by omega), Int.mul_le_mul hNb.2 hNc.2 (by omega) (by omega)⟩
  have i4 : Nb * Nb * (D3 * D3 + Y3 * Y3) - (D1 * D1 + Y1 * Y1) * (D2 * D2 + Y2 * Y2) = (Na * Nb - (D1 * D1 + Y1 * Y1)) * (Nb * Nc) + (Na * Nb) * (Nb * Nc - (D2 * D2 + Y2 * Y2)) - (Na * Nb - (D1 * D1 + Y1 * Y1)) * (Nb * Nc - (D2 * D2 + Y2 * Y2)) - Nb * Nb * (Na * Nc - (D3 * D3 + Y3 * Y3)) := by grind
  have c1 : 0 ≤ (Na * Nb - (D1 * D1 + Y1 * Y1)) * (Nb * Nc) ∧ (Na * Nb - (D1 * D1 + Y1 * Y1)) * (Nb * Nc) ≤ 2100000000000 * (1001000000000 * 1001000000000) := ⟨Int.mul_nonneg (by omega) hBC.1, Int.mul_le_mul (by omega) hBC.2 hBC.1 (by omega)⟩
  have c2 : 0 ≤ (Na * Nb) * (Nb * Nc - (D2 * D2 + Y2 * Y2)) ∧ (Na * Nb) * (Nb * Nc - (D2 * D2 + Y2 * Y2)) ≤ (1001000000000 * 1001000000000) * 2100000000000 := ⟨Int.mul_nonneg hAB.1 (by omega), Int.mul_le_mul hAB.2 (by omega) (by omega) (by omega)⟩
  have c3 : 0 ≤ (Na * Nb - (D1 * D1 + Y1 * Y1)) * (Nb * Nc - (D2 * D2 + Y2 * Y2)) ∧ (Na * Nb - (D1 * D1 + Y1 * Y1)) * (Nb * Nc - (D2 * D2 + Y2 * Y2)) ≤ 2100000000000 * 2100000000000 := ⟨Int.mul_nonneg (by omega) (by omega), Int.mul_le_mul (by omega) (by omega) (by omega) (by omega)⟩
  have c4 : 0 ≤ Nb * Nb * (Na * Nc - (D3 * D3 + Y3 * Y3)) ∧ Nb * Nb * (Na * Nc - (D3 * D3 + Y3 * Y3)) ≤ (1001000000000 * 1001000000000) * 2100000000000 := ⟨Int.mul_nonneg hNN.1 (by omega), Int.mul_le_mul hNN.2 (by omega) (by omega) (by omega)⟩
  have i5 : (D1 * D1 + Y1 * Y1) * (D2 * D2 + Y2 * Y2) ≤ (1001000000000 * 1001000000000) * (1001000000000 * 1001000000000) := Int.mul_le_mul (by omega) (by omega) (by have := sq_nn D2; have := sq_nn Y2; omega) (by omega)
  clear e1 e2 e3 cs f1a f1b f2a f2b f3a f3b
  generalize hz1 : (Na * Nb - (D1 * D1 + Y1 * Y1)) * (Nb * Nc) = z1 at *
  generalize hz2 : (Na * Nb) * (Nb * Nc - (D2 * D2 + Y2 * Y2)) = z2 at *
  generalize hz3 : (Na * Nb - (D1 * D1 + Y1 * Y1)) * (Nb * Nc - (D2 * D2 + Y2 * Y2)) = z3 at *
  generalize hz4 : Nb * Nb * (Na * Nc - (D3 * D3 + Y3 * Y3)) = z4 at *
  clear hz1 hz2 hz3 hz4
  rw [← i2, ← i3] at i4
  rw [← i3] at i5
  clear i2 i3
  -- turned back by the table
  have hA1 : 980000000000000000 ≤ D1 * cosI p + Y1 * sinI p ∧ D1 * cosI p + Y1 * sinI p ≤ 1020000000000000000 := ⟨A1.re, ba1⟩
  have hA2 : 980000000000000000 ≤ D2 * cosI q + Y2 * sinI q ∧ D2 * cosI q + Y2 * sinI q ≤ 1020000000000000000 := ⟨A2.re, ba2⟩
  have hA3 : 980000000000000000 ≤ D3 * cosI g + Y3 * sinI g ∧ D3 * cosI g + Y3 * sinI g ≤ 1020000000000000000 := ⟨A3.re, ba3⟩
  have hB1 := A1.im
  have hB2 := A2.im
  have hB3 := A3.im
  clear A1 A2 A3 ba1 ba2 ba3
  have np := norm_near p
  have nq := norm_near q
  have ng := norm_near g
  obtain ⟨X, Y, hX, hY, bX, bY⟩ := turn_three p q g
  have hP := prod_re D1 Y1 D2 Y2 (cosI p) (sinI p) (cosI q) (sinI q)
  have hQ := prod_im D1 Y1 D2 Y2 (cosI p) (sinI p) (cosI q) (sinI q)
  have hM := norm_prod (cosI p) (sinI p) (cosI q) (sinI q)
  have hT := three_im D3 Y3 (cosI g) (sinI g) (D1 * D2 - Y1 * Y2) (D1 * Y2 + D2 * Y1) (cosI p * cosI q - sinI p * sinI q) (sinI p * cosI q + cosI p * sinI q)
  have hV := back_v (D1 * D2 - Y1 * Y2) (D1 * Y2 + D2 * Y1) (cosI p * cosI q - sinI p * sinI q) (sinI p * cosI q + cosI p * sinI q)
  have hU := back_u (D1 * D2 - Y1 * Y2) (D1 * Y2 + D2 * Y1) (cosI p * cosI q - sinI p * sinI q) (sinI p * cosI q + cosI p * sinI q)
  have hadd := addOk p q
  unfold AddOk at hadd
  obtain ⟨⟨u1, u2⟩, u3, u4⟩ := hadd
  rw [← hX, ← hY, ← hP, ← hQ, hM] at hT
  rw [← hP, ← hQ, hM] at hV hU
  have mpq : 999000000000 * 999000000000 ≤ (cosI p * cosI p + sinI p * sinI p) * (cosI q * cosI q + sinI q * sinI q) ∧ (cosI p * cosI p + sinI p * sinI p) * (cosI q * cosI q + sinI q * sinI q) ≤ 1000081000000 * 1000081000000 := ⟨Int.mul_le_mul (by omega) (by omega) (by omega) (by omega), Int.mul_le_mul np.2 nq.2 (by omega) (by omega)⟩
  have bMi := sq_bd2 (a := sinI p * cosI q + cosI p * sinI q) (b := 1010000000000) (by omega) (by have := sq_nn (cosI p * cosI q - sinI p * sinI q); omega)
  have bMr := sq_bd2 (a := cosI p * cosI q - sinI p * sinI q) (b := 1010000000000) (by omega) (by have := sq_nn (sinI p * cosI q + cosI p * sinI q); omega)
  have bU := sq_bd2 (a := D1 * D2 - Y1 * Y2) (b := 1100000000000000000000000) (by omega) (by have := sq_nn (D1 * Y2 + D2 * Y1); omega)
  have bV := sq_bd2 (a := D1 * Y2 + D2 * Y1) (b := 1100000000000000000000000) (by omega) (by have := sq_nn (D1 * D2 - Y1 * Y2); omega)
  have bk1 := back_re D1 Y1 (cosI p) (sinI p)
  have bk2 := back_re D2 Y2 (cosI q) (sinI q)
  have bk3 := back_re D3 Y3 (cosI g) (sinI g)
  have hMM := hM
  rw [hMM] at *
  clear hMM hM hP hQ
  have mcos := cos_small (p := p)
  have mcosq := cos_small (p := q)
  have mcost := cos_small (p := p + q)
  have mcosg := cos_small (p := 180000 - g)
  have msint := fun h1 h2 => sin_mid hs.1 hs.2 (d := p + q) h1 h2
  have msind := fun h1 h2 => sin_mid hs.1 hs.2 (d := g - (p + q)) h1 h2
  have ecg : cosI (180000 - g) = -(cosI g) := by
    rw [show 180000 - g = -(g - 180000) by omega, cosI_neg, cosI_sin, cosI_sin g, show g + 90000 = g - 180000 + 90000 + 180000 by omega, sinI_half]; omega
  have esg : sinI (180000 - g) = sinI g := by
    rw [show 180000 - g = -g + 180000 by omega, sinI_half, sinI_neg]; omega
  rw [ecg, esg] at mcosg
  have bcd := cosI_bd (g - (p + q))
  have bct := cosI_bd (p + q)
  have bsg := sinI_bd g
  clear ecg esg
  -- names
  generalize hnp : cosI p * cosI p + sinI p * sinI p = n1 at *
  generalize hnq : cosI q * cosI q + sinI q * sinI q = n2 at *
  generalize hng : cosI g * cosI g + sinI g * sinI g = n3 at *
  generalize ha1 : D1 * cosI p + Y1 * sinI p = a1 at *
  generalize hb1 : Y1 * cosI p - D1 * sinI p = b1 at *
  generalize ha2 : D2 * cosI q + Y2 * sinI q = a2 at *
  generalize hb2 : Y2 * cosI q - D2 * sinI q = b2 at *
  generalize ha3 : D3 * cosI g + Y3 * sinI g = a3 at *
  generalize hb3 : Y3 * cosI g - D3 * sinI g = b3 at *
  generalize hMr : cosI p * cosI q - sinI p * sinI q = Mr at *
  generalize hMi : sinI p * cosI q + cosI p * sinI q = Mi at *
  generalize hUU : D1 * D2 - Y1 * Y2 = U at *
  generalize hVV : D1 * Y2 + D2 * Y1 = V at *
  clear hnp hnq hng ha1 hb1 ha2 hb2 ha3 hb3 hMr hMi hX hY
  generalize cosI p = Cp at *
  generalize sinI p = Sp at *
  generalize cosI q = Cq at *
  generalize sinI q = Sq at *
  generalize cosI g = Cg at *
  generalize sinI g = Sg at *
  generalize cosI (p + q) = Ct at *
  generalize sinI (p + q) = St at *
  generalize cosI (g - (p + q)) = Cd at *
  generalize sinI (g - (p + q)) = Sd at *
  generalize sinI s = Ss at *
  -- the product of the first two, turned back
  have m1 : 980000000000000000 * 980000000000000000 ≤ a1 * a2 := Int.mul_le_mul hA1.1 hA2.1 (by omega) (by omega)
  have m3 := mul_in hB1 hB2
  have m4 : K * K ≤ 200000000000000 * 200000000000000 := Int.mul_le_mul hK.2 hK.2 hK.1 (by omega)
  have m5 := mul_in (A := 1020000000000000000) (B := K) (a := a1) (b := b2) (by omega) hB2
  have m6 := mul_in (A := 1020000000000000000) (B := K) (a := a2) (b := b1) (by omega) hB1
  have bP : 960000000000000000000000000000000000 ≤ a1 * a2 - b1 * b2 := by omega
  have bQ : -(2040000000000000000 * K) ≤ a1 * b2 + a2 * b1 ∧ a1 * b2 + a2 * b1 ≤ 2040000000000000000 * K := by omega
  have hmul : 0 < n1 * n2 := by omega
  -- the imaginary part of the product is not negative
  have hVp : 0 ≤ V := by
    by_cases ht : s ≤ p + q
    · have hSt := msint ht (by omega)
      have o1 : 960000000000000000000000000000000000 * (162000000 + (3383 * K) / 1000000000) ≤ (a1 * a2 - b1 * b2) * Mi := Int.mul_le_mul bP (by omega) (by omega) (by omega)
      have o2 := mul_in (A := 2040000000000000000 * K) (B := 1010000000000) bQ bMr
      refine Int.le_of_lt (pos_of_mul hmul ?_)
      rw [hV]
      omega
    · have k1 := mcos hp (by omega)
      have k2 := mcosq hq (by omega)
      have d1 : 0 ≤ D1 := by
        refine Int.le_of_lt (pos_of_mul (n := n1) (by omega) ?_)
        rw [bk1]
        have o1 : 980000000000000000 * 999000 ≤ a1 * Cp := Int.mul_le_mul hA1.1 k1.1 (by omega) (by omega)
        have o2 := mul_in (A := 200000000000000) (B := 20000) (a := b1) (b := Sp) (by omega) (by omega)
        omega
      have d2 : 0 ≤ D2 := by
        refine Int.le_of_lt (pos_of_mul (n := n2) (by omega) ?_)
        rw [bk2]
        have o1 : 980000000000000000 * 999000 ≤ a2 * Cq := Int.mul_le_mul hA2.1 k2.1 (by omega) (by omega)
        have o2 := mul_in (A := 200000000000000) (B := 20000) (a := b2) (b := Sq) (by omega) (by omega)
        omega
      have o1 := Int.mul_nonneg d1 y2
      have o2 := Int.mul_nonneg d2 y1
      omega
  by_cases hd : g - (p + q) ≤ 180000 - s
  · -- the third is behind the first two
    have hSd := msind (by omega) hd
    have hlow := im_lo (y0 := 1000000000000 * Ss - 243000000000000) hK.1 hK.2 hA1 hA2 hA3 hB1 hB2 hB3 (X := X) (Y := Y) (by omega) (by omega) (by omega)
    rw [hT] at hlow
    have hI : 19000000000000000000000000000000 ≤ Y3 * U - D3 * V := by
      rcases Int.lt_or_le (Y3 * U - D3 * V) 19000000000000000000000000000000 with hlt | hge
      · exfalso
        have hn3 : 0 ≤ n3 * (n1 * n2) := Int.mul_nonneg (by omega) (by omega)
        have o1 : n3 * (n1 * n2) * (Y3 * U - D3 * V) ≤ n3 * (n1 * n2) * 19000000000000000000000000000000 := Int.mul_le_mul_of_nonneg_left (by omega) hn3
        have o2 : n3 * (n1 * n2) ≤ 1000081000000 * (1000081000000 * 1000081000000) := Int.mul_le_mul ng.2 mpq.2 (by omega) (by omega)
        have o3 : 20000000000000000000000000000000000000000000000000000000000000000000 ≤ (94 * (1000000000000 * Ss - 243000000000000) - 318 * K) * 10000000000000000000000000000000000000000000000000000 := by omega
        omega
      · exact hge
    have hNI : 18000000000000000000000000000000000000000000 ≤ (Nb * Y3) * U - (Nb * D3) * V := by
      have e : (Nb * Y3) * U - (Nb * D3) * V = Nb * (Y3 * U - D3 * V) := by grind
      have o1 : 999000000000 * 19000000000000000000000000000000 ≤ Nb * (Y3 * U - D3 * V) := Int.mul_le_mul hNb.1 hI (by omega) (by omega)
      omega
    have hBn : 0 ≤ Nb * Y3 := Int.mul_nonneg (by omega) y3
    exact tri_contra hBn hVp bU bV.2 i1 (by omega) (by omega) hNI
  · -- the third is opposite
    have k1 := mcost (by omega) (by omega)
    have k2 := mcosg (by omega) (by omega)
    have d3 : D3 < 0 := by
      have : 0 < -D3 := by
        refine pos_of_mul (n := n3) (by omega) ?_
        rw [Int.neg_mul, bk3]
        have o1 : 980000000000000000 * 999000 ≤ a3 * (-Cg) := Int.mul_le_mul hA3.1 k2.1 (by omega) (by omega)
        have o2 := mul_in (A := 200000000000000) (B := 20000) (a := b3) (b := Sg) (by omega) (by omega)
        have o3 : a3 * (-Cg) = -(a3 * Cg) := Int.mul_neg _ _
        omega
      omega
    have dU : 900000000000000000000000 ≤ U := by
      rcases Int.lt_or_le U 900000000000000000000000 with hlt | hge
      · exfalso
        have o1 : U * (n1 * n2) ≤ 900000000000000000000000 * (n1 * n2) := Int.mul_le_mul_of_nonneg_right (by omega) (by omega)
        have o2 : 960000000000000000000000000000000000 * 998900000000 ≤ (a1 * a2 - b1 * b2) * Mr := Int.mul_le_mul bP (by omega) (by omega) (by omega)
        have o3 := mul_in (A := 408000000000000000000000000000000) (B := 1010000000000) (a := a1 * b2 + a2 * b1) (b := Mi) (by omega) bMi
        rw [hU] at o1
        omega
      · exact hge
    have o1 : Nb * D3 ≤ 0 := Int.mul_nonpos_of_nonneg_of_nonpos (by omega) (by omega)
    omega
end Go.Proofs.YtpnfhienffekoaaGreatDoor
