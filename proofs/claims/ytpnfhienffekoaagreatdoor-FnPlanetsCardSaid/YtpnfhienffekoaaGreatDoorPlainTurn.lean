/- Plain laws: the table's sines and cosines lie on chords between whole degrees; the sine and the cosine of a sum, nearly. Nothing of the program is named here. -/
import Derived.Test.YtpnfhienffekoaaGreatDoorGrpPure
namespace Go.Proofs.YtpnfhienffekoaaGreatDoor
set_option linter.unusedVariables false
set_option linter.unusedSimpArgs false
theorem sinI_nrm (a : Int) : sinI (nrm a) = sinI a := by unfold sinI; rw [show nrm (nrm a) = nrm a by unfold nrm; omega]
theorem sinI_half (a : Int) : sinI (a + 180000) = -(sinI a) := by
  have hb := nrm_bd a
  unfold sinI
  by_cases h : nrm a < 180000
  · rw [show nrm (a + 180000) = nrm a + 180000 by unfold nrm at *; omega, sinN_hi (by omega), sinN_lo h, show nrm a + 180000 - 180000 = nrm a by omega]
  · rw [show nrm (a + 180000) = nrm a - 180000 by unfold nrm at *; omega, sinN_lo (by omega), sinN_hi (x := nrm a) (by omega)]; omega
theorem cosI_sin (a : Int) : cosI a = sinI (a + 90000) := by
  unfold cosI
  rw [← sinI_nrm (nrm a + 90000), ← sinI_nrm (a + 90000), show nrm (nrm a + 90000) = nrm (a + 90000) by unfold nrm; omega]
theorem sinI_quarter (a : Int) : sinI (a + 90000) = cosI a := (cosI_sin a).symm
theorem cosI_quarter (a : Int) : cosI (a + 90000) = -(sinI a) := by rw [cosI_sin, show a + 90000 + 90000 = a + 180000 by omega, sinI_half]
theorem sinI_turn (a : Int) (n : Int) : sinI (a + 360000 * n) = sinI a := by rw [← sinI_nrm, ← sinI_nrm a]; congr 1; unfold nrm; omega
theorem cosI_turn (a : Int) (n : Int) : cosI (a + 360000 * n) = cosI a := by rw [cosI_sin, cosI_sin, show a + 360000 * n + 90000 = a + 90000 + 360000 * n by omega, sinI_turn]
theorem sinI_neg (a : Int) : sinI (-a) = -(sinI a) := by
  have hb := nrm_bd a
  rw [← sinI_nrm a, ← sinI_nrm (-a)]
  have e : nrm (-a) = nrm (-(nrm a)) := by unfold nrm; omega
  rw [e]
  generalize nrm a = b at *
  by_cases h0 : b = 0
  · subst h0; decide +kernel
  · rw [nrm_neg b hb.1 hb.2, if_neg h0]
    unfold sinI
    by_cases h : b < 180000
    · rw [nrm_of (a := 360000 - b) (by omega) (by omega), nrm_of (a := b) (by omega) (by omega), sinN_hi (by omega), sinN_lo h, show 360000 - b - 180000 = 180000 - b by omega]
      by_cases h2 : b ≤ 90000
      · rw [sinH_hi (by omega), sinH_lo h2, show 180000 - (180000 - b) = b by omega]
      · rw [sinH_lo (by omega), sinH_hi (by omega)]
    · by_cases h1 : b = 180000
      · subst h1; decide +kernel
      · rw [nrm_of (a := 360000 - b) (by omega) (by omega), nrm_of (a := b) (by omega) (by omega), sinN_lo (by omega), sinN_hi (by omega), Int.neg_neg]
        by_cases h2 : b ≤ 270000
        · rw [sinH_hi (by omega), sinH_lo (by omega), show 180000 - (360000 - b) = b - 180000 by omega]
        · rw [sinH_lo (by omega), sinH_hi (by omega), show 180000 - (b - 180000) = 360000 - b by omega]
theorem cosI_neg (a : Int) : cosI (-a) = cosI a := by
  rw [cosI_sin, cosI_sin, show -a + 90000 = -(a - 90000) by omega, sinI_neg]
  have := sinI_half (a - 90000)
  rw [show a - 90000 + 180000 = a + 90000 by omega] at this
  omega
/-! whole degrees -/
def ct (j : Nat) : Int := if j ≤ 90 then sinAt (90 - j) else -(sinAt (j - 90))
def st (j : Nat) : Int := if j ≤ 90 then sinAt j else sinAt (180 - j)
theorem st_deg {j : Nat} (h : j ≤ 180) : sinI (1000 * (j : Int)) = st j := by
  unfold st
  by_cases e : j = 180
  · subst e; decide +kernel
  · unfold sinI
    rw [nrm_of (by omega) (by omega), sinN_lo (by omega)]
    split
    · rw [sinH_lo (by omega), sinQ_zero]
    · rw [sinH_hi (by omega), show (180000 : Int) - 1000 * (j : Int) = 1000 * ((180 - j : Nat) : Int) by omega, sinQ_zero]
theorem ct_deg {j : Nat} (h : j ≤ 180) : cosI (1000 * (j : Int)) = ct j := by
  rw [cosI_sin]
  unfold ct
  by_cases h1 : j ≤ 90
  · rw [if_pos h1, show 1000 * (j : Int) + 90000 = 1000 * ((j + 90 : Nat) : Int) by omega, st_deg (by omega)]
    unfold st
    by_cases h2 : j = 0
    · subst h2; rfl
    · rw [if_neg (by omega), show 180 - (j + 90) = 90 - j by omega]
  · rw [if_neg h1, show 1000 * (j : Int) + 90000 = 1000 * ((j - 90 : Nat) : Int) + 180000 by omega, sinI_half, st_deg (by omega)]
    unfold st
    rw [if_pos (by omega)]
/-- between two whole degrees -/
def ChS (k r e : Int) : Prop := 1000 * sinI (1000 * k + r) = (1000 - r) * sinI (1000 * k) + r * sinI (1000 * (k + 1)) + e ∧ -500 ≤ e ∧ e ≤ 500
theorem rnd_e (x : Int) : ∃ e, 1000 * rnd x 1000 = x + e ∧ -500 ≤ e ∧ e ≤ 500 := ⟨1000 * rnd x 1000 - x, by omega, by unfold rnd; split <;> omega, by unfold rnd; split <;> omega⟩
theorem chord_up {k : Nat} {r : Int} (hk : k < 90) (h0 : 0 ≤ r) (h1 : r < 1000) : ∃ e, ChS k r e := by
  obtain ⟨e, he, hb⟩ := rnd_e ((sinAt (k + 1) - sinAt k) * r)
  have e1 : sinI (1000 * (k : Int) + r) = sinAt k + rnd ((sinAt (k + 1) - sinAt k) * r) 1000 := by
    unfold sinI
    rw [nrm_of (by omega) (by omega), sinN_lo (by omega), sinH_lo (by omega), sinQ, show ((1000 * (k : Int) + r) / 1000).toNat = k by omega, show (1000 * (k : Int) + r) % 1000 = r by omega]
  have e2 : sinI (1000 * (k : Int)) = sinAt k := by rw [st_deg (by omega), st, if_pos (by omega)]
  have e3 : sinI (1000 * ((k : Int) + 1)) = sinAt (k + 1) := by rw [show (k : Int) + 1 = ((k + 1 : Nat) : Int) by omega, st_deg (by omega), st, if_pos (by omega)]
  refine ⟨e, ?_, hb⟩
  rw [e1, e2, e3, Int.mul_add, he]; grind
theorem chord_down {k : Nat} {r : Int} (hk : k < 90) (h0 : 0 ≤ r) (h1 : r < 1000) : ∃ e, ChS ((k : Int) + 90) r e := by
  have e2 : sinI (1000 * ((k : Int) + 90)) = sinAt (90 - k) := by
    rw [show (k : Int) + 90 = ((k + 90 : Nat) : Int) by omega, st_deg (by omega), st]
    split
    · obtain rfl : k = 0 := by omega
      rfl
    · rw [show 180 - (k + 90) = 90 - k by omega]
  have e3 : sinI (1000 * ((k : Int) + 90 + 1)) = sinAt (89 - k) := by
    rw [show (k : Int) + 90 + 1 = ((k + 91 : Nat) : Int) by omega, st_deg (by omega), st, if_neg (by omega), show 180 - (k + 91) = 89 - k by omega]
  by_cases hr : r = 0
  · subst hr
    refine ⟨0, ?_, by omega, by omega⟩
    rw [Int.add_zero]; grind
  · obtain ⟨e, he, hb⟩ := rnd_e ((sinAt (90 - k) - sinAt (89 - k)) * (1000 - r))
    have e1 : sinI (1000 * ((k : Int) + 90) + r) = sinAt (89 - k) + rnd ((sinAt (90 - k) - sinAt (89 - k)) * (1000 - r)) 1000 := by
      unfold sinI
      rw [nrm_of (by omega) (by omega), sinN_lo (by omega), sinH_hi (by omega), sinQ, show ((180000 - (1000 * ((k : Int) + 90) + r)) / 1000).toNat = 89 - k by omega, show (180000 - (1000 * ((k : Int) + 90) + r)) % 1000 = 1000 - r by omega, show 89 - k + 1 = 90 - k by omega]
    refine ⟨e, ?_, hb⟩
    rw [e1, e2, e3, Int.mul_add, he]; grind
theorem chord (k r : Int) (h0 : 0 ≤ r) (h1 : r < 1000) : ∃ e, ChS k r e := by
  have key : ∀ j : Int, 0 ≤ j → j < 180 → ∃ e, ChS j r e := fun j a b => by
    by_cases h : j < 90
    · obtain ⟨m, rfl⟩ : ∃ m : Nat, j = m := ⟨j.toNat, by omega⟩
      exact chord_up (by omega) h0 h1
    · obtain ⟨m, rfl⟩ : ∃ m : Nat, j = (m : Int) + 90 := ⟨(j - 90).toNat, by omega⟩
      exact chord_down (by omega) h0 h1
  have hs : ∀ j n x : Int, k = j + 360 * n → sinI (1000 * k + x) = sinI (1000 * j + x) := fun j n x hj => by rw [show 1000 * k + x = 1000 * j + x + 360000 * n by omega, sinI_turn]
  have hs0 : ∀ j n : Int, k = j + 360 * n → sinI (1000 * k) = sinI (1000 * j) := fun j n hj => by rw [show 1000 * k = 1000 * j + 360000 * n by omega, sinI_turn]
  have hs1 : ∀ j n : Int, k = j + 360 * n → sinI (1000 * (k + 1)) = sinI (1000 * (j + 1)) := fun j n hj => by rw [show 1000 * (k + 1) = 1000 * (j + 1) + 360000 * n by omega, sinI_turn]
  have hk : k = k % 360 + 360 * (k / 360) := by omega
  have hb : 0 ≤ k % 360 ∧ k % 360 < 360 := by omega
  unfold ChS
  rw [hs _ _ r hk, hs0 _ _ hk, hs1 _ _ hk]
  generalize k % 360 = j at *
  by_cases h : j < 180
  · exact key j hb.1 h
  · obtain ⟨e, he, h2, h3⟩ := key (j - 180) (by omega) (by omega)
    refine ⟨-e, ?_, by omega, by omega⟩
    have a1 := sinI_half (1000 * (j - 180) + r)
    have a2 := sinI_half (1000 * (j - 180))
    have a3 := sinI_half (1000 * (j - 180 + 1))
    rw [show 1000 * (j - 180) + r + 180000 = 1000 * j + r by omega] at a1
    rw [show 1000 * (j - 180) + 180000 = 1000 * j by omega] at a2
    rw [show 1000 * (j - 180 + 1) + 180000 = 1000 * (j + 1) by omega] at a3
    rw [a1, a2, a3]; grind
theorem chordC (k r : Int) (h0 : 0 ≤ r) (h1 : r < 1000) : ∃ e, 1000 * cosI (1000 * k + r) = (1000 - r) * cosI (1000 * k) + r * cosI (1000 * (k + 1)) + e ∧ -500 ≤ e ∧ e ≤ 500 := by
  obtain ⟨e, he, hb⟩ := chord (k + 90) r h0 h1
  refine ⟨e, ?_, hb⟩
  rw [cosI_sin, cosI_sin, cosI_sin, show 1000 * k + r + 90000 = 1000 * (k + 90) + r by omega, show 1000 * k + 90000 = 1000 * (k + 90) by omega, show 1000 * (k + 1) + 90000 = 1000 * (k + 90 + 1) by omega]
  exact he
/-! products of the table -/
def okP (i j : Nat) : Bool := decide (-1600000 ≤ ct i * ct j - st i * st j - 1000000 * ct (i + j)) && decide (ct i * ct j - st i * st j - 1000000 * ct (i + j) ≤ 1600000) && decide (-1600000 ≤ st i * ct j + ct i * st j - 1000000 * st (i + j)) && decide (st i * ct j + ct i * st j - 1000000 * st (i + j) ≤ 1600000)
theorem prod_all : (List.range 91).all (fun i => (List.range 91).all (okP i)) = true := by decide +kernel
theorem prod_at {i j : Nat} (hi : i ≤ 90) (hj : j ≤ 90) : (-1600000 ≤ ct i * ct j - st i * st j - 1000000 * ct (i + j) ∧ ct i * ct j - st i * st j - 1000000 * ct (i + j) ≤ 1600000) ∧ (-1600000 ≤ st i * ct j + ct i * st j - 1000000 * st (i + j) ∧ st i * ct j + ct i * st j - 1000000 * st (i + j) ≤ 1600000) := by
  have := List.all_eq_true.1 (List.all_eq_true.1 prod_all i (List.mem_range.2 (by omega))) j (List.mem_range.2 (by omega))
  simpa only [okP, Bool.and_eq_true, decide_eq_true_eq, and_assoc] using this
def okB (n : Nat) : Bool := decide (-306 ≤ ct n - 2 * ct (n + 1) + ct (n + 2)) && decide (ct n - 2 * ct (n + 1) + ct (n + 2) ≤ 306) && decide (-306 ≤ st n - 2 * st (n + 1) + st (n + 2)) && decide (st n - 2 * st (n + 1) + st (n + 2) ≤ 306)
theorem bend_all : (List.range 179).all okB = true := by decide +kernel
theorem bend_at {n : Nat} (h : n ≤ 178) : (-306 ≤ ct n - 2 * ct (n + 1) + ct (n + 2) ∧ ct n - 2 * ct (n + 1) + ct (n + 2) ≤ 306) ∧ (-306 ≤ st n - 2 * st (n + 1) + st (n + 2) ∧ st n - 2 * st (n + 1) + st (n + 2) ≤ 306) := by
  have := List.all_eq_true.1 bend_all n (List.mem_range.2 (by omega))
  simpa only [okB, Bool.and_eq_true, decide_eq_true_eq, and_assoc] using this
/-! the sum of two angles -/
theorem add_core (a0 a1 b0 b1 c0 c1 d0 d1 n0 n1 n2 r t X1 Y1 X2 Y2 e1 f1 e2 f2 Cp Sp Cq Sq : Int)
    (h1 : X1 = (1000 - r) * a0 + r * a1) (h2 : Y1 = (1000 - r) * b0 + r * b1) (h3 : X2 = (1000 - t) * c0 + t * c1) (h4 : Y2 = (1000 - t) * d0 + t * d1)
    (hp : 1000 * Cp = X1 + e1) (hs : 1000 * Sp = Y1 + f1) (hq : 1000 * Cq = X2 + e2) (hu : 1000 * Sq = Y2 + f2) :
    1000000 * (Cp * Cq - Sp * Sq) = 1000000 * ((1000 - r) * (1000 - t) * n0 + ((1000 - r) * t + r * (1000 - t)) * n1 + r * t * n2)
      + (1000 - r) * (1000 - t) * (a0 * c0 - b0 * d0 - 1000000 * n0) + (1000 - r) * t * (a0 * c1 - b0 * d1 - 1000000 * n1) + r * (1000 - t) * (a1 * c0 - b1 * d0 - 1000000 * n1) + r * t * (a1 * c1 - b1 * d1 - 1000000 * n2)
      + (e1 * X2 + e2 * X1 + e1 * e2 - f1 * Y2 - f2 * Y1 - f1 * f2) := by
  have e : 1000000 * (Cp * Cq - Sp * Sq) = (1000 * Cp) * (1000 * Cq) - (1000 * Sp) * (1000 * Sq) := by grind
  rw [e, hp, hs, hq, hu, h1, h2, h3, h4]; grind
theorem mul_in {a b A B : Int} (h1 : -A ≤ a ∧ a ≤ A) (h2 : -B ≤ b ∧ b ≤ B) : -(A * B) ≤ a * b ∧ a * b ≤ A * B := by
  have hA : 0 ≤ A := by omega
  have hB : 0 ≤ B := by omega
  have k1 : 0 ≤ (A - a) * (B + b) := Int.mul_nonneg (by omega) (by omega)
  have k2 : 0 ≤ (A + a) * (B - b) := Int.mul_nonneg (by omega) (by omega)
  have k3 : 0 ≤ (A - a) * (B - b) := Int.mul_nonneg (by omega) (by omega)
  have k4 : 0 ≤ (A + a) * (B + b) := Int.mul_nonneg (by omega) (by omega)
  constructor <;> grind
theorem add_bd {a0 a1 b0 b1 c0 c1 d0 d1 n0 n1 n2 r t X1 Y1 X2 Y2 e1 f1 e2 f2 Cp Sp Cq Sq Cu e3 : Int}
    (h1 : X1 = (1000 - r) * a0 + r * a1) (h2 : Y1 = (1000 - r) * b0 + r * b1) (h3 : X2 = (1000 - t) * c0 + t * c1) (h4 : Y2 = (1000 - t) * d0 + t * d1)
    (hp : 1000 * Cp = X1 + e1) (hs : 1000 * Sp = Y1 + f1) (hq : 1000 * Cq = X2 + e2) (hu : 1000 * Sq = Y2 + f2)
    (r0 : 0 ≤ r) (r1 : r < 1000) (t0 : 0 ≤ t) (t1 : t < 1000)
    (be1 : -500 ≤ e1 ∧ e1 ≤ 500) (bf1 : -500 ≤ f1 ∧ f1 ≤ 500) (be2 : -500 ≤ e2 ∧ e2 ≤ 500) (bf2 : -500 ≤ f2 ∧ f2 ≤ 500) (be3 : -500 ≤ e3 ∧ e3 ≤ 500)
    (bX1 : -1000000500 ≤ X1 ∧ X1 ≤ 1000000500) (bY1 : -1000000500 ≤ Y1 ∧ Y1 ≤ 1000000500) (bX2 : -1000000500 ≤ X2 ∧ X2 ≤ 1000000500) (bY2 : -1000000500 ≤ Y2 ∧ Y2 ≤ 1000000500)
    (k00 : -1600000 ≤ a0 * c0 - b0 * d0 - 1000000 * n0 ∧ a0 * c0 - b0 * d0 - 1000000 * n0 ≤ 1600000) (k01 : -1600000 ≤ a0 * c1 - b0 * d1 - 1000000 * n1 ∧ a0 * c1 - b0 * d1 - 1000000 * n1 ≤ 1600000)
    (k10 : -1600000 ≤ a1 * c0 - b1 * d0 - 1000000 * n1 ∧ a1 * c0 - b1 * d0 - 1000000 * n1 ≤ 1600000) (k11 : -1600000 ≤ a1 * c1 - b1 * d1 - 1000000 * n2 ∧ a1 * c1 - b1 * d1 - 1000000 * n2 ≤ 1600000)
    (kb : -306 ≤ n0 - 2 * n1 + n2 ∧ n0 - 2 * n1 + n2 ≤ 306)
    (hsum : (r + t < 1000 ∧ 1000 * Cu = (1000 - (r + t)) * n0 + (r + t) * n1 + e3) ∨ (1000 ≤ r + t ∧ 1000 * Cu = (1000 - (r + t - 1000)) * n1 + (r + t - 1000) * n2 + e3)) :
    -81000000 ≤ Cp * Cq - Sp * Sq - 1000000 * Cu ∧ Cp * Cq - Sp * Sq - 1000000 * Cu ≤ 81000000 := by
  have hc := add_core a0 a1 b0 b1 c0 c1 d0 d1 n0 n1 n2 r t X1 Y1 X2 Y2 e1 f1 e2 f2 Cp Sp Cq Sq h1 h2 h3 h4 hp hs hq hu
  generalize a0 * c0 - b0 * d0 - 1000000 * n0 = g00 at *
  generalize a0 * c1 - b0 * d1 - 1000000 * n1 = g01 at *
  generalize a1 * c0 - b1 * d0 - 1000000 * n1 = g10 at *
  generalize a1 * c1 - b1 * d1 - 1000000 * n2 = g11 at *
  have m1 := mul_in be1 bX2
  have m2 := mul_in be2 bX1
  have m3 := mul_in be1 be2
  have m4 := mul_in bf1 bY2
  have m5 := mul_in bf2 bY1
  have m6 := mul_in bf1 bf2
  -- the weights
  have w00 : 0 ≤ (1000 - r) * (1000 - t) := Int.mul_nonneg (by omega) (by omega)
  have w01 : 0 ≤ (1000 - r) * t := Int.mul_nonneg (by omega) (by omega)
  have w10 : 0 ≤ r * (1000 - t) := Int.mul_nonneg (by omega) (by omega)
  have w11 : 0 ≤ r * t := Int.mul_nonneg (by omega) (by omega)
  have ws : (1000 - r) * (1000 - t) + (1000 - r) * t + r * (1000 - t) + r * t = 1000000 := by grind
  have up : ∀ {W g : Int}, 0 ≤ W → (-1600000 ≤ g ∧ g ≤ 1600000) → -(W * 1600000) ≤ W * g ∧ W * g ≤ W * 1600000 := fun hW hg => by
    have a := Int.mul_le_mul_of_nonneg_left hg.1 hW
    have b := Int.mul_le_mul_of_nonneg_left hg.2 hW
    exact ⟨by rw [← Int.mul_neg]; exact a, b⟩
  have u00 := up w00 k00
  have u01 := up w01 k01
  have u10 := up w10 k10
  have u11 := up w11 k11
  have hq0 : 0 ≤ (r - t) * (r - t) := by
    rcases Int.le_total 0 (r - t) with h | h
    · exact Int.mul_nonneg h h
    · exact Int.mul_nonneg_of_nonpos_of_nonpos h h
  -- the bend
  have bend : ∀ {W : Int}, 0 ≤ W → W ≤ 250000 → -76500000 ≤ W * (n0 - 2 * n1 + n2) ∧ W * (n0 - 2 * n1 + n2) ≤ 76500000 := fun hW hW2 => by
    have := mul_in (a := _) (b := n0 - 2 * n1 + n2) (A := 250000) (B := 306) ⟨show -250000 ≤ _ by omega, hW2⟩ kb
    omega
  have hZ : ∃ V, (-76500000 ≤ V ∧ V ≤ 76500000) ∧ 1000000 * ((1000 - r) * (1000 - t) * n0 + ((1000 - r) * t + r * (1000 - t)) * n1 + r * t * n2) = 1000000 * V + 1000000000000 * Cu - 1000000000 * e3 := by
    rcases hsum with ⟨hlt, hCu⟩ | ⟨hge, hCu⟩
    · refine ⟨r * t * (n0 - 2 * n1 + n2), bend w11 ?_, ?_⟩
      · have : (r + t) * (r + t) ≤ 1000 * 1000 := Int.mul_le_mul (by omega) (by omega) (by omega) (by omega)
        have e : 4 * (r * t) = (r + t) * (r + t) - (r - t) * (r - t) := by grind
        omega
      · have e : 1000000000000 * Cu = 1000000000 * ((1000 - (r + t)) * n0 + (r + t) * n1 + e3) := by rw [← hCu]; omega
        rw [e]; grind
    · refine ⟨(1000 - r) * (1000 - t) * (n0 - 2 * n1 + n2), bend w00 ?_, ?_⟩
      · have : (2000 - (r + t)) * (2000 - (r + t)) ≤ 1000 * 1000 := Int.mul_le_mul (by omega) (by omega) (by omega) (by omega)
        have e : 4 * ((1000 - r) * (1000 - t)) = (2000 - (r + t)) * (2000 - (r + t)) - (r - t) * (r - t) := by grind
        omega
      · have e : 1000000000000 * Cu = 1000000000 * ((1000 - (r + t - 1000)) * n1 + (r + t - 1000) * n2 + e3) := by rw [← hCu]; omega
        rw [e]; grind
  obtain ⟨V, hV, hV2⟩ := hZ
  rw [hV2] at hc
  clear hV2 hsum h1 h2 h3 h4 hp hs hq hu up bend hq0
  generalize (1000 - r) * (1000 - t) * g00 = z0 at *
  generalize (1000 - r) * t * g01 = z1 at *
  generalize r * (1000 - t) * g10 = z2 at *
  generalize r * t * g11 = z3 at *
  generalize (1000 - r) * (1000 - t) = y0 at *
  generalize (1000 - r) * t = y1 at *
  generalize r * (1000 - t) = y2 at *
  generalize r * t = y3 at *
  generalize e1 * X2 = x1 at *
  generalize e2 * X1 = x2 at *
  generalize e1 * e2 = x3 at *
  generalize f1 * Y2 = x4 at *
  generalize f2 * Y1 = x5 at *
  generalize f1 * f2 = x6 at *
  generalize Cp * Cq - Sp * Sq = ZZ at *
  omega
/-- the angles p and q together, by the table -/
def AddOk (p q : Int) : Prop := (-81000000 ≤ cosI p * cosI q - sinI p * sinI q - 1000000 * cosI (p + q) ∧ cosI p * cosI q - sinI p * sinI q - 1000000 * cosI (p + q) ≤ 81000000) ∧ (-81000000 ≤ sinI p * cosI q + cosI p * sinI q - 1000000 * sinI (p + q) ∧ sinI p * cosI q + cosI p * sinI q - 1000000 * sinI (p + q) ≤ 81000000)
theorem add_base {k l : Nat} {r t : Int} (hk : k < 90) (hl : l < 90) (r0 : 0 ≤ r) (r1 : r < 1000) (t0 : 0 ≤ t) (t1 : t < 1000) : AddOk (1000 * (k : Int) + r) (1000 * (l : Int) + t) := by
  obtain ⟨e1, he1, be1⟩ := chordC k r r0 r1
  obtain ⟨f1, hf1, bf1⟩ := chord k r r0 r1
  obtain ⟨e2, he2, be2⟩ := chordC l t t0 t1
  obtain ⟨f2, hf2, bf2⟩ := chord l t t0 t1
  have bc1 := cosI_bd (1000 * (k : Int) + r)
  have bs1 := sinI_bd (1000 * (k : Int) + r)
  have bc2 := cosI_bd (1000 * (l : Int) + t)
  have bs2 := sinI_bd (1000 * (l : Int) + t)
  have hsC : ∃ e3, (-500 ≤ e3 ∧ e3 ≤ 500) ∧ ((r + t < 1000 ∧ 1000 * cosI (1000 * (k : Int) + r + (1000 * (l : Int) + t)) = (1000 - (r + t)) * ct (k + l) + (r + t) * ct (k + l + 1) + e3) ∨ (1000 ≤ r + t ∧ 1000 * cosI (1000 * (k : Int) + r + (1000 * (l : Int) + t)) = (1000 - (r + t - 1000)) * ct (k + l + 1) + (r + t - 1000) * ct (k + l + 2) + e3)) := by
    by_cases h : r + t < 1000
    · obtain ⟨e, he, hb⟩ := chordC ((k + l : Nat) : Int) (r + t) (by omega) h
      refine ⟨e, hb, .inl ⟨h, ?_⟩⟩
      rw [ct_deg (by omega), show (((k + l : Nat) : Int) + 1) = ((k + l + 1 : Nat) : Int) by omega, ct_deg (by omega)] at he
      rw [← he]; congr 2; omega
    · obtain ⟨e, he, hb⟩ := chordC ((k + l + 1 : Nat) : Int) (r + t - 1000) (by omega) (by omega)
      refine ⟨e, hb, .inr ⟨by omega, ?_⟩⟩
      rw [ct_deg (by omega), show (((k + l + 1 : Nat) : Int) + 1) = ((k + l + 2 : Nat) : Int) by omega, ct_deg (by omega)] at he
      rw [← he]; congr 2; omega
  have hsS : ∃ e3, (-500 ≤ e3 ∧ e3 ≤ 500) ∧ ((r + t < 1000 ∧ 1000 * sinI (1000 * (k : Int) + r + (1000 * (l : Int) + t)) = (1000 - (r + t)) * st (k + l) + (r + t) * st (k + l + 1) + e3) ∨ (1000 ≤ r + t ∧ 1000 * sinI (1000 * (k : Int) + r + (1000 * (l : Int) + t)) = (1000 - (r + t - 1000)) * st (k + l + 1) + (r + t - 1000) * st (k + l + 2) + e3)) := by
    by_cases h : r + t < 1000
    · obtain ⟨e, he, hb⟩ := chord ((k + l : Nat) : Int) (r + t) (by omega) h
      refine ⟨e, hb, .inl ⟨h, ?_⟩⟩
      rw [st_deg (by omega), show (((k + l : Nat) : Int) + 1) = ((k + l + 1 : Nat) : Int) by omega, st_deg (by omega)] at he
      rw [← he]; congr 2; omega
    · obtain ⟨e, he, hb⟩ := chord ((k + l + 1 : Nat) : Int) (r + t - 1000) (by omega) (by omega)
      refine ⟨e, hb, .inr ⟨by omega, ?_⟩⟩
      rw [st_deg (by omega), show (((k + l + 1 : Nat) : Int) + 1) = ((k + l + 2 : Nat) : Int) by omega, st_deg (by omega)] at he
      rw [← he]; congr 2; omega
  obtain ⟨e3, be3, hC⟩ := hsC
  obtain ⟨f3, bf3, hS⟩ := hsS
  have p00 := prod_at (i := k) (j := l) (by omega) (by omega)
  have p01 := prod_at (i := k) (j := l + 1) (by omega) (by omega)
  have p10 := prod_at (i := k + 1) (j := l) (by omega) (by omega)
  have p11 := prod_at (i := k + 1) (j := l + 1) (by omega) (by omega)
  rw [show k + 1 + l = k + l + 1 by omega] at p10
  rw [show k + (l + 1) = k + l + 1 by omega] at p01
  rw [show k + 1 + (l + 1) = k + l + 2 by omega] at p11
  have hb := bend_at (n := k + l) (by omega)
  rw [ct_deg (by omega), show (k : Int) + 1 = ((k + 1 : Nat) : Int) by omega, ct_deg (by omega)] at he1
  rw [st_deg (by omega), show (k : Int) + 1 = ((k + 1 : Nat) : Int) by omega, st_deg (by omega)] at hf1
  rw [ct_deg (by omega), show (l : Int) + 1 = ((l + 1 : Nat) : Int) by omega, ct_deg (by omega)] at he2
  rw [st_deg (by omega), show (l : Int) + 1 = ((l + 1 : Nat) : Int) by omega, st_deg (by omega)] at hf2
  refine ⟨add_bd (a0 := ct k) (a1 := ct (k + 1)) (b0 := st k) (b1 := st (k + 1)) (c0 := ct l) (c1 := ct (l + 1)) (d0 := st l) (d1 := st (l + 1)) (n0 := ct (k + l)) (n1 := ct (k + l + 1)) (n2 := ct (k + l + 2)) (r := r) (t := t) rfl rfl rfl rfl he1 hf1 he2 hf2 r0 r1 t0 t1 be1 bf1 be2 bf2 be3 (by omega) (by omega) (by omega) (by omega) p00.1 p01.1 p10.1 p11.1 hb.1 hC, ?_⟩
  have hm : 1000 * -(cosI (1000 * (k : Int) + r)) = -((1000 - r) * ct k + r * ct (k + 1)) + -e1 := by omega
  have := add_bd (a0 := st k) (a1 := st (k + 1)) (b0 := -(ct k)) (b1 := -(ct (k + 1))) (c0 := ct l) (c1 := ct (l + 1)) (d0 := st l) (d1 := st (l + 1)) (n0 := st (k + l)) (n1 := st (k + l + 1)) (n2 := st (k + l + 2)) (r := r) (t := t) (Y1 := -((1000 - r) * ct k + r * ct (k + 1))) rfl (by grind) rfl rfl hf1 hm he2 hf2 r0 r1 t0 t1 bf1 (by omega) be2 bf2 bf3 (by omega) (by omega) (by omega) (by omega) (by have := p00.2; grind) (by have := p01.2; grind) (by have := p10.2; grind) (by have := p11.2; grind) hb.2 hS
  have e : sinI (1000 * (k : Int) + r) * cosI (1000 * (l : Int) + t) - -(cosI (1000 * (k : Int) + r)) * sinI (1000 * (l : Int) + t) = sinI (1000 * (k : Int) + r) * cosI (1000 * (l : Int) + t) + cosI (1000 * (k : Int) + r) * sinI (1000 * (l : Int) + t) := by grind
  rw [e] at this
  exact this
theorem add_left {p q : Int} (h : AddOk p q) : AddOk (p + 90000) q := by
  obtain ⟨⟨h1, h2⟩, h3, h4⟩ := h
  unfold AddOk
  rw [show p + 90000 + q = p + q + 90000 by omega, cosI_quarter, sinI_quarter, cosI_quarter, sinI_quarter]
  have e1 : -(sinI p) * cosI q - cosI p * sinI q - 1000000 * -(sinI (p + q)) = -(sinI p * cosI q + cosI p * sinI q - 1000000 * sinI (p + q)) := by grind
  have e2 : cosI p * cosI q + -(sinI p) * sinI q - 1000000 * cosI (p + q) = cosI p * cosI q - sinI p * sinI q - 1000000 * cosI (p + q) := by grind
  rw [e1, e2]; omega
theorem add_symm {p q : Int} (h : AddOk p q) : AddOk q p := by
  obtain ⟨⟨h1, h2⟩, h3, h4⟩ := h
  unfold AddOk
  rw [show q + p = p + q by omega, Int.mul_comm (cosI q), Int.mul_comm (sinI q), Int.mul_comm (sinI q), Int.mul_comm (cosI q)]
  omega
theorem add_lefts {p q : Int} (h : AddOk p q) : ∀ n : Nat, AddOk (p + 90000 * n) q
  | 0 => by simpa using h
  | n + 1 => by
    have := add_left (add_lefts h n)
    rwa [show p + 90000 * (n : Int) + 90000 = p + 90000 * ((n + 1 : Nat) : Int) by omega] at this
/-- the sine and the cosine of a sum, nearly -/
theorem addOk (p q : Int) : AddOk p q := by
  have key : ∀ p q : Int, 0 ≤ p → 0 ≤ q → AddOk p q := fun p q hp hq => by
    obtain ⟨k, hk⟩ : ∃ k : Nat, p % 90000 / 1000 = k := ⟨(p % 90000 / 1000).toNat, by omega⟩
    obtain ⟨l, hl⟩ : ∃ l : Nat, q % 90000 / 1000 = l := ⟨(q % 90000 / 1000).toNat, by omega⟩
    have h0 := add_base (k := k) (l := l) (r := p % 1000) (t := q % 1000) (by omega) (by omega) (by omega) (by omega) (by omega) (by omega)
    have h1 := add_lefts h0 (p / 90000).toNat
    have h2 := add_lefts (add_symm h1) (q / 90000).toNat
    have e1 : 1000 * (k : Int) + p % 1000 + 90000 * ((p / 90000).toNat : Int) = p := by omega
    have e2 : 1000 * (l : Int) + q % 1000 + 90000 * ((q / 90000).toNat : Int) = q := by omega
    rw [e1, e2] at h2
    exact add_symm h2
  have h := key (nrm p) (nrm q) (nrm_bd p).1 (nrm_bd q).1
  unfold AddOk at h ⊢
  rw [cosI_nrm, cosI_nrm, sinI_nrm, sinI_nrm] at h
  have e1 : cosI (nrm p + nrm q) = cosI (p + q) := by rw [← cosI_nrm, ← cosI_nrm (p + q)]; congr 1; unfold nrm; omega
  have e2 : sinI (nrm p + nrm q) = sinI (p + q) := by rw [← sinI_nrm, ← sinI_nrm (p + q)]; congr 1; unfold nrm; omega
  rw [e1, e2] at h
  exact h
/-- the sine and the cosine together are nearly one -/
theorem norm_near (a : Int) : 999919000000 ≤ cosI a * cosI a + sinI a * sinI a ∧ cosI a * cosI a + sinI a * sinI a ≤ 1000081000000 := by
  have h := (addOk a (-a)).1
  rw [cosI_neg, sinI_neg, show a + -a = 0 by omega, show cosI 0 = 1000000 by decide +kernel] at h
  have e : cosI a * cosI a - sinI a * -(sinI a) = cosI a * cosI a + sinI a * sinI a := by grind
  rw [e] at h
  omega
end Go.Proofs.YtpnfhienffekoaaGreatDoor
