/- PlainTurn, PlainTri, PlainIm, PlainSep3, in one text. -/
import Derived.Test.YtpnfhienffekoaaGreatDoorGrpPure
namespace Go.Proofs.YtpnfhienffekoaaGreatDoor
set_option linter.unusedVariables false
set_option linter.unusedSimpArgs false
theorem sinI_nrm (a : Int) : sinI (nrm a) = sinI a := by unfold sinI; rw [show nrm (nrm a) = nrm a by unfold nrm; omega]
theorem sinI_half (a : Int) : sinI (a + 180000) = -(sinI a) := by
  have hb := nrm_bd a
  unfold sinI
  by_cases h : nrm a < 180000
  · rw [show nrm (a + 180000) = nrm a + 180000 by unfold nrm at *; omega, sinN_hi (by omega), sinN_lo h, show nrm a + 180000 - 180000 = nrm a by omega]
  · rw [show nrm (a + 180000) = nrm a - 180000 by unfold nrm at *; omega, sinN_lo (by omega), sinN_hi (x := nrm a) (by omega)]; omega
theorem cosI_sin (a : Int) : cosI a = sinI (a + 90000) := by
  unfold cosI
  rw [← sinI_nrm (nrm a + 90000), ← sinI_nrm (a + 90000), show nrm (nrm a + 90000) = nrm (a + 90000) by unfold nrm; omega]
theorem sinI_quarter (a : Int) : sinI (a + 90000) = cosI a := (cosI_sin a).symm
theorem cosI_quarter (a : Int) : cosI (a + 90000) = -(sinI a) := by rw [cosI_sin, show a + 90000 + 90000 = a + 180000 by omega, sinI_half]
theorem sinI_turn (a : Int) (n : Int) : sinI (a + 360000 * n) = sinI a := by rw [← sinI_nrm, ← sinI_nrm a]; congr 1; unfold nrm; omega
theorem cosI_turn (a : Int) (n : Int) : cosI (a + 360000 * n) = cosI a := by rw [cosI_sin, cosI_sin, show a + 360000 * n + 90000 = a + 90000 + 360000 * n by omega, sinI_turn]
theorem sinI_neg (a : Int) : sinI (-a) = -(sinI a) := by
  have hb := nrm_bd a
  rw [← sinI_nrm a, ← sinI_nrm (-a)]
  have e : nrm (-a) = nrm (-(nrm a)) := by unfold nrm; omega
  rw [e]
  generalize nrm a = b at *
  by_cases h0 : b = 0
  · subst h0; decide +kernel
  · rw [nrm_neg b hb.1 hb.2, if_neg h0]
    unfold sinI
    by_cases h : b < 180000
    · rw [nrm_of (a := 360000 - b) (by omega) (by omega), nrm_of (a := b) (by omega) (by omega), sinN_hi (by omega), sinN_lo h, show 360000 - b - 180000 = 180000 - b by omega]
      by_cases h2 : b ≤ 90000
      · rw [sinH_hi (by omega), sinH_lo h2, show 180000 - (180000 - b) = b by omega]
      · rw [sinH_lo (by omega), sinH_hi (by omega)]
    · by_cases h1 : b = 180000
      · subst h1; decide +kernel
      · rw [nrm_of (a := 360000 - b) (by omega) (by omega), nrm_of (a := b) (by omega) (by omega), sinN_lo (by omega), sinN_hi (by omega), Int.neg_neg]
        by_cases h2 : b ≤ 270000
        · rw [sinH_hi (by omega), sinH_lo (by omega), show 180000 - (360000 - b) = b - 180000 by omega]
        · rw [sinH_lo (by omega), sinH_hi (by omega), show 180000 - (b - 180000) = 360000 - b by omega]
theorem cosI_neg (a : Int) : cosI (-a) = cosI a := by
  rw [cosI_sin, cosI_sin, show -a + 90000 = -(a - 90000) by omega, sinI_neg]
  have := sinI_half (a - 90000)
  rw [show a - 90000 + 180000 = a + 90000 by omega] at this
  omega
/-! whole degrees -/
def ct (j : Nat) : Int := if j ≤ 90 then sinAt (90 - j) else -(sinAt (j - 90))
def st (j : Nat) : Int := if j ≤ 90 then sinAt j else sinAt (180 - j)
theorem st_deg {j : Nat} (h : j ≤ 180) : sinI (1000 * (j : Int)) = st j := by
  unfold st
  by_cases e : j = 180
  · subst e; decide +kernel
  · unfold sinI
    rw [nrm_of (by omega) (by omega), sinN_lo (by omega)]
    split
    · rw [sinH_lo (by omega), sinQ_zero]
    · rw [sinH_hi (by omega), show (180000 : Int) - 1000 * (j : Int) = 1000 * ((180 - j : Nat) : Int) by omega, sinQ_zero]
theorem ct_deg {j : Nat} (h : j ≤ 180) : cosI (1000 * (j : Int)) = ct j := by
  rw [cosI_sin]
  unfold ct
  by_cases h1 : j ≤ 90
  · rw [if_pos h1, show 1000 * (j : Int) + 90000 = 1000 * ((j + 90 : Nat) : Int) by omega, st_deg (by omega)]
    unfold st
    by_cases h2 : j = 0
    · subst h2; rfl
    · rw [if_neg (by omega), show 180 - (j + 90) = 90 - j by omega]
  · rw [if_neg h1, show 1000 * (j : Int) + 90000 = 1000 * ((j - 90 : Nat) : Int) + 180000 by omega, sinI_half, st_deg (by omega)]
    unfold st
    rw [if_pos (by omega)]
/-- between two whole degrees -/
def ChS (k r e : Int) : Prop := 1000 * sinI (1000 * k + r) = (1000 - r) * sinI (1000 * k) + r * sinI (1000 * (k + 1)) + e ∧ -500 ≤ e ∧ e ≤ 500
theorem rnd_e (x : Int) : ∃ e, 1000 * rnd x 1000 = x + e ∧ -500 ≤ e ∧ e ≤ 500 := ⟨1000 * rnd x 1000 - x, by omega, by unfold rnd; split <;> omega, by unfold rnd; split <;> omega⟩
theorem chord_up {k : Nat} {r : Int} (hk : k < 90) (h0 : 0 ≤ r) (h1 : r < 1000) : ∃ e, ChS k r e := by
  obtain ⟨e, he, hb⟩ := rnd_e ((sinAt (k + 1) - sinAt k) * r)
  have e1 : sinI (1000 * (k : Int) + r) = sinAt k + rnd ((sinAt (k + 1) - sinAt k) * r) 1000 := by
    unfold sinI
    rw [nrm_of (by omega) (by omega), sinN_lo (by omega), sinH_lo (by omega), sinQ, show ((1000 * (k : Int) + r) / 1000).toNat = k by omega, show (1000 * (k : Int) + r) % 1000 = r by omega]
  have e2 : sinI (1000 * (k : Int)) = sinAt k := by rw [st_deg (by omega), st, if_pos (by omega)]
  have e3 : sinI (1000 * ((k : Int) + 1)) = sinAt (k + 1) := by rw [show (k : Int) + 1 = ((k + 1 : Nat) : Int) by omega, st_deg (by omega), st, if_pos (by omega)]
  refine ⟨e, ?_, hb⟩
  rw [e1, e2, e3, Int.mul_add, he]; grind
theorem chord_down {k : Nat} {r : Int} (hk : k < 90) (h0 : 0 ≤ r) (h1 : r < 1000) : ∃ e, ChS ((k : Int) + 90) r e := by
  have e2 : sinI (1000 * ((k : Int) + 90)) = sinAt (90 - k) := by
    rw [show (k : Int) + 90 = ((k + 90 : Nat) : Int) by omega, st_deg (by omega), st]
    split
    · obtain rfl : k = 0 := by omega
      rfl
    · rw [show 180 - (k + 90) = 90 - k by omega]
  have e3 : sinI (1000 * ((k : Int) + 90 + 1)) = sinAt (89 - k) := by
    rw [show (k : Int) + 90 + 1 = ((k + 91 : Nat) : Int) by omega, st_deg (by omega), st, if_neg (by omega), show 180 - (k + 91) = 89 - k by omega]
  by_cases hr : r = 0
  · subst hr
    refine ⟨0, ?_, by omega, by omega⟩
    rw [Int.add_zero]; grind
  · obtain ⟨e, he, hb⟩ := rnd_e ((sinAt (90 - k) - sinAt (89 - k)) * (1000 - r))
    have e1 : sinI (1000 * ((k : Int) + 90) + r) = sinAt (89 - k) + rnd ((sinAt (90 - k) - sinAt (89 - k)) * (1000 - r)) 1000 := by
      unfold sinI
      rw [nrm_of (by omega) (by omega), sinN_lo (by omega), sinH_hi (by omega), sinQ, show ((180000 - (1000 * ((k : Int) + 90) + r)) / 1000).toNat = 89 - k by omega, show (180000 - (1000 * ((k : Int) + 90) + r)) % 1000 = 1000 - r by omega, show 89 - k + 1 = 90 - k by omega]
    refine ⟨e, ?_, hb⟩
    rw [e1, e2, e3, Int.mul_add, he]; grind
theorem chord (k r : Int) (h0 : 0 ≤ r) (h1 : r < 1000) : ∃ e, ChS k r e := by
  have key : ∀ j : Int, 0 ≤ j → j < 180 → ∃ e, ChS j r e := fun j a b => by
    by_cases h : j < 90
    · obtain ⟨m, rfl⟩ : ∃ m : Nat, j = m := ⟨j.toNat, by omega⟩
      exact chord_up (by omega) h0 h1
    · obtain ⟨m, rfl⟩ : ∃ m : Nat, j = (m : Int) + 90 := ⟨(j - 90).toNat, by omega⟩
      exact chord_down (by omega) h0 h1
  have hs : ∀ j n x : Int, k = j + 360 * n → sinI (1000 * k + x) = sinI (1000 * j + x) := fun j n x hj => by rw [show 1000 * k + x = 1000 * j + x + 360000 * n by omega, sinI_turn]
  have hs0 : ∀ j n : Int, k = j + 360 * n → sinI (1000 * k) = sinI (1000 * j) := fun j n hj => by rw [show 1000 * k = 1000 * j + 360000 * n by omega, sinI_turn]
  have hs1 : ∀ j n : Int, k = j + 360 * n → sinI (1000 * (k + 1)) = sinI (1000 * (j + 1)) := fun j n hj => by rw [show 1000 * (k + 1) = 1000 * (j + 1) + 360000 * n by omega, sinI_turn]
  have hk : k = k % 360 + 360 * (k / 360) := by omega
  have hb : 0 ≤ k % 360 ∧ k % 360 < 360 := by omega
  unfold ChS
  rw [hs _ _ r hk, hs0 _ _ hk, hs1 _ _ hk]
  generalize k % 360 = j at *
  by_cases h : j < 180
  · exact key j hb.1 h
  · obtain ⟨e, he, h2, h3⟩ := key (j - 180) (by omega) (by omega)
    refine ⟨-e, ?_, by omega, by omega⟩
    have a1 := sinI_half (1000 * (j - 180) + r)
    have a2 := sinI_half (1000 * (j - 180))
    have a3 := sinI_half (1000 * (j - 180 + 1))
    rw [show 1000 * (j - 180) + r + 180000 = 1000 * j + r by omega] at a1
    rw [show 1000 * (j - 180) + 180000 = 1000 * j by omega] at a2
    rw [show 1000 * (j - 180 + 1) + 180000 = 1000 * (j + 1) by omega] at a3
    rw [a1, a2, a3]; grind
theorem chordC (k r : Int) (h0 : 0 ≤ r) (h1 : r < 1000) : ∃ e, 1000 * cosI (1000 * k + r) = (1000 - r) * cosI (1000 * k) + r * cosI (1000 * (k + 1)) + e ∧ -500 ≤ e ∧ e ≤ 500 := by
  obtain ⟨e, he, hb⟩ := chord (k + 90) r h0 h1
  refine ⟨e, ?_, hb⟩
  rw [cosI_sin, cosI_sin, cosI_sin, show 1000 * k + r + 90000 = 1000 * (k + 90) + r by omega, show 1000 * k + 90000 = 1000 * (k + 90) by omega, show 1000 * (k + 1) + 90000 = 1000 * (k + 90 + 1) by omega]
  exact he
/-! products of the table -/
def okP (i j : Nat) : Bool := decide (-1600000 ≤ ct i * ct j - st i * st j - 1000000 * ct (i + j)) && decide (ct i * ct j - st i * st j - 1000000 * ct (i + j) ≤ 1600000) && decide (-1600000 ≤ st i * ct j + ct i * st j - 1000000 * st (i + j)) && decide (st i * ct j + ct i * st j - 1000000 * st (i + j) ≤ 1600000)
theorem prod_all : (List.range 91).all (fun i => (List.range 91).all (okP i)) = true := by decide +kernel
theorem prod_at {i j : Nat} (hi : i ≤ 90) (hj : j ≤ 90) : (-1600000 ≤ ct i * ct j - st i * st j - 1000000 * ct (i + j) ∧ ct i * ct j - st i * st j - 1000000 * ct (i + j) ≤ 1600000) ∧ (-1600000 ≤ st i * ct j + ct i * st j - 1000000 * st (i + j) ∧ st i * ct j + ct i * st j - 1000000 * st (i + j) ≤ 1600000) := by
  have := List.all_eq_true.1 (List.all_eq_true.1 prod_all i (List.mem_range.2 (by omega))) j (List.mem_range.2 (by omega))
  simpa only [okP, Bool.and_eq_true, decide_eq_true_eq, and_assoc] using this
def okB (n : Nat) : Bool := decide (-306 ≤ ct n - 2 * ct (n + 1) + ct (n + 2)) && decide (ct n - 2 * ct (n + 1) + ct (n + 2) ≤ 306) && decide (-306 ≤ st n - 2 * st (n + 1) + st (n + 2)) && decide (st n - 2 * st (n + 1) + st (n + 2) ≤ 306)
theorem bend_all : (List.range 179).all okB = true := by decide +kernel
theorem bend_at {n : Nat} (h : n ≤ 178) : (-306 ≤ ct n - 2 * ct (n + 1) + ct (n + 2) ∧ ct n - 2 * ct (n + 1) + ct (n + 2) ≤ 306) ∧ (-306 ≤ st n - 2 * st (n + 1) + st (n + 2) ∧ st n - 2 * st (n + 1) + st (n + 2) ≤ 306) := by
  have := List.all_eq_true.1 bend_all n (List.mem_range.2 (by omega))
  simpa only [okB, Bool.and_eq_true, decide_eq_true_eq, and_assoc] using this
/-! the sum of two angles -/
theorem add_core (a0 a1 b0 b1 c0 c1 d0 d1 n0 n1 n2 r t X1 Y1 X2 Y2 e1 f1 e2 f2 Cp Sp Cq Sq : Int)
    (h1 : X1 = (1000 - r) * a0 + r * a1) (h2 : Y1 = (1000 - r) * b0 + r * b1) (h3 : X2 = (1000 - t) * c0 + t * c1) (h4 : Y2 = (1000 - t) * d0 + t * d1)
    (hp : 1000 * Cp = X1 + e1) (hs : 1000 * Sp = Y1 + f1) (hq : 1000 * Cq = X2 + e2) (hu : 1000 * Sq = Y2 + f2) :
    1000000 * (Cp * Cq - Sp * Sq) = 1000000 * ((1000 - r) * (1000 - t) * n0 + ((1000 - r) * t + r * (1000 - t)) * n1 + r * t * n2)
      + (1000 - r) * (1000 - t) * (a0 * c0 - b0 * d0 - 1000000 * n0) + (1000 - r) * t * (a0 * c1 - b0 * d1 - 1000000 * n1) + r * (1000 - t) * (a1 * c0 - b1 * d0 - 1000000 * n1) + r * t * (a1 * c1 - b1 * d1 - 1000000 * n2)
      + (e1 * X2 + e2 * X1 + e1 * e2 - f1 * Y2 - f2 * Y1 - f1 * f2) := by
  have e : 1000000 * (Cp * Cq - Sp * Sq) = (1000 * Cp) * (1000 * Cq) - (1000 * Sp) * (1000 * Sq) := by grind
  rw [e, hp, hs, hq, hu, h1, h2, h3, h4]; grind
theorem mul_in {a b A B : Int} (h1 : -A ≤ a ∧ a ≤ A) (h2 : -B ≤ b ∧ b ≤ B) : -(A * B) ≤ a * b ∧ a * b ≤ A * B := by
  have hA : 0 ≤ A := by omega
  have hB : 0 ≤ B := by omega
  have k1 : 0 ≤ (A - a) * (B + b) := Int.mul_nonneg (by omega) (by omega)
  have k2 : 0 ≤ (A + a) * (B - b) := Int.mul_nonneg (by omega) (by omega)
  have k3 : 0 ≤ (A - a) * (B - b) := Int.mul_nonneg (by omega) (by omega)
  have k4 : 0 ≤ (A + a) * (B + b) := Int.mul_nonneg (by omega) (by omega)
  constructor <;> grind
theorem add_bd {a0 a1 b0 b1 c0 c1 d0 d1 n0 n1 n2 r t X1 Y1 X2 Y2 e1 f1 e2 f2 Cp Sp Cq Sq Cu e3 : Int}
    (h1 : X1 = (1000 - r) * a0 + r * a1) (h2 : Y1 = (1000 - r) * b0 + r * b1) (h3 : X2 = (1000 - t) * c0 + t * c1) (h4 : Y2 = (1000 - t) * d0 + t * d1)
    (hp : 1000 * Cp = X1 + e1) (hs : 1000 * Sp = Y1 + f1) (hq : 1000 * Cq = X2 + e2) (hu : 1000 * Sq = Y2 + f2)
    (r0 : 0 ≤ r) (r1 : r < 1000) (t0 : 0 ≤ t) (t1 : t < 1000)
    (be1 : -500 ≤ e1 ∧ e1 ≤ 500) (bf1 : -500 ≤ f1 ∧ f1 ≤ 500) (be2 : -500 ≤ e2 ∧ e2 ≤ 500) (bf2 : -500 ≤ f2 ∧ f2 ≤ 500) (be3 : -500 ≤ e3 ∧ e3 ≤ 500)
    (bX1 : -1000000500 ≤ X1 ∧ X1 ≤ 1000000500) (bY1 : -1000000500 ≤ Y1 ∧ Y1 ≤ 1000000500) (bX2 : -1000000500 ≤ X2 ∧ X2 ≤ 1000000500) (bY2 : -1000000500 ≤ Y2 ∧ Y2 ≤ 1000000500)
    (k00 : -1600000 ≤ a0 * c0 - b0 * d0 - 1000000 * n0 ∧ a0 * c0 - b0 * d0 - 1000000 * n0 ≤ 1600000) (k01 : -1600000 ≤ a0 * c1 - b0 * d1 - 1000000 * n1 ∧ a0 * c1 - b0 * d1 - 1000000 * n1 ≤ 1600000)
    (k10 : -1600000 ≤ a1 * c0 - b1 * d0 - 1000000 * n1 ∧ a1 * c0 - b1 * d0 - 1000000 * n1 ≤ 1600000) (k11 : -1600000 ≤ a1 * c1 - b1 * d1 - 1000000 * n2 ∧ a1 * c1 - b1 * d1 - 1000000 * n2 ≤ 1600000)
    (kb : -306 ≤ n0 - 2 * n1 + n2 ∧ n0 - 2 * n1 + n2 ≤ 306)
    (hsum : (r + t < 1000 ∧ 1000 * Cu = (1000 - (r + t)) * n0 + (r + t) * n1 + e3) ∨ (1000 ≤ r + t ∧ 1000 * Cu = (1000 - (r + t - 1000)) * n1 + (r + t - 1000) * n2 + e3)) :
    -81000000 ≤ Cp * Cq - Sp * Sq - 1000000 * Cu ∧ Cp * Cq - Sp * Sq - 1000000 * Cu ≤ 81000000 := by
  have hc := add_core a0 a1 b0 b1 c0 c1 d0 d1 n0 n1 n2 r t X1 Y1 X2 Y2 e1 f1 e2 f2 Cp Sp Cq Sq h1 h2 h3 h4 hp hs hq hu
  generalize a0 * c0 - b0 * d0 - 1000000 * n0 = g00 at *
  generalize a0 * c1 - b0 * d1 - 1000000 * n1 = g01 at *
  generalize a1 * c0 - b1 * d0 - 1000000 * n1 = g10 at *
  generalize a1 * c1 - b1 * d1 - 1000000 * n2 = g11 at *
  have m1 := mul_in be1 bX2
  have m2 := mul_in be2 bX1
  have m3 := mul_in be1 be2
  have m4 := mul_in bf1 bY2
  have m5 := mul_in bf2 bY1
  have m6 := mul_in bf1 bf2
  -- the weights
  have w00 : 0 ≤ (1000 - r) * (1000 - t) := Int.mul_nonneg (by omega) (by omega)
  have w01 : 0 ≤ (1000 - r) * t := Int.mul_nonneg (by omega) (by omega)
  have w10 : 0 ≤ r * (1000 - t) := Int.mul_nonneg (by omega) (by omega)
  have w11 : 0 ≤ r * t := Int.mul_nonneg (by omega) (by omega)
  have ws : (1000 - r) * (1000 - t) + (1000 - r) * t + r * (1000 - t) + r * t = 1000000 := by grind
  have up : ∀ {W g : Int}, 0 ≤ W → (-1600000 ≤ g ∧ g ≤ 1600000) → -(W * 1600000) ≤ W * g ∧ W * g ≤ W * 1600000 := fun hW hg => by
    have a := Int.mul_le_mul_of_nonneg_left hg.1 hW
    have b := Int.mul_le_mul_of_nonneg_left hg.2 hW
    exact ⟨by rw [← Int.mul_neg]; exact a, b⟩
  have u00 := up w00 k00
  have u01 := up w01 k01
  have u10 := up w10 k10
  have u11 := up w11 k11
  have hq0 : 0 ≤ (r - t) * (r - t) := by
    rcases Int.le_total 0 (r - t) with h | h
    · exact Int.mul_nonneg h h
    · exact Int.mul_nonneg_of_nonpos_of_nonpos h h
  -- the bend
  have bend : ∀ {W : Int}, 0 ≤ W → W ≤ 250000 → -76500000 ≤ W * (n0 - 2 * n1 + n2) ∧ W * (n0 - 2 * n1 + n2) ≤ 76500000 := fun hW hW2 => by
    have := mul_in (a := _) (b := n0 - 2 * n1 + n2) (A := 250000) (B := 306) ⟨show -250000 ≤ _ by omega, hW2⟩ kb
    omega
  have hZ : ∃ V, (-76500000 ≤ V ∧ V ≤ 76500000) ∧ 1000000 * ((1000 - r) * (1000 - t) * n0 + ((1000 - r) * t + r * (1000 - t)) * n1 + r * t * n2) = 1000000 * V + 1000000000000 * Cu - 1000000000 * e3 := by
    rcases hsum with ⟨hlt, hCu⟩ | ⟨hge, hCu⟩
    · refine ⟨r * t * (n0 - 2 * n1 + n2), bend w11 ?_, ?_⟩
      · have : (r + t) * (r + t) ≤ 1000 * 1000 := Int.mul_le_mul (by omega) (by omega) (by omega) (by omega)
        have e : 4 * (r * t) = (r + t) * (r + t) - (r - t) * (r - t) := by grind
        omega
      · have e : 1000000000000 * Cu = 1000000000 * ((1000 - (r + t)) * n0 + (r + t) * n1 + e3) := by rw [← hCu]; omega
        rw [e]; grind
    · refine ⟨(1000 - r) * (1000 - t) * (n0 - 2 * n1 + n2), bend w00 ?_, ?_⟩
      · have : (2000 - (r + t)) * (2000 - (r + t)) ≤ 1000 * 1000 := Int.mul_le_mul (by omega) (by omega) (by omega) (by omega)
        have e : 4 * ((1000 - r) * (1000 - t)) = (2000 - (r + t)) * (2000 - (r + t)) - (r - t) * (r - t) := by grind
        omega
      · have e : 1000000000000 * Cu = 1000000000 * ((1000 - (r + t - 1000)) * n1 + (r + t - 1000) * n2 + e3) := by rw [← hCu]; omega
        rw [e]; grind
  obtain ⟨V, hV, hV2⟩ := hZ
  rw [hV2] at hc
  clear hV2 hsum h1 h2 h3 h4 hp hs hq hu up bend hq0
  generalize (1000 - r) * (1000 - t) * g00 = z0 at *
  generalize (1000 - r) * t * g01 = z1 at *
  generalize r * (1000 - t) * g10 = z2 at *
  generalize r * t * g11 = z3 at *
  generalize (1000 - r) * (1000 - t) = y0 at *
  generalize (1000 - r) * t = y1 at *
  generalize r * (1000 - t) = y2 at *
  generalize r * t = y3 at *
  generalize e1 * X2 = x1 at *
  generalize e2 * X1 = x2 at *
  generalize e1 * e2 = x3 at *
  generalize f1 * Y2 = x4 at *
  generalize f2 * Y1 = x5 at *
  generalize f1 * f2 = x6 at *
  generalize Cp * Cq - Sp * Sq = ZZ at *
  omega
/-- the angles p and q together, by the table -/
def AddOk (p q : Int) : Prop := (-81000000 ≤ cosI p * cosI q - sinI p * sinI q - 1000000 * cosI (p + q) ∧ cosI p * cosI q - sinI p * sinI q - 1000000 * cosI (p + q) ≤ 81000000) ∧ (-81000000 ≤ sinI p * cosI q + cosI p * sinI q - 1000000 * sinI (p + q) ∧ sinI p * cosI q + cosI p * sinI q - 1000000 * sinI (p + q) ≤ 81000000)
theorem add_base {k l : Nat} {r t : Int} (hk : k < 90) (hl : l < 90) (r0 : 0 ≤ r) (r1 : r < 1000) (t0 : 0 ≤ t) (t1 : t < 1000) : AddOk (1000 * (k : Int) + r) (1000 * (l : Int) + t) := by
  obtain ⟨e1, he1, be1⟩ := chordC k r r0 r1
  obtain ⟨f1, hf1, bf1⟩ := chord k r r0 r1
  obtain ⟨e2, he2, be2⟩ := chordC l t t0 t1
  obtain ⟨f2, hf2, bf2⟩ := chord l t t0 t1
  have bc1 := cosI_bd (1000 * (k : Int) + r)
  have bs1 := sinI_bd (1000 * (k : Int) + r)
  have bc2 := cosI_bd (1000 * (l : Int) + t)
  have bs2 := sinI_bd (1000 * (l : Int) + t)
  have hsC : ∃ e3, (-500 ≤ e3 ∧ e3 ≤ 500) ∧ ((r + t < 1000 ∧ 1000 * cosI (1000 * (k : Int) + r + (1000 * (l : Int) + t)) = (1000 - (r + t)) * ct (k + l) + (r + t) * ct (k + l + 1) + e3) ∨ (1000 ≤ r + t ∧ 1000 * cosI (1000 * (k : Int) + r + (1000 * (l : Int) + t)) = (1000 - (r + t - 1000)) * ct (k + l + 1) + (r + t - 1000) * ct (k + l + 2) + e3)) := by
    by_cases h : r + t < 1000
    · obtain ⟨e, he, hb⟩ := chordC ((k + l : Nat) : Int) (r + t) (by omega) h
      refine ⟨e, hb, .inl ⟨h, ?_⟩⟩
      rw [ct_deg (by omega), show (((k + l : Nat) : Int) + 1) = ((k + l + 1 : Nat) : Int) by omega, ct_deg (by omega)] at he
      rw [← he]; congr 2; omega
    · obtain ⟨e, he, hb⟩ := chordC ((k + l + 1 : Nat) : Int) (r + t - 1000) (by omega) (by omega)
      refine ⟨e, hb, .inr ⟨by omega, ?_⟩⟩
      rw [ct_deg (by omega), show (((k + l + 1 : Nat) : Int) + 1) = ((k + l + 2 : Nat) : Int) by omega, ct_deg (by omega)] at he
      rw [← he]; congr 2; omega
  have hsS : ∃ e3, (-500 ≤ e3 ∧ e3 ≤ 500) ∧ ((r + t < 1000 ∧ 1000 * sinI (1000 * (k : Int) + r + (1000 * (l : Int) + t)) = (1000 - (r + t)) * st (k + l) + (r + t) * st (k + l + 1) + e3) ∨ (1000 ≤ r + t ∧ 1000 * sinI (1000 * (k : Int) + r + (1000 * (l : Int) + t)) = (1000 - (r + t - 1000)) * st (k + l + 1) + (r + t - 1000) * st (k + l + 2) + e3)) := by
    by_cases h : r + t < 1000
    · obtain ⟨e, he, hb⟩ := chord ((k + l : Nat) : Int) (r + t) (by omega) h
      refine ⟨e, hb, .inl ⟨h, ?_⟩⟩
      rw [st_deg (by omega), show (((k + l : Nat) : Int) + 1) = ((k + l + 1 : Nat) : Int) by omega, st_deg (by omega)] at he
      rw [← he]; congr 2; omega
    · obtain ⟨e, he, hb⟩ := chord ((k + l + 1 : Nat) : Int) (r + t - 1000) (by omega) (by omega)
      refine ⟨e, hb, .inr ⟨by omega, ?_⟩⟩
      rw [st_deg (by omega), show (((k + l + 1 : Nat) : Int) + 1) = ((k + l + 2 : Nat) : Int) by omega, st_deg (by omega)] at he
      rw [← he]; congr 2; omega
  obtain ⟨e3, be3, hC⟩ := hsC
  obtain ⟨f3, bf3, hS⟩ := hsS
  have p00 := prod_at (i := k) (j := l) (by omega) (by omega)
  have p01 := prod_at (i := k) (j := l + 1) (by omega) (by omega)
  have p10 := prod_at (i := k + 1) (j := l) (by omega) (by omega)
  have p11 := prod_at (i := k + 1) (j := l + 1) (by omega) (by omega)
  rw [show k + 1 + l = k + l + 1 by omega] at p10
  rw [show k + (l + 1) = k + l + 1 by omega] at p01
  rw [show k + 1 + (l + 1) = k + l + 2 by omega] at p11
  have hb := bend_at (n := k + l) (by omega)
  rw [ct_deg (by omega), show (k : Int) + 1 = ((k + 1 : Nat) : Int) by omega, ct_deg (by omega)] at he1
  rw [st_deg (by omega), show (k : Int) + 1 = ((k + 1 : Nat) : Int) by omega, st_deg (by omega)] at hf1
  rw [ct_deg (by omega), show (l : Int) + 1 = ((l + 1 : Nat) : Int) by omega, ct_deg (by omega)] at he2
  rw [st_deg (by omega), show (l : Int) + 1 = ((l + 1 : Nat) : Int) by omega, st_deg (by omega)] at hf2
  refine ⟨add_bd (a0 := ct k) (a1 := ct (k + 1)) (b0 := st k) (b1 := st (k + 1)) (c0 := ct l) (c1 := ct (l + 1)) (d0 := st l) (d1 := st (l + 1)) (n0 := ct (k + l)) (n1 := ct (k + l + 1)) (n2 := ct (k + l + 2)) (r := r) (t := t) rfl rfl rfl rfl he1 hf1 he2 hf2 r0 r1 t0 t1 be1 bf1 be2 bf2 be3 (by omega) (by omega) (by omega) (by omega) p00.1 p01.1 p10.1 p11.1 hb.1 hC, ?_⟩
  have hm : 1000 * -(cosI (1000 * (k : Int) + r)) = -((1000 - r) * ct k + r * ct (k + 1)) + -e1 := by omega
  have := add_bd (a0 := st k) (a1 := st (k + 1)) (b0 := -(ct k)) (b1 := -(ct (k + 1))) (c0 := ct l) (c1 := ct (l + 1)) (d0 := st l) (d1 := st (l + 1)) (n0 := st (k + l)) (n1 := st (k + l + 1)) (n2 := st (k + l + 2)) (r := r) (t := t) (Y1 := -((1000 - r) * ct k + r * ct (k + 1))) rfl (by grind) rfl rfl hf1 hm he2 hf2 r0 r1 t0 t1 bf1 (by omega) be2 bf2 bf3 (by omega) (by omega) (by omega) (by omega) (by have := p00.2; grind) (by have := p01.2; grind) (by have := p10.2; grind) (by have := p11.2; grind) hb.2 hS
  have e : sinI (1000 * (k : Int) + r) * cosI (1000 * (l : Int) + t) - -(cosI (1000 * (k : Int) + r)) * sinI (1000 * (l : Int) + t) = sinI (1000 * (k : Int) + r) * cosI (1000 * (l : Int) + t) + cosI (1000 * (k : Int) + r) * sinI (1000 * (l : Int) + t) := by grind
  rw [e] at this
  exact this
theorem add_left {p q : Int} (h : AddOk p q) : AddOk (p + 90000) q := by
  obtain ⟨⟨h1, h2⟩, h3, h4⟩ := h
  unfold AddOk
  rw [show p + 90000 + q = p + q + 90000 by omega, cosI_quarter, sinI_quarter, cosI_quarter, sinI_quarter]
  have e1 : -(sinI p) * cosI q - cosI p * sinI q - 1000000 * -(sinI (p + q)) = -(sinI p * cosI q + cosI p * sinI q - 1000000 * sinI (p + q)) := by grind
  have e2 : cosI p * cosI q + -(sinI p) * sinI q - 1000000 * cosI (p + q) = cosI p * cosI q - sinI p * sinI q - 1000000 * cosI (p + q) := by grind
  rw [e1, e2]; omega
theorem add_symm {p q : Int} (h : AddOk p q) : AddOk q p := by
  obtain ⟨⟨h1, h2⟩, h3, h4⟩ := h
  unfold AddOk
  rw [show q + p = p + q by omega, Int.mul_comm (cosI q), Int.mul_comm (sinI q), Int.mul_comm (sinI q), Int.mul_comm (cosI q)]
  omega
theorem add_lefts {p q : Int} (h : AddOk p q) : ∀ n : Nat, AddOk (p + 90000 * n) q
  | 0 => by simpa using h
  | n + 1 => by
    have := add_left (add_lefts h n)
    rwa [show p + 90000 * (n : Int) + 90000 = p + 90000 * ((n + 1 : Nat) : Int) by omega] at this
/-- the sine and the cosine of a sum, nearly -/
theorem addOk (p q : Int) : AddOk p q := by
  have key : ∀ p q : Int, 0 ≤ p → 0 ≤ q → AddOk p q := fun p q hp hq => by
    obtain ⟨k, hk⟩ : ∃ k : Nat, p % 90000 / 1000 = k := ⟨(p % 90000 / 1000).toNat, by omega⟩
    obtain ⟨l, hl⟩ : ∃ l : Nat, q % 90000 / 1000 = l := ⟨(q % 90000 / 1000).toNat, by omega⟩
    have h0 := add_base (k := k) (l := l) (r := p % 1000) (t := q % 1000) (by omega) (by omega) (by omega) (by omega) (by omega) (by omega)
    have h1 := add_lefts h0 (p / 90000).toNat
    have h2 := add_lefts (add_symm h1) (q / 90000).toNat
    have e1 : 1000 * (k : Int) + p % 1000 + 90000 * ((p / 90000).toNat : Int) = p := by omega
    have e2 : 1000 * (l : Int) + q % 1000 + 90000 * ((q / 90000).toNat : Int) = q := by omega
    rw [e1, e2] at h2
    exact add_symm h2
  have h := key (nrm p) (nrm q) (nrm_bd p).1 (nrm_bd q).1
  unfold AddOk at h ⊢
  rw [cosI_nrm, cosI_nrm, sinI_nrm, sinI_nrm] at h
  have e1 : cosI (nrm p + nrm q) = cosI (p + q) := by rw [← cosI_nrm, ← cosI_nrm (p + q)]; congr 1; unfold nrm; omega
  have e2 : sinI (nrm p + nrm q) = sinI (p + q) := by rw [← sinI_nrm, ← sinI_nrm (p + q)]; congr 1; unfold nrm; omega
  rw [e1, e2] at h
  exact h
/-- the sine and the cosine together are nearly one -/
theorem norm_near (a : Int) : 999919000000 ≤ cosI a * cosI a + sinI a * sinI a ∧ cosI a * cosI a + sinI a * sinI a ≤ 1000081000000 := by
  have h := (addOk a (-a)).1
  rw [cosI_neg, sinI_neg, show a + -a = 0 by omega, show cosI 0 = 1000000 by decide +kernel] at h
  have e : cosI a * cosI a - sinI a * -(sinI a) = cosI a * cosI a + sinI a * sinI a := by grind
  rw [e] at h
  omega
end Go.Proofs.YtpnfhienffekoaaGreatDoor
namespace Go.Proofs.YtpnfhienffekoaaGreatDoor
set_option linter.unusedVariables false
set_option linter.unusedSimpArgs false
theorem isqrt (n : Nat) : ∃ Y : Int, 0 ≤ Y ∧ Y * Y ≤ n ∧ (n : Int) < (Y + 1) * (Y + 1) := by
  induction n with
  | zero => exact ⟨0, by omega, by decide, by decide⟩
  | succ n ih =>
    obtain ⟨Y, h0, h1, h2⟩ := ih
    by_cases h : ((n + 1 : Nat) : Int) < (Y + 1) * (Y + 1)
    · exact ⟨Y, h0, by omega, h⟩
    · refine ⟨Y + 1, by omega, by omega, ?_⟩
      have e : (Y + 1 + 1) * (Y + 1 + 1) = (Y + 1) * (Y + 1) + 2 * Y + 3 := by grind
      omega
theorem sqrt_ex (S : Int) (h : 0 ≤ S) : ∃ Y : Int, 0 ≤ Y ∧ Y * Y ≤ S ∧ S < (Y + 1) * (Y + 1) := by
  obtain ⟨Y, hY⟩ := isqrt S.toNat
  rw [show ((S.toNat : Nat) : Int) = S by omega] at hY
  exact ⟨Y, hY⟩
theorem sq_nn (a : Int) : 0 ≤ a * a := by
  rcases Int.le_total 0 a with h | h
  · exact Int.mul_nonneg h h
  · exact Int.mul_nonneg_of_nonpos_of_nonpos h h
theorem sq_lt {a b : Int} (h0 : 0 ≤ b) (h : a * a ≤ b * b) : a ≤ b := by
  rcases Int.lt_or_le b a with hlt | hle
  · have := Int.mul_lt_mul_of_pos_left hlt (show 0 < a by omega)
    have h2 : b * b ≤ a * b := Int.mul_le_mul_of_nonneg_right (by omega) h0
    omega
  · exact hle
theorem sq_bd2 {a b : Int} (h0 : 0 ≤ b) (h : a * a ≤ b * b) : -b ≤ a ∧ a ≤ b := by
  refine ⟨?_, sq_lt h0 h⟩
  have := sq_lt (a := -a) h0 (by rw [Int.neg_mul_neg]; exact h)
  omega
/-- the contradiction: two points on one circle, of which one is before and behind the other -/
theorem tri_contra {A B U V : Int} (hB : 0 ≤ B) (hV : 0 ≤ V) (bU : -1100000000000000000000000 ≤ U ∧ U ≤ 1100000000000000000000000) (bV : V ≤ 1100000000000000000000000)
    (h1 : U - 4000000000000 ≤ A) (h2 : A * A + B * B ≤ U * U + V * V + 20000000000000000000000000000000000000) (h3 : U * U + V * V ≤ A * A + B * B + 20000000000000000000000000000000000000)
    (h4 : 18000000000000000000000000000000000000000000 ≤ B * U - A * V) : False := by
  by_cases hU : 0 ≤ U
  · have k1 : (U - 4000000000000) * V ≤ A * V := Int.mul_le_mul_of_nonneg_right h1 hV
    have e1 : (U - 4000000000000) * V = U * V - 4000000000000 * V := by grind
    have k2 : 16000000000000000000 ≤ B - V := by
      rcases Int.lt_or_le (B - V) 16000000000000000000 with hlt | hle
      · exfalso
        have k3 : (B - V) * U ≤ 16000000000000000000 * U := Int.mul_le_mul_of_nonneg_right (by omega) hU
        have e2 : (B - V) * U = B * U - U * V := by grind
        omega
      · exact hle
    have k4 : (V + 16000000000000000000) * (V + 16000000000000000000) ≤ B * B := Int.mul_le_mul (by omega) (by omega) (by omega) hB
    have e3 : (V + 16000000000000000000) * (V + 16000000000000000000) = V * V + 32000000000000000000 * V + 256000000000000000000000000000000000000 := by grind
    by_cases ht : 4000000000000 ≤ U
    · have k5 : (U - 4000000000000) * (U - 4000000000000) ≤ A * A := Int.mul_le_mul h1 h1 (by omega) (by omega)
      have e4 : (U - 4000000000000) * (U - 4000000000000) = U * U - 8000000000000 * U + 16000000000000000000000000 := by grind
      omega
    · have k5 := sq_nn A
      have k6 : U * U ≤ 4000000000000 * 4000000000000 := Int.mul_le_mul (by omega) (by omega) hU (by omega)
      omega
  · have kBU : B * U ≤ 0 := Int.mul_nonpos_of_nonneg_of_nonpos hB (by omega)
    have hA : A < 0 := by
      rcases Int.lt_or_le A 0 with h | h
      · exact h
      · have := Int.mul_nonneg h hV; omega
    have k1 : (U - 4000000000000) * V ≤ A * V := Int.mul_le_mul_of_nonneg_right h1 hV
    have e1 : (U - 4000000000000) * V = U * V - 4000000000000 * V := by grind
    have k2 : 16000000000000000000 ≤ V - B := by
      rcases Int.lt_or_le (V - B) 16000000000000000000 with hlt | hle
      · exfalso
        have k3 : (V - B) * (-U) ≤ 16000000000000000000 * (-U) := Int.mul_le_mul_of_nonneg_right (by omega) (by omega)
        have e2 : (V - B) * (-U) = B * U - U * V := by grind
        omega
      · exact hle
    have k4 : (B + 16000000000000000000) * (B + 16000000000000000000) ≤ V * V := Int.mul_le_mul (by omega) (by omega) (by omega) hV
    have e3 : (B + 16000000000000000000) * (B + 16000000000000000000) = B * B + 32000000000000000000 * B + 256000000000000000000000000000000000000 := by grind
    have k5 : (-A) * (-A) ≤ (4000000000000 - U) * (4000000000000 - U) := Int.mul_le_mul (by omega) (by omega) (by omega) (by omega)
    have e4 : (-A) * (-A) = A * A := Int.neg_mul_neg A A
    have e5 : (4000000000000 - U) * (4000000000000 - U) = U * U - 8000000000000 * U + 16000000000000000000000000 := by grind
    omega
/-- how two vectors' dot product and the root of their cross product's square stand to an angle of the table -/
structure Ang (D S p K Y : Int) : Prop where
  y0 : 0 ≤ Y
  lo : Y * Y ≤ S
  hi : S < (Y + 1) * (Y + 1)
  im : -K ≤ Y * cosI p - D * sinI p ∧ Y * cosI p - D * sinI p ≤ K
  re : 980000000000000000 ≤ D * cosI p + Y * sinI p
theorem turn_bd3 {a b c d : Int} (h1 : -1000000 ≤ a ∧ a ≤ 1000000) (h2 : -1000000 ≤ b ∧ b ≤ 1000000) (h3 : -81000000 ≤ c ∧ c ≤ 81000000) (h4 : -81000000 ≤ d ∧ d ≤ 81000000) : -162000000000000 ≤ a * c + b * d ∧ a * c + b * d ≤ 162000000000000 := by
  have m1 := mul_in (A := 1000000) (B := 81000000) h1 h3
  have m2 := mul_in (A := 1000000) (B := 81000000) h2 h4
  omega
/-- the product of three points of the table, turned back by two of them -/
theorem turn_three (p q g : Int) : ∃ X Y : Int, X = cosI g * (cosI p * cosI q - sinI p * sinI q) + sinI g * (sinI p * cosI q + cosI p * sinI q) ∧ Y = sinI g * (cosI p * cosI q - sinI p * sinI q) - cosI g * (sinI p * cosI q + cosI p * sinI q) ∧
    (-243000000000000 ≤ X - 1000000000000 * cosI (g - (p + q)) ∧ X - 1000000000000 * cosI (g - (p + q)) ≤ 243000000000000) ∧ (-243000000000000 ≤ Y - 1000000000000 * sinI (g - (p + q)) ∧ Y - 1000000000000 * sinI (g - (p + q)) ≤ 243000000000000) := by
  refine ⟨_, _, rfl, rfl, ?_⟩
  have h1 := addOk p q
  have h2 := addOk g (-(p + q))
  unfold AddOk at h1 h2
  rw [cosI_neg, sinI_neg, show g + -(p + q) = g - (p + q) by omega] at h2
  have bg1 := cosI_bd g
  have bg2 := sinI_bd g
  obtain ⟨⟨a1, a2⟩, a3, a4⟩ := h1
  obtain ⟨⟨c1, c2⟩, c3, c4⟩ := h2
  generalize cosI p * cosI q - sinI p * sinI q = Mr at *
  generalize sinI p * cosI q + cosI p * sinI q = Mi at *
  generalize cosI (p + q) = Ct at *
  generalize sinI (p + q) = St at *
  generalize cosI (g - (p + q)) = Cd at *
  generalize sinI (g - (p + q)) = Sd at *
  generalize cosI g = Cg at *
  generalize sinI g = Sg at *
  have t1 := turn_bd3 (a := Cg) (b := Sg) (c := Mr - 1000000 * Ct) (d := Mi - 1000000 * St) (by omega) (by omega) (by omega) (by omega)
  have t2 := turn_bd3 (a := Sg) (b := -Cg) (c := Mr - 1000000 * Ct) (d := Mi - 1000000 * St) (by omega) (by omega) (by omega) (by omega)
  have e1 : Cg * Mr + Sg * Mi - 1000000000000 * Cd = (Cg * (Mr - 1000000 * Ct) + Sg * (Mi - 1000000 * St)) + 1000000 * (Cg * Ct - Sg * -St - 1000000 * Cd) := by grind
  have e2 : Sg * Mr - Cg * Mi - 1000000000000 * Sd = (Sg * (Mr - 1000000 * Ct) + -Cg * (Mi - 1000000 * St)) + 1000000 * (Sg * Ct + Cg * -St - 1000000 * Sd) := by grind
  rw [e1, e2]
  omega
/-- the imaginary part of a product, when the angle stays -/
theorem im_lo {a1 b1 a2 b2 a3 b3 X Y K y0 : Int} (hK0 : 0 ≤ K) (hK : K ≤ 200000000000000) (ha1 : 980000000000000000 ≤ a1 ∧ a1 ≤ 1020000000000000000) (ha2 : 980000000000000000 ≤ a2 ∧ a2 ≤ 1020000000000000000) (ha3 : 980000000000000000 ≤ a3 ∧ a3 ≤ 1020000000000000000)
    (hb1 : -K ≤ b1 ∧ b1 ≤ K) (hb2 : -K ≤ b2 ∧ b2 ≤ K) (hb3 : -K ≤ b3 ∧ b3 ≤ K) (hX : -1010000000000000000 ≤ X ∧ X ≤ 1010000000000000000) (hY : y0 ≤ Y) (hy0 : 0 ≤ y0) :
    (94 * y0 - 318 * K) * 10000000000000000000000000000000000000000000000000000 ≤ (a3 * (a1 * a2 - b1 * b2) + b3 * (a1 * b2 + a2 * b1)) * Y + (b3 * (a1 * a2 - b1 * b2) - a3 * (a1 * b2 + a2 * b1)) * X := by
  have m1 : 980000000000000000 * 980000000000000000 ≤ a1 * a2 := Int.mul_le_mul ha1.1 ha2.1 (by omega) (by omega)
  have m2 : a1 * a2 ≤ 1020000000000000000 * 1020000000000000000 := Int.mul_le_mul ha1.2 ha2.2 (by omega) (by omega)
  have m3 := mul_in hb1 hb2
  have m4 : K * K ≤ 200000000000000 * 200000000000000 := Int.mul_le_mul hK hK hK0 (by omega)
  have m5 := mul_in (A := 1020000000000000000) (B := K) (a := a1) (b := b2) (by omega) hb2
  have m6 := mul_in (A := 1020000000000000000) (B := K) (a := a2) (b := b1) (by omega) hb1
  generalize hP : a1 * a2 - b1 * b2 = P at *
  generalize hQ : a1 * b2 + a2 * b1 = Q at *
  have bP : 960000000000000000000000000000000000 ≤ P ∧ P ≤ 1041000000000000000000000000000000000 := by omega
  have bQ : -(2040000000000000000 * K) ≤ Q ∧ Q ≤ 2040000000000000000 * K := by omega
  have bQ2 : -408000000000000000000000000000000 ≤ Q ∧ Q ≤ 408000000000000000000000000000000 := by omega
  clear hP hQ m1 m2 m3 m4 m5 m6
  have n1 : 980000000000000000 * 960000000000000000000000000000000000 ≤ a3 * P := Int.mul_le_mul ha3.1 bP.1 (by omega) (by omega)
  have n2 := mul_in (A := K) (B := 408000000000000000000000000000000) hb3 bQ2
  have n3 := mul_in (A := K) (B := 1041000000000000000000000000000000000) (b := P) hb3 (by omega)
  have n4 := mul_in (A := 1020000000000000000) (B := 2040000000000000000 * K) (a := a3) (b := Q) (by omega) bQ
  generalize hR : a3 * P + b3 * Q = R at *
  generalize hT : b3 * P - a3 * Q = T at *
  have bR : 940000000000000000000000000000000000000000000000000000 ≤ R := by omega
  have bT : -(3122000000000000000000000000000000000 * K) ≤ T ∧ T ≤ 3122000000000000000000000000000000000 * K := by omega
  clear hR hT n1 n2 n3 n4
  have o1 : 940000000000000000000000000000000000000000000000000000 * y0 ≤ R * Y := Int.mul_le_mul bR hY hy0 (by omega)
  have o2 := mul_in (A := 3122000000000000000000000000000000000 * K) (B := 1010000000000000000) bT hX
  generalize R * Y = RY at *
  generalize T * X = TX at *
  omega
theorem norm_id (D Y C S : Int) : (D * C + Y * S) * (D * C + Y * S) + (Y * C - D * S) * (Y * C - D * S) = (D * D + Y * Y) * (C * C + S * S) := by grind
theorem back_re (D Y C S : Int) : D * (C * C + S * S) = (D * C + Y * S) * C - (Y * C - D * S) * S := by grind
theorem prod_re (D1 Y1 D2 Y2 Cp Sp Cq Sq : Int) : (D1 * Cp + Y1 * Sp) * (D2 * Cq + Y2 * Sq) - (Y1 * Cp - D1 * Sp) * (Y2 * Cq - D2 * Sq) = (D1 * D2 - Y1 * Y2) * (Cp * Cq - Sp * Sq) + (D1 * Y2 + D2 * Y1) * (Sp * Cq + Cp * Sq) := by grind
theorem prod_im (D1 Y1 D2 Y2 Cp Sp Cq Sq : Int) : (D1 * Cp + Y1 * Sp) * (Y2 * Cq - D2 * Sq) + (D2 * Cq + Y2 * Sq) * (Y1 * Cp - D1 * Sp) = (D1 * Y2 + D2 * Y1) * (Cp * Cq - Sp * Sq) - (D1 * D2 - Y1 * Y2) * (Sp * Cq + Cp * Sq) := by grind
theorem norm_prod (Cp Sp Cq Sq : Int) : (Cp * Cq - Sp * Sq) * (Cp * Cq - Sp * Sq) + (Sp * Cq + Cp * Sq) * (Sp * Cq + Cp * Sq) = (Cp * Cp + Sp * Sp) * (Cq * Cq + Sq * Sq) := by grind
theorem three_im (D Y C S U V Mr Mi : Int) : ((D * C + Y * S) * (U * Mr + V * Mi) + (Y * C - D * S) * (V * Mr - U * Mi)) * (S * Mr - C * Mi) + ((Y * C - D * S) * (U * Mr + V * Mi) - (D * C + Y * S) * (V * Mr - U * Mi)) * (C * Mr + S * Mi) = (C * C + S * S) * (Mr * Mr + Mi * Mi) * (Y * U - D * V) := by grind
theorem back_v (U V Mr Mi : Int) : V * (Mr * Mr + Mi * Mi) = (U * Mr + V * Mi) * Mi + (V * Mr - U * Mi) * Mr := by grind
theorem back_u (U V Mr Mi : Int) : U * (Mr * Mr + Mi * Mi) = (U * Mr + V * Mi) * Mr - (V * Mr - U * Mi) * Mi := by grind
theorem pos_of_mul {n x : Int} (hn : 0 < n) (h : 0 < x * n) : 0 < x := by
  rcases Int.lt_or_le 0 x with h1 | h1
  · exact h1
  · have := Int.mul_nonpos_of_nonpos_of_nonneg h1 (Int.le_of_lt hn); omega
/-- what holds of a pair -/
theorem Ang.bounds {D S p K Y n1 n2 : Int} (h : Ang D S p K Y) (hK : 0 ≤ K ∧ K ≤ 200000000000000) (e : D * D + S = n1 * n2) (h1 : 999000000000 ≤ n1 ∧ n1 ≤ 1001000000000) (h2 : 999000000000 ≤ n2 ∧ n2 ≤ 1001000000000) :
    (-1001000000000 ≤ D ∧ D ≤ 1001000000000) ∧ Y ≤ 1001000000000 ∧ D * cosI p + Y * sinI p ≤ 1020000000000000000 ∧ D * D + Y * Y ≤ n1 * n2 ∧ n1 * n2 - 2100000000000 ≤ D * D + Y * Y := by
  have hn : n1 * n2 ≤ 1001000000000 * 1001000000000 := Int.mul_le_mul h1.2 h2.2 (by omega) (by omega)
  have hD := sq_nn D
  have hY := sq_nn Y
  have hlo := h.lo
  have hhi := h.hi
  have e2 : (Y + 1) * (Y + 1) = Y * Y + 2 * Y + 1 := by grind
  have bD := sq_bd2 (a := D) (b := 1001000000000) (by omega) (by omega)
  have bY := sq_bd2 (a := Y) (b := 1001000000000) (by omega) (by omega)
  refine ⟨bD, bY.2, ?_, by omega, by omega⟩
  have hi := norm_id D Y (cosI p) (sinI p)
  have hnp := norm_near p
  have hb := sq_nn (Y * cosI p - D * sinI p)
  have hm : (D * D + Y * Y) * (cosI p * cosI p + sinI p * sinI p) ≤ (1001000000000 * 1001000000000) * 1000081000000 := Int.mul_le_mul (by omega) hnp.2 (by omega) (by omega)
  have := sq_bd2 (a := D * cosI p + Y * sinI p) (b := 1020000000000000000) (by omega) (by omega)
  exact this.2
theorem sin_mid {s d : Int} (hs : 0 ≤ s) (hs2 : s ≤ 1000) (h1 : s ≤ d) (h2 : d ≤ 180000 - s) : sinI s ≤ sinI d := by
  have e : sinI s = cosI (90000 - s) := by
    rw [cosI_sin, show 90000 - s + 90000 = -s + 180000 by omega, sinI_half, sinI_neg]; omega
  by_cases h : d ≤ 90000
  · have e2 : sinI d = cosI (90000 - d) := by
      rw [cosI_sin, show 90000 - d + 90000 = -d + 180000 by omega, sinI_half, sinI_neg]; omega
    rw [e, e2]
    exact cosI_fall (by omega) (by omega) (by omega)
  · have e2 : sinI d = cosI (d - 90000) := by rw [cosI_sin]; congr 1; omega
    rw [e, e2]
    exact cosI_fall (by omega) (by omega) (by omega)
theorem cos_small {p : Int} (h0 : 0 ≤ p) (h1 : p ≤ 1000) : 999000 ≤ cosI p ∧ 0 ≤ sinI p ∧ sinI p ≤ 20000 := by
  have a := cosI_fall (a := p) (c := 1000) h0 h1 (by omega)
  have e1 : cosI 1000 = 999848 := by decide +kernel
  have e2 : sinI p = sinQ p := by unfold sinI; rw [nrm_of (by omega) (by omega), sinN_lo (by omega), sinH_lo (by omega)]
  have e3 := sinQ_mono (a := p) (c := 1000) h0 h1 (by omega)
  have e4 : sinQ 1000 = 17452 := by decide +kernel
  have e5 := sinQ_bd p h0 (by omega)
  omega
/-- an angle is not greater than the two others together -/
theorem triangle {D1 S1 D2 S2 D3 S3 Na Nb Nc p q g K s Y1 Y2 Y3 : Int} (hNa : 999000000000 ≤ Na ∧ Na ≤ 1001000000000) (hNb : 999000000000 ≤ Nb ∧ Nb ≤ 1001000000000) (hNc : 999000000000 ≤ Nc ∧ Nc ≤ 1001000000000)
    (e1 : D1 * D1 + S1 = Na * Nb) (e2 : D2 * D2 + S2 = Nb * Nc) (e3 : D3 * D3 + S3 = Na * Nc) (cs : (D1 * D2 - D3 * Nb) * (D1 * D2 - D3 * Nb) ≤ S1 * S2)
    (A1 : Ang D1 S1 p K Y1) (A2 : Ang D2 S2 q K Y2) (A3 : Ang D3 S3 g K Y3) (hK : 0 ≤ K ∧ K ≤ 200000000000000)
    (hp : 0 ≤ p) (hq : 0 ≤ q) (hg : g ≤ 180000) (hs : 0 ≤ s ∧ s ≤ 1000) (hc : 2000000000000000 ≤ 94 * (1000000000000 * sinI s - 243000000000000) - 318 * K) : g < p + q + s := by
  rcases Int.lt_or_le g (p + q + s) with hlt | hle
  · exact hlt
  exfalso
  obtain ⟨bD1, bY1, ba1, f1a, f1b⟩ := A1.bounds hK e1 hNa hNb
  obtain ⟨bD2, bY2, ba2, f2a, f2b⟩ := A2.bounds hK e2 hNb hNc
  obtain ⟨bD3, bY3, ba3, f3a, f3b⟩ := A3.bounds hK e3 hNa hNc
  have y1 := A1.y0
  have y2 := A2.y0
  have y3 := A3.y0
  -- the first inequality: by Cauchy
  have i1 : D1 * D2 - Y1 * Y2 - 4000000000000 ≤ Nb * D3 := by
    have h0 : S1 * S2 ≤ ((Y1 + 1) * (Y1 + 1)) * ((Y2 + 1) * (Y2 + 1)) := by
      have hs1 : 0 ≤ S1 := by have := A1.lo; have := sq_nn Y1; omega
      have hs2 : 0 ≤ S2 := by have := A2.lo; have := sq_nn Y2; omega
      exact Int.mul_le_mul (Int.le_of_lt A1.hi) (Int.le_of_lt A2.hi) hs2 (sq_nn _)
    have h1 : ((Y1 + 1) * (Y1 + 1)) * ((Y2 + 1) * (Y2 + 1)) = ((Y1 + 1) * (Y2 + 1)) * ((Y1 + 1) * (Y2 + 1)) := by grind
    have h2 := sq_lt (a := D1 * D2 - D3 * Nb) (b := (Y1 + 1) * (Y2 + 1)) (Int.mul_nonneg (by omega) (by omega)) (by omega)
    have h3 : (Y1 + 1) * (Y2 + 1) = Y1 * Y2 + Y1 + Y2 + 1 := by grind
    have h4 : D3 * Nb = Nb * D3 := Int.mul_comm _ _
    omega
  -- the circle
  have i2 : (Nb * D3) * (Nb * D3) + (Nb * Y3) * (Nb * Y3) = Nb * Nb * (D3 * D3 + Y3 * Y3) := by grind
  have i3 : (D1 * D2 - Y1 * Y2) * (D1 * D2 - Y1 * Y2) + (D1 * Y2 + D2 * Y1) * (D1 * Y2 + D2 * Y1) = (D1 * D1 + Y1 * Y1) * (D2 * D2 + Y2 * Y2) := by grind
  have hNN : 0 ≤ Nb * Nb ∧ Nb * Nb ≤ 1001000000000 * 1001000000000 := ⟨sq_nn _, Int.mul_le_mul hNb.2 hNb.2 (by omega) (by omega)⟩
  have hAB : 0 ≤ Na * Nb ∧ Na * Nb ≤ 1001000000000 * 1001000000000 := ⟨Int.mul_nonneg (by omega) (by omega), Int.mul_le_mul hNa.2 hNb.2 (by omega) (by omega)⟩
  have hBC : 0 ≤ Nb * Nc ∧ Nb * Nc ≤ 1001000000000 * 1001000000000 := ⟨Int.mul_nonneg (by omega) (by omega), Int.mul_le_mul hNb.2 hNc.2 (by omega) (by omega)⟩
  have i4 : Nb * Nb * (D3 * D3 + Y3 * Y3) - (D1 * D1 + Y1 * Y1) * (D2 * D2 + Y2 * Y2) = (Na * Nb - (D1 * D1 + Y1 * Y1)) * (Nb * Nc) + (Na * Nb) * (Nb * Nc - (D2 * D2 + Y2 * Y2)) - (Na * Nb - (D1 * D1 + Y1 * Y1)) * (Nb * Nc - (D2 * D2 + Y2 * Y2)) - Nb * Nb * (Na * Nc - (D3 * D3 + Y3 * Y3)) := by grind
  have c1 : 0 ≤ (Na * Nb - (D1 * D1 + Y1 * Y1)) * (Nb * Nc) ∧ (Na * Nb - (D1 * D1 + Y1 * Y1)) * (Nb * Nc) ≤ 2100000000000 * (1001000000000 * 1001000000000) := ⟨Int.mul_nonneg (by omega) hBC.1, Int.mul_le_mul (by omega) hBC.2 hBC.1 (by omega)⟩
  have c2 : 0 ≤ (Na * Nb) * (Nb * Nc - (D2 * D2 + Y2 * Y2)) ∧ (Na * Nb) * (Nb * Nc - (D2 * D2 + Y2 * Y2)) ≤ (1001000000000 * 1001000000000) * 2100000000000 := ⟨Int.mul_nonneg hAB.1 (by omega), Int.mul_le_mul hAB.2 (by omega) (by omega) (by omega)⟩
  have c3 : 0 ≤ (Na * Nb - (D1 * D1 + Y1 * Y1)) * (Nb * Nc - (D2 * D2 + Y2 * Y2)) ∧ (Na * Nb - (D1 * D1 + Y1 * Y1)) * (Nb * Nc - (D2 * D2 + Y2 * Y2)) ≤ 2100000000000 * 2100000000000 := ⟨Int.mul_nonneg (by omega) (by omega), Int.mul_le_mul (by omega) (by omega) (by omega) (by omega)⟩
  have c4 : 0 ≤ Nb * Nb * (Na * Nc - (D3 * D3 + Y3 * Y3)) ∧ Nb * Nb * (Na * Nc - (D3 * D3 + Y3 * Y3)) ≤ (1001000000000 * 1001000000000) * 2100000000000 := ⟨Int.mul_nonneg hNN.1 (by omega), Int.mul_le_mul hNN.2 (by omega) (by omega) (by omega)⟩
  have i5 : (D1 * D1 + Y1 * Y1) * (D2 * D2 + Y2 * Y2) ≤ (1001000000000 * 1001000000000) * (1001000000000 * 1001000000000) := Int.mul_le_mul (by omega) (by omega) (by have := sq_nn D2; have := sq_nn Y2; omega) (by omega)
  clear e1 e2 e3 cs f1a f1b f2a f2b f3a f3b
  generalize hz1 : (Na * Nb - (D1 * D1 + Y1 * Y1)) * (Nb * Nc) = z1 at *
  generalize hz2 : (Na * Nb) * (Nb * Nc - (D2 * D2 + Y2 * Y2)) = z2 at *
  generalize hz3 : (Na * Nb - (D1 * D1 + Y1 * Y1)) * (Nb * Nc - (D2 * D2 + Y2 * Y2)) = z3 at *
  generalize hz4 : Nb * Nb * (Na * Nc - (D3 * D3 + Y3 * Y3)) = z4 at *
  clear hz1 hz2 hz3 hz4
  rw [← i2, ← i3] at i4
  rw [← i3] at i5
  clear i2 i3
  -- turned back by the table
  have hA1 : 980000000000000000 ≤ D1 * cosI p + Y1 * sinI p ∧ D1 * cosI p + Y1 * sinI p ≤ 1020000000000000000 := ⟨A1.re, ba1⟩
  have hA2 : 980000000000000000 ≤ D2 * cosI q + Y2 * sinI q ∧ D2 * cosI q + Y2 * sinI q ≤ 1020000000000000000 := ⟨A2.re, ba2⟩
  have hA3 : 980000000000000000 ≤ D3 * cosI g + Y3 * sinI g ∧ D3 * cosI g + Y3 * sinI g ≤ 1020000000000000000 := ⟨A3.re, ba3⟩
  have hB1 := A1.im
  have hB2 := A2.im
  have hB3 := A3.im
  clear A1 A2 A3 ba1 ba2 ba3
  have np := norm_near p
  have nq := norm_near q
  have ng := norm_near g
  obtain ⟨X, Y, hX, hY, bX, bY⟩ := turn_three p q g
  have hP := prod_re D1 Y1 D2 Y2 (cosI p) (sinI p) (cosI q) (sinI q)
  have hQ := prod_im D1 Y1 D2 Y2 (cosI p) (sinI p) (cosI q) (sinI q)
  have hM := norm_prod (cosI p) (sinI p) (cosI q) (sinI q)
  have hT := three_im D3 Y3 (cosI g) (sinI g) (D1 * D2 - Y1 * Y2) (D1 * Y2 + D2 * Y1) (cosI p * cosI q - sinI p * sinI q) (sinI p * cosI q + cosI p * sinI q)
  have hV := back_v (D1 * D2 - Y1 * Y2) (D1 * Y2 + D2 * Y1) (cosI p * cosI q - sinI p * sinI q) (sinI p * cosI q + cosI p * sinI q)
  have hU := back_u (D1 * D2 - Y1 * Y2) (D1 * Y2 + D2 * Y1) (cosI p * cosI q - sinI p * sinI q) (sinI p * cosI q + cosI p * sinI q)
  have hadd := addOk p q
  unfold AddOk at hadd
  obtain ⟨⟨u1, u2⟩, u3, u4⟩ := hadd
  rw [← hX, ← hY, ← hP, ← hQ, hM] at hT
  rw [← hP, ← hQ, hM] at hV hU
  have mpq : 999000000000 * 999000000000 ≤ (cosI p * cosI p + sinI p * sinI p) * (cosI q * cosI q + sinI q * sinI q) ∧ (cosI p * cosI p + sinI p * sinI p) * (cosI q * cosI q + sinI q * sinI q) ≤ 1000081000000 * 1000081000000 := ⟨Int.mul_le_mul (by omega) (by omega) (by omega) (by omega), Int.mul_le_mul np.2 nq.2 (by omega) (by omega)⟩
  have bMi := sq_bd2 (a := sinI p * cosI q + cosI p * sinI q) (b := 1010000000000) (by omega) (by have := sq_nn (cosI p * cosI q - sinI p * sinI q); omega)
  have bMr := sq_bd2 (a := cosI p * cosI q - sinI p * sinI q) (b := 1010000000000) (by omega) (by have := sq_nn (sinI p * cosI q + cosI p * sinI q); omega)
  have bU := sq_bd2 (a := D1 * D2 - Y1 * Y2) (b := 1100000000000000000000000) (by omega) (by have := sq_nn (D1 * Y2 + D2 * Y1); omega)
  have bV := sq_bd2 (a := D1 * Y2 + D2 * Y1) (b := 1100000000000000000000000) (by omega) (by have := sq_nn (D1 * D2 - Y1 * Y2); omega)
  have bk1 := back_re D1 Y1 (cosI p) (sinI p)
  have bk2 := back_re D2 Y2 (cosI q) (sinI q)
  have bk3 := back_re D3 Y3 (cosI g) (sinI g)
  have hMM := hM
  rw [hMM] at *
  clear hMM hM hP hQ
  have mcos := cos_small (p := p)
  have mcosq := cos_small (p := q)
  have mcost := cos_small (p := p + q)
  have mcosg := cos_small (p := 180000 - g)
  have msint := fun h1 h2 => sin_mid hs.1 hs.2 (d := p + q) h1 h2
  have msind := fun h1 h2 => sin_mid hs.1 hs.2 (d := g - (p + q)) h1 h2
  have ecg : cosI (180000 - g) = -(cosI g) := by
    rw [show 180000 - g = -(g - 180000) by omega, cosI_neg, cosI_sin, cosI_sin g, show g + 90000 = g - 180000 + 90000 + 180000 by omega, sinI_half]; omega
  have esg : sinI (180000 - g) = sinI g := by
    rw [show 180000 - g = -g + 180000 by omega, sinI_half, sinI_neg]; omega
  rw [ecg, esg] at mcosg
  have bcd := cosI_bd (g - (p + q))
  have bct := cosI_bd (p + q)
  have bsg := sinI_bd g
  clear ecg esg
  -- names
  generalize hnp : cosI p * cosI p + sinI p * sinI p = n1 at *
  generalize hnq : cosI q * cosI q + sinI q * sinI q = n2 at *
  generalize hng : cosI g * cosI g + sinI g * sinI g = n3 at *
  generalize ha1 : D1 * cosI p + Y1 * sinI p = a1 at *
  generalize hb1 : Y1 * cosI p - D1 * sinI p = b1 at *
  generalize ha2 : D2 * cosI q + Y2 * sinI q = a2 at *
  generalize hb2 : Y2 * cosI q - D2 * sinI q = b2 at *
  generalize ha3 : D3 * cosI g + Y3 * sinI g = a3 at *
  generalize hb3 : Y3 * cosI g - D3 * sinI g = b3 at *
  generalize hMr : cosI p * cosI q - sinI p * sinI q = Mr at *
  generalize hMi : sinI p * cosI q + cosI p * sinI q = Mi at *
  generalize hUU : D1 * D2 - Y1 * Y2 = U at *
  generalize hVV : D1 * Y2 + D2 * Y1 = V at *
  clear hnp hnq hng ha1 hb1 ha2 hb2 ha3 hb3 hMr hMi hX hY
  generalize cosI p = Cp at *
  generalize sinI p = Sp at *
  generalize cosI q = Cq at *
  generalize sinI q = Sq at *
  generalize cosI g = Cg at *
  generalize sinI g = Sg at *
  generalize cosI (p + q) = Ct at *
  generalize sinI (p + q) = St at *
  generalize cosI (g - (p + q)) = Cd at *
  generalize sinI (g - (p + q)) = Sd at *
  generalize sinI s = Ss at *
  -- the product of the first two, turned back
  have m1 : 980000000000000000 * 980000000000000000 ≤ a1 * a2 := Int.mul_le_mul hA1.1 hA2.1 (by omega) (by omega)
  have m3 := mul_in hB1 hB2
  have m4 : K * K ≤ 200000000000000 * 200000000000000 := Int.mul_le_mul hK.2 hK.2 hK.1 (by omega)
  have m5 := mul_in (A := 1020000000000000000) (B := K) (a := a1) (b := b2) (by omega) hB2
  have m6 := mul_in (A := 1020000000000000000) (B := K) (a := a2) (b := b1) (by omega) hB1
  have bP : 960000000000000000000000000000000000 ≤ a1 * a2 - b1 * b2 := by omega
  have bQ : -(2040000000000000000 * K) ≤ a1 * b2 + a2 * b1 ∧ a1 * b2 + a2 * b1 ≤ 2040000000000000000 * K := by omega
  have hmul : 0 < n1 * n2 := by omega
  -- the imaginary part of the product is not negative
  have hVp : 0 ≤ V := by
    by_cases ht : s ≤ p + q
    · have hSt := msint ht (by omega)
      have o1 : 960000000000000000000000000000000000 * (162000000 + (3383 * K) / 1000000000) ≤ (a1 * a2 - b1 * b2) * Mi := Int.mul_le_mul bP (by omega) (by omega) (by omega)
      have o2 := mul_in (A := 2040000000000000000 * K) (B := 1010000000000) bQ bMr
      refine Int.le_of_lt (pos_of_mul hmul ?_)
      rw [hV]
      omega
    · have k1 := mcos hp (by omega)
      have k2 := mcosq hq (by omega)
      have d1 : 0 ≤ D1 := by
        refine Int.le_of_lt (pos_of_mul (n := n1) (by omega) ?_)
        rw [bk1]
        have o1 : 980000000000000000 * 999000 ≤ a1 * Cp := Int.mul_le_mul hA1.1 k1.1 (by omega) (by omega)
        have o2 := mul_in (A := 200000000000000) (B := 20000) (a := b1) (b := Sp) (by omega) (by omega)
        omega
      have d2 : 0 ≤ D2 := by
        refine Int.le_of_lt (pos_of_mul (n := n2) (by omega) ?_)
        rw [bk2]
        have o1 : 980000000000000000 * 999000 ≤ a2 * Cq := Int.mul_le_mul hA2.1 k2.1 (by omega) (by omega)
        have o2 := mul_in (A := 200000000000000) (B := 20000) (a := b2) (b := Sq) (by omega) (by omega)
        omega
      have o1 := Int.mul_nonneg d1 y2
      have o2 := Int.mul_nonneg d2 y1
      omega
  by_cases hd : g - (p + q) ≤ 180000 - s
  · -- the third is behind the first two
    have hSd := msind (by omega) hd
    have hlow := im_lo (y0 := 1000000000000 * Ss - 243000000000000) hK.1 hK.2 hA1 hA2 hA3 hB1 hB2 hB3 (X := X) (Y := Y) (by omega) (by omega) (by omega)
    rw [hT] at hlow
    have hI : 19000000000000000000000000000000 ≤ Y3 * U - D3 * V := by
      rcases Int.lt_or_le (Y3 * U - D3 * V) 19000000000000000000000000000000 with hlt | hge
      · exfalso
        have hn3 : 0 ≤ n3 * (n1 * n2) := Int.mul_nonneg (by omega) (by omega)
        have o1 : n3 * (n1 * n2) * (Y3 * U - D3 * V) ≤ n3 * (n1 * n2) * 19000000000000000000000000000000 := Int.mul_le_mul_of_nonneg_left (by omega) hn3
        have o2 : n3 * (n1 * n2) ≤ 1000081000000 * (1000081000000 * 1000081000000) := Int.mul_le_mul ng.2 mpq.2 (by omega) (by omega)
        have o3 : 20000000000000000000000000000000000000000000000000000000000000000000 ≤ (94 * (1000000000000 * Ss - 243000000000000) - 318 * K) * 10000000000000000000000000000000000000000000000000000 := by omega
        omega
      · exact hge
    have hNI : 18000000000000000000000000000000000000000000 ≤ (Nb * Y3) * U - (Nb * D3) * V := by
      have e : (Nb * Y3) * U - (Nb * D3) * V = Nb * (Y3 * U - D3 * V) := by grind
      have o1 : 999000000000 * 19000000000000000000000000000000 ≤ Nb * (Y3 * U - D3 * V) := Int.mul_le_mul hNb.1 hI (by omega) (by omega)
      omega
    have hBn : 0 ≤ Nb * Y3 := Int.mul_nonneg (by omega) y3
    exact tri_contra hBn hVp bU bV.2 i1 (by omega) (by omega) hNI
  · -- the third is opposite
    have k1 := mcost (by omega) (by omega)
    have k2 := mcosg (by omega) (by omega)
    have d3 : D3 < 0 := by
      have : 0 < -D3 := by
        refine pos_of_mul (n := n3) (by omega) ?_
        rw [Int.neg_mul, bk3]
        have o1 : 980000000000000000 * 999000 ≤ a3 * (-Cg) := Int.mul_le_mul hA3.1 k2.1 (by omega) (by omega)
        have o2 := mul_in (A := 200000000000000) (B := 20000) (a := b3) (b := Sg) (by omega) (by omega)
        have o3 : a3 * (-Cg) = -(a3 * Cg) := Int.mul_neg _ _
        omega
      omega
    have dU : 900000000000000000000000 ≤ U := by
      rcases Int.lt_or_le U 900000000000000000000000 with hlt | hge
      · exfalso
        have o1 : U * (n1 * n2) ≤ 900000000000000000000000 * (n1 * n2) := Int.mul_le_mul_of_nonneg_right (by omega) (by omega)
        have o2 : 960000000000000000000000000000000000 * 998900000000 ≤ (a1 * a2 - b1 * b2) * Mr := Int.mul_le_mul bP (by omega) (by omega) (by omega)
        have o3 := mul_in (A := 408000000000000000000000000000000) (B := 1010000000000) (a := a1 * b2 + a2 * b1) (b := Mi) (by omega) bMi
        rw [hU] at o1
        omega
      · exact hge
    have o1 : Nb * D3 ≤ 0 := Int.mul_nonpos_of_nonneg_of_nonpos (by omega) (by omega)
    omega
end Go.Proofs.YtpnfhienffekoaaGreatDoor
namespace Go.Proofs.YtpnfhienffekoaaGreatDoor
set_option linter.unusedVariables false
set_option linter.unusedSimpArgs false
theorem rnd_step {a d b m : Int} (hb : 0 < b) (h0 : 0 ≤ a) (hd : 0 ≤ d) (hm : d ≤ b * m) : rnd (a + d) b ≤ rnd a b + m := by
  unfold rnd
  rw [if_pos (by omega), if_pos h0]
  have e : (2 * a + b) / (2 * b) + m = (2 * a + b + m * (2 * b)) / (2 * b) := by rw [Int.add_mul_ediv_right _ _ (by omega)]
  rw [e]
  refine Int.ediv_le_ediv (by omega) ?_
  have : m * (2 * b) = 2 * (b * m) := by grind
  omega
theorem sinQ_next {a m : Int} (h0 : 0 ≤ a) (h1 : a < 90000) (hm : ∀ k : Nat, k < 90 → 1000 * (k : Int) ≤ a → a < 1000 * ((k : Int) + 1) → sinAt (k + 1) - sinAt k ≤ 1000 * m) : sinQ (a + 1) ≤ sinQ a + m := by
  obtain ⟨k, hk⟩ : ∃ k : Nat, a / 1000 = k := ⟨(a / 1000).toNat, by omega⟩
  have hs := sinAt_step k (by omega)
  have hd := hm k (by omega) (by omega) (by omega)
  have e1 : sinQ a = sinAt k + rnd ((sinAt (k + 1) - sinAt k) * (a % 1000)) 1000 := by
    unfold sinQ; rw [show (a / 1000).toNat = k by omega]
  have e2 : sinQ (a + 1) = sinAt k + rnd ((sinAt (k + 1) - sinAt k) * (a % 1000 + 1)) 1000 := by
    by_cases h : a % 1000 = 999
    · rw [show a + 1 = 1000 * ((k + 1 : Nat) : Int) by omega, sinQ_zero, h]
      have := rnd_between ((sinAt (k + 1) - sinAt k) * (999 + 1)) 1000 (sinAt (k + 1) - sinAt k) (sinAt (k + 1) - sinAt k) (by omega) (by omega) (by omega)
      omega
    · unfold sinQ; rw [show ((a + 1) / 1000).toNat = k by omega, show (a + 1) % 1000 = a % 1000 + 1 by omega]
  rw [e1, e2]
  have h2 := rnd_step (a := (sinAt (k + 1) - sinAt k) * (a % 1000)) (d := sinAt (k + 1) - sinAt k) (b := 1000) (m := m) (by omega) (Int.mul_nonneg (by omega) (by omega)) (by omega) hd
  have e3 : (sinAt (k + 1) - sinAt k) * (a % 1000 + 1) = (sinAt (k + 1) - sinAt k) * (a % 1000) + (sinAt (k + 1) - sinAt k) := by grind
  rw [e3]
  omega
theorem slope_hi : (List.range 90).all (fun k => decide (k < 45 ∨ sinAt (k + 1) - sinAt k ≤ 13000)) = true := by decide +kernel
theorem sinQ_next18 {a : Int} (h0 : 0 ≤ a) (h1 : a < 90000) : sinQ (a + 1) ≤ sinQ a + 18 := sinQ_next h0 h1 fun k hk _ _ => by have := sinAt_step k hk; omega
theorem sinQ_next13 {a : Int} (h0 : 45000 ≤ a) (h1 : a < 90000) : sinQ (a + 1) ≤ sinQ a + 13 := sinQ_next (by omega) h1 fun k hk a1 a2 => by
  have := of_decide_eq_true (List.all_eq_true.1 slope_hi k (List.mem_range.2 hk))
  omega
theorem sinI_lo {a : Int} (h0 : 0 ≤ a) (h1 : a ≤ 90000) : sinI a = sinQ a := by
  unfold sinI; rw [nrm_of (by omega) (by omega), sinN_lo (by omega), sinH_lo h1]
theorem cos_comp (m : Int) : cosI (90000 - m) = sinI m := by
  rw [cosI_sin, show 90000 - m + 90000 = -m + 180000 by omega, sinI_half, sinI_neg]; omega
theorem sin_comp (m : Int) : sinI (90000 - m) = cosI m := by
  rw [← cosI_neg m, cosI_sin (-m)]; congr 1; omega
theorem cos_supp (m : Int) : cosI (180000 - m) = -(cosI m) := by
  rw [cosI_sin, show 180000 - m + 90000 = (90000 - m) + 180000 by omega, sinI_half, sin_comp]
theorem sin_supp (m : Int) : sinI (180000 - m) = sinI m := by
  rw [show 180000 - m = -m + 180000 by omega, sinI_half, sinI_neg]; omega
theorem cos_half (m : Int) : cosI (180000 + m) = -(cosI m) := by
  rw [cosI_sin, cosI_sin, show 180000 + m + 90000 = m + 90000 + 180000 by omega, sinI_half]
theorem sin_half' (m : Int) : sinI (180000 + m) = -(sinI m) := by
  rw [show 180000 + m = m + 180000 by omega, sinI_half]
/-- the angle of the first eighth fits its direction -/
theorem arcL_fit {u v : Int} (h0 : 0 ≤ u) (h : u ≤ v) : 0 ≤ v * sinI (arcL u v) - u * cosI (arcL u v) ∧ v * sinI (arcL u v) - u * cosI (arcL u v) ≤ 18 * v + 13 * u := by
  have hb := arcL_bd u v
  have ha := bsI_at (arcP u v) 0 45000 (by omega)
  change (arcL u v = 45000 ∨ _) ∧ (arcL u v = 0 ∨ arcP u v (arcL u v - 1) = false) at ha
  have e1 : arcP u v (arcL u v) = true := by
    rcases ha.1 with h1 | h1
    · rw [h1]
      have e1 : cosI 45000 = 707107 := by decide +kernel
      have e2 : sinI 45000 = 707107 := by decide +kernel
      simp only [arcP, e1, e2, decide_eq_true_eq]; omega
    · exact h1
  generalize arcL u v = m at *
  simp only [arcP, decide_eq_true_eq] at e1
  have c1 : v * sinI m = sinI m * v := Int.mul_comm _ _
  have c2 : u * cosI m = cosI m * u := Int.mul_comm _ _
  refine ⟨by omega, ?_⟩
  rcases ha.2 with h1 | h1
  · subst h1
    have e2 : sinI 0 = 0 := by decide +kernel
    have e3 : cosI 0 = 1000000 := by decide +kernel
    rw [e2, e3] at *
    omega
  · simp only [arcP, decide_eq_false_iff_not, Int.not_le] at h1
    by_cases hm : m = 0
    · subst hm
      have e2 : sinI 0 = 0 := by decide +kernel
      have e3 : cosI 0 = 1000000 := by decide +kernel
      rw [e2, e3] at *
      omega
    · have s1 := sinQ_next18 (a := m - 1) (by omega) (by omega)
      have s2 := sinQ_next13 (a := 90000 - m) (by omega) (by omega)
      rw [show m - 1 + 1 = m by omega, ← sinI_lo (by omega) (by omega), ← sinI_lo (by omega) (by omega)] at s1
      rw [show 90000 - m + 1 = 90000 - (m - 1) by omega, ← cosI_lo (by omega) (by omega), ← cosI_lo (by omega) (by omega)] at s2
      have k1 : v * sinI m ≤ v * (sinI (m - 1) + 18) := Int.mul_le_mul_of_nonneg_left s1 (by omega)
      have k2 : u * cosI (m - 1) ≤ u * (cosI m + 13) := Int.mul_le_mul_of_nonneg_left s2 h0
      have d1 : v * (sinI (m - 1) + 18) = sinI (m - 1) * v + 18 * v := by grind
      have d2 : u * (cosI m + 13) = u * cosI m + 13 * u := by grind
      have d3 : u * cosI (m - 1) = cosI (m - 1) * u := Int.mul_comm _ _
      omega
theorem fit_sq {u v w : Int} (h0 : 0 ≤ w) (h1 : w ≤ 18 * v + 13 * u) : w * w ≤ 493 * (u * u + v * v) := by
  have k1 : w * w ≤ (18 * v + 13 * u) * (18 * v + 13 * u) := Int.mul_le_mul h1 h1 h0 (by omega)
  have k2 := sq_nn (13 * v - 18 * u)
  have e : 493 * (u * u + v * v) = (18 * v + 13 * u) * (18 * v + 13 * u) + (13 * v - 18 * u) * (13 * v - 18 * u) := by grind
  omega
/-- an angle and a direction -/
def Fit (y x p : Int) : Prop := (y * cosI p - x * sinI p) * (y * cosI p - x * sinI p) ≤ 493 * (x * x + y * y) ∧ 0 ≤ x * cosI p + y * sinI p
theorem arcB_fit {y x : Int} (hy : 0 ≤ y) (hx : 0 ≤ x) : Fit y x (arcB y x) := by
  have hb := arcL_bd (minI x y) (maxI x y)
  have hs := cosI_pos (a := arcL (minI x y) (maxI x y)) (by omega) (by omega)
  have hs2 : 0 ≤ sinI (arcL (minI x y) (maxI x y)) := by rw [sinI_lo (by omega) (by omega)]; exact (sinQ_bd _ (by omega) (by omega)).1
  unfold Fit arcB
  by_cases h : x < y
  · have hf := arcL_fit (u := x) (v := y) hx (by omega)
    rw [if_pos h]
    rw [minI, if_pos h, maxI, if_neg (by omega)] at *
    rw [cos_comp, sin_comp]
    generalize arcL x y = m at *
    have := fit_sq hf.1 hf.2
    exact ⟨this, by have := Int.mul_nonneg hx hs2; have := Int.mul_nonneg hy hs; omega⟩
  · have e : minI x y = y ∧ maxI x y = x := by unfold minI maxI; constructor <;> split <;> omega
    rw [e.1, e.2] at hs hs2 hb ⊢
    rw [if_neg h]
    have hf := arcL_fit (u := y) (v := x) hy (by omega)
    generalize arcL y x = m at *
    have := fit_sq hf.1 hf.2
    refine ⟨?_, by have := Int.mul_nonneg hx hs; have := Int.mul_nonneg hy hs2; omega⟩
    have e : (y * cosI m - x * sinI m) * (y * cosI m - x * sinI m) = (x * sinI m - y * cosI m) * (x * sinI m - y * cosI m) := by grind
    rw [e]; omega
theorem absI_mul (a : Int) : absI a * absI a = a * a := by unfold absI; split; exact Int.neg_mul_neg a a; rfl
theorem fit_flip {y x p y' x' p' : Int} (h : Fit y x p) (e1 : y' * cosI p' - x' * sinI p' = y * cosI p - x * sinI p ∨ y' * cosI p' - x' * sinI p' = -(y * cosI p - x * sinI p)) (e2 : x' * cosI p' + y' * sinI p' = x * cosI p + y * sinI p) (e3 : x' * x' + y' * y' = x * x + y * y) : Fit y' x' p' := by
  unfold Fit at *
  rw [e2, e3]
  rcases e1 with e1 | e1
  · rw [e1]; exact h
  · rw [e1, Int.neg_mul_neg]; exact h
/-- the angle of a direction fits it -/
theorem arcI_fit (y x : Int) : Fit y x (arcI y x) := by
  have hf := arcB_fit (y := absI y) (x := absI x) (absI_bd y).1 (absI_bd x).1
  have e0 : x * x + y * y = absI x * absI x + absI y * absI y := by rw [absI_mul, absI_mul]
  have ay := absI_bd y
  have ax := absI_bd x
  unfold arcI
  generalize arcB (absI y) (absI x) = b at *
  split
  · rw [show absI y = y by unfold absI; split <;> omega, show absI x = x by unfold absI; split <;> omega] at hf
    exact hf
  · split
    · refine fit_flip hf ?_ ?_ e0
      · rw [cos_supp, sin_supp, show absI y = y by unfold absI; split <;> omega, show absI x = -x by unfold absI; split <;> omega]
        right; grind
      · rw [cos_supp, sin_supp, show absI y = y by unfold absI; split <;> omega, show absI x = -x by unfold absI; split <;> omega]
        grind
    · split
      · refine fit_flip hf ?_ ?_ e0
        · rw [cos_half, sin_half', show absI y = -y by unfold absI; split <;> omega, show absI x = -x by unfold absI; split <;> omega]
          left; grind
        · rw [cos_half, sin_half', show absI y = -y by unfold absI; split <;> omega, show absI x = -x by unfold absI; split <;> omega]
          grind
      · refine fit_flip hf ?_ ?_ e0
        · rw [cosI_nrm, sinI_nrm, cosI_neg, sinI_neg, show absI y = -y by unfold absI; split <;> omega, show absI x = x by unfold absI; split <;> omega]
          right; grind
        · rw [cosI_nrm, sinI_nrm, cosI_neg, sinI_neg, show absI y = -y by unfold absI; split <;> omega, show absI x = x by unfold absI; split <;> omega]
          grind
/-- the lengths of two vectors together -/
theorem mink {a b c p q r A B : Int} (hA : 0 ≤ A) (hB : 0 ≤ B) (h1 : a * a + b * b + c * c ≤ A * A) (h2 : p * p + q * q + r * r ≤ B * B) : (a + p) * (a + p) + (b + q) * (b + q) + (c + r) * (c + r) ≤ (A + B) * (A + B) := by
  have k : a * p + b * q + c * r ≤ A * B := by
    refine sq_lt (Int.mul_nonneg hA hB) ?_
    have s1 := sq_nn (a * q - b * p)
    have s2 := sq_nn (b * r - c * q)
    have s3 := sq_nn (a * r - c * p)
    have e1 : (a * p + b * q + c * r) * (a * p + b * q + c * r) + ((a * q - b * p) * (a * q - b * p) + (b * r - c * q) * (b * r - c * q) + (a * r - c * p) * (a * r - c * p)) = (a * a + b * b + c * c) * (p * p + q * q + r * r) := by grind
    have e2 : (a * a + b * b + c * c) * (p * p + q * q + r * r) ≤ (A * A) * (B * B) := Int.mul_le_mul h1 h2 (by have := sq_nn p; have := sq_nn q; have := sq_nn r; omega) (sq_nn A)
    have e3 : (A * A) * (B * B) = (A * B) * (A * B) := by grind
    omega
  have e4 : (a + p) * (a + p) + (b + q) * (b + q) + (c + r) * (c + r) = (a * a + b * b + c * c) + (p * p + q * q + r * r) + 2 * (a * p + b * q + c * r) := by grind
  have e5 : (A + B) * (A + B) = A * A + B * B + 2 * (A * B) := by grind
  omega
/-- an arc of rounded numbers -/
theorem mkAng {D S x y p ex ey K : Int} (hS : 0 ≤ S) (hN : 998001000000000000000000 ≤ D * D + S ∧ D * D + S ≤ 1002001000000000000000000)
    (hx : -ex ≤ 1000000 * x - D ∧ 1000000 * x - D ≤ ex) (hy : ∀ Y : Int, 0 ≤ Y → Y * Y ≤ S → S < (Y + 1) * (Y + 1) → -ey ≤ 1000000 * y - Y ∧ 1000000 * y - Y ≤ ey)
    (hf : Fit y x p) (h0 : 0 ≤ ex ∧ 0 ≤ ey ∧ ex + ey ≤ 1000000000) (hK : 22250000000000 + 1000000 * (ex + ey) ≤ K) (hK2 : K ≤ 200000000000000) : ∃ Y, Ang D S p K Y := by
  obtain ⟨Y, y0, y1, y2⟩ := sqrt_ex S hS
  have hy' := hy Y y0 y1 y2
  refine ⟨Y, ?_⟩
  obtain ⟨f1, f2⟩ := hf
  have bc := cosI_bd p
  have bs := sinI_bd p
  have hn := norm_near p
  have hD := sq_nn D
  have bD := sq_bd2 (a := D) (b := 1001000000000) (by omega) (by omega)
  have bY := sq_bd2 (a := Y) (b := 1001000000000) (by omega) (by omega)
  have e2 : (Y + 1) * (Y + 1) = Y * Y + 2 * Y + 1 := by grind
  -- the squares of the rounded numbers
  obtain ⟨dx, hdx⟩ : ∃ d, d = 1000000 * x - D := ⟨_, rfl⟩
  obtain ⟨dy, hdy⟩ : ∃ d, d = 1000000 * y - Y := ⟨_, rfl⟩
  rw [← hdx] at hx
  rw [← hdy] at hy'
  have q1 := mul_in (A := 1001000000000) (B := ex) (a := D) (b := dx) (by omega) hx
  have q2 := mul_in (A := 1001000000000) (B := ey) (a := Y) (b := dy) (by omega) hy'
  have q3 := mul_in hx hx
  have q4 := mul_in hy' hy'
  have q5 : ex * ex ≤ 1000000000 * 1000000000 := Int.mul_le_mul (by omega) (by omega) (by omega) (by omega)
  have q6 : ey * ey ≤ 1000000000 * 1000000000 := Int.mul_le_mul (by omega) (by omega) (by omega) (by omega)
  have e3 : 1000000000000 * (x * x + y * y) = (D * D + Y * Y) + 2 * (D * dx) + 2 * (Y * dy) + dx * dx + dy * dy := by
    have a1 : 1000000 * x = D + dx := by omega
    have a2 : 1000000 * y = Y + dy := by omega
    have a3 : 1000000000000 * (x * x + y * y) = (1000000 * x) * (1000000 * x) + (1000000 * y) * (1000000 * y) := by grind
    rw [a3, a1, a2]; grind
  have q7 : x * x + y * y ≤ 1004020000000 := by omega
  have q8 := sq_bd2 (a := y * cosI p - x * sinI p) (b := 22250000) (by omega) (by omega)
  -- back to the exact numbers
  have e4 : Y * cosI p - D * sinI p = 1000000 * (y * cosI p - x * sinI p) - dy * cosI p + dx * sinI p := by
    rw [hdx, hdy]; grind
  have e5 : D * cosI p + Y * sinI p = 1000000 * (x * cosI p + y * sinI p) - dx * cosI p - dy * sinI p := by
    rw [hdx, hdy]; grind
  have r1 := mul_in (A := ey) (B := 1000000) (a := dy) (b := cosI p) hy' (by omega)
  have r2 := mul_in (A := ex) (B := 1000000) (a := dx) (b := sinI p) hx (by omega)
  have r3 := mul_in (A := ex) (B := 1000000) (a := dx) (b := cosI p) hx (by omega)
  have r4 := mul_in (A := ey) (B := 1000000) (a := dy) (b := sinI p) hy' (by omega)
  have him : -K ≤ Y * cosI p - D * sinI p ∧ Y * cosI p - D * sinI p ≤ K := by rw [e4]; omega
  refine ⟨y0, y1, y2, him, ?_⟩
  have hi := norm_id D Y (cosI p) (sinI p)
  have hpos : -2000000000000000 ≤ D * cosI p + Y * sinI p := by rw [e5]; omega
  have m1 : 998000000000000000000000 * 999919000000 ≤ (D * D + Y * Y) * (cosI p * cosI p + sinI p * sinI p) := Int.mul_le_mul (by omega) hn.1 (by omega) (by omega)
  have m2 := mul_in him him
  have m3 : K * K ≤ 200000000000000 * 200000000000000 := Int.mul_le_mul hK2 hK2 (by omega) (by omega)
  generalize D * cosI p + Y * sinI p = re at *
  generalize Y * cosI p - D * sinI p = im at *
  rcases Int.lt_or_le re 980000000000000000 with hlt | hge
  · exfalso
    have := mul_in (A := 980000000000000000) (B := 980000000000000000) (a := re) (b := re) (by omega) (by omega)
    omega
  · exact hge
end Go.Proofs.YtpnfhienffekoaaGreatDoor
namespace Go.Proofs.YtpnfhienffekoaaGreatDoor
set_option linter.unusedVariables false
set_option linter.unusedSimpArgs false
theorem rnd_err (a : Int) : -500000 ≤ 1000000 * rnd a 1000000 - a ∧ 1000000 * rnd a 1000000 - a ≤ 500000 := by
  unfold rnd; split <;> omega
def dotE (a b : V3) : Int := a.x * b.x + a.y * b.y + a.z * b.z
def crE (a b : V3) : Int := (a.y * b.z - a.z * b.y) * (a.y * b.z - a.z * b.y) + (a.z * b.x - a.x * b.z) * (a.z * b.x - a.x * b.z) + (a.x * b.y - a.y * b.x) * (a.x * b.y - a.y * b.x)
theorem crE_nn (a b : V3) : 0 ≤ crE a b := by
  have h1 := sq_nn (a.y * b.z - a.z * b.y)
  have h2 := sq_nn (a.z * b.x - a.x * b.z)
  have h3 := sq_nn (a.x * b.y - a.y * b.x)
  unfold crE; omega
theorem lagr (a b : V3) : dotE a b * dotE a b + crE a b = sqV a * sqV b := by unfold dotE crE sqV; grind
theorem cs3 (a b c : V3) : (dotE a b * dotE b c - dotE a c * sqV b) * (dotE a b * dotE b c - dotE a c * sqV b) ≤ crE a b * crE b c := by
  obtain ⟨u1, hu1⟩ : ∃ u, u = a.y * b.z - a.z * b.y := ⟨_, rfl⟩
  obtain ⟨u2, hu2⟩ : ∃ u, u = a.z * b.x - a.x * b.z := ⟨_, rfl⟩
  obtain ⟨u3, hu3⟩ : ∃ u, u = a.x * b.y - a.y * b.x := ⟨_, rfl⟩
  obtain ⟨v1, hv1⟩ : ∃ u, u = b.y * c.z - b.z * c.y := ⟨_, rfl⟩
  obtain ⟨v2, hv2⟩ : ∃ u, u = b.z * c.x - b.x * c.z := ⟨_, rfl⟩
  obtain ⟨v3, hv3⟩ : ∃ u, u = b.x * c.y - b.y * c.x := ⟨_, rfl⟩
  have e : dotE a b * dotE b c - dotE a c * sqV b = u1 * v1 + u2 * v2 + u3 * v3 := by
    rw [hu1, hu2, hu3, hv1, hv2, hv3]; unfold dotE sqV; grind
  have e1 : crE a b = u1 * u1 + u2 * u2 + u3 * u3 := by rw [hu1, hu2, hu3]; rfl
  have e2 : crE b c = v1 * v1 + v2 * v2 + v3 * v3 := by rw [hv1, hv2, hv3]; rfl
  rw [e, e1, e2]
  clear e e1 e2 hu1 hu2 hu3 hv1 hv2 hv3
  have s1 := sq_nn (u1 * v2 - u2 * v1)
  have s2 := sq_nn (u2 * v3 - u3 * v2)
  have s3 := sq_nn (u1 * v3 - u3 * v1)
  have e : (u1 * u1 + u2 * u2 + u3 * u3) * (v1 * v1 + v2 * v2 + v3 * v3) = (u1 * v1 + u2 * v2 + u3 * v3) * (u1 * v1 + u2 * v2 + u3 * v3) + (u1 * v2 - u2 * v1) * (u1 * v2 - u2 * v1) + (u2 * v3 - u3 * v2) * (u2 * v3 - u3 * v2) + (u1 * v3 - u3 * v1) * (u1 * v3 - u3 * v1) := by grind
  omega
def unitV (v : V3) : Prop := 999000000000 ≤ sqV v ∧ sqV v ≤ 1001000000000
/-- the length of rounded numbers -/
theorem len_err {C1 C2 C3 c1 c2 c3 y Y E : Int} (hE : 0 ≤ E) (he : (1000000 * c1 - C1) * (1000000 * c1 - C1) + (1000000 * c2 - C2) * (1000000 * c2 - C2) + (1000000 * c3 - C3) * (1000000 * c3 - C3) ≤ E * E)
    (y0 : 0 ≤ y) (y1 : y * y ≤ c1 * c1 + c2 * c2 + c3 * c3) (y2 : c1 * c1 + c2 * c2 + c3 * c3 < (y + 1) * (y + 1))
    (Y0 : 0 ≤ Y) (Y1 : Y * Y ≤ C1 * C1 + C2 * C2 + C3 * C3) (Y2 : C1 * C1 + C2 * C2 + C3 * C3 < (Y + 1) * (Y + 1)) : -(E + 1000000) ≤ 1000000 * y - Y ∧ 1000000 * y - Y ≤ E + 1 := by
  obtain ⟨d1, h1⟩ : ∃ d, d = 1000000 * c1 - C1 := ⟨_, rfl⟩
  obtain ⟨d2, h2⟩ : ∃ d, d = 1000000 * c2 - C2 := ⟨_, rfl⟩
  obtain ⟨d3, h3⟩ : ∃ d, d = 1000000 * c3 - C3 := ⟨_, rfl⟩
  rw [← h1, ← h2, ← h3] at he
  have k1 := mink (a := C1) (b := C2) (c := C3) (A := Y + 1) (by omega) hE (by omega) he
  have k2 := mink (a := 1000000 * c1) (b := 1000000 * c2) (c := 1000000 * c3) (p := -d1) (q := -d2) (r := -d3) (A := 1000000 * (y + 1)) (B := E) (by omega) hE (by
    have e1 : 1000000 * c1 * (1000000 * c1) + 1000000 * c2 * (1000000 * c2) + 1000000 * c3 * (1000000 * c3) = 1000000000000 * (c1 * c1 + c2 * c2 + c3 * c3) := by grind
    have e2 : 1000000 * (y + 1) * (1000000 * (y + 1)) = 1000000000000 * ((y + 1) * (y + 1)) := by grind
    omega) (by rw [Int.neg_mul_neg, Int.neg_mul_neg, Int.neg_mul_neg]; exact he)
  rw [show 1000000 * c1 + -d1 = C1 by omega, show 1000000 * c2 + -d2 = C2 by omega, show 1000000 * c3 + -d3 = C3 by omega] at k2
  rw [show C1 + d1 = 1000000 * c1 by omega, show C2 + d2 = 1000000 * c2 by omega, show C3 + d3 = 1000000 * c3 by omega] at k1
  have m1 := sq_lt (a := Y) (b := 1000000 * (y + 1) + E) (by omega) (by omega)
  have m2 := sq_lt (a := 1000000 * y) (b := Y + 1 + E) (by omega) (by
    have e1 : 1000000 * c1 * (1000000 * c1) + 1000000 * c2 * (1000000 * c2) + 1000000 * c3 * (1000000 * c3) = 1000000000000 * (c1 * c1 + c2 * c2 + c3 * c3) := by grind
    have e2 : 1000000 * y * (1000000 * y) = 1000000000000 * (y * y) := by grind
    omega)
  omega
theorem sq_small3 {a b c B E : Int} (h1 : -B ≤ a ∧ a ≤ B) (h2 : -B ≤ b ∧ b ≤ B) (h3 : -B ≤ c ∧ c ≤ B) (h : 3 * (B * B) ≤ E) : a * a + b * b + c * c ≤ E := by
  have k1 := mul_in h1 h1
  have k2 := mul_in h2 h2
  have k3 := mul_in h3 h3
  omega
theorem zero_sq {v : V3} (h : zeroV v = true) : sqV v = 0 := by
  simp only [zeroV, Bool.and_eq_true, beq_iff_eq] at h
  unfold sqV; rw [h.1, h.2.1, h.2.2]; rfl
theorem unit_zero {v : V3} (h : unitV v) : zeroV v = false := by
  cases hz : zeroV v with
  | false => rfl
  | true => have := zero_sq hz; unfold unitV at h; omega
theorem arcI_up {y x : Int} (h : 0 ≤ y) : arcI y x ≤ 180000 := by
  have := arcB_bd (absI y) (absI x)
  unfold arcI
  split
  · omega
  · first | omega | (rw [if_pos h]; omega)
theorem cr_len {a b : V3} {Y : Int} (Y0 : 0 ≤ Y) (Y1 : Y * Y ≤ crE a b) (Y2 : crE a b < (Y + 1) * (Y + 1)) : -1900000 ≤ 1000000 * lenV (crV a b) - Y ∧ 1000000 * lenV (crV a b) - Y ≤ 1900000 := by
  have hq : 0 ≤ sqV (crV a b) := by
    have h1 := sq_nn (crV a b).x
    have h2 := sq_nn (crV a b).y
    have h3 := sq_nn (crV a b).z
    unfold sqV; omega
  have hr := rootI_spec (sqV (crV a b)) hq
  have e := len_err (C1 := a.y * b.z - a.z * b.y) (C2 := a.z * b.x - a.x * b.z) (C3 := a.x * b.y - a.y * b.x) (c1 := (crV a b).x) (c2 := (crV a b).y) (c3 := (crV a b).z) (y := lenV (crV a b)) (Y := Y) (E := 870000) (by omega)
    (sq_small3 (B := 500000) (rnd_err _) (rnd_err _) (rnd_err _) (by omega)) (rootI_nonneg _) hr.1 hr.2 Y0 Y1 Y2
  omega
/-- the angle between two directions fits them -/
theorem sep_ang {a b : V3} (ha : unitV a) (hb : unitV b) : sepOk a b = true ∧ ∃ Y, Ang (dotE a b) (crE a b) (sepI a b) 25000000000000 Y := by
  have hl := lagr a b
  have hS := crE_nn a b
  have hd := rnd_err (dotE a b)
  have hN : 998001000000000000000000 ≤ dotE a b * dotE a b + crE a b ∧ dotE a b * dotE a b + crE a b ≤ 1002001000000000000000000 := by
    rw [hl]
    have k1 : 999000000000 * 999000000000 ≤ sqV a * sqV b := Int.mul_le_mul ha.1 hb.1 (by omega) (by have := ha.1; omega)
    have k2 : sqV a * sqV b ≤ 1001000000000 * 1001000000000 := Int.mul_le_mul ha.2 hb.2 (by have := hb.1; omega) (by omega)
    omega
  have hok : sepOk a b = true := by
    unfold sepOk
    rw [unit_zero ha, unit_zero hb]
    cases h1 : lenV (crV a b) == 0 with
    | false => rfl
    | true =>
      cases h2 : dotV a b == 0 with
      | false => rfl
      | true =>
        exfalso
        have h1' : lenV (crV a b) = 0 := by simpa using h1
        have h2' : rnd (dotE a b) 1000000 = 0 := by simpa [dotV, dotE] using h2
        rw [h2'] at hd
        obtain ⟨Y, Y0, Y1, Y2⟩ := sqrt_ex (crE a b) hS
        have hY := cr_len Y0 Y1 Y2
        rw [h1'] at hY
        have k1 : (Y + 1) * (Y + 1) ≤ 1900001 * 1900001 := Int.mul_le_mul (by omega) (by omega) (by omega) (by omega)
        have k2 := mul_in (A := 500000) (B := 500000) (a := dotE a b) (b := dotE a b) (by omega) (by omega)
        omega
  refine ⟨hok, ?_⟩
  have := mkAng (D := dotE a b) (S := crE a b) (x := dotV a b) (y := lenV (crV a b)) (ex := 500000) (ey := 1900000) (K := 25000000000000) hS hN hd (fun Y h0 h1 h2 => cr_len h0 h1 h2) (arcI_fit _ _) (by omega) (by omega) (by omega)
  unfold sepI
  rw [if_pos hok]
  exact this
theorem sepI_half (a b : V3) : 0 ≤ sepI a b ∧ sepI a b ≤ 180000 := by
  refine ⟨(sepI_bd a b).1, ?_⟩
  unfold sepI
  split
  · exact arcI_up (rootI_nonneg _)
  · omega
/-- three directions -/
theorem sep_tri {a b c : V3} (ha : unitV a) (hb : unitV b) (hc : unitV c) : sepI a c < sepI a b + sepI b c + 20 := by
  obtain ⟨Y1, A1⟩ := (sep_ang ha hb).2
  obtain ⟨Y2, A2⟩ := (sep_ang hb hc).2
  obtain ⟨Y3, A3⟩ := (sep_ang ha hc).2
  have e : sinI 20 = 349 := by decide +kernel
  exact triangle ha hb hc (lagr a b) (lagr b c) (lagr a c) (cs3 a b c) A1 A2 A3 (by omega) (sepI_half a b).1 (sepI_half b c).1 (sepI_half a c).2 (by omega) (by rw [e]; omega)
/-- a direction is about as long as one -/
theorem dir_norm (l b : Int) : 999835000000 ≤ sqV (dirV l b) ∧ sqV (dirV l b) ≤ 1000165000000 := by
  have h1 := rnd_err (cosI b * cosI l)
  have h2 := rnd_err (cosI b * sinI l)
  have bb := cosI_bd b
  have bl := cosI_bd l
  have bs := sinI_bd l
  have nb := norm_near b
  have nl := norm_near l
  have k1 := unit_prod _ _ bb bl
  have k2 := unit_prod _ _ bb bs
  have e : 1000000000000 * sqV (dirV l b) = (1000000 * dirX l b) * (1000000 * dirX l b) + (1000000 * dirY l b) * (1000000 * dirY l b) + 1000000000000 * (sinI b * sinI b) := by
    unfold sqV dirV dirZ; grind
  obtain ⟨d1, hd1⟩ : ∃ d, d = 1000000 * rnd (cosI b * cosI l) 1000000 - cosI b * cosI l := ⟨_, rfl⟩
  obtain ⟨d2, hd2⟩ : ∃ d, d = 1000000 * rnd (cosI b * sinI l) 1000000 - cosI b * sinI l := ⟨_, rfl⟩
  rw [← hd1] at h1
  rw [← hd2] at h2
  have e1 : 1000000 * dirX l b = cosI b * cosI l + d1 := by unfold dirX; omega
  have e2 : 1000000 * dirY l b = cosI b * sinI l + d2 := by unfold dirY; omega
  rw [e1, e2] at e
  have m1 := mul_in (A := 1000000000000) (B := 500000) k1 h1
  have m2 := mul_in (A := 1000000000000) (B := 500000) k2 h2
  have m3 := mul_in h1 h1
  have m4 := mul_in h2 h2
  have e3 : (cosI b * cosI l + d1) * (cosI b * cosI l + d1) + (cosI b * sinI l + d2) * (cosI b * sinI l + d2) + 1000000000000 * (sinI b * sinI b) = cosI b * cosI b * (cosI l * cosI l + sinI l * sinI l - 1000000000000) + 1000000000000 * (cosI b * cosI b + sinI b * sinI b) + 2 * (cosI b * cosI l * d1) + 2 * (cosI b * sinI l * d2) + d1 * d1 + d2 * d2 := by grind
  rw [e3] at e
  have m5 := mul_in (A := 1000000000000) (B := 81000000) (a := cosI b * cosI b) (b := cosI l * cosI l + sinI l * sinI l - 1000000000000) (by have := mul_in (A := 1000000) (B := 1000000) bb bb; omega) (by omega)
  generalize cosI b * cosI b * (cosI l * cosI l + sinI l * sinI l - 1000000000000) = t1 at *
  generalize cosI b * cosI l * d1 = t2 at *
  generalize cosI b * sinI l * d2 = t3 at *
  generalize d1 * d1 = t4 at *
  generalize d2 * d2 = t5 at *
  omega
theorem dir_unit (l b : Int) : unitV (dirV l b) := by have := dir_norm l b; unfold unitV; omega
/-- near vectors are near directions -/
theorem sep_near {a b : V3} (ha : unitV a) (hb : unitV b) (h : (a.x - b.x) * (a.x - b.x) + (a.y - b.y) * (a.y - b.y) + (a.z - b.z) * (a.z - b.z) ≤ 1600 * 1600) : sepI a b ≤ 100 := by
  have hok := (sep_ang ha hb).1
  have hS := crE_nn a b
  obtain ⟨Y, Y0, Y1, Y2⟩ := sqrt_ex (crE a b) hS
  have hY := cr_len Y0 Y1 Y2
  have hd := rnd_err (dotE a b)
  obtain ⟨ha1, ha2⟩ := ha
  obtain ⟨hb1, hb2⟩ := hb
  have e1 : 2 * dotE a b = sqV a + sqV b - ((a.x - b.x) * (a.x - b.x) + (a.y - b.y) * (a.y - b.y) + (a.z - b.z) * (a.z - b.z)) := by unfold dotE sqV; grind
  have e2 : crE a b + (a.x * (a.x - b.x) + a.y * (a.y - b.y) + a.z * (a.z - b.z)) * (a.x * (a.x - b.x) + a.y * (a.y - b.y) + a.z * (a.z - b.z)) = sqV a * ((a.x - b.x) * (a.x - b.x) + (a.y - b.y) * (a.y - b.y) + (a.z - b.z) * (a.z - b.z)) := by unfold crE sqV; grind
  have hq : 0 ≤ (a.x - b.x) * (a.x - b.x) + (a.y - b.y) * (a.y - b.y) + (a.z - b.z) * (a.z - b.z) := by
    have h1 := sq_nn (a.x - b.x)
    have h2 := sq_nn (a.y - b.y)
    have h3 := sq_nn (a.z - b.z)
    omega
  have h4 := sq_nn (a.x * (a.x - b.x) + a.y * (a.y - b.y) + a.z * (a.z - b.z))
  have k1 : sqV a * ((a.x - b.x) * (a.x - b.x) + (a.y - b.y) * (a.y - b.y) + (a.z - b.z) * (a.z - b.z)) ≤ 1001000000000 * (1600 * 1600) := Int.mul_le_mul ha2 h hq (by omega)
  have k2 := sq_lt (a := Y) (b := 1601000000) (by omega) (by omega)
  have hx : 998000 ≤ dotV a b := by
    have : dotV a b = rnd (dotE a b) 1000000 := rfl
    omega
  have hy : lenV (crV a b) ≤ 1603 := by omega
  have hy0 : 0 ≤ lenV (crV a b) := rootI_nonneg _
  unfold sepI
  rw [if_pos hok]
  generalize lenV (crV a b) = y at *
  generalize dotV a b = x at *
  unfold arcI
  rw [if_pos ⟨by omega, hy0⟩, show absI y = y by unfold absI; split <;> omega, show absI x = x by unfold absI; split <;> omega, arcB, if_neg (by omega), show minI x y = y by unfold minI; split <;> omega, show maxI x y = x by unfold maxI; split <;> omega]
  have hb := arcL_bd y x
  have ha := bsI_at (arcP y x) 0 45000 (by omega)
  change (arcL y x = 45000 ∨ _) ∧ (arcL y x = 0 ∨ arcP y x (arcL y x - 1) = false) at ha
  generalize arcL y x = m at *
  rcases Int.lt_or_le 100 m with hlt | hle
  · exfalso
    rcases ha.2 with h1 | h1
    · omega
    · simp only [arcP, decide_eq_false_iff_not, Int.not_le] at h1
      have s1 := sinQ_mono (a := 100) (c := m - 1) (by omega) (by omega) (by omega)
      rw [← sinI_lo (by omega) (by omega), ← sinI_lo (by omega) (by omega), show sinI 100 = 1745 by decide +kernel] at s1
      have c1 := cosI_bd (m - 1)
      have k3 : 1745 * 998000 ≤ sinI (m - 1) * x := Int.mul_le_mul s1 hx (by omega) (by omega)
      have k4 : cosI (m - 1) * y ≤ 1000000 * 1603 := by
        have a1 : cosI (m - 1) * y ≤ 1000000 * y := Int.mul_le_mul_of_nonneg_right c1.2 hy0
        omega
      omega
  · exact hle
end Go.Proofs.YtpnfhienffekoaaGreatDoor
