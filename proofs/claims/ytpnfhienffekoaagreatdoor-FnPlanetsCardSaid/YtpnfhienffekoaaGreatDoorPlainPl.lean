/- Plain laws on planets: how far one is from the middle, where one is after a period, opposite views. Nothing of the program is named here. -/
import Derived.Test.YtpnfhienffekoaaGreatDoorPlainPlan
import Derived.Test.YtpnfhienffekoaaGreatDoorPlainIm
namespace Go.Proofs.YtpnfhienffekoaaGreatDoor
set_option linter.unusedVariables false
set_option linter.unusedSimpArgs false
theorem rnd1000 (a : Int) : -500 ≤ 1000 * rnd a 1000 - a ∧ 1000 * rnd a 1000 - a ≤ 500 := by
  unfold rnd; split <;> omega
theorem pl_coord {P : PlB} (h : vP P = true) (d m : Int) : (-(1001 * P.r) - 1 ≤ plX P d m ∧ plX P d m ≤ 1001 * P.r + 1) ∧ (-(1001 * P.r) - 1 ≤ plY P d m ∧ plY P d m ≤ 1001 * P.r + 1) := by
  have b := vP_bd h
  have c := cosI_bd (angP P d m)
  have s := sinI_bd (angP P d m)
  have m1 := mul_in (A := P.r) (B := 1000000) (a := P.r) (b := cosI (angP P d m)) (by omega) c
  have m2 := mul_in (A := P.r) (B := 1000000) (a := P.r) (b := sinI (angP P d m)) (by omega) s
  have r1 := rnd1000 (P.r * cosI (angP P d m))
  have r2 := rnd1000 (P.r * sinI (angP P d m))
  unfold plX plY
  omega
/-- a planet's distance from the middle -/
theorem pl_far {P : PlB} (h : vP P = true) (d m : Int) : absI (rootI (plX P d m * plX P d m + plY P d m * plY P d m) - 1000 * P.r) ≤ P.r + 5 := by
  have b := vP_bd h
  have hn := norm_near (angP P d m)
  have r1 := rnd1000 (P.r * cosI (angP P d m))
  have r2 := rnd1000 (P.r * sinI (angP P d m))
  change _ ≤ 1000 * plX P d m - _ ∧ 1000 * plX P d m - _ ≤ _ at r1
  change _ ≤ 1000 * plY P d m - _ ∧ 1000 * plY P d m - _ ≤ _ at r2
  generalize plX P d m = x at *
  generalize plY P d m = y at *
  generalize cosI (angP P d m) = c at *
  generalize sinI (angP P d m) = s at *
  generalize P.r = R at *
  have hxy : 0 ≤ x * x + y * y := by have := sq_nn x; have := sq_nn y; omega
  have hr := rootI_spec (x * x + y * y) hxy
  have h0 := rootI_nonneg (x * x + y * y)
  generalize rootI (x * x + y * y) = far at *
  obtain ⟨n, hn2⟩ : ∃ n, n = c * c + s * s := ⟨_, rfl⟩
  rw [← hn2] at hn
  have e : R * c * (R * c) + R * s * (R * s) + 0 * 0 = R * R * n := by rw [hn2]; grind
  have hRR := sq_nn R
  have n1 : R * R * n ≤ R * R * 1000081000000 := Int.mul_le_mul_of_nonneg_left hn.2 hRR
  have n2 : R * R * 999919000000 ≤ R * R * n := Int.mul_le_mul_of_nonneg_left hn.1 hRR
  obtain ⟨t1, h1⟩ : ∃ t, t = 1000 * x - R * c := ⟨_, rfl⟩
  obtain ⟨t2, h2⟩ : ∃ t, t = 1000 * y - R * s := ⟨_, rfl⟩
  rw [← h1] at r1
  rw [← h2] at r2
  have k1 := mul_in r1 r1
  have k2 := mul_in r2 r2
  have M1 := mink (a := R * c) (b := R * s) (c := 0) (p := t1) (q := t2) (r := 0) (A := 1000041 * R) (B := 900) (by omega) (by omega) (by
    rw [e]
    have : 1000041 * R * (1000041 * R) = 1000082001681 * (R * R) := by grind
    omega) (by omega)
  have e3 : 1000 * x * (1000 * x) + 1000 * y * (1000 * y) + 0 * 0 = 1000000 * (x * x + y * y) := by grind
  have M2 := mink (a := 1000 * x) (b := 1000 * y) (c := 0) (p := -t1) (q := -t2) (r := 0) (A := 1000 * (far + 1)) (B := 900) (by omega) (by omega) (by
    rw [e3]
    have : 1000 * (far + 1) * (1000 * (far + 1)) = 1000000 * ((far + 1) * (far + 1)) := by grind
    omega) (by rw [Int.neg_mul_neg, Int.neg_mul_neg]; omega)
  rw [show R * c + t1 = 1000 * x by omega, show R * s + t2 = 1000 * y by omega, Int.add_zero, e3] at M1
  rw [show 1000 * x + -t1 = R * c by omega, show 1000 * y + -t2 = R * s by omega, Int.add_zero, e] at M2
  have s1 := sq_lt (a := 1000 * far) (b := 1000041 * R + 900) (by omega) (by
    have : 1000 * far * (1000 * far) = 1000000 * (far * far) := by grind
    omega)
  have s2 := sq_lt (a := 999959 * R) (b := 1000 * (far + 1) + 900) (by omega) (by
    have : 999959 * R * (999959 * R) = 999918001681 * (R * R) := by grind
    omega)
  have := absI_bd (far - 1000 * R)
  omega
/-- after a period -/
theorem angle_after {p u d m d' m' : Int} (hp : 0 < p) (h : milliI d' m' = milliI d m + p * 86400) : angleI p u d' m' = angleI p u d m := by
  unfold angleI
  rw [h]
  have e : (milliI d m + p * 86400) * 360000 = milliI d m * 360000 + 360000 * (p * 86400) := by grind
  rw [e, Int.add_mul_ediv_right _ _ (by omega)]
  omega
theorem minmax (a b : Int) : minI a b ≤ maxI a b := by unfold minI maxI; split <;> split <;> omega
theorem arcL_zero (v : Int) (h : 0 ≤ v) : arcL 0 v = 0 := by
  have hb := arcL_bd 0 v
  have ha := bsI_at (arcP 0 v) 0 45000 (by omega)
  change (arcL 0 v = 45000 ∨ _) ∧ (arcL 0 v = 0 ∨ arcP 0 v (arcL 0 v - 1) = false) at ha
  generalize arcL 0 v = m at *
  rcases ha.2 with h1 | h1
  · exact h1
  · by_cases hm : m = 0
    · exact hm
    · simp only [arcP, decide_eq_false_iff_not, Int.not_le] at h1
      have hs : 0 ≤ sinI (m - 1) := by rw [sinI_lo (by omega) (by omega)]; exact (sinQ_bd _ (by omega) (by omega)).1
      have := Int.mul_nonneg hs h
      omega
theorem arcB_y0 {x : Int} (h : 0 ≤ x) : arcB 0 x = 0 := by
  unfold arcB
  rw [if_neg (by omega), show minI x 0 = 0 by unfold minI; split <;> omega, show maxI x 0 = x by unfold maxI; split <;> omega]
  exact arcL_zero x h
theorem arcB_x0 {y : Int} (h : 0 < y) : arcB y 0 = 90000 := by
  unfold arcB
  rw [if_pos h, show minI 0 y = 0 by unfold minI; split <;> omega, show maxI 0 y = y by unfold maxI; split <;> omega, arcL_zero y (by omega)]
  rfl
theorem absI_neg (a : Int) : absI (-a) = absI a := by unfold absI; split <;> split <;> omega
theorem absI_zero : absI 0 = 0 := rfl
/-- the opposite of a direction -/
theorem arc_opp {y x : Int} (h : ¬ (x = 0 ∧ y = 0)) : (arcI y x + 180000) % 360000 = arcI (-y) (-x) := by
  have hb := arcB_bd (absI y) (absI x)
  have ax := absI_bd x
  have ay := absI_bd y
  unfold arcI
  rw [absI_neg, absI_neg]
  by_cases hx : x = 0
  · subst hx
    rw [absI_zero] at *
    rw [arcB_x0 (by omega)]
    by_cases hy : 0 < y
    · rw [if_pos (by omega), if_neg (by omega), if_neg (by omega), if_neg (by omega)]; unfold nrm; omega
    · rw [if_neg (by omega), if_neg (by omega), if_neg (by omega), if_pos (by omega)]; unfold nrm; omega
  · by_cases hy : y = 0
    · subst hy
      rw [absI_zero] at *
      rw [arcB_y0 (by omega)]
      by_cases h2 : 0 < x
      · rw [if_pos (by omega), if_neg (by omega), if_pos (by omega)]; omega
      · rw [if_neg (by omega), if_pos (by omega), if_pos (by omega)]; omega
    · generalize arcB (absI y) (absI x) = b at *
      have : x < 0 ∨ 0 < x := by omega
      have : y < 0 ∨ 0 < y := by omega
      unfold nrm
      repeat' split
      all_goals omega
theorem way_opp (P Q : PlB) (d m : Int) : wyX Q P d m = -(wyX P Q d m) ∧ wyY Q P d m = -(wyY P Q d m) := by unfold wyX wyY; omega
/-- what is seen of each other -/
theorem seen_both {P Q : PlB} {d m : Int} (hP : vP P = true) (hQ : vP Q = true) (hm : vMoment d m = true) :
    (distO P Q d m).2 = (distO Q P d m).2 ∧ (distO P Q d m).1 = (distO Q P d m).1 ∧ (seenO P Q d m).2 = (distO P Q d m).2 ∧ (seenO Q P d m).2 = (distO P Q d m).2 ∧ ((distO P Q d m).2 = 6 ∨ ((distO P Q d m).2 = 0 ∧ 0 ≤ (seenO P Q d m).1 ∧ (seenO P Q d m).1 < 360000 ∧ 0 ≤ (seenO Q P d m).1 ∧ ((seenO P Q d m).1 + 180000) % 360000 = (seenO Q P d m).1)) := by
  have hV : wyV P Q d m = true := by simp [wyV, hP, hQ, hm]
  have hs := wyC_symm P Q d m
  obtain ⟨e1, e2⟩ := way_opp P Q d m
  rcases wyC_cases P Q d m with ⟨hk, hv⟩ | ⟨hk, hv, hz⟩ | ⟨hk, hv, hz⟩
  · rw [hV] at hv; cases hv
  · rw [distO_no (by omega), distO_no (by omega), seenO_no (by omega), seenO_no (by omega), ← hs]
    exact ⟨rfl, rfl, rfl, rfl, .inl hk⟩
  · rw [distO_ok hk, distO_ok (by omega), seenO_ok hk, seenO_ok (by omega), e1, e2, Int.neg_mul_neg, Int.neg_mul_neg]
    have hz' := (wyZ_iff' P Q d m).1 hz
    have b1 := arcI_bd (wyY P Q d m) (wyX P Q d m)
    have b2 := arcI_bd (-(wyY P Q d m)) (-(wyX P Q d m))
    exact ⟨rfl, rfl, rfl, rfl, .inr ⟨rfl, b1.1, b1.2, b2.1, arc_opp hz'⟩⟩
theorem syn_both {n1 n2 : List UInt8} {p1 r1 u1 p2 r2 u2 : Int} : synO n1 p1 r1 u1 n2 p2 r2 u2 = synO n2 p2 r2 u2 n1 p1 r1 u1 := by
  have e : absI (p1 - p2) = absI (p2 - p1) := by rw [← absI_neg]; congr 1; omega
  have e2 : (p1 == p2) = (p2 == p1) := by rw [Bool.eq_iff_iff, beq_iff_eq, beq_iff_eq]; exact eq_comm
  unfold synO
  rw [Bool.and_comm, e, e2, Int.mul_comm p1 p2]
end Go.Proofs.YtpnfhienffekoaaGreatDoor
