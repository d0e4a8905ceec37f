/- Plain laws: no star stands higher than at its culmination nor lower than at its lowest, nearly. Nothing of the program is named here. -/
import Derived.Test.YtpnfhienffekoaaDoorPlainHz
import Derived.Test.YtpnfhienffekoaaDoorGrpPure
namespace Go.Proofs.YtpnfhienffekoaaDoor
set_option linter.unusedVariables false
set_option linter.unusedSimpArgs false
theorem dotE_comm (a b : V3) : dotE a b = dotE b a := by unfold dotE; grind
theorem crE_comm (a b : V3) : crE a b = crE b a := by unfold crE; grind
/-- the star and the zenith -/
theorem ang_zen (la s r d : Int) : ∃ Y, Ang (dotE (dirV (r - s) d) ⟨cosI la, 0, sinI la⟩) (crE (dirV (r - s) d) ⟨cosI la, 0, sinI la⟩) (90000 - latI (hvV la s r d)) 70000000000000 Y := by
  have hn := dir_norm (r - s) d
  have hf := lat_fit (hvV la s r d)
  have hF : 0 ≤ flatI (hvV la s r d) := rootI_nonneg _
  have hG := rootI_spec ((hvV la s r d).x * (hvV la s r d).x + (hvV la s r d).y * (hvV la s r d).y) (by have := sq_nn (hvV la s r d).x; have := sq_nn (hvV la s r d).y; omega)
  change flatI (hvV la s r d) * flatI (hvV la s r d) ≤ _ ∧ _ < (flatI (hvV la s r d) + 1) * (flatI (hvV la s r d) + 1) at hG
  have nb := norm_near la
  have r3 := rnd_err (dirX (r - s) d * cosI la + dirZ d * sinI la)
  have r4 := rnd_err (dirZ d * cosI la - dirX (r - s) d * sinI la)
  change _ ≤ 1000000 * (hvV la s r d).z - _ ∧ 1000000 * (hvV la s r d).z - _ ≤ _ at r3
  change _ ≤ 1000000 * (hvV la s r d).x - _ ∧ 1000000 * (hvV la s r d).x - _ ≤ _ at r4
  have ey : (hvV la s r d).y = dirY (r - s) d := rfl
  have hl := lagr (dirV (r - s) d) ⟨cosI la, 0, sinI la⟩
  have hS := crE_nn (dirV (r - s) d) ⟨cosI la, 0, sinI la⟩
  rw [ey] at hG
  generalize flatI (hvV la s r d) = F at *
  generalize latI (hvV la s r d) = al at *
  generalize (hvV la s r d).x = X at *
  generalize (hvV la s r d).z = Z at *
  have eD : dotE (dirV (r - s) d) ⟨cosI la, 0, sinI la⟩ = dirX (r - s) d * cosI la + dirZ d * sinI la := by unfold dotE dirV; dsimp only; grind
  have eS : crE (dirV (r - s) d) ⟨cosI la, 0, sinI la⟩ = (dirZ d * cosI la - dirX (r - s) d * sinI la) * (dirZ d * cosI la - dirX (r - s) d * sinI la) + dirY (r - s) d * dirY (r - s) d * (cosI la * cosI la + sinI la * sinI la) := by unfold crE dirV; dsimp only; grind
  have eN : sqV ⟨cosI la, 0, sinI la⟩ = cosI la * cosI la + sinI la * sinI la := by unfold sqV; dsimp only; grind
  refine mkAng (x := Z) (y := F) (ex := 500000) (ey := 43100000) hS ?_ ?_ ?_ ?_ (by omega) (by omega) (by omega)
  · rw [hl, eN]
    have k1 : 999835000000 * 999919000000 ≤ sqV (dirV (r - s) d) * (cosI la * cosI la + sinI la * sinI la) := Int.mul_le_mul hn.1 nb.1 (by omega) (by omega)
    have k2 : sqV (dirV (r - s) d) * (cosI la * cosI la + sinI la * sinI la) ≤ 1000165000000 * 1000081000000 := Int.mul_le_mul hn.2 nb.2 (by omega) (by omega)
    omega
  · rw [eD]; exact r3
  · intro Y Y0 Y1 Y2
    rw [eS] at Y1 Y2
    unfold sqV dirV at hn
    dsimp only at hn
    generalize dirX (r - s) d = x0 at *
    generalize dirY (r - s) d = y0 at *
    generalize dirZ d = z0 at *
    obtain ⟨A, hA⟩ : ∃ A, A = z0 * cosI la - x0 * sinI la := ⟨_, rfl⟩
    obtain ⟨n, hnn⟩ : ∃ n, n = cosI la * cosI la + sinI la * sinI la := ⟨_, rfl⟩
    rw [← hA] at Y1 Y2 r4
    rw [← hnn] at Y1 Y2 nb
    clear hA hnn eD eS eN hl hS r3 hf
    have hy := sq_nn y0
    have hx := sq_nn x0
    have hz := sq_nn z0
    have n1 : y0 * y0 * n ≤ y0 * y0 * 1000081000000 := Int.mul_le_mul_of_nonneg_left nb.2 hy
    have n2 : y0 * y0 * 999919000000 ≤ y0 * y0 * n := Int.mul_le_mul_of_nonneg_left nb.1 hy
    obtain ⟨t, ht⟩ : ∃ t, t = 1000000 * X - A := ⟨_, rfl⟩
    rw [← ht] at r4
    have q1 := mul_in r4 r4
    have M1 := mink (a := 1000000 * X) (b := 1000000 * y0) (c := 0) (p := -t) (q := 41 * y0) (r := 0) (A := 1000000 * (F + 1)) (B := 42000000) (by omega) (by omega) (by
      have e1 : 1000000 * X * (1000000 * X) + 1000000 * y0 * (1000000 * y0) + 0 * 0 = 1000000000000 * (X * X + y0 * y0) := by grind
      have e2 : 1000000 * (F + 1) * (1000000 * (F + 1)) = 1000000000000 * ((F + 1) * (F + 1)) := by grind
      omega) (by
      have e1 : -t * -t + 41 * y0 * (41 * y0) + 0 * 0 = t * t + 1681 * (y0 * y0) := by grind
      omega)
    have M2 := mink (a := A) (b := 999959 * y0) (c := 0) (p := t) (q := 41 * y0) (r := 0) (A := Y + 1) (B := 42000000) (by omega) (by omega) (by
      have e1 : A * A + 999959 * y0 * (999959 * y0) + 0 * 0 = A * A + 999918001681 * (y0 * y0) := by grind
      omega) (by
      have e1 : t * t + 41 * y0 * (41 * y0) + 0 * 0 = t * t + 1681 * (y0 * y0) := by grind
      omega)
    rw [show 1000000 * X + -t = A by omega, show 1000000 * y0 + 41 * y0 = 1000041 * y0 by omega, Int.add_zero] at M1
    rw [show A + t = 1000000 * X by omega, show 999959 * y0 + 41 * y0 = 1000000 * y0 by omega, Int.add_zero] at M2
    have s1 := sq_lt (a := Y) (b := 1000000 * (F + 1) + 42000000) (by omega) (by
      have e1 : A * A + 1000041 * y0 * (1000041 * y0) + 0 * 0 = A * A + 1000082001681 * (y0 * y0) := by grind
      omega)
    have s2 := sq_lt (a := 1000000 * F) (b := Y + 1 + 42000000) (by omega) (by
      have e1 : 1000000 * X * (1000000 * X) + 1000000 * y0 * (1000000 * y0) + 0 * 0 = 1000000000000 * (X * X + y0 * y0) := by grind
      have e2 : 1000000 * F * (1000000 * F) = 1000000000000 * (F * F) := by grind
      omega)
    omega
  · refine fit_flip hf ?_ ?_ (by omega)
    · rw [cos_comp, sin_comp]; right; grind
    · rw [cos_comp, sin_comp]; omega
theorem sq_next {a : Int} (h : 0 ≤ a) : a * a < (a + 1) * (a + 1) := by
  have : (a + 1) * (a + 1) = a * a + 2 * a + 1 := by grind
  omega
/-- the zenith and a pole -/
theorem ang_pole {la : Int} (h : -90000 ≤ la ∧ la ≤ 90000) : (∃ Y, Ang (dotE ⟨cosI la, 0, sinI la⟩ ⟨0, 0, 1000000⟩) (crE ⟨cosI la, 0, sinI la⟩ ⟨0, 0, 1000000⟩) (90000 - la) 70000000000000 Y) ∧ (∃ Y, Ang (dotE ⟨cosI la, 0, sinI la⟩ ⟨0, 0, -1000000⟩) (crE ⟨cosI la, 0, sinI la⟩ ⟨0, 0, -1000000⟩) (90000 + la) 70000000000000 Y) := by
  have hc := cosI_pos h.1 h.2
  have nb := norm_near la
  have e1 : cosI (90000 + la) = -(sinI la) := by rw [show 90000 + la = la + 90000 by omega, cosI_quarter]
  have e2 : sinI (90000 + la) = cosI la := by rw [show 90000 + la = la + 90000 by omega, sinI_quarter]
  constructor
  · refine ⟨1000000 * cosI la, by omega, ?_, ?_, ?_, ?_⟩
    · unfold crE; dsimp only; grind
    · have : crE ⟨cosI la, 0, sinI la⟩ ⟨0, 0, 1000000⟩ = 1000000 * cosI la * (1000000 * cosI la) := by unfold crE; dsimp only; grind
      rw [this]
      exact sq_next (by omega)
    · rw [cos_comp, sin_comp]
      have : 1000000 * cosI la * sinI la - dotE ⟨cosI la, 0, sinI la⟩ ⟨0, 0, 1000000⟩ * cosI la = 0 := by unfold dotE; dsimp only; grind
      rw [this]; omega
    · rw [cos_comp, sin_comp]
      have : dotE ⟨cosI la, 0, sinI la⟩ ⟨0, 0, 1000000⟩ * sinI la + 1000000 * cosI la * cosI la = 1000000 * (cosI la * cosI la + sinI la * sinI la) := by unfold dotE; dsimp only; grind
      rw [this]; omega
  · refine ⟨1000000 * cosI la, by omega, ?_, ?_, ?_, ?_⟩
    · unfold crE; dsimp only; grind
    · have : crE ⟨cosI la, 0, sinI la⟩ ⟨0, 0, -1000000⟩ = 1000000 * cosI la * (1000000 * cosI la) := by unfold crE; dsimp only; grind
      rw [this]
      exact sq_next (by omega)
    · rw [e1, e2]
      have : 1000000 * cosI la * -(sinI la) - dotE ⟨cosI la, 0, sinI la⟩ ⟨0, 0, -1000000⟩ * cosI la = 0 := by unfold dotE; dsimp only; grind
      rw [this]; omega
    · rw [e1, e2]
      have : dotE ⟨cosI la, 0, sinI la⟩ ⟨0, 0, -1000000⟩ * -(sinI la) + 1000000 * cosI la * cosI la = 1000000 * (cosI la * cosI la + sinI la * sinI la) := by unfold dotE; dsimp only; grind
      rw [this]; omega
/-- the star and a pole: how far its declination is from the direction's -/
theorem flat_dir {l d Y : Int} (hd : -90000 ≤ d ∧ d ≤ 90000) (Y0 : 0 ≤ Y) (Y1 : Y * Y ≤ 1000000000000 * (dirX l d * dirX l d + dirY l d * dirY l d)) (Y2 : 1000000000000 * (dirX l d * dirX l d + dirY l d * dirY l d) < (Y + 1) * (Y + 1)) : -43100000 ≤ 1000000 * cosI d - Y ∧ 1000000 * cosI d - Y ≤ 43100000 := by
  have r3 := rnd_err (cosI d * cosI l)
  have r4 := rnd_err (cosI d * sinI l)
  change _ ≤ 1000000 * dirX l d - _ ∧ 1000000 * dirX l d - _ ≤ _ at r3
  change _ ≤ 1000000 * dirY l d - _ ∧ 1000000 * dirY l d - _ ≤ _ at r4
  have hc := cosI_pos hd.1 hd.2
  have hb := cosI_bd d
  have nl := norm_near l
  generalize dirX l d = x at *
  generalize dirY l d = y at *
  generalize cosI d = C at *
  obtain ⟨n, hn⟩ : ∃ n, n = cosI l * cosI l + sinI l * sinI l := ⟨_, rfl⟩
  have e : C * cosI l * (C * cosI l) + C * sinI l * (C * sinI l) + 0 * 0 = C * C * n := by rw [hn]; grind
  rw [← hn] at nl
  clear hn
  have hCC := sq_nn C
  have n1 : C * C * n ≤ C * C * 1000081000000 := Int.mul_le_mul_of_nonneg_left nl.2 hCC
  have n2 : C * C * 999919000000 ≤ C * C * n := Int.mul_le_mul_of_nonneg_left nl.1 hCC
  obtain ⟨t1, h1⟩ : ∃ t, t = 1000000 * x - C * cosI l := ⟨_, rfl⟩
  obtain ⟨t2, h2⟩ : ∃ t, t = 1000000 * y - C * sinI l := ⟨_, rfl⟩
  rw [← h1] at r3
  rw [← h2] at r4
  have Q := sq_small3 (a := t1) (b := t2) (c := 0) (B := 500000) (E := 870000 * 870000) r3 r4 (by omega) (by omega)
  have Q' := sq_small3 (a := -t1) (b := -t2) (c := 0) (B := 500000) (E := 870000 * 870000) (by omega) (by omega) (by omega) (by omega)
  have M1 := mink (a := C * cosI l) (b := C * sinI l) (c := 0) (p := t1) (q := t2) (r := 0) (A := 1000041 * C) (B := 870000) (by omega) (by omega) (by
    rw [e]
    have : 1000041 * C * (1000041 * C) = 1000082001681 * (C * C) := by grind
    omega) Q
  have e3 : 1000000 * x * (1000000 * x) + 1000000 * y * (1000000 * y) + 0 * 0 = 1000000000000 * (x * x + y * y) := by grind
  have M2 := mink (a := 1000000 * x) (b := 1000000 * y) (c := 0) (p := -t1) (q := -t2) (r := 0) (A := Y + 1) (B := 870000) (by omega) (by omega) (by rw [e3]; omega) Q'
  rw [show C * cosI l + t1 = 1000000 * x by omega, show C * sinI l + t2 = 1000000 * y by omega, Int.add_zero, e3] at M1
  rw [show 1000000 * x + -t1 = C * cosI l by omega, show 1000000 * y + -t2 = C * sinI l by omega, Int.add_zero, e] at M2
  have s1 := sq_lt (a := Y) (b := 1000041 * C + 870000) (by omega) (by omega)
  have s2 := sq_lt (a := 999959 * C) (b := Y + 1 + 870000) (by omega) (by
    have : 999959 * C * (999959 * C) = 999918001681 * (C * C) := by grind
    omega)
  omega
theorem ang_star {l d : Int} (hd : -90000 ≤ d ∧ d ≤ 90000) : (∃ Y, Ang (dotE ⟨0, 0, 1000000⟩ (dirV l d)) (crE ⟨0, 0, 1000000⟩ (dirV l d)) (90000 - d) 70000000000000 Y) ∧ (∃ Y, Ang (dotE ⟨0, 0, -1000000⟩ (dirV l d)) (crE ⟨0, 0, -1000000⟩ (dirV l d)) (90000 + d) 70000000000000 Y) := by
  have hn := dir_norm l d
  have nd := norm_near d
  have e1 : cosI (90000 + d) = -(sinI d) := by rw [show 90000 + d = d + 90000 by omega, cosI_quarter]
  have e2 : sinI (90000 + d) = cosI d := by rw [show 90000 + d = d + 90000 by omega, sinI_quarter]
  have hb := sq_nn (cosI d)
  have hs := sq_nn (sinI d)
  constructor
  · have eS : crE ⟨0, 0, 1000000⟩ (dirV l d) = 1000000000000 * (dirX l d * dirX l d + dirY l d * dirY l d) := by unfold crE dirV; dsimp only; grind
    have eD : dotE ⟨0, 0, 1000000⟩ (dirV l d) = 1000000 * sinI d := by unfold dotE dirV dirZ; dsimp only; grind
    have hl := lagr ⟨0, 0, 1000000⟩ (dirV l d)
    rw [show sqV ⟨0, 0, 1000000⟩ = 1000000000000 from rfl] at hl
    refine mkAng (x := sinI d) (y := cosI d) (ex := 0) (ey := 43100000) (crE_nn _ _) (by rw [hl]; omega) (by rw [eD]; omega) (fun Y Y0 Y1 Y2 => ?_) ?_ (by omega) (by omega) (by omega)
    · rw [eS] at Y1 Y2; exact flat_dir hd Y0 Y1 Y2
    · unfold Fit
      rw [cos_comp, sin_comp]
      have : cosI d * sinI d - sinI d * cosI d = 0 := by grind
      rw [this]; omega
  · have eS : crE ⟨0, 0, -1000000⟩ (dirV l d) = 1000000000000 * (dirX l d * dirX l d + dirY l d * dirY l d) := by unfold crE dirV; dsimp only; grind
    have eD : dotE ⟨0, 0, -1000000⟩ (dirV l d) = 1000000 * -(sinI d) := by unfold dotE dirV dirZ; dsimp only; grind
    have hl := lagr ⟨0, 0, -1000000⟩ (dirV l d)
    rw [show sqV ⟨0, 0, -1000000⟩ = 1000000000000 from rfl] at hl
    refine mkAng (x := -(sinI d)) (y := cosI d) (ex := 0) (ey := 43100000) (crE_nn _ _) (by rw [hl]; omega) (by rw [eD]; omega) (fun Y Y0 Y1 Y2 => ?_) ?_ (by omega) (by omega) (by omega)
    · rw [eS] at Y1 Y2; exact flat_dir hd Y0 Y1 Y2
    · unfold Fit
      rw [e1, e2]
      have : cosI d * -(sinI d) - -(sinI d) * cosI d = 0 := by grind
      have e4 : -(sinI d) * -(sinI d) = sinI d * sinI d := Int.neg_mul_neg _ _
      rw [this, e4]; omega
/-- how high a star stands -/
theorem alt_bound {la s r d : Int} (hla : -90000 ≤ la ∧ la ≤ 90000) (hd : -90000 ≤ d ∧ d ≤ 90000) : latI (hvV la s r d) ≤ 90000 - absI (la - d) + 60 ∧ absI (la + d) - 90000 - 60 ≤ latI (hvV la s r d) := by
  have bal := lat_bd (hvV la s r d)
  obtain ⟨Y1, A1⟩ := ang_zen la s r d
  obtain ⟨⟨Y2, A2⟩, Y3, A3⟩ := ang_pole hla
  obtain ⟨⟨Y4, A4⟩, Y5, A5⟩ := ang_star (l := r - s) hd
  generalize latI (hvV la s r d) = al at *
  have uS := dir_unit (r - s) d
  generalize dirV (r - s) d = St at *
  have uZ : unitV ⟨cosI la, 0, sinI la⟩ := by
    have nb := norm_near la
    have e : sqV ⟨cosI la, 0, sinI la⟩ = cosI la * cosI la + sinI la * sinI la := by unfold sqV; dsimp only; grind
    unfold unitV; rw [e]; omega
  have uP : unitV ⟨0, 0, 1000000⟩ := by unfold unitV; decide
  have uN : unitV ⟨0, 0, -1000000⟩ := by unfold unitV; decide
  generalize (⟨cosI la, 0, sinI la⟩ : V3) = Ze at *
  generalize (⟨0, 0, 1000000⟩ : V3) = P at *
  generalize (⟨0, 0, -1000000⟩ : V3) = N at *
  have e60 : sinI 60 = 1047 := by decide +kernel
  have tri : ∀ {a b c : V3} {p q g : Int} {U V W : Int}, unitV a → unitV b → unitV c → Ang (dotE a b) (crE a b) p 70000000000000 U → Ang (dotE b c) (crE b c) q 70000000000000 V → Ang (dotE a c) (crE a c) g 70000000000000 W → 0 ≤ p → 0 ≤ q → g ≤ 180000 → g < p + q + 60 := fun ha hb hc B1 B2 B3 h1 h2 h3 =>
    triangle ha hb hc (lagr _ _) (lagr _ _) (lagr _ _) (cs3 _ _ _) B1 B2 B3 (by omega) h1 h2 h3 (by omega) (by rw [e60]; omega)
  have A1' := A1
  rw [dotE_comm, crE_comm] at A1'
  have A2' := A2
  rw [dotE_comm, crE_comm] at A2'
  have A4' := A4
  rw [dotE_comm, crE_comm] at A4'
  have A3' := A3
  rw [dotE_comm, crE_comm] at A3'
  have A5' := A5
  rw [dotE_comm, crE_comm] at A5'
  have t1 := tri uS uZ uP A1 A2 A4' (by omega) (by omega) (by omega)
  have t2 := tri uZ uS uP A1' A4' A2 (by omega) (by omega) (by omega)
  have t3 := tri uS uP uZ A4' A2' A1 (by omega) (by omega) (by omega)
  have t4 := tri uS uN uZ A5' A3' A1 (by omega) (by omega) (by omega)
  have h1 := absI_bd (la - d)
  have h2 := absI_bd (la + d)
  omega
end Go.Proofs.YtpnfhienffekoaaDoor
