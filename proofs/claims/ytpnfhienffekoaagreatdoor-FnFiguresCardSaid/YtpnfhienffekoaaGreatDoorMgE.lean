/- Ang, Arc, ArcT, in one text. -/
import Derived.Test.YtpnfhienffekoaaGreatDoorGrpNum
import Derived.Test.YtpnfhienffekoaaGreatDoorGrpPure
namespace Go.Proofs.YtpnfhienffekoaaGreatDoor
set_option linter.unusedVariables false
set_option linter.unusedSimpArgs false
open Go.RowKit
theorem wrap_in' {n : Int} (h1 : -9223372036854775808 ≤ n) (h2 : n ≤ 9223372036854775807) : IntKind.i64.wrap n = n := IntWalk.i64_in _ ⟨h1, h2⟩
/-- the package's table of sines lies where it lay at the start -/
def SinOk (w : World) : Prop := 0 < w.heap.size ∧ ∀ k : Nat, k < 91 → w.cell? ⟨0, k, none⟩ = some (.int .i64 (sinAt k))
theorem SinOk.of_below {w w' : World} (h : SinOk w) (hb : Below w.heap.size w w') : SinOk w' :=
  ⟨Nat.lt_of_lt_of_le h.1 hb.size, fun k hk => (hb.cell (p := ⟨0, k, none⟩) h.1).trans (h.2 k hk)⟩
theorem SinOk.later {w : World} (h : SinOk w) (y : Later w) : SinOk y.w := h.of_below y.below
theorem SinOk.drewN {w : World} (h : SinOk w) (n : Nat) : SinOk (w.drewN n) := h
theorem SinOk.alloc {w : World} (h : SinOk w) (o : Obj) : SinOk (w.alloc o) := h.of_below (below_alloc (Below.refl _ _) o)
theorem NormalAngle_any (a : Int) (w : World) (h1 : -9000000000000000000 ≤ a) (h2 : a ≤ 9000000000000000000) :
    Calls Tryz.prog 102 #[.int .i64 a] w fun e w' => e = .returned (.int .i64 (nrm a)) ∧ w = w' := by
  have HN := Lib.hid (nrm_tmod a)
  obtain ⟨m1, m2⟩ := tmod_bd a 360000 (by omega)
  by_cases h : a.tmod 360000 < 0
  · go_enter Tryz.func102, Tryz.ntmps102
    go_wp2
    go_ret
    exact ⟨ret_int (by rw [HN.out, if_pos h]), rfl⟩
  · go_enter Tryz.func102, Tryz.ntmps102
    go_wp2
    go_ret
    exact ⟨ret_int (by rw [HN.out, if_neg (by omega)]), rfl⟩
theorem blend_any (x0 y0 x1 y1 x : Int) (w : World) (b1 : -1000000 ≤ x0 ∧ x0 ≤ 1000000) (b2 : -2000000 ≤ y0 ∧ y0 ≤ 2000000) (b3 : -1000000 ≤ x1 ∧ x1 ≤ 1000000) (b4 : -2000000 ≤ y1 ∧ y1 ≤ 2000000) :
    Calls Tryz.prog 103 #[.int .i64 x0, .int .i64 y0, .int .i64 x1, .int .i64 y1, .int .i64 x] w fun e w' => e = .returned (.int .i64 (blendI x0 y0 x1 y1 x)) ∧ ∃ n, w' = w.drewN n := by
  have HB : Hid (blendI x0 y0 x1 y1 x = if x ≤ x0 ∨ x1 ≤ x0 then y0 else if x1 ≤ x then y1 else y0 + rnd ((y1 - y0) * (x - x0)) (x1 - x0)) := rfl
  by_cases h1 : x ≤ x0
  · go_enter Tryz.func103, Tryz.ntmps103
    go_wp2
    go_ret
    exact ⟨ret_int (by rw [HB.out, if_pos (.inl h1)]), 0, rfl⟩
  · by_cases h2 : x1 ≤ x0
    · go_enter Tryz.func103, Tryz.ntmps103
      go_wp2
      go_ret
      exact ⟨ret_int (by rw [HB.out, if_pos (.inr h2)]), 0, rfl⟩
    · by_cases h3 : x1 ≤ x
      · go_enter Tryz.func103, Tryz.ntmps103
        go_wp2
        go_ret
        exact ⟨ret_int (by rw [HB.out, if_neg (by omega), if_pos h3]), 0, rfl⟩
      · obtain ⟨m1, m2⟩ := mul_small (y1 - y0) (x - x0) 4000000 2000000 (by omega) (by omega)
        obtain ⟨r1, r2⟩ := rnd_between ((y1 - y0) * (x - x0)) (x1 - x0) (-4000000) 4000000 (by omega) (by have := mul_small (y1 - y0) (x - x0) 4000000 (x1 - x0) (by omega) (by omega); rw [Int.mul_neg, Int.mul_comm]; omega) (by have := mul_small (y1 - y0) (x - x0) 4000000 (x1 - x0) (by omega) (by omega); rw [Int.mul_comm (x1 - x0)]; omega)
        go_enter Tryz.func103, Tryz.ntmps103
        go_wp2_with ((go_at_call 50; refine (nearest_any _ _ _ (by omega) (by omega) (by omega) (by omega)).mono ?_; rintro e w' ⟨rfl, nd, rfl⟩))
        go_ret
        exact ⟨ret_int (by rw [HB.out, if_neg (by omega), if_neg (by omega)]), _, rfl⟩
theorem NormalAngle_is {a n : Int} (h : nrm a = n) (w : World) (h1 : -9000000000000000000 ≤ a) (h2 : a ≤ 9000000000000000000) :
    Calls Tryz.prog 102 #[.int .i64 a] w fun e w' => e = .returned (.int .i64 n) ∧ w = w' := by subst h; exact NormalAngle_any a w h1 h2
/-- the branch behind the turn: an angle m from 0 to 90 degrees -/
theorem sinQ_parts (m : Int) (h0 : 0 ≤ m) (h1 : m < 90000) : ∃ k : Nat, k < 90 ∧ m / 1000 = k ∧ 1000 * (k : Int) ≤ m ∧ m < 1000 * ((k : Int) + 1) :=
  ⟨(m / 1000).toNat, by omega, by omega, by omega, by omega⟩
set_option maxHeartbeats 2000000 in
theorem SineOf_low (a n : Int) (w : World) (hS : SinOk w) (hn : nrm a = n) (h1 : -9000000000000000000 ≤ a) (h2 : a ≤ 9000000000000000000) (h : n < 180000) :
    Calls Tryz.prog 52 #[.int .i64 a] w fun e w' => e = .returned (.int .i64 (sinH n)) ∧ ∃ q, w' = w.drewN q := by
  have n0 := (nrm_bd a).1
  rw [hn] at n0
  have HN := Lib.hid hn; clear hn
  obtain ⟨hG, hT⟩ := hS
  have HT := Lib.hid hT; clear hT
  by_cases hc : 90000 < n
  · have HE : Hid (sinH n = sinQ (180000 - n)) := by show sinH n = _; unfold sinH; rw [if_pos hc]
    obtain ⟨k, k1, k2, k3, k4⟩ := sinQ_parts (180000 - n) (by omega) (by omega)
    have HB := Lib.hid (blend_sin (180000 - n) k k3 k4)
    have c0 := HT.out k (by omega)
    have c1 := HT.out (k + 1) (by omega)
    have b0 := sinAt_bd k (by omega)
    have b1 := sinAt_bd (k + 1) (by omega)
    generalize sinAt k = t0 at *
    generalize sinAt (k + 1) = t1 at *
    have i0 : (k : Int) < 91 := by omega
    have i1 : (k : Int) + 1 < 91 := by omega
    have i2 : 0 ≤ (k : Int) + 1 := by omega
    have e1 : ((k : Int) == 90) = false := by simp; omega
    have e2 : IntKind.i64.wrap ((k : Int) + 1) = (k : Int) + 1 := wrap_in' (by omega) (by omega)
    have e3 : IntKind.i64.wrap ((k : Int) * 1000) = (k : Int) * 1000 := wrap_in' (by omega) (by omega)
    have e4 : IntKind.i64.wrap (((k : Int) + 1) * 1000) = ((k : Int) + 1) * 1000 := wrap_in' (by omega) (by omega)
    have C1 : Hid (∀ W, Calls Tryz.prog 103 #[.int .i64 ((k : Int) * 1000), .int .i64 t0, .int .i64 (((k : Int) + 1) * 1000), .int .i64 t1, .int .i64 (180000 - n)] W fun e w' => e = .returned (.int .i64 (sinQ (180000 - n))) ∧ ∃ q, w' = W.drewN q) := fun W => by
      rw [← HB.out]; exact blend_any _ _ _ _ _ W (by omega) (by omega) (by omega) (by omega)
    clear k3 k4
    have K2 := Lib.hid k2; clear k2
    go_enter Tryz.func52, Tryz.ntmps52
    go_wp2_with ((go_at_call 102; refine (NormalAngle_is HN.out _ h1 h2).mono ?_; rintro e w' ⟨rfl, rfl⟩))
    rw [K2.out]
    go_quiet ((go_at_call 103; exact Calls.quiet_of (C1.out _)))
    go_wp2
    go_ret
    exact ⟨ret_int (by rw [HE.out]), _, rfl⟩
  · by_cases h9 : n = 90000
    · have HE : Hid (sinH n = sinAt 90) := by rw [h9]; rfl
      have c0 := HT.out 90 (by omega)
      generalize sinAt 90 = t0 at *
      have h9a : 90000 ≤ n := by omega
      have h9b : n ≤ 90000 := by omega
      have e1 : n / 1000 = 90 := by omega
      clear h9
      go_enter Tryz.func52, Tryz.ntmps52
      go_wp2_with ((go_at_call 102; refine (NormalAngle_is HN.out _ h1 h2).mono ?_; rintro e w' ⟨rfl, rfl⟩))
      go_ret
      exact ⟨ret_int (by rw [HE.out]), 0, rfl⟩
    · have HE : Hid (sinH n = sinQ (n)) := by show sinH n = _; unfold sinH; rw [if_neg hc]
      obtain ⟨k, k1, k2, k3, k4⟩ := sinQ_parts (n) (by omega) (by omega)
      have HB := Lib.hid (blend_sin (n) k k3 k4)
      have c0 := HT.out k (by omega)
      have c1 := HT.out (k + 1) (by omega)
      have b0 := sinAt_bd k (by omega)
      have b1 := sinAt_bd (k + 1) (by omega)
      generalize sinAt k = t0 at *
      generalize sinAt (k + 1) = t1 at *
      have i0 : (k : Int) < 91 := by omega
      have i1 : (k : Int) + 1 < 91 := by omega
      have i2 : 0 ≤ (k : Int) + 1 := by omega
      have e1 : ((k : Int) == 90) = false := by simp; omega
      have e2 : IntKind.i64.wrap ((k : Int) + 1) = (k : Int) + 1 := wrap_in' (by omega) (by omega)
      have e3 : IntKind.i64.wrap ((k : Int) * 1000) = (k : Int) * 1000 := wrap_in' (by omega) (by omega)
      have e4 : IntKind.i64.wrap (((k : Int) + 1) * 1000) = ((k : Int) + 1) * 1000 := wrap_in' (by omega) (by omega)
      have C1 : Hid (∀ W, Calls Tryz.prog 103 #[.int .i64 ((k : Int) * 1000), .int .i64 t0, .int .i64 (((k : Int) + 1) * 1000), .int .i64 t1, .int .i64 (n)] W fun e w' => e = .returned (.int .i64 (sinQ (n))) ∧ ∃ q, w' = W.drewN q) := fun W => by
        rw [← HB.out]; exact blend_any _ _ _ _ _ W (by omega) (by omega) (by omega) (by omega)
      clear k3 k4
      have K2 := Lib.hid k2; clear k2
      go_enter Tryz.func52, Tryz.ntmps52
      go_wp2_with ((go_at_call 102; refine (NormalAngle_is HN.out _ h1 h2).mono ?_; rintro e w' ⟨rfl, rfl⟩))
      rw [K2.out]
      go_quiet ((go_at_call 103; exact Calls.quiet_of (C1.out _)))
      go_wp2
      go_ret
      exact ⟨ret_int (by rw [HE.out]), _, rfl⟩
theorem SineOf_any (a : Int) (w : World) (hS : SinOk w) (h1 : -9000000000000000000 ≤ a) (h2 : a ≤ 9000000000000000000) :
    Calls Tryz.prog 52 #[.int .i64 a] w fun e w' => e = .returned (.int .i64 (sinI a)) ∧ ∃ q, w' = w.drewN q := by
  have hn := nrm_bd a
  have HE : Hid (sinI a = if 180000 ≤ nrm a then -(sinH (nrm a - 180000)) else sinH (nrm a)) := rfl
  by_cases h : nrm a < 180000
  · have := SineOf_low a (nrm a) w hS rfl h1 h2 h
    rw [HE.out, if_neg (by omega)]
    exact this
  · have hb := sinH_bd (nrm a - 180000) (by omega) (by omega)
    have HN : Hid (nrm a = nrm a) := rfl
    have HN := Lib.hid (show nrm a = nrm a from rfl)
    obtain ⟨n, hnn⟩ : ∃ n, nrm a = n := ⟨_, rfl⟩
    rw [hnn] at hn hb HE h
    have HQ := Lib.hid hnn; clear hnn HN
    go_enter Tryz.func52, Tryz.ntmps52
    go_wp2_with (first | (go_at_call 102; refine (NormalAngle_is HQ.out _ h1 h2).mono ?_; rintro e w' ⟨rfl, rfl⟩) | (go_at_call 52; refine (SineOf_low _ (n - 180000) _ hS (nrm_of (by omega) (by omega)) (by omega) (by omega) (by omega)).mono ?_; rintro e w' ⟨rfl, nd, rfl⟩))
    go_ret
    exact ⟨ret_int (by rw [HE.out, if_pos (by omega)]), _, rfl⟩
theorem CosineOf_any (a : Int) (w : World) (hS : SinOk w) (h1 : -9000000000000000000 ≤ a) (h2 : a ≤ 9000000000000000000) :
    Calls Tryz.prog 51 #[.int .i64 a] w fun e w' => e = .returned (.int .i64 (cosI a)) ∧ ∃ q, w' = w.drewN q := by
  have hn := nrm_bd a
  obtain ⟨n1, n2⟩ := hn
  go_enter Tryz.func51, Tryz.ntmps51
  go_wp2_with (first | (go_at_call 102; refine (NormalAngle_any _ _ h1 h2).mono ?_; rintro e w' ⟨rfl, rfl⟩) | (go_at_call 52; refine (SineOf_any _ _ hS (by omega) (by omega)).mono ?_; rintro e w' ⟨rfl, nd, rfl⟩))
  go_ret
  exact ⟨rfl, _, rfl⟩
end Go.Proofs.YtpnfhienffekoaaGreatDoor
namespace Go.Proofs.YtpnfhienffekoaaGreatDoor
set_option linter.unusedVariables false
set_option linter.unusedSimpArgs false
open Go.RowKit
theorem absOf_is {a b : Int} (h : absI a = b) (w : World) (h1 : -9000000000000000000 ≤ a) (h2 : a ≤ 9000000000000000000) :
    Calls Tryz.prog 65 #[.int .i64 a] w fun e w' => e = .returned (.int .i64 b) ∧ w = w' := by subst h; exact absOf_any a w h1 h2
/-- the search of the arc, in both texts -/
theorem arc_step (u v lo hi m : Int) (h : lo < hi) (hm : (lo + hi) / 2 = m) : (cosI m * u ≤ sinI m * v → bsI (arcP u v) lo hi = bsI (arcP u v) lo m) ∧ (¬ cosI m * u ≤ sinI m * v → bsI (arcP u v) lo hi = bsI (arcP u v) (m + 1) hi) := by
  subst hm
  refine ⟨fun hc => bsI_yes _ _ _ h (by simp [arcP, hc]), fun hc => bsI_no _ _ _ h (by simp [arcP, hc])⟩
theorem prod_bd (s v : Int) (hs : -1000000 ≤ s ∧ s ≤ 1000000) (hv : 0 ≤ v ∧ v ≤ 1000000000000) : -1000000000000000000 ≤ s * v ∧ s * v ≤ 1000000000000000000 := by
  have := mul_small s v 1000000 1000000000000 hs hv; omega
theorem minI_bd (a b c : Int) (ha : 0 ≤ a ∧ a ≤ c) (hb : 0 ≤ b ∧ b ≤ c) : 0 ≤ minI a b ∧ minI a b ≤ c := by unfold minI; split <;> omega
theorem maxI_bd (a b c : Int) (ha : 0 ≤ a ∧ a ≤ c) (hb : 0 ≤ b ∧ b ≤ c) : 0 ≤ maxI a b ∧ maxI a b ≤ c := by unfold maxI; split <;> omega
theorem absI_le (a c : Int) (h : -c ≤ a ∧ a ≤ c) : 0 ≤ absI a ∧ absI a ≤ c := by unfold absI; split <;> omega
end Go.Proofs.YtpnfhienffekoaaGreatDoor
namespace Go.Proofs.YtpnfhienffekoaaGreatDoor
set_option linter.unusedVariables false
set_option linter.unusedSimpArgs false
open Go.RowKit
set_option maxHeartbeats 8000000 in
theorem ArcTangent_any (yy x : Int) (w : World) (hS : SinOk w) :
    Calls Tryz.prog 64 #[.int .i64 yy, .int .i64 x] w fun e w' => e = .returned (.tuple #[.int .i64 (arcO yy x).1, .int .i64 (arcO yy x).2]) ∧ ∃ q, w' = w.drewN q := by
  cases v1 : inB x (-1000000000000) 1000000000000 with
  | false =>
    have HO : Hid (arcO yy x = (0, 2)) := by show _ = _; rw [arcO, v1]; rfl
    go_enter Tryz.func64, Tryz.ntmps64
    go_wp2_with ((go_at_call 79; refine (within_any _ _ _ _).mono ?_; rintro e w' ⟨rfl, rfl⟩))
    go_ret2
    exact ⟨by rw [HO.out]; rfl, 0, rfl⟩
  | true =>
    cases v2 : inB yy (-1000000000000) 1000000000000 with
    | false =>
      have HO : Hid (arcO yy x = (0, 2)) := by show _ = _; rw [arcO, v1, v2]; rfl
      go_enter Tryz.func64, Tryz.ntmps64
      go_wp2_with ((go_at_call 79; refine (within_any _ _ _ _).mono ?_; rintro e w' ⟨rfl, rfl⟩))
      go_ret2
      exact ⟨by rw [HO.out]; rfl, 0, rfl⟩
    | true =>
      obtain ⟨hx1, hx2⟩ := (inB_iff _ _ _).1 v1
      obtain ⟨hy1, hy2⟩ := (inB_iff _ _ _).1 v2
      by_cases hz : x = 0 ∧ yy = 0
      · have z1 : (x == 0) = true := by simp [hz.1]
        have z2 : (yy == 0) = true := by simp [hz.2]
        have HO : Hid (arcO yy x = (0, 6)) := by show _ = _; rw [arcO, v1, v2, z1, z2]; rfl
        clear hz
        go_enter Tryz.func64, Tryz.ntmps64
        go_wp2_with ((go_at_call 79; refine (within_any _ _ _ _).mono ?_; rintro e w' ⟨rfl, rfl⟩))
        go_ret2
        exact ⟨by rw [HO.out]; rfl, 0, rfl⟩
      · have HO : Hid (arcO yy x = (arcI yy x, 0)) := by
          show _ = _; rw [arcO, v1, v2]
          have : (x == 0 && yy == 0) = false := by simp; omega
          rw [this]; rfl
        have HE : Hid (arcI yy x = if 0 ≤ x ∧ 0 ≤ yy then arcB (absI yy) (absI x) else if 0 ≤ yy then 180000 - arcB (absI yy) (absI x) else if x < 0 then 180000 + arcB (absI yy) (absI x) else nrm (-arcB (absI yy) (absI x))) := rfl
        have HB : Hid (arcB (absI yy) (absI x) = if absI x < absI yy then 90000 - arcL (minI (absI x) (absI yy)) (maxI (absI x) (absI yy)) else arcL (minI (absI x) (absI yy)) (maxI (absI x) (absI yy))) := rfl
        obtain ⟨ax, hax⟩ : ∃ ax, absI x = ax := ⟨_, rfl⟩
        obtain ⟨ay, hay⟩ : ∃ ay, absI yy = ay := ⟨_, rfl⟩
        have bx := absI_le x 1000000000000 ⟨hx1, hx2⟩
        have by' := absI_le yy 1000000000000 ⟨hy1, hy2⟩
        rw [hax] at HE HB bx
        rw [hay] at HE HB by'
        have HX := Lib.hid hax; clear hax
        have HY := Lib.hid hay; clear hay
        have HZ := Lib.hid hz; clear hz
        have z1 : x = 0 → (yy == 0) = false := fun h => by have := HZ.out; simp; omega
        obtain ⟨L1, L2⟩ := arcL_bd (minI ax ay) (maxI ax ay)
        have HL : Hid (arcL (minI ax ay) (maxI ax ay) = bsI (arcP (minI ax ay) (maxI ax ay)) 0 45000) := rfl
        obtain ⟨B1, B2⟩ := arcB_bd ay ax
        have HU : Hid (minI ax ay = if ax < ay then ax else ay) := rfl
        have HV : Hid (maxI ax ay = if ay < ax then ax else ay) := rfl
        obtain ⟨u1, u2⟩ := minI_bd ax ay _ bx by'
        obtain ⟨v1', v2'⟩ := maxI_bd ax ay _ bx by'
        generalize arcB ay ax = B at *
        generalize arcL (minI ax ay) (maxI ax ay) = L at *
        by_cases hx0 : x = 0
        · have hx0b : (x == 0) = true := by simp [hx0]
          have hy0b := z1 hx0
          have hx1z : x ≤ 0 := by omega
          have hx2z : 0 ≤ x := by omega
          clear z1 hx0
          rcases Int.lt_trichotomy ax ay with c1 | c1 | c1
          · have eu : minI ax ay = ax := by rw [HU.out, if_pos c1]
            have ev : maxI ax ay = ay := by rw [HV.out, if_neg (by omega)]
            rw [eu, ev] at HL
            clear HU HV eu ev u1 u2 v1' v2'
            go_enter Tryz.func64, Tryz.ntmps64
            go_wp2_with ((go_at_call 79; refine (within_any _ _ _ _).mono ?_; rintro e w' ⟨rfl, rfl⟩))
            (go_at_call 65; refine (absOf_is HX.out _ (by omega) (by omega)).mono ?_; rintro e w' ⟨rfl, rfl⟩)
            go_wp2_with (fail)
            (go_at_call 65; refine (absOf_is HY.out _ (by omega) (by omega)).mono ?_; rintro e w' ⟨rfl, rfl⟩)
            go_wp2_with (fail)
            go_loopw [10, 11] (fun a b wr => ∃ lo hi : Int, a = .int .i64 lo ∧ b = .int .i64 hi ∧ 0 ≤ lo ∧ lo ≤ hi ∧ hi ≤ 45000 ∧ L = bsI (arcP ax ay) lo hi ∧ ∃ q, wr = w.drewN q) (fun a b _ => (intOf b - intOf a).toNat)
            case atStart => exact ⟨0, 45000, rfl, rfl, by omega, by omega, by omega, HL.out, 0, rfl⟩
            case round =>
              obtain ⟨lo, hi, rfl, rfl, h0, h1, h2, hL, q, rfl⟩ := hrel
              have HQ := Lib.hid hL; clear hL
              by_cases hlt : lo < hi
              · obtain ⟨m, hm⟩ : ∃ m, (lo + hi) / 2 = m := ⟨_, rfl⟩
                obtain ⟨st1, st2⟩ := arc_step ax ay lo hi m hlt hm
                have HS1 := Lib.hid st1
                have HS2 := Lib.hid st2
                clear st1 st2
                have m1 : lo ≤ m := by omega
                have m2 : m < hi := by omega
                obtain ⟨p1, p2⟩ := prod_bd (sinI m) ay (sinI_bd m) (by omega)
                obtain ⟨p3, p4⟩ := prod_bd (cosI m) ax (cosI_bd m) (by omega)
                go_wp2_with (fail)
                (go_at_call 52; refine (SineOf_any _ _ (SinOk.drewN hS _) (by omega) (by omega)).mono ?_; rintro e w' ⟨rfl, nd, rfl⟩)
                have HM := Lib.hid hm; clear hm
                by_cases hc : cosI m * ax ≤ sinI m * ay
                · go_wp2_with ((go_at_call 51; refine (CosineOf_any _ _ (SinOk.drewN hS _) (by omega) (by omega)).mono ?_; rintro e w' ⟨rfl, nd, rfl⟩))
                  exact ⟨⟨lo, m, rfl, rfl, h0, m1, by omega, by rw [HQ.out, HS1.out hc], _, rfl⟩, by simp [intOf]; omega⟩
                · go_wp2_with ((go_at_call 51; refine (CosineOf_any _ _ (SinOk.drewN hS _) (by omega) (by omega)).mono ?_; rintro e w' ⟨rfl, nd, rfl⟩))
                  exact ⟨⟨m + 1, hi, rfl, rfl, by omega, by omega, h2, by rw [HQ.out, HS2.out (by omega)], _, rfl⟩, by simp [intOf]; omega⟩
              · have hLo : Hid (lo = L) := by show lo = L; rw [HQ.out, bsI_end _ _ _ hlt]
                obtain rfl : lo = L := hLo.out
                clear HQ hLo HL
                obtain rfl : B = 90000 - lo := by rw [HB.out, if_pos c1]
                clear HB
                go_wp2_with ((go_at_call 102; refine (NormalAngle_any _ _ (by omega) (by omega)).mono ?_; rintro e w' ⟨rfl, rfl⟩))
                all_goals (go_ret2; exact ⟨by rw [HO.out, HE.out]; (repeat' split) <;> first | rfl | (exfalso; omega), _, rfl⟩)
          · have eu : minI ax ay = ay := by rw [HU.out, if_neg (by omega)]
            have ev : maxI ax ay = ay := by rw [HV.out, if_neg (by omega)]
            rw [eu, ev] at HL
            clear HU HV eu ev u1 u2 v1' v2'
            subst c1
            go_enter Tryz.func64, Tryz.ntmps64
            go_wp2_with ((go_at_call 79; refine (within_any _ _ _ _).mono ?_; rintro e w' ⟨rfl, rfl⟩))
            (go_at_call 65; refine (absOf_is HX.out _ (by omega) (by omega)).mono ?_; rintro e w' ⟨rfl, rfl⟩)
            go_wp2_with (fail)
            (go_at_call 65; refine (absOf_is HY.out _ (by omega) (by omega)).mono ?_; rintro e w' ⟨rfl, rfl⟩)
            go_wp2_with (fail)
            go_loopw [10, 11] (fun a b wr => ∃ lo hi : Int, a = .int .i64 lo ∧ b = .int .i64 hi ∧ 0 ≤ lo ∧ lo ≤ hi ∧ hi ≤ 45000 ∧ L = bsI (arcP ax ax) lo hi ∧ ∃ q, wr = w.drewN q) (fun a b _ => (intOf b - intOf a).toNat)
            case atStart => exact ⟨0, 45000, rfl, rfl, by omega, by omega, by omega, HL.out, 0, rfl⟩
            case round =>
              obtain ⟨lo, hi, rfl, rfl, h0, h1, h2, hL, q, rfl⟩ := hrel
              have HQ := Lib.hid hL; clear hL
              by_cases hlt : lo < hi
              · obtain ⟨m, hm⟩ : ∃ m, (lo + hi) / 2 = m := ⟨_, rfl⟩
                obtain ⟨st1, st2⟩ := arc_step ax ax lo hi m hlt hm
                have HS1 := Lib.hid st1
                have HS2 := Lib.hid st2
                clear st1 st2
                have m1 : lo ≤ m := by omega
                have m2 : m < hi := by omega
                obtain ⟨p1, p2⟩ := prod_bd (sinI m) ax (sinI_bd m) (by omega)
                obtain ⟨p3, p4⟩ := prod_bd (cosI m) ax (cosI_bd m) (by omega)
                go_wp2_with (fail)
                (go_at_call 52; refine (SineOf_any _ _ (SinOk.drewN hS _) (by omega) (by omega)).mono ?_; rintro e w' ⟨rfl, nd, rfl⟩)
                have HM := Lib.hid hm; clear hm
                by_cases hc : cosI m * ax ≤ sinI m * ax
                · go_wp2_with ((go_at_call 51; refine (CosineOf_any _ _ (SinOk.drewN hS _) (by omega) (by omega)).mono ?_; rintro e w' ⟨rfl, nd, rfl⟩))
                  exact ⟨⟨lo, m, rfl, rfl, h0, m1, by omega, by rw [HQ.out, HS1.out hc], _, rfl⟩, by simp [intOf]; omega⟩
                · go_wp2_with ((go_at_call 51; refine (CosineOf_any _ _ (SinOk.drewN hS _) (by omega) (by omega)).mono ?_; rintro e w' ⟨rfl, nd, rfl⟩))
                  exact ⟨⟨m + 1, hi, rfl, rfl, by omega, by omega, h2, by rw [HQ.out, HS2.out (by omega)], _, rfl⟩, by simp [intOf]; omega⟩
              · have hLo : Hid (lo = L) := by show lo = L; rw [HQ.out, bsI_end _ _ _ hlt]
                obtain rfl : lo = L := hLo.out
                clear HQ hLo HL
                obtain rfl : B = lo := by rw [HB.out, if_neg (by omega)]
                clear HB
                go_wp2_with ((go_at_call 102; refine (NormalAngle_any _ _ (by omega) (by omega)).mono ?_; rintro e w' ⟨rfl, rfl⟩))
                all_goals (go_ret2; exact ⟨by rw [HO.out, HE.out]; (repeat' split) <;> first | rfl | (exfalso; omega), _, rfl⟩)
          · have eu : minI ax ay = ay := by rw [HU.out, if_neg (by omega)]
            have ev : maxI ax ay = ax := by rw [HV.out, if_pos c1]
            rw [eu, ev] at HL
            clear HU HV eu ev u1 u2 v1' v2'
            go_enter Tryz.func64, Tryz.ntmps64
            go_wp2_with ((go_at_call 79; refine (within_any _ _ _ _).mono ?_; rintro e w' ⟨rfl, rfl⟩))
            (go_at_call 65; refine (absOf_is HX.out _ (by omega) (by omega)).mono ?_; rintro e w' ⟨rfl, rfl⟩)
            go_wp2_with (fail)
            (go_at_call 65; refine (absOf_is HY.out _ (by omega) (by omega)).mono ?_; rintro e w' ⟨rfl, rfl⟩)
            go_wp2_with (fail)
            go_loopw [10, 11] (fun a b wr => ∃ lo hi : Int, a = .int .i64 lo ∧ b = .int .i64 hi ∧ 0 ≤ lo ∧ lo ≤ hi ∧ hi ≤ 45000 ∧ L = bsI (arcP ay ax) lo hi ∧ ∃ q, wr = w.drewN q) (fun a b _ => (intOf b - intOf a).toNat)
            case atStart => exact ⟨0, 45000, rfl, rfl, by omega, by omega, by omega, HL.out, 0, rfl⟩
            case round =>
              obtain ⟨lo, hi, rfl, rfl, h0, h1, h2, hL, q, rfl⟩ := hrel
              have HQ := Lib.hid hL; clear hL
              by_cases hlt : lo < hi
              · obtain ⟨m, hm⟩ : ∃ m, (lo + hi) / 2 = m := ⟨_, rfl⟩
                obtain ⟨st1, st2⟩ := arc_step ay ax lo hi m hlt hm
                have HS1 := Lib.hid st1
                have HS2 := Lib.hid st2
                clear st1 st2
                have m1 : lo ≤ m := by omega
                have m2 : m < hi := by omega
                obtain ⟨p1, p2⟩ := prod_bd (sinI m) ax (sinI_bd m) (by omega)
                obtain ⟨p3, p4⟩ := prod_bd (cosI m) ay (cosI_bd m) (by omega)
                go_wp2_with (fail)
                (go_at_call 52; refine (SineOf_any _ _ (SinOk.drewN hS _) (by omega) (by omega)).mono ?_; rintro e w' ⟨rfl, nd, rfl⟩)
                have HM := Lib.hid hm; clear hm
                by_cases hc : cosI m * ay ≤ sinI m * ax
                · go_wp2_with ((go_at_call 51; refine (CosineOf_any _ _ (SinOk.drewN hS _) (by omega) (by omega)).mono ?_; rintro e w' ⟨rfl, nd, rfl⟩))
                  exact ⟨⟨lo, m, rfl, rfl, h0, m1, by omega, by rw [HQ.out, HS1.out hc], _, rfl⟩, by simp [intOf]; omega⟩
                · go_wp2_with ((go_at_call 51; refine (CosineOf_any _ _ (SinOk.drewN hS _) (by omega) (by omega)).mono ?_; rintro e w' ⟨rfl, nd, rfl⟩))
                  exact ⟨⟨m + 1, hi, rfl, rfl, by omega, by omega, h2, by rw [HQ.out, HS2.out (by omega)], _, rfl⟩, by simp [intOf]; omega⟩
              · have hLo : Hid (lo = L) := by show lo = L; rw [HQ.out, bsI_end _ _ _ hlt]
                obtain rfl : lo = L := hLo.out
                clear HQ hLo HL
                obtain rfl : B = lo := by rw [HB.out, if_neg (by omega)]
                clear HB
                go_wp2_with ((go_at_call 102; refine (NormalAngle_any _ _ (by omega) (by omega)).mono ?_; rintro e w' ⟨rfl, rfl⟩))
                all_goals (go_ret2; exact ⟨by rw [HO.out, HE.out]; (repeat' split) <;> first | rfl | (exfalso; omega), _, rfl⟩)
        · have hx0b : (x == 0) = false := by simp [hx0]
          have HXN := Lib.hid hx0; clear hx0
          clear z1
          rcases Int.lt_trichotomy ax ay with c1 | c1 | c1
          · have eu : minI ax ay = ax := by rw [HU.out, if_pos c1]
            have ev : maxI ax ay = ay := by rw [HV.out, if_neg (by omega)]
            rw [eu, ev] at HL
            clear HU HV eu ev u1 u2 v1' v2'
            go_enter Tryz.func64, Tryz.ntmps64
            go_wp2_with ((go_at_call 79; refine (within_any _ _ _ _).mono ?_; rintro e w' ⟨rfl, rfl⟩))
            (go_at_call 65; refine (absOf_is HX.out _ (by omega) (by omega)).mono ?_; rintro e w' ⟨rfl, rfl⟩)
            go_wp2_with (fail)
            (go_at_call 65; refine (absOf_is HY.out _ (by omega) (by omega)).mono ?_; rintro e w' ⟨rfl, rfl⟩)
            go_wp2_with (fail)
            go_loopw [10, 11] (fun a b wr => ∃ lo hi : Int, a = .int .i64 lo ∧ b = .int .i64 hi ∧ 0 ≤ lo ∧ lo ≤ hi ∧ hi ≤ 45000 ∧ L = bsI (arcP ax ay) lo hi ∧ ∃ q, wr = w.drewN q) (fun a b _ => (intOf b - intOf a).toNat)
            case atStart => exact ⟨0, 45000, rfl, rfl, by omega, by omega, by omega, HL.out, 0, rfl⟩
            case round =>
              obtain ⟨lo, hi, rfl, rfl, h0, h1, h2, hL, q, rfl⟩ := hrel
              have HQ := Lib.hid hL; clear hL
              by_cases hlt : lo < hi
              · obtain ⟨m, hm⟩ : ∃ m, (lo + hi) / 2 = m := ⟨_, rfl⟩
                obtain ⟨st1, st2⟩ := arc_step ax ay lo hi m hlt hm
                have HS1 := Lib.hid st1
                have HS2 := Lib.hid st2
                clear st1 st2
                have m1 : lo ≤ m := by omega
                have m2 : m < hi := by omega
                obtain ⟨p1, p2⟩ := prod_bd (sinI m) ay (sinI_bd m) (by omega)
                obtain ⟨p3, p4⟩ := prod_bd (cosI m) ax (cosI_bd m) (by omega)
                go_wp2_with (fail)
                (go_at_call 52; refine (SineOf_any _ _ (SinOk.drewN hS _) (by omega) (by omega)).mono ?_; rintro e w' ⟨rfl, nd, rfl⟩)
                have HM := Lib.hid hm; clear hm
                by_cases hc : cosI m * ax ≤ sinI m * ay
                · go_wp2_with ((go_at_call 51; refine (CosineOf_any _ _ (SinOk.drewN hS _) (by omega) (by omega)).mono ?_; rintro e w' ⟨rfl, nd, rfl⟩))
                  exact ⟨⟨lo, m, rfl, rfl, h0, m1, by omega, by rw [HQ.out, HS1.out hc], _, rfl⟩, by simp [intOf]; omega⟩
                · go_wp2_with ((go_at_call 51; refine (CosineOf_any _ _ (SinOk.drewN hS _) (by omega) (by omega)).mono ?_; rintro e w' ⟨rfl, nd, rfl⟩))
                  exact ⟨⟨m + 1, hi, rfl, rfl, by omega, by omega, h2, by rw [HQ.out, HS2.out (by omega)], _, rfl⟩, by simp [intOf]; omega⟩
              · have hLo : Hid (lo = L) := by show lo = L; rw [HQ.out, bsI_end _ _ _ hlt]
                obtain rfl : lo = L := hLo.out
                clear HQ hLo HL
                obtain rfl : B = 90000 - lo := by rw [HB.out, if_pos c1]
                clear HB
                go_wp2_with ((go_at_call 102; refine (NormalAngle_any _ _ (by omega) (by omega)).mono ?_; rintro e w' ⟨rfl, rfl⟩))
                all_goals (go_ret2; exact ⟨by rw [HO.out, HE.out]; (repeat' split) <;> first | rfl | (exfalso; omega), _, rfl⟩)
          · have eu : minI ax ay = ay := by rw [HU.out, if_neg (by omega)]
            have ev : maxI ax ay = ay := by rw [HV.out, if_neg (by omega)]
            rw [eu, ev] at HL
            clear HU HV eu ev u1 u2 v1' v2'
            subst c1
            go_enter Tryz.func64, Tryz.ntmps64
            go_wp2_with ((go_at_call 79; refine (within_any _ _ _ _).mono ?_; rintro e w' ⟨rfl, rfl⟩))
            (go_at_call 65; refine (absOf_is HX.out _ (by omega) (by omega)).mono ?_; rintro e w' ⟨rfl, rfl⟩)
            go_wp2_with (fail)
            (go_at_call 65; refine (absOf_is HY.out _ (by omega) (by omega)).mono ?_; rintro e w' ⟨rfl, rfl⟩)
            go_wp2_with (fail)
            go_loopw [10, 11] (fun a b wr => ∃ lo hi : Int, a = .int .i64 lo ∧ b = .int .i64 hi ∧ 0 ≤ lo ∧ lo ≤ hi ∧ hi ≤ 45000 ∧ L = bsI (arcP ax ax) lo hi ∧ ∃ q, wr = w.drewN q) (fun a b _ => (intOf b - intOf a).toNat)
            case atStart => exact ⟨0, 45000, rfl, rfl, by omega, by omega, by omega, HL.out, 0, rfl⟩
            case round =>
              obtain ⟨lo, hi, rfl, rfl, h0, h1, h2, hL, q, rfl⟩ := hrel
              have HQ := Lib.hid hL; clear hL
              by_cases hlt : lo < hi
              · obtain ⟨m, hm⟩ : ∃ m, (lo + hi) / 2 = m := ⟨_, rfl⟩
                obtain ⟨st1, st2⟩ := arc_step ax ax lo hi m hlt hm
                have HS1 := Lib.hid st1
                have HS2 := Lib.hid st2
                clear st1 st2
                have m1 : lo ≤ m := by omega
                have m2 : m < hi := by omega
                obtain ⟨p1, p2⟩ := prod_bd (sinI m) ax (sinI_bd m) (by omega)
                obtain ⟨p3, p4⟩ := prod_bd (cosI m) ax (cosI_bd m) (by omega)
                go_wp2_with (fail)
                (go_at_call 52; refine (SineOf_any _ _ (SinOk.drewN hS _) (by omega) (by omega)).mono ?_; rintro e w' ⟨rfl, nd, rfl⟩)
                have HM := Lib.hid hm; clear hm
                by_cases hc : cosI m * ax ≤ sinI m * ax
                · go_wp2_with ((go_at_call 51; refine (CosineOf_any _ _ (SinOk.drewN hS _) (by omega) (by omega)).mono ?_; rintro e w' ⟨rfl, nd, rfl⟩))
                  exact ⟨⟨lo, m, rfl, rfl, h0, m1, by omega, by rw [HQ.out, HS1.out hc], _, rfl⟩, by simp [intOf]; omega⟩
                · go_wp2_with ((go_at_call 51; refine (CosineOf_any _ _ (SinOk.drewN hS _) (by omega) (by omega)).mono ?_; rintro e w' ⟨rfl, nd, rfl⟩))
                  exact ⟨⟨m + 1, hi, rfl, rfl, by omega, by omega, h2, by rw [HQ.out, HS2.out (by omega)], _, rfl⟩, by simp [intOf]; omega⟩
              · have hLo : Hid (lo = L) := by show lo = L; rw [HQ.out, bsI_end _ _ _ hlt]
                obtain rfl : lo = L := hLo.out
                clear HQ hLo HL
                obtain rfl : B = lo := by rw [HB.out, if_neg (by omega)]
                clear HB
                go_wp2_with ((go_at_call 102; refine (NormalAngle_any _ _ (by omega) (by omega)).mono ?_; rintro e w' ⟨rfl, rfl⟩))
                all_goals (go_ret2; exact ⟨by rw [HO.out, HE.out]; (repeat' split) <;> first | rfl | (exfalso; omega), _, rfl⟩)
          · have eu : minI ax ay = ay := by rw [HU.out, if_neg (by omega)]
            have ev : maxI ax ay = ax := by rw [HV.out, if_pos c1]
            rw [eu, ev] at HL
            clear HU HV eu ev u1 u2 v1' v2'
            go_enter Tryz.func64, Tryz.ntmps64
            go_wp2_with ((go_at_call 79; refine (within_any _ _ _ _).mono ?_; rintro e w' ⟨rfl, rfl⟩))
            (go_at_call 65; refine (absOf_is HX.out _ (by omega) (by omega)).mono ?_; rintro e w' ⟨rfl, rfl⟩)
            go_wp2_with (fail)
            (go_at_call 65; refine (absOf_is HY.out _ (by omega) (by omega)).mono ?_; rintro e w' ⟨rfl, rfl⟩)
            go_wp2_with (fail)
            go_loopw [10, 11] (fun a b wr => ∃ lo hi : Int, a = .int .i64 lo ∧ b = .int .i64 hi ∧ 0 ≤ lo ∧ lo ≤ hi ∧ hi ≤ 45000 ∧ L = bsI (arcP ay ax) lo hi ∧ ∃ q, wr = w.drewN q) (fun a b _ => (intOf b - intOf a).toNat)
            case atStart => exact ⟨0, 45000, rfl, rfl, by omega, by omega, by omega, HL.out, 0, rfl⟩
            case round =>
              obtain ⟨lo, hi, rfl, rfl, h0, h1, h2, hL, q, rfl⟩ := hrel
              have HQ := Lib.hid hL; clear hL
              by_cases hlt : lo < hi
              · obtain ⟨m, hm⟩ : ∃ m, (lo + hi) / 2 = m := ⟨_, rfl⟩
                obtain ⟨st1, st2⟩ := arc_step ay ax lo hi m hlt hm
                have HS1 := Lib.hid st1
                have HS2 := Lib.hid st2
                clear st1 st2
                have m1 : lo ≤ m := by omega
                have m2 : m < hi := by omega
                obtain ⟨p1, p2⟩ := prod_bd (sinI m) ax (sinI_bd m) (by omega)
                obtain ⟨p3, p4⟩ := prod_bd (cosI m) ay (cosI_bd m) (by omega)
                go_wp2_with (fail)
                (go_at_call 52; refine (SineOf_any _ _ (SinOk.drewN hS _) (by omega) (by omega)).mono ?_; rintro e w' ⟨rfl, nd, rfl⟩)
                have HM := Lib.hid hm; clear hm
                by_cases hc : cosI m * ay ≤ sinI m * ax
                · go_wp2_with ((go_at_call 51; refine (CosineOf_any _ _ (SinOk.drewN hS _) (by omega) (by omega)).mono ?_; rintro e w' ⟨rfl, nd, rfl⟩))
                  exact ⟨⟨lo, m, rfl, rfl, h0, m1, by omega, by rw [HQ.out, HS1.out hc], _, rfl⟩, by simp [intOf]; omega⟩
                · go_wp2_with ((go_at_call 51; refine (CosineOf_any _ _ (SinOk.drewN hS _) (by omega) (by omega)).mono ?_; rintro e w' ⟨rfl, nd, rfl⟩))
                  exact ⟨⟨m + 1, hi, rfl, rfl, by omega, by omega, h2, by rw [HQ.out, HS2.out (by omega)], _, rfl⟩, by simp [intOf]; omega⟩
              · have hLo : Hid (lo = L) := by show lo = L; rw [HQ.out, bsI_end _ _ _ hlt]
                obtain rfl : lo = L := hLo.out
                clear HQ hLo HL
                obtain rfl : B = lo := by rw [HB.out, if_neg (by omega)]
                clear HB
                go_wp2_with ((go_at_call 102; refine (NormalAngle_any _ _ (by omega) (by omega)).mono ?_; rintro e w' ⟨rfl, rfl⟩))
                all_goals (go_ret2; exact ⟨by rw [HO.out, HE.out]; (repeat' split) <;> first | rfl | (exfalso; omega), _, rfl⟩)
end Go.Proofs.YtpnfhienffekoaaGreatDoor
