/- The contract of ArcTangent. -/
import Derived.Test.YtpnfhienffekoaaGreatDoorArc
namespace Go.Proofs.YtpnfhienffekoaaGreatDoor
set_option linter.unusedVariables false
set_option linter.unusedSimpArgs false
open Go.RowKit
set_option maxHeartbeats 8000000 in
theorem ArcTangent_any (yy x : Int) (w : World) (hS : SinOk w) :
    Calls Tryz.prog 64 #[.int .i64 yy, .int .i64 x] w fun e w' => e = .returned (.tuple #[.int .i64 (arcO yy x).1, .int .i64 (arcO yy x).2]) ∧ ∃ q, w' = w.drewN q := by
  cases v1 : inB x (-1000000000000) 1000000000000 with
  | false =>
    have HO : Hid (arcO yy x = (0, 2)) := by show _ = _; rw [arcO, v1]; rfl
    go_enter Tryz.func64, Tryz.ntmps64
    go_wp2_with ((go_at_call 79; refine (within_any _ _ _ _).mono ?_; rintro e w' ⟨rfl, rfl⟩))
    go_ret2
    exact ⟨by rw [HO.out]; rfl, 0, rfl⟩
  | true =>
    cases v2 : inB yy (-1000000000000) 1000000000000 with
    | false =>
      have HO : Hid (arcO yy x = (0, 2)) := by show _ = _; rw [arcO, v1, v2]; rfl
      go_enter Tryz.func64, Tryz.ntmps64
      go_wp2_with ((go_at_call 79; refine (within_any _ _ _ _).mono ?_; rintro e w' ⟨rfl, rfl⟩))
      go_ret2
      exact ⟨by rw [HO.out]; rfl, 0, rfl⟩
    | true =>
      obtain ⟨hx1, hx2⟩ := (inB_iff _ _ _).1 v1
      obtain ⟨hy1, hy2⟩ := (inB_iff _ _ _).1 v2
      by_cases hz : x = 0 ∧ yy = 0
      · have z1 : (x == 0) = true := by simp [hz.1]
        have z2 : (yy == 0) = true := by simp [hz.2]
        have HO : Hid (arcO yy x = (0, 6)) := by show _ = _; rw [arcO, v1, v2, z1, z2]; rfl
        clear hz
        go_enter Tryz.func64, Tryz.ntmps64
        go_wp2_with ((go_at_call 79; refine (within_any _ _ _ _).mono ?_; rintro e w' ⟨rfl, rfl⟩))
        go_ret2
        exact ⟨by rw [HO.out]; rfl, 0, rfl⟩
      · have HO : Hid (arcO yy x = (arcI yy x, 0)) := by
          show _ = _; rw [arcO, v1, v2]
          have : (x == 0 && yy == 0) = false := by simp; omega
          rw [this]; rfl
        have HE : Hid (arcI yy x = if 0 ≤ x ∧ 0 ≤ yy then arcB (absI yy) (absI x) else if 0 ≤ yy then 180000 - arcB (absI yy) (absI x) else if x < 0 then 180000 + arcB (absI yy) (absI x) else nrm (-arcB (absI yy) (absI x))) := rfl
        have HB : Hid (arcB (absI yy) (absI x) = if absI x < absI yy then 90000 - arcL (minI (absI x) (absI yy)) (maxI (absI x) (absI yy)) else arcL (minI (absI x) (absI yy)) (maxI (absI x) (absI yy))) := rfl
        obtain ⟨ax, hax⟩ : ∃ ax, absI x = ax := ⟨_, rfl⟩
        obtain ⟨ay, hay⟩ : ∃ ay, absI yy = ay := ⟨_, rfl⟩
        have bx := absI_le x 1000000000000 ⟨hx1, hx2⟩
        have by' := absI_le yy 1000000000000 ⟨hy1, hy2⟩
        rw [hax] at HE HB bx
        rw [hay] at HE HB by'
        have HX := Lib.hid hax; clear hax
        have HY := Lib.hid hay; clear hay
        have HZ := Lib.hid hz; clear hz
        have z1 : x = 0 → (yy == 0) = false := fun h => by have := HZ.out; simp; omega
        obtain ⟨L1, L2⟩ := arcL_bd (minI ax ay) (maxI ax ay)
        have HL : Hid (arcL (minI ax ay) (maxI ax ay) = bsI (arcP (minI ax ay) (maxI ax ay)) 0 45000) := rfl
        obtain ⟨B1, B2⟩ := arcB_bd ay ax
        have HU : Hid (minI ax ay = if ax < ay then ax else ay) := rfl
        have HV : Hid (maxI ax ay = if ay < ax then ax else ay) := rfl
        obtain ⟨u1, u2⟩ := minI_bd ax ay _ bx by'
        obtain ⟨v1', v2'⟩ := maxI_bd ax ay _ bx by'
        generalize arcB ay ax = B at *
        generalize arcL (minI ax ay) (maxI ax ay) = L at *
        by_cases hx0 : x = 0
        · have hx0b : (x == 0) = true := by simp [hx0]
          have hy0b := z1 hx0
          have hx1z : x ≤ 0 := by omega
          have hx2z : 0 ≤ x := by omega
          clear z1 hx0
          rcases Int.lt_trichotomy ax ay with c1 | c1 | c1
          · have eu : minI ax ay = ax := by rw [HU.out, if_pos c1]
            have ev : maxI ax ay = ay := by rw [HV.out, if_neg (by omega)]
            rw [eu, ev] at HL
            clear HU HV eu ev u1 u2 v1' v2'
            go_enter Tryz.func64, Tryz.ntmps64
            go_wp2_with ((go_at_call 79; refine (within_any _ _ _ _).mono ?_; rintro e w' ⟨rfl, rfl⟩))
            (go_at_call 65; refine (absOf_is HX.out _ (by omega) (by omega)).mono ?_; rintro e w' ⟨rfl, rfl⟩)
            go_wp2_with (fail)
            (go_at_call 65; refine (absOf_is HY.out _ (by omega) (by omega)).mono ?_; rintro e w' ⟨rfl, rfl⟩)
            go_wp2_with (fail)
            go_loopw [10, 11] (fun a b wr => ∃ lo hi : Int, a = .int .i64 lo ∧ b = .int .i64 hi ∧ 0 ≤ lo ∧ lo ≤ hi ∧ hi ≤ 45000 ∧ L = bsI (arcP ax ay) lo hi ∧ ∃ q, wr = w.drewN q) (fun a b _ => (intOf b - intOf a).toNat)
            case atStart => exact ⟨0, 45000, rfl, rfl, by omega, by omega, by omega, HL.out, 0, rfl⟩
            case round =>
              obtain ⟨lo, hi, rfl, rfl, h0, h1, h2, hL, q, rfl⟩ := hrel
              have HQ := Lib.hid hL; clear hL
              by_cases hlt : lo < hi
              · obtain ⟨m, hm⟩ : ∃ m, (lo + hi) / 2 = m := ⟨_, rfl⟩
                obtain ⟨st1, st2⟩ := arc_step ax ay lo hi m hlt hm
                have HS1 := Lib.hid st1
                have HS2 := Lib.hid st2
                clear st1 st2
                have m1 : lo ≤ m := by omega
                have m2 : m < hi := by omega
                obtain ⟨p1, p2⟩ := prod_bd (sinI m) ay (sinI_bd m) (by omega)
                obtain ⟨p3, p4⟩ := prod_bd (cosI m) ax (cosI_bd m) (by omega)
                go_wp2_with (fail)
                (go_at_call 52; refine (SineOf_any _ _ (SinOk.drewN hS _) (by omega) (by omega)).mono ?_; rintro e w' ⟨rfl, nd, rfl⟩)
                have HM := Lib.hid hm; clear hm
                by_cases hc : cosI m * ax ≤ sinI m * ay
                · go_wp2_with ((go_at_call 51; refine (CosineOf_any _ _ (SinOk.drewN hS _) (by omega) (by omega)).mono ?_; rintro e w' ⟨rfl, nd, rfl⟩))
                  exact ⟨⟨lo, m, rfl, rfl, h0, m1, by omega, by rw [HQ.out, HS1.out hc], _, rfl⟩, by simp [intOf]; omega⟩
                · go_wp2_with ((go_at_call 51; refine (CosineOf_any _ _ (SinOk.drewN hS _) (by omega) (by omega)).mono ?_; rintro e w' ⟨rfl, nd, rfl⟩))
                  exact ⟨⟨m + 1, hi, rfl, rfl, by omega, by omega, h2, by rw [HQ.out, HS2.out (by omega)], _, rfl⟩, by simp [intOf]; omega⟩
              · have hLo : Hid (lo = L) := by show lo = L; rw [HQ.out, bsI_end _ _ _ hlt]
                obtain rfl : lo = L := hLo.out
                clear HQ hLo HL
                obtain rfl : B = 90000 - lo := by rw [HB.out, if_pos c1]
                clear HB
                go_wp2_with ((go_at_call 102; refine (NormalAngle_any _ _ (by omega) (by omega)).mono ?_; rintro e w' ⟨rfl, rfl⟩))
                all_goals (go_ret2; exact ⟨by rw [HO.out, HE.out]; (repeat' split) <;> first | rfl | (exfalso; omega), _, rfl⟩)
          · have eu : minI ax ay = ay := by rw [HU.out, if_neg (by omega)]
            have ev : maxI ax ay = ay := by rw [HV.out, if_neg (by omega)]
            rw [eu, ev] at HL
            clear HU HV eu ev u1 u2 v1' v2'
            subst c1
            go_enter Tryz.func64, Tryz.ntmps64
            go_wp2_with ((go_at_call 79; refine (within_any _ _ _ _).mono ?_; rintro e w' ⟨rfl, rfl⟩))
            (go_at_call 65; refine (absOf_is HX.out _ (by omega) (by omega)).mono ?_; rintro e w' ⟨rfl, rfl⟩)
            go_wp2_with (fail)
            (go_at_call 65; refine (absOf_is HY.out _ (by omega) (by omega)).mono ?_; rintro e w' ⟨rfl, rfl⟩)
            go_wp2_with (fail)
            go_loopw [10, 11] (fun a b wr => ∃ lo hi : Int, a = .int .i64 lo ∧ b = .int .i64 hi ∧ 0 ≤ lo ∧ lo ≤ hi ∧ hi ≤ 45000 ∧ L = bsI (arcP ax ax) lo hi ∧ ∃ q, wr = w.drewN q) (fun a b _ => (intOf b - intOf a).toNat)
            case atStart => exact ⟨0, 45000, rfl, rfl, by omega, by omega, by omega, HL.out, 0, rfl⟩
            case round =>
              obtain ⟨lo, hi, rfl, rfl, h0, h1, h2, hL, q, rfl⟩ := hrel
              have HQ := Lib.hid hL; clear hL
              by_cases hlt : lo < hi
              · obtain ⟨m, hm⟩ : ∃ m, (lo + hi) / 2 = m := ⟨_, rfl⟩
                obtain ⟨st1, st2⟩ := arc_step ax ax lo hi m hlt hm
                have HS1 := Lib.hid st1
                have HS2 := Lib.hid st2
                clear st1 st2
                have m1 : lo ≤ m := by omega
                have m2 : m < hi := by omega
                obtain ⟨p1, p2⟩ := prod_bd (sinI m) ax (sinI_bd m) (by omega)
                obtain ⟨p3, p4⟩ := prod_bd (cosI m) ax (cosI_bd m) (by omega)
                go_wp2_with (fail)
                (go_at_call 52; refine (SineOf_any _ _ (SinOk.drewN hS _) (by omega) (by omega)).mono ?_; rintro e w' ⟨rfl, nd, rfl⟩)
                have HM := Lib.hid hm; clear hm
                by_cases hc : cosI m * ax ≤ sinI m * ax
                · go_wp2_with ((go_at_call 51; refine (CosineOf_any _ _ (SinOk.drewN hS _) (by omega) (by omega)).mono ?_; rintro e w' ⟨rfl, nd, rfl⟩))
                  exact ⟨⟨lo, m, rfl, rfl, h0, m1, by omega, by rw [HQ.out, HS1.out hc], _, rfl⟩, by simp [intOf]; omega⟩
                · go_wp2_with ((go_at_call 51; refine (CosineOf_any _ _ (SinOk.drewN hS _) (by omega) (by omega)).mono ?_; rintro e w' ⟨rfl, nd, rfl⟩))
                  exact ⟨⟨m + 1, hi, rfl, rfl, by omega, by omega, h2, by rw [HQ.out, HS2.out (by omega)], _, rfl⟩, by simp [intOf]; omega⟩
              · have hLo : Hid (lo = L) := by show lo = L; rw [HQ.out, bsI_end _ _ _ hlt]
                obtain rfl : lo = L := hLo.out
                clear HQ hLo HL
                obtain rfl : B = lo := by rw [HB.out, if_neg (by omega)]
                clear HB
                go_wp2_with ((go_at_call 102; refine (NormalAngle_any _ _ (by omega) (by omega)).mono ?_; rintro e w' ⟨rfl, rfl⟩))
                all_goals (go_ret2; exact ⟨by rw [HO.out, HE.out]; (repeat' split) <;> first | rfl | (exfalso; omega), _, rfl⟩)
          · have eu : minI ax ay = ay := by rw [HU.out, if_neg (by omega)]
            have ev : maxI ax ay = ax := by rw [HV.out, if_pos c1]
            rw [eu, ev] at HL
            clear HU HV eu ev u1 u2 v1' v2'
            go_enter Tryz.func64, Tryz.ntmps64
            go_wp2_with ((go_at_call 79; refine (within_any _ _ _ _).mono ?_; rintro e w' ⟨rfl, rfl⟩))
            (go_at_call 65; refine (absOf_is HX.out _ (by omega) (by omega)).mono ?_; rintro e w' ⟨rfl, rfl⟩)
            go_wp2_with (fail)
            (go_at_call 65; refine (absOf_is HY.out _ (by omega) (by omega)).mono ?_; rintro e w' ⟨rfl, rfl⟩)
            go_wp2_with (fail)
            go_loopw [10, 11] (fun a b wr => ∃ lo hi : Int, a = .int .i64 lo ∧ b = .int .i64 hi ∧ 0 ≤ lo ∧ lo ≤ hi ∧ hi ≤ 45000 ∧ L = bsI (arcP ay ax) lo hi ∧ ∃ q, wr = w.drewN q) (fun a b _ => (intOf b - intOf a).toNat)
            case atStart => exact ⟨0, 45000, rfl, rfl, by omega, by omega, by omega, HL.out, 0, rfl⟩
            case round =>
              obtain ⟨lo, hi, rfl, rfl, h0, h1, h2, hL, q, rfl⟩ := hrel
              have HQ := Lib.hid hL; clear hL
              by_cases hlt : lo < hi
              · obtain ⟨m, hm⟩ : ∃ m, (lo + hi) / 2 = m := ⟨_, rfl⟩
                obtain ⟨st1, st2⟩ := arc_step ay ax lo hi m hlt hm
                have HS1 := Lib.hid st1
                have HS2 := Lib.hid st2
                clear st1 st2
                have m1 : lo ≤ m := by omega
                have m2 : m < hi := by omega
                obtain ⟨p1, p2⟩ := prod_bd (sinI m) ax (sinI_bd m) (by omega)
                obtain ⟨p3, p4⟩ := prod_bd (cosI m) ay (cosI_bd m) (by omega)
                go_wp2_with (fail)
                (go_at_call 52; refine (SineOf_any _ _ (SinOk.drewN hS _) (by omega) (by omega)).mono ?_; rintro e w' ⟨rfl, nd, rfl⟩)
                have HM := Lib.hid hm; clear hm
                by_cases hc : cosI m * ay ≤ sinI m * ax
                · go_wp2_with ((go_at_call 51; refine (CosineOf_any _ _ (SinOk.drewN hS _) (by omega) (by omega)).mono ?_; rintro e w' ⟨rfl, nd, rfl⟩))
                  exact ⟨⟨lo, m, rfl, rfl, h0, m1, by omega, by rw [HQ.out, HS1.out hc], _, rfl⟩, by simp [intOf]; omega⟩
                · go_wp2_with ((go_at_call 51; refine (CosineOf_any _ _ (SinOk.drewN hS _) (by omega) (by omega)).mono ?_; rintro e w' ⟨rfl, nd, rfl⟩))
                  exact ⟨⟨m + 1, hi, rfl, rfl, by omega, by omega, h2, by rw [HQ.out, HS2.out (by omega)], _, rfl⟩, by simp [intOf]; omega⟩
              · have hLo : Hid (lo = L) := by show lo = L; rw [HQ.out, bsI_end _ _ _ hlt]
                obtain rfl : lo = L := hLo.out
                clear HQ hLo HL
                obtain rfl : B = lo := by rw [HB.out, if_neg (by omega)]
                clear HB
                go_wp2_with ((go_at_call 102; refine (NormalAngle_any _ _ (by omega) (by omega)).mono ?_; rintro e w' ⟨rfl, rfl⟩))
                all_goals (go_ret2; exact ⟨by rw [HO.out, HE.out]; (repeat' split) <;> first | rfl | (exfalso; omega), _, rfl⟩)
        · have hx0b : (x == 0) = false := by simp [hx0]
          have HXN := Lib.hid hx0; clear hx0
          clear z1
          rcases Int.lt_trichotomy ax ay with c1 | c1 | c1
          · have eu : minI ax ay = ax := by rw [HU.out, if_pos c1]
            have ev : maxI ax ay = ay := by rw [HV.out, if_neg (by omega)]
            rw [eu, ev] at HL
            clear HU HV eu ev u1 u2 v1' v2'
            go_enter Tryz.func64, Tryz.ntmps64
            go_wp2_with ((go_at_call 79; refine (within_any _ _ _ _).mono ?_; rintro e w' ⟨rfl, rfl⟩))
            (go_at_call 65; refine (absOf_is HX.out _ (by omega) (by omega)).mono ?_; rintro e w' ⟨rfl, rfl⟩)
            go_wp2_with (fail)
            (go_at_call 65; refine (absOf_is HY.out _ (by omega) (by omega)).mono ?_; rintro e w' ⟨rfl, rfl⟩)
            go_wp2_with (fail)
            go_loopw [10, 11] (fun a b wr => ∃ lo hi : Int, a = .int .i64 lo ∧ b = .int .i64 hi ∧ 0 ≤ lo ∧ lo ≤ hi ∧ hi ≤ 45000 ∧ L = bsI (arcP ax ay) lo hi ∧ ∃ q, wr = w.drewN q) (fun a b _ => (intOf b - intOf a).toNat)
            case atStart => exact ⟨0, 45000, rfl, rfl, by omega, by omega, by omega, HL.out, 0, rfl⟩
            case round =>
              obtain ⟨lo, hi, rfl, rfl, h0, h1, h2, hL, q, rfl⟩ := hrel
              have HQ := Lib.hid hL; clear hL
              by_cases hlt : lo < hi
              · obtain ⟨m, hm⟩ : ∃ m, (lo + hi) / 2 = m := ⟨_, rfl⟩
                obtain ⟨st1, st2⟩ := arc_step ax ay lo hi m hlt hm
                have HS1 := Lib.hid st1
                have HS2 := Lib.hid st2
                clear st1 st2
                have m1 : lo ≤ m := by omega
                have m2 : m < hi := by omega
                obtain ⟨p1, p2⟩ := prod_bd (sinI m) ay (sinI_bd m) (by omega)
                obtain ⟨p3, p4⟩ := prod_bd (cosI m) ax (cosI_bd m) (by omega)
                go_wp2_with (fail)
                (go_at_call 52; refine (SineOf_any _ _ (SinOk.drewN hS _) (by omega) (by omega)).mono ?_; rintro e w' ⟨rfl, nd, rfl⟩)
                have HM := Lib.hid hm; clear hm
                by_cases hc : cosI m * ax ≤ sinI m * ay
                · go_wp2_with ((go_at_call 51; refine (CosineOf_any _ _ (SinOk.drewN hS _) (by omega) (by omega)).mono ?_; rintro e w' ⟨rfl, nd, rfl⟩))
                  exact ⟨⟨lo, m, rfl, rfl, h0, m1, by omega, by rw [HQ.out, HS1.out hc], _, rfl⟩, by simp [intOf]; omega⟩
                · go_wp2_with ((go_at_call 51; refine (CosineOf_any _ _ (SinOk.drewN hS _) (by omega) (by omega)).mono ?_; rintro e w' ⟨rfl, nd, rfl⟩))
                  exact ⟨⟨m + 1, hi, rfl, rfl, by omega, by omega, h2, by rw [HQ.out, HS2.out (by omega)], _, rfl⟩, by simp [intOf]; omega⟩
              · have hLo : Hid (lo = L) := by show lo = L; rw [HQ.out, bsI_end _ _ _ hlt]
                obtain rfl : lo = L := hLo.out
                clear HQ hLo HL
                obtain rfl : B = 90000 - lo := by rw [HB.out, if_pos c1]
                clear HB
                go_wp2_with ((go_at_call 102; refine (NormalAngle_any _ _ (by omega) (by omega)).mono ?_; rintro e w' ⟨rfl, rfl⟩))
                all_goals (go_ret2; exact ⟨by rw [HO.out, HE.out]; (repeat' split) <;> first | rfl | (exfalso; omega), _, rfl⟩)
          · have eu : minI ax ay = ay := by rw [HU.out, if_neg (by omega)]
            have ev : maxI ax ay = ay := by rw [HV.out, if_neg (by omega)]
            rw [eu, ev] at HL
            clear HU HV eu ev u1 u2 v1' v2'
            subst c1
            go_enter Tryz.func64, Tryz.ntmps64
            go_wp2_with ((go_at_call 79; refine (within_any _ _ _ _).mono ?_; rintro e w' ⟨rfl, rfl⟩))
            (go_at_call 65; refine (absOf_is HX.out _ (by omega) (by omega)).mono ?_; rintro e w' ⟨rfl, rfl⟩)
            go_wp2_with (fail)
            (go_at_call 65; refine (absOf_is HY.out _ (by omega) (by omega)).mono ?_; rintro e w' ⟨rfl, rfl⟩)
            go_wp2_with (fail)
            go_loopw [10, 11] (fun a b wr => ∃ lo hi : Int, a = .int .i64 lo ∧ b = .int .i64 hi ∧ 0 ≤ lo ∧ lo ≤ hi ∧ hi ≤ 45000 ∧ L = bsI (arcP ax ax) lo hi ∧ ∃ q, wr = w.drewN q) (fun a b _ => (intOf b - intOf a).toNat)
            case atStart => exact ⟨0, 45000, rfl, rfl, by omega, by omega, by omega, HL.out, 0, rfl⟩
            case round =>
              obtain ⟨lo, hi, rfl, rfl, h0, h1, h2, hL, q, rfl⟩ := hrel
              have HQ := Lib.hid hL; clear hL
              by_cases hlt : lo < hi
              · obtain ⟨m, hm⟩ : ∃ m, (lo + hi) / 2 = m := ⟨_, rfl⟩
                obtain ⟨st1, st2⟩ := arc_step ax ax lo hi m hlt hm
                have HS1 := Lib.hid st1
                have HS2 := Lib.hid st2
                clear st1 st2
                have m1 : lo ≤ m := by omega
                have m2 : m < hi := by omega
                obtain ⟨p1, p2⟩ := prod_bd (sinI m) ax (sinI_bd m) (by omega)
                obtain ⟨p3, p4⟩ := prod_bd (cosI m) ax (cosI_bd m) (by omega)
                go_wp2_with (fail)
                (go_at_call 52; refine (SineOf_any _ _ (SinOk.drewN hS _) (by omega) (by omega)).mono ?_; rintro e w' ⟨rfl, nd, rfl⟩)
                have HM := Lib.hid hm; clear hm
                by_cases hc : cosI m * ax ≤ sinI m * ax
                · go_wp2_with ((go_at_call 51; refine (CosineOf_any _ _ (SinOk.drewN hS _) (by omega) (by omega)).mono ?_; rintro e w' ⟨rfl, nd, rfl⟩))
                  exact ⟨⟨lo, m, rfl, rfl, h0, m1, by omega, by rw [HQ.out, HS1.out hc], _, rfl⟩, by simp [intOf]; omega⟩
                · go_wp2_with ((go_at_call 51; refine (CosineOf_any _ _ (SinOk.drewN hS _) (by omega) (by omega)).mono ?_; rintro e w' ⟨rfl, nd, rfl⟩))
                  exact ⟨⟨m + 1, hi, rfl, rfl, by omega, by omega, h2, by rw [HQ.out, HS2.out (by omega)], _, rfl⟩, by simp [intOf]; omega⟩
              · have hLo : Hid (lo = L) := by show lo = L; rw [HQ.out, bsI_end _ _ _ hlt]
                obtain rfl : lo = L := hLo.out
                clear HQ hLo HL
                obtain rfl : B = lo := by rw [HB.out, if_neg (by omega)]
                clear HB
                go_wp2_with ((go_at_call 102; refine (NormalAngle_any _ _ (by omega) (by omega)).mono ?_; rintro e w' ⟨rfl, rfl⟩))
                all_goals (go_ret2; exact ⟨by rw [HO.out, HE.out]; (repeat' split) <;> first | rfl | (exfalso; omega), _, rfl⟩)
          · have eu : minI ax ay = ay := by rw [HU.out, if_neg (by omega)]
            have ev : maxI ax ay = ax := by rw [HV.out, if_pos c1]
            rw [eu, ev] at HL
            clear HU HV eu ev u1 u2 v1' v2'
            go_enter Tryz.func64, Tryz.ntmps64
            go_wp2_with ((go_at_call 79; refine (within_any _ _ _ _).mono ?_; rintro e w' ⟨rfl, rfl⟩))
            (go_at_call 65; refine (absOf_is HX.out _ (by omega) (by omega)).mono ?_; rintro e w' ⟨rfl, rfl⟩)
            go_wp2_with (fail)
            (go_at_call 65; refine (absOf_is HY.out _ (by omega) (by omega)).mono ?_; rintro e w' ⟨rfl, rfl⟩)
            go_wp2_with (fail)
            go_loopw [10, 11] (fun a b wr => ∃ lo hi : Int, a = .int .i64 lo ∧ b = .int .i64 hi ∧ 0 ≤ lo ∧ lo ≤ hi ∧ hi ≤ 45000 ∧ L = bsI (arcP ay ax) lo hi ∧ ∃ q, wr = w.drewN q) (fun a b _ => (intOf b - intOf a).toNat)
            case atStart => exact ⟨0, 45000, rfl, rfl, by omega, by omega, by omega, HL.out, 0, rfl⟩
            case round =>
              obtain ⟨lo, hi, rfl, rfl, h0, h1, h2, hL, q, rfl⟩ := hrel
              have HQ := Lib.hid hL; clear hL
              by_cases hlt : lo < hi
              · obtain ⟨m, hm⟩ : ∃ m, (lo + hi) / 2 = m := ⟨_, rfl⟩
                obtain ⟨st1, st2⟩ := arc_step ay ax lo hi m hlt hm
                have HS1 := Lib.hid st1
                have HS2 := Lib.hid st2
                clear st1 st2
                have m1 : lo ≤ m := by omega
                have m2 : m < hi := by omega
                obtain ⟨p1, p2⟩ := prod_bd (sinI m) ax (sinI_bd m) (by omega)
                obtain ⟨p3, p4⟩ := prod_bd (cosI m) ay (cosI_bd m) (by omega)
                go_wp2_with (fail)
                (go_at_call 52; refine (SineOf_any _ _ (SinOk.drewN hS _) (by omega) (by omega)).mono ?_; rintro e w' ⟨rfl, nd, rfl⟩)
                have HM := Lib.hid hm; clear hm
                by_cases hc : cosI m * ay ≤ sinI m * ax
                · go_wp2_with ((go_at_call 51; refine (CosineOf_any _ _ (SinOk.drewN hS _) (by omega) (by omega)).mono ?_; rintro e w' ⟨rfl, nd, rfl⟩))
                  exact ⟨⟨lo, m, rfl, rfl, h0, m1, by omega, by rw [HQ.out, HS1.out hc], _, rfl⟩, by simp [intOf]; omega⟩
                · go_wp2_with ((go_at_call 51; refine (CosineOf_any _ _ (SinOk.drewN hS _) (by omega) (by omega)).mono ?_; rintro e w' ⟨rfl, nd, rfl⟩))
                  exact ⟨⟨m + 1, hi, rfl, rfl, by omega, by omega, h2, by rw [HQ.out, HS2.out (by omega)], _, rfl⟩, by simp [intOf]; omega⟩
              · have hLo : Hid (lo = L) := by show lo = L; rw [HQ.out, bsI_end _ _ _ hlt]
                obtain rfl : lo = L := hLo.out
                clear HQ hLo HL
                obtain rfl : B = lo := by rw [HB.out, if_neg (by omega)]
                clear HB
                go_wp2_with ((go_at_call 102; refine (NormalAngle_any _ _ (by omega) (by omega)).mono ?_; rintro e w' ⟨rfl, rfl⟩))
                all_goals (go_ret2; exact ⟨by rw [HO.out, HE.out]; (repeat' split) <;> first | rfl | (exfalso; omega), _, rfl⟩)
end Go.Proofs.YtpnfhienffekoaaGreatDoor
