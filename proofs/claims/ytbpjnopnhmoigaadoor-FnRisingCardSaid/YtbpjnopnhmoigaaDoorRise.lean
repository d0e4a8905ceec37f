/- Contracts of the functions on the sidereal times at which a star rises and sets. -/
import Derived.Test.YtbpjnopnhmoigaaDoorSett
namespace Go.Proofs.YtbpjnopnhmoigaaDoor
set_option linter.unusedVariables false
set_option linter.unusedSimpArgs false
open Go.RowKit
set_option maxHeartbeats 1000000 in
theorem RisingOf_any (n : ByteArray) (lo la r d : Int) (w : World) (hS : SinOk w) :
    Calls Tryd.prog 41 #[.agg #[.string n, .int .i64 lo, .int .i64 la], .int .i64 r, .int .i64 d] w fun e w' => e = .returned (.tuple #[.int .i64 (riseO n.data.toList lo la r d (-1)).1, .int .i64 (riseO n.data.toList lo la r d (-1)).2]) ∧ Below w.heap.size w w' := by
  cases v1 : vSite n.data.toList lo la with
  | false =>
    have HO := Lib.hid (riseO_site (r := r) (d := d) (sg := -1) v1)
    go_enter Tryd.func41, Tryd.ntmps41
    go_wp2_with (fail)
    (refine later_intro ?_; intro y)
    go_wp2_with ((go_at_call 72; refine (later_below (ValidSite_any _ _ _ _)).mono ?_; rintro e w' ⟨rfl, y, rfl⟩))
    go_ret2
    exact ⟨by rw [HO.out]; rfl, (by repeat (first | exact Below.refl _ _ | refine below_alloc ?_ _ | refine below_drewN0 ?_ _ | refine below_drew0 ?_ | refine below_step ?_ (by assumption) | refine below_later ?_ _ | refine below_setCell0 ?_ (by first | exact Nat.le_refl _ | (simp; done) | omega | (simp; omega)) _))⟩
  | true =>
    cases v2 : vDir r d with
    | false =>
      have HO := Lib.hid (riseO_range (sg := -1) v1 v2)
      go_enter Tryd.func41, Tryd.ntmps41
      go_wp2_with (fail)
      (refine later_intro ?_; intro y)
      go_wp2_with (first | (go_at_call 72; refine (later_below (ValidSite_any _ _ _ _)).mono ?_; rintro e w' ⟨rfl, y, rfl⟩) | (go_at_call 101; refine (later_same (validDirection_any _ _ _)).mono ?_; rintro e w' ⟨rfl, y, rfl⟩))
      go_ret2
      exact ⟨by rw [HO.out]; rfl, (by repeat (first | exact Below.refl _ _ | refine below_alloc ?_ _ | refine below_drewN0 ?_ _ | refine below_drew0 ?_ | refine below_step ?_ (by assumption) | refine below_later ?_ _ | refine below_setCell0 ?_ (by first | exact Nat.le_refl _ | (simp; done) | omega | (simp; omega)) _))⟩
    | true =>
      obtain ⟨r1, r2, d1, d2⟩ := vDir_bd v2
      rcases settO_two v1 (vDir_d v2) with ⟨hs, hq⟩ | ⟨k, hs, k0, k1, hk2, hq⟩
      · have HO := Lib.hid (riseO_no (sg := -1) v1 v2 (by rw [hs]))
        have C : Hid (∀ W, SinOk W → Calls Tryd.prog 43 #[.agg #[.string n, .int .i64 lo, .int .i64 la], .int .i64 d] W fun e w' => e = .returned (.tuple #[.int .i64 0, .int .i64 6]) ∧ Below W.heap.size W w') := fun W hW => by
          have := SettingHour_any n lo la d W hW
          rw [hs] at this; exact this
        clear hs hq
        go_enter Tryd.func41, Tryd.ntmps41
        go_wp2_with (fail)
        (refine later_intro ?_; intro y)
        go_wp2_with (first | (go_at_call 72; refine (later_below (ValidSite_any _ _ _ _)).mono ?_; rintro e w' ⟨rfl, y, rfl⟩) | (go_at_call 101; refine (later_same (validDirection_any _ _ _)).mono ?_; rintro e w' ⟨rfl, y, rfl⟩) | (go_at_call 43; refine (later_below (C.out _ (SinOk.later (hS.alloc _) _))).mono ?_; rintro e w' ⟨rfl, y, rfl⟩))
        go_ret2
        exact ⟨by rw [HO.out]; rfl, (by repeat (first | exact Below.refl _ _ | refine below_alloc ?_ _ | refine below_drewN0 ?_ _ | refine below_drew0 ?_ | refine below_step ?_ (by assumption) | refine below_later ?_ _ | refine below_setCell0 ?_ (by first | exact Nat.le_refl _ | (simp; done) | omega | (simp; omega)) _))⟩
      · have HO : Hid (riseO n.data.toList lo la r d (-1) = (nrm (r - k), 0)) := by
          show _ = _
          rw [riseO_yes v1 v2 hs]
          have : r + (-1) * k = r - k := by omega
          rw [this]
        have C : Hid (∀ W, SinOk W → Calls Tryd.prog 43 #[.agg #[.string n, .int .i64 lo, .int .i64 la], .int .i64 d] W fun e w' => e = .returned (.tuple #[.int .i64 k, .int .i64 0]) ∧ Below W.heap.size W w') := fun W hW => by
          have := SettingHour_any n lo la d W hW
          rw [hs] at this; exact this
        clear hs hq hk2
        go_enter Tryd.func41, Tryd.ntmps41
        go_wp2_with (fail)
        (refine later_intro ?_; intro y)
        go_wp2_with (first | (go_at_call 72; refine (later_below (ValidSite_any _ _ _ _)).mono ?_; rintro e w' ⟨rfl, y, rfl⟩) | (go_at_call 101; refine (later_same (validDirection_any _ _ _)).mono ?_; rintro e w' ⟨rfl, y, rfl⟩) | (go_at_call 43; refine (later_below (C.out _ (SinOk.later (hS.alloc _) _))).mono ?_; rintro e w' ⟨rfl, y, rfl⟩) | (go_at_call 46; refine (later_same (NormalAngle_any _ _ (by omega) (by omega))).mono ?_; rintro e w' ⟨rfl, y, rfl⟩))
        go_ret2
        exact ⟨by rw [HO.out]; rfl, (by repeat (first | exact Below.refl _ _ | refine below_alloc ?_ _ | refine below_drewN0 ?_ _ | refine below_drew0 ?_ | refine below_step ?_ (by assumption) | refine below_later ?_ _ | refine below_setCell0 ?_ (by first | exact Nat.le_refl _ | (simp; done) | omega | (simp; omega)) _))⟩
set_option maxHeartbeats 1000000 in
theorem SettingOf_any (n : ByteArray) (lo la r d : Int) (w : World) (hS : SinOk w) :
    Calls Tryd.prog 42 #[.agg #[.string n, .int .i64 lo, .int .i64 la], .int .i64 r, .int .i64 d] w fun e w' => e = .returned (.tuple #[.int .i64 (riseO n.data.toList lo la r d (1)).1, .int .i64 (riseO n.data.toList lo la r d (1)).2]) ∧ Below w.heap.size w w' := by
  cases v1 : vSite n.data.toList lo la with
  | false =>
    have HO := Lib.hid (riseO_site (r := r) (d := d) (sg := 1) v1)
    go_enter Tryd.func42, Tryd.ntmps42
    go_wp2_with (fail)
    (refine later_intro ?_; intro y)
    go_wp2_with ((go_at_call 72; refine (later_below (ValidSite_any _ _ _ _)).mono ?_; rintro e w' ⟨rfl, y, rfl⟩))
    go_ret2
    exact ⟨by rw [HO.out]; rfl, (by repeat (first | exact Below.refl _ _ | refine below_alloc ?_ _ | refine below_drewN0 ?_ _ | refine below_drew0 ?_ | refine below_step ?_ (by assumption) | refine below_later ?_ _ | refine below_setCell0 ?_ (by first | exact Nat.le_refl _ | (simp; done) | omega | (simp; omega)) _))⟩
  | true =>
    cases v2 : vDir r d with
    | false =>
      have HO := Lib.hid (riseO_range (sg := 1) v1 v2)
      go_enter Tryd.func42, Tryd.ntmps42
      go_wp2_with (fail)
      (refine later_intro ?_; intro y)
      go_wp2_with (first | (go_at_call 72; refine (later_below (ValidSite_any _ _ _ _)).mono ?_; rintro e w' ⟨rfl, y, rfl⟩) | (go_at_call 101; refine (later_same (validDirection_any _ _ _)).mono ?_; rintro e w' ⟨rfl, y, rfl⟩))
      go_ret2
      exact ⟨by rw [HO.out]; rfl, (by repeat (first | exact Below.refl _ _ | refine below_alloc ?_ _ | refine below_drewN0 ?_ _ | refine below_drew0 ?_ | refine below_step ?_ (by assumption) | refine below_later ?_ _ | refine below_setCell0 ?_ (by first | exact Nat.le_refl _ | (simp; done) | omega | (simp; omega)) _))⟩
    | true =>
      obtain ⟨r1, r2, d1, d2⟩ := vDir_bd v2
      rcases settO_two v1 (vDir_d v2) with ⟨hs, hq⟩ | ⟨k, hs, k0, k1, hk2, hq⟩
      · have HO := Lib.hid (riseO_no (sg := 1) v1 v2 (by rw [hs]))
        have C : Hid (∀ W, SinOk W → Calls Tryd.prog 43 #[.agg #[.string n, .int .i64 lo, .int .i64 la], .int .i64 d] W fun e w' => e = .returned (.tuple #[.int .i64 0, .int .i64 6]) ∧ Below W.heap.size W w') := fun W hW => by
          have := SettingHour_any n lo la d W hW
          rw [hs] at this; exact this
        clear hs hq
        go_enter Tryd.func42, Tryd.ntmps42
        go_wp2_with (fail)
        (refine later_intro ?_; intro y)
        go_wp2_with (first | (go_at_call 72; refine (later_below (ValidSite_any _ _ _ _)).mono ?_; rintro e w' ⟨rfl, y, rfl⟩) | (go_at_call 101; refine (later_same (validDirection_any _ _ _)).mono ?_; rintro e w' ⟨rfl, y, rfl⟩) | (go_at_call 43; refine (later_below (C.out _ (SinOk.later (hS.alloc _) _))).mono ?_; rintro e w' ⟨rfl, y, rfl⟩))
        go_ret2
        exact ⟨by rw [HO.out]; rfl, (by repeat (first | exact Below.refl _ _ | refine below_alloc ?_ _ | refine below_drewN0 ?_ _ | refine below_drew0 ?_ | refine below_step ?_ (by assumption) | refine below_later ?_ _ | refine below_setCell0 ?_ (by first | exact Nat.le_refl _ | (simp; done) | omega | (simp; omega)) _))⟩
      · have HO : Hid (riseO n.data.toList lo la r d (1) = (nrm (r + k), 0)) := by
          show _ = _
          rw [riseO_yes v1 v2 hs]
          have : r + (1) * k = r + k := by omega
          rw [this]
        have C : Hid (∀ W, SinOk W → Calls Tryd.prog 43 #[.agg #[.string n, .int .i64 lo, .int .i64 la], .int .i64 d] W fun e w' => e = .returned (.tuple #[.int .i64 k, .int .i64 0]) ∧ Below W.heap.size W w') := fun W hW => by
          have := SettingHour_any n lo la d W hW
          rw [hs] at this; exact this
        clear hs hq hk2
        go_enter Tryd.func42, Tryd.ntmps42
        go_wp2_with (fail)
        (refine later_intro ?_; intro y)
        go_wp2_with (first | (go_at_call 72; refine (later_below (ValidSite_any _ _ _ _)).mono ?_; rintro e w' ⟨rfl, y, rfl⟩) | (go_at_call 101; refine (later_same (validDirection_any _ _ _)).mono ?_; rintro e w' ⟨rfl, y, rfl⟩) | (go_at_call 43; refine (later_below (C.out _ (SinOk.later (hS.alloc _) _))).mono ?_; rintro e w' ⟨rfl, y, rfl⟩) | (go_at_call 46; refine (later_same (NormalAngle_any _ _ (by omega) (by omega))).mono ?_; rintro e w' ⟨rfl, y, rfl⟩))
        go_ret2
        exact ⟨by rw [HO.out]; rfl, (by repeat (first | exact Below.refl _ _ | refine below_alloc ?_ _ | refine below_drewN0 ?_ _ | refine below_drew0 ?_ | refine below_step ?_ (by assumption) | refine below_later ?_ _ | refine below_setCell0 ?_ (by first | exact Nat.le_refl _ | (simp; done) | omega | (simp; omega)) _))⟩
end Go.Proofs.YtbpjnopnhmoigaaDoor
