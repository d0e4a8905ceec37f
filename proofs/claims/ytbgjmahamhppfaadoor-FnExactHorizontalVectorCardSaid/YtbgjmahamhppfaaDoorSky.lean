/- Contracts of the functions on areas of domes, altitudes, orbits and their meetings. -/
import Derived.Test.YtbgjmahamhppfaaDoorValid
import Derived.Test.YtbgjmahamhppfaaDoorPlainSky
namespace Go.Proofs.YtbgjmahamhppfaaDoor
set_option linter.unusedVariables false
set_option linter.unusedSimpArgs false
open Go.RowKit
theorem inB_zero : inB 0 0 359999 = true := rfl
theorem wrap_in {n : Int} (h1 : -9223372036854775808 ≤ n) (h2 : n ≤ 9223372036854775807) : IntKind.i64.wrap n = n := IntWalk.i64_in _ ⟨h1, h2⟩
theorem l02Abs_any (a : Int) (w : World) (h1 : -9000000000000000000 ≤ a) (h2 : a ≤ 9000000000000000000) :
    Calls Tryd.prog 104 #[.int .i64 a] w fun e w' => e = .returned (.int .i64 (absI a)) ∧ w = w' := by
  by_cases h : a < 0
  · go_enter Tryd.func104, Tryd.ntmps104
    go_wp2
    go_ret
    exact ⟨ret_int (by unfold absI; split <;> omega), rfl⟩
  · go_enter Tryd.func104, Tryd.ntmps104
    go_wp2
    go_ret
    exact ⟨ret_int (by unfold absI; split <;> omega), rfl⟩
theorem milliOf_any (d m : Int) (w : World) (hd : 0 ≤ d ∧ d ≤ 99999 ∧ 0 ≤ m ∧ m ≤ 86399999) :
    Calls Tryd.prog 84 #[.agg #[.int .i64 d, .int .i64 m]] w fun e w' => e = .returned (.int .i64 (milliI d m)) ∧ Below w.heap.size w w' := by
  obtain ⟨h1, h2, h3, h4⟩ := hd
  go_enter Tryd.func84, Tryd.ntmps84
  go_wp2
  go_ret
  exact ⟨rfl, (by repeat (first | exact Below.refl _ _ | refine below_alloc ?_ _ | refine below_drewN0 ?_ _ | refine below_drew0 ?_ | refine below_step ?_ (by assumption) | refine below_later ?_ _ | refine below_setCell0 ?_ (by first | exact Nat.le_refl _ | (simp; done) | omega | (simp; omega)) _))⟩
theorem l03All_any (d m : Int) (w : World) (hd : 0 ≤ d ∧ d ≤ 99999 ∧ 0 ≤ m ∧ m ≤ 86399999) :
    Calls Tryd.prog 97 #[.agg #[.int .i64 d, .int .i64 m]] w fun e w' => e = .returned (.int .i64 (milliI d m)) ∧ Below w.heap.size w w' := by
  obtain ⟨h1, h2, h3, h4⟩ := hd
  go_enter Tryd.func97, Tryd.ntmps97
  go_wp2
  go_ret
  exact ⟨rfl, (by repeat (first | exact Below.refl _ _ | refine below_alloc ?_ _ | refine below_drewN0 ?_ _ | refine below_drew0 ?_ | refine below_step ?_ (by assumption) | refine below_later ?_ _ | refine below_setCell0 ?_ (by first | exact Nat.le_refl _ | (simp; done) | omega | (simp; omega)) _))⟩
set_option maxHeartbeats 1000000 in
theorem l07Angle_any (b : Nat) (p u d m : Int) (w : World) (hb : b < w.heap.size) (c1 : w.cell? ⟨b, 1, none⟩ = some (.int .i64 p)) (c3 : w.cell? ⟨b, 3, none⟩ = some (.int .i64 u)) (hp : 1000 ≤ p ∧ p ≤ 100000000) (hu : 0 ≤ u ∧ u ≤ 359999) (hd : 0 ≤ d ∧ d ≤ 99999 ∧ 0 ≤ m ∧ m ≤ 86399999) :
    Calls Tryd.prog 67 #[.pointer (some ⟨b, 0, none⟩), .agg #[.int .i64 d, .int .i64 m]] w fun e w' => e = .returned (.int .i64 (angleI p u d m)) ∧ Below w.heap.size w w' := by
  have HE : Hid (angleI p u d m = (u + milliI d m * 360000 / (p * 86400)) % 360000) := rfl
  have C1 : Hid (∀ W, Calls Tryd.prog 97 #[.agg #[.int .i64 d, .int .i64 m]] W fun e w' => e = .returned (.int .i64 (milliI d m)) ∧ Below W.heap.size W w') := fun W => l03All_any d m W hd
  obtain ⟨t1, t2⟩ := milliI_bd hd
  obtain ⟨p1, p2⟩ := hp
  obtain ⟨u1, u2⟩ := hu
  generalize milliI d m = T at *
  obtain ⟨q1, q2⟩ := turn_bd T p t1 t2 p1
  have w1 : IntKind.i64.wrap (T * 360000) = T * 360000 := wrap_in (by omega) (by omega)
  have w2 : IntKind.i64.wrap (p * 86400) = p * 86400 := wrap_in (by omega) (by omega)
  have w3 : ¬ p * 86400 = 0 := by omega
  have w4 : IntKind.i64.wrap ((T * 360000).tdiv (p * 86400)) = T * 360000 / (p * 86400) := IntWalk.i64_quo _ _ (by omega)
  have w5 : IntKind.i64.wrap (u + T * 360000 / (p * 86400)) = u + T * 360000 / (p * 86400) := wrap_in (by omega) (by omega)
  have w6 : (u + T * 360000 / (p * 86400)).tmod 360000 = (u + T * 360000 / (p * 86400)) % 360000 := IntWalk.rem_in _ _ (by omega)
  have hbl : b < w.heap.size + 1 := by omega
  go_enter Tryd.func67, Tryd.ntmps67
  go_wp2_with (fail)
  (refine later_intro_wp ?_; intro y)
  (refine wp_region_later (by kernel_rfl) (by kernel_rfl) ?_; (repeat (quiet_step ((go_at_call 97; exact later_below (C1.out _))))); refine wpQuiet_nil ?_; rintro _ ⟨y, rfl⟩)
  go_wp2
  go_ret
  exact ⟨by rw [HE.out]; rfl, (by repeat (first | exact Below.refl _ _ | refine below_alloc ?_ _ | refine below_drewN0 ?_ _ | refine below_drew0 ?_ | refine below_step ?_ (by assumption) | refine below_later ?_ _ | refine below_setCell0 ?_ (by first | exact Nat.le_refl _ | (simp; done) | omega | (simp; omega)) _))⟩
set_option maxHeartbeats 1000000 in
theorem OrbitAngle_any (n : ByteArray) (p r u d m : Int) (w : World) :
    Calls Tryd.prog 45 #[.agg #[.string n, .int .i64 p, .int .i64 r, .int .i64 u], .agg #[.int .i64 d, .int .i64 m]] w fun e w' =>
      e = .returned (.tuple #[.int .i64 (orbO n.data.toList p r u d m).1, .int .i64 (orbO n.data.toList p r u d m).2]) ∧ Below w.heap.size w w' := by
  cases hv : vPlanet n.data.toList p r u && vMoment d m with
  | false =>
    have HO : Hid (orbO n.data.toList p r u d m = (0, 1)) := okO_no hv
    cases v1 : vPlanet n.data.toList p r u with
    | false =>
      clear hv
      go_enter Tryd.func45, Tryd.ntmps45
      go_wp2_with (fail)
      (refine later_intro ?_; intro y)
      go_wp2_with (first | (go_at_call 78; refine (later_below (ValidPlanet_any _ _ _ _ _)).mono ?_; rintro e w' ⟨rfl, y, rfl⟩) | (go_at_call 79; refine (later_below (ValidMoment_any _ _ _)).mono ?_; rintro e w' ⟨rfl, y, rfl⟩))
      go_ret2
      exact ⟨by rw [HO.out]; rfl, (by repeat (first | exact Below.refl _ _ | refine below_alloc ?_ _ | refine below_drewN0 ?_ _ | refine below_drew0 ?_ | refine below_step ?_ (by assumption) | refine below_later ?_ _ | refine below_setCell0 ?_ (by first | exact Nat.le_refl _ | (simp; done) | omega | (simp; omega)) _))⟩
    | true =>
      have v2 : vMoment d m = false := by simpa [v1] using hv
      clear hv
      go_enter Tryd.func45, Tryd.ntmps45
      go_wp2_with (fail)
      (refine later_intro ?_; intro y)
      go_wp2_with (first | (go_at_call 78; refine (later_below (ValidPlanet_any _ _ _ _ _)).mono ?_; rintro e w' ⟨rfl, y, rfl⟩) | (go_at_call 79; refine (later_below (ValidMoment_any _ _ _)).mono ?_; rintro e w' ⟨rfl, y, rfl⟩))
      go_ret2
      exact ⟨by rw [HO.out]; rfl, (by repeat (first | exact Below.refl _ _ | refine below_alloc ?_ _ | refine below_drewN0 ?_ _ | refine below_drew0 ?_ | refine below_step ?_ (by assumption) | refine below_later ?_ _ | refine below_setCell0 ?_ (by first | exact Nat.le_refl _ | (simp; done) | omega | (simp; omega)) _))⟩
  | true =>
    have HO : Hid (orbO n.data.toList p r u d m = (angleI p u d m, 0)) := okO_yes hv
    obtain ⟨v1, v2⟩ := Bool.and_eq_true_iff.1 hv
    clear hv
    obtain ⟨p1, p2, r1, r2, u1, u2⟩ := vPlanet_bd v1
    have hd := vMoment_bd v2
    have HE : Hid (angleI p u d m = (u + milliI d m * 360000 / (p * 86400)) % 360000) := rfl
    have C1 : Hid (∀ W, Calls Tryd.prog 84 #[.agg #[.int .i64 d, .int .i64 m]] W fun e w' => e = .returned (.int .i64 (milliI d m)) ∧ Below W.heap.size W w') := fun W => milliOf_any d m W hd
    obtain ⟨t1, t2⟩ := milliI_bd hd
    generalize milliI d m = T at *
    obtain ⟨q1, q2⟩ := turn_bd T p t1 t2 p1
    have w1 : IntKind.i64.wrap (T * 360000) = T * 360000 := wrap_in (by omega) (by omega)
    have w2 : IntKind.i64.wrap (p * 86400) = p * 86400 := wrap_in (by omega) (by omega)
    have w3 : ¬ p * 86400 = 0 := by omega
    have w4 : IntKind.i64.wrap ((T * 360000).tdiv (p * 86400)) = T * 360000 / (p * 86400) := IntWalk.i64_quo _ _ (by omega)
    have w5 : IntKind.i64.wrap (u + T * 360000 / (p * 86400)) = u + T * 360000 / (p * 86400) := wrap_in (by omega) (by omega)
    have w6 : (u + T * 360000 / (p * 86400)).tmod 360000 = (u + T * 360000 / (p * 86400)) % 360000 := IntWalk.rem_in _ _ (by omega)
    go_enter Tryd.func45, Tryd.ntmps45
    go_wp2_with (fail)
    (refine later_intro ?_; intro y)
    go_wp2_with (first | (go_at_call 78; refine (later_below (ValidPlanet_any _ _ _ _ _)).mono ?_; rintro e w' ⟨rfl, y, rfl⟩) | (go_at_call 79; refine (later_below (ValidMoment_any _ _ _)).mono ?_; rintro e w' ⟨rfl, y, rfl⟩))
    (refine wp_region_later (by kernel_rfl) (by kernel_rfl) ?_; (repeat (quiet_step ((go_at_call 84; exact later_below (C1.out _))))); refine wpQuiet_nil ?_; rintro _ ⟨y, rfl⟩)
    go_wp2
    go_ret2
    exact ⟨by rw [HO.out, HE.out]; rfl, (by repeat (first | exact Below.refl _ _ | refine below_alloc ?_ _ | refine below_drewN0 ?_ _ | refine below_drew0 ?_ | refine below_step ?_ (by assumption) | refine below_later ?_ _ | refine below_setCell0 ?_ (by first | exact Nat.le_refl _ | (simp; done) | omega | (simp; omega)) _))⟩
theorem l06Turn_any (a : Int) (w : World) : Calls Tryd.prog 88 #[.int .i64 a] w fun e w' => e = .returned (.bool (inB a 0 359999)) ∧ w = w' := by
  go_enter Tryd.func88, Tryd.ntmps88
  go_wp2_with ((go_at_call 77; refine (l00In_any _ _ _ _).mono ?_; rintro e w' ⟨rfl, rfl⟩))
  go_ret
  exact ⟨rfl, rfl⟩
set_option maxHeartbeats 1000000 in
theorem l06Ask_any (b : Nat) (n : ByteArray) (lo la a1 a2 d : Int) (w : World) (c0 : w.cell? ⟨b, 0, none⟩ = some (.string n)) (c1 : w.cell? ⟨b, 1, none⟩ = some (.int .i64 lo)) (c2 : w.cell? ⟨b, 2, none⟩ = some (.int .i64 la)) :
    Calls Tryd.prog 49 #[.pointer (some ⟨b, 0, none⟩), .int .i64 a1, .int .i64 a2, .int .i64 d] w fun e w' =>
      e = .returned (.int .i64 (askI n.data.toList lo la a1 a2 d)) ∧ w = w' := by
  cases v1 : vSite n.data.toList lo la with
  | false =>
    go_enter Tryd.func49, Tryd.ntmps49
    go_wp2_with ((go_at_call 87; refine (l06Ok_any _ n lo la _ (by assumption) (by assumption) (by assumption)).mono ?_; rintro e w' ⟨rfl, rfl⟩))
    go_ret
    exact ⟨ret_int (by simp [askI, v1]), rfl⟩
  | true =>
    cases v2 : inB a1 0 359999 with
    | false =>
      go_enter Tryd.func49, Tryd.ntmps49
      go_wp2_with (first | (go_at_call 87; refine (l06Ok_any _ n lo la _ (by assumption) (by assumption) (by assumption)).mono ?_; rintro e w' ⟨rfl, rfl⟩) | (go_at_call 88; refine (l06Turn_any _ _).mono ?_; rintro e w' ⟨rfl, rfl⟩) | (go_at_call 89; refine (l06Latitude_any _ _).mono ?_; rintro e w' ⟨rfl, rfl⟩))
      go_ret
      exact ⟨ret_int (by simp [askI, v1, v2]), rfl⟩
    | true =>
      cases v3 : inB a2 0 359999 with
      | false =>
        go_enter Tryd.func49, Tryd.ntmps49
        go_wp2_with (first | (go_at_call 87; refine (l06Ok_any _ n lo la _ (by assumption) (by assumption) (by assumption)).mono ?_; rintro e w' ⟨rfl, rfl⟩) | (go_at_call 88; refine (l06Turn_any _ _).mono ?_; rintro e w' ⟨rfl, rfl⟩) | (go_at_call 89; refine (l06Latitude_any _ _).mono ?_; rintro e w' ⟨rfl, rfl⟩))
        go_ret
        exact ⟨ret_int (by simp [askI, v1, v2, v3]), rfl⟩
      | true =>
        cases v4 : inB d (-90000) 90000 with
        | false =>
          go_enter Tryd.func49, Tryd.ntmps49
          go_wp2_with (first | (go_at_call 87; refine (l06Ok_any _ n lo la _ (by assumption) (by assumption) (by assumption)).mono ?_; rintro e w' ⟨rfl, rfl⟩) | (go_at_call 88; refine (l06Turn_any _ _).mono ?_; rintro e w' ⟨rfl, rfl⟩) | (go_at_call 89; refine (l06Latitude_any _ _).mono ?_; rintro e w' ⟨rfl, rfl⟩))
          go_ret
          exact ⟨ret_int (by simp [askI, v1, v2, v3, v4]), rfl⟩
        | true =>
          go_enter Tryd.func49, Tryd.ntmps49
          go_wp2_with (first | (go_at_call 87; refine (l06Ok_any _ n lo la _ (by assumption) (by assumption) (by assumption)).mono ?_; rintro e w' ⟨rfl, rfl⟩) | (go_at_call 88; refine (l06Turn_any _ _).mono ?_; rintro e w' ⟨rfl, rfl⟩) | (go_at_call 89; refine (l06Latitude_any _ _).mono ?_; rintro e w' ⟨rfl, rfl⟩))
          go_ret
          exact ⟨ret_int (by simp [askI, v1, v2, v3, v4]), rfl⟩
end Go.Proofs.YtbgjmahamhppfaaDoor
