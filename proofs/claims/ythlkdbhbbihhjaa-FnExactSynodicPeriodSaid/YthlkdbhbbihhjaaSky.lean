/- Contracts of the functions on areas of domes, altitudes, orbits and their meetings. -/
import Derived.Test.YthlkdbhbbihhjaaValid
import Derived.Test.YthlkdbhbbihhjaaPlainSky
namespace Go.Proofs.Ythlkdbhbbihhjaa
set_option linter.unusedVariables false
set_option linter.unusedSimpArgs false
open Go.RowKit
theorem inB_zero : inB 0 0 359999 = true := rfl
theorem wrap_in {n : Int} (h1 : -9223372036854775808 ≤ n) (h2 : n ≤ 9223372036854775807) : IntKind.i64.wrap n = n := IntWalk.i64_in _ ⟨h1, h2⟩
theorem l02Abs_any (a : Int) (w : World) (h1 : -9000000000000000000 ≤ a) (h2 : a ≤ 9000000000000000000) :
    Calls Try.prog 64 #[.int .i64 a] w fun e w' => e = .returned (.int .i64 (absI a)) ∧ w = w' := by
  by_cases h : a < 0
  · go_enter Try.func64, Try.ntmps64
    go_wp2
    go_ret
    exact ⟨ret_int (by unfold absI; split <;> omega), rfl⟩
  · go_enter Try.func64, Try.ntmps64
    go_wp2
    go_ret
    exact ⟨ret_int (by unfold absI; split <;> omega), rfl⟩
theorem milliOf_any (d m : Int) (w : World) (hd : 0 ≤ d ∧ d ≤ 99999 ∧ 0 ≤ m ∧ m ≤ 86399999) :
    Calls Try.prog 58 #[.agg #[.int .i64 d, .int .i64 m]] w fun e w' => e = .returned (.int .i64 (milliI d m)) ∧ Below w.heap.size w w' := by
  obtain ⟨h1, h2, h3, h4⟩ := hd
  go_enter Try.func58, Try.ntmps58
  go_wp2
  go_ret
  exact ⟨rfl, (by repeat (first | exact Below.refl _ _ | refine below_alloc ?_ _ | refine below_drewN0 ?_ _ | refine below_drew0 ?_ | refine below_step ?_ (by assumption) | refine below_later ?_ _ | refine below_setCell0 ?_ (by first | exact Nat.le_refl _ | (simp; done) | omega | (simp; omega)) _))⟩
theorem l03All_any (d m : Int) (w : World) (hd : 0 ≤ d ∧ d ≤ 99999 ∧ 0 ≤ m ∧ m ≤ 86399999) :
    Calls Try.prog 71 #[.agg #[.int .i64 d, .int .i64 m]] w fun e w' => e = .returned (.int .i64 (milliI d m)) ∧ Below w.heap.size w w' := by
  obtain ⟨h1, h2, h3, h4⟩ := hd
  go_enter Try.func71, Try.ntmps71
  go_wp2
  go_ret
  exact ⟨rfl, (by repeat (first | exact Below.refl _ _ | refine below_alloc ?_ _ | refine below_drewN0 ?_ _ | refine below_drew0 ?_ | refine below_step ?_ (by assumption) | refine below_later ?_ _ | refine below_setCell0 ?_ (by first | exact Nat.le_refl _ | (simp; done) | omega | (simp; omega)) _))⟩
set_option maxHeartbeats 1000000 in
theorem l07Angle_any (b : Nat) (p u d m : Int) (w : World) (hb : b < w.heap.size) (c1 : w.cell? ⟨b, 1, none⟩ = some (.int .i64 p)) (c3 : w.cell? ⟨b, 3, none⟩ = some (.int .i64 u)) (hp : 1000 ≤ p ∧ p ≤ 100000000) (hu : 0 ≤ u ∧ u ≤ 359999) (hd : 0 ≤ d ∧ d ≤ 99999 ∧ 0 ≤ m ∧ m ≤ 86399999) :
    Calls Try.prog 56 #[.pointer (some ⟨b, 0, none⟩), .agg #[.int .i64 d, .int .i64 m]] w fun e w' => e = .returned (.int .i64 (angleI p u d m)) ∧ Below w.heap.size w w' := by
  have HE : Hid (angleI p u d m = (u + milliI d m * 360000 / (p * 86400)) % 360000) := rfl
  have C1 : Hid (∀ W, Calls Try.prog 71 #[.agg #[.int .i64 d, .int .i64 m]] W fun e w' => e = .returned (.int .i64 (milliI d m)) ∧ Below W.heap.size W w') := fun W => l03All_any d m W hd
  obtain ⟨t1, t2⟩ := milliI_bd hd
  obtain ⟨p1, p2⟩ := hp
  obtain ⟨u1, u2⟩ := hu
  generalize milliI d m = T at *
  obtain ⟨q1, q2⟩ := turn_bd T p t1 t2 p1
  have w1 : IntKind.i64.wrap (T * 360000) = T * 360000 := wrap_in (by omega) (by omega)
  have w2 : IntKind.i64.wrap (p * 86400) = p * 86400 := wrap_in (by omega) (by omega)
  have w3 : ¬ p * 86400 = 0 := by omega
  have w4 : IntKind.i64.wrap ((T * 360000).tdiv (p * 86400)) = T * 360000 / (p * 86400) := IntWalk.i64_quo _ _ (by omega)
  have w5 : IntKind.i64.wrap (u + T * 360000 / (p * 86400)) = u + T * 360000 / (p * 86400) := wrap_in (by omega) (by omega)
  have w6 : (u + T * 360000 / (p * 86400)).tmod 360000 = (u + T * 360000 / (p * 86400)) % 360000 := IntWalk.rem_in _ _ (by omega)
  have hbl : b < w.heap.size + 1 := by omega
  go_enter Try.func56, Try.ntmps56
  go_wp2_with (fail)
  (refine later_intro_wp ?_; intro y)
  (refine wp_region_later (by kernel_rfl) (by kernel_rfl) ?_; (repeat (quiet_step ((go_at_call 71; exact later_below (C1.out _))))); refine wpQuiet_nil ?_; rintro _ ⟨y, rfl⟩)
  go_wp2
  go_ret
  exact ⟨by rw [HE.out]; rfl, (by repeat (first | exact Below.refl _ _ | refine below_alloc ?_ _ | refine below_drewN0 ?_ _ | refine below_drew0 ?_ | refine below_step ?_ (by assumption) | refine below_later ?_ _ | refine below_setCell0 ?_ (by first | exact Nat.le_refl _ | (simp; done) | omega | (simp; omega)) _))⟩
set_option maxHeartbeats 1000000 in
theorem OrbitAngle_any (n : ByteArray) (p r u d m : Int) (w : World) :
    Calls Try.prog 34 #[.agg #[.string n, .int .i64 p, .int .i64 r, .int .i64 u], .agg #[.int .i64 d, .int .i64 m]] w fun e w' =>
      e = .returned (.tuple #[.int .i64 (orbO n.data.toList p r u d m).1, .int .i64 (orbO n.data.toList p r u d m).2]) ∧ Below w.heap.size w w' := by
  cases hv : vPlanet n.data.toList p r u && vMoment d m with
  | false =>
    have HO : Hid (orbO n.data.toList p r u d m = (0, 1)) := okO_no hv
    cases v1 : vPlanet n.data.toList p r u with
    | false =>
      clear hv
      go_enter Try.func34, Try.ntmps34
      go_wp2_with (fail)
      (refine later_intro ?_; intro y)
      go_wp2_with (first | (go_at_call 25; refine (later_below (ValidPlanet_any _ _ _ _ _)).mono ?_; rintro e w' ⟨rfl, y, rfl⟩) | (go_at_call 57; refine (later_below (ValidMoment_any _ _ _)).mono ?_; rintro e w' ⟨rfl, y, rfl⟩))
      go_ret2
      exact ⟨by rw [HO.out]; rfl, (by repeat (first | exact Below.refl _ _ | refine below_alloc ?_ _ | refine below_drewN0 ?_ _ | refine below_drew0 ?_ | refine below_step ?_ (by assumption) | refine below_later ?_ _ | refine below_setCell0 ?_ (by first | exact Nat.le_refl _ | (simp; done) | omega | (simp; omega)) _))⟩
    | true =>
      have v2 : vMoment d m = false := by simpa [v1] using hv
      clear hv
      go_enter Try.func34, Try.ntmps34
      go_wp2_with (fail)
      (refine later_intro ?_; intro y)
      go_wp2_with (first | (go_at_call 25; refine (later_below (ValidPlanet_any _ _ _ _ _)).mono ?_; rintro e w' ⟨rfl, y, rfl⟩) | (go_at_call 57; refine (later_below (ValidMoment_any _ _ _)).mono ?_; rintro e w' ⟨rfl, y, rfl⟩))
      go_ret2
      exact ⟨by rw [HO.out]; rfl, (by repeat (first | exact Below.refl _ _ | refine below_alloc ?_ _ | refine below_drewN0 ?_ _ | refine below_drew0 ?_ | refine below_step ?_ (by assumption) | refine below_later ?_ _ | refine below_setCell0 ?_ (by first | exact Nat.le_refl _ | (simp; done) | omega | (simp; omega)) _))⟩
  | true =>
    have HO : Hid (orbO n.data.toList p r u d m = (angleI p u d m, 0)) := okO_yes hv
    obtain ⟨v1, v2⟩ := Bool.and_eq_true_iff.1 hv
    clear hv
    obtain ⟨p1, p2, r1, r2, u1, u2⟩ := vPlanet_bd v1
    have hd := vMoment_bd v2
    have HE : Hid (angleI p u d m = (u + milliI d m * 360000 / (p * 86400)) % 360000) := rfl
    have C1 : Hid (∀ W, Calls Try.prog 58 #[.agg #[.int .i64 d, .int .i64 m]] W fun e w' => e = .returned (.int .i64 (milliI d m)) ∧ Below W.heap.size W w') := fun W => milliOf_any d m W hd
    obtain ⟨t1, t2⟩ := milliI_bd hd
    generalize milliI d m = T at *
    obtain ⟨q1, q2⟩ := turn_bd T p t1 t2 p1
    have w1 : IntKind.i64.wrap (T * 360000) = T * 360000 := wrap_in (by omega) (by omega)
    have w2 : IntKind.i64.wrap (p * 86400) = p * 86400 := wrap_in (by omega) (by omega)
    have w3 : ¬ p * 86400 = 0 := by omega
    have w4 : IntKind.i64.wrap ((T * 360000).tdiv (p * 86400)) = T * 360000 / (p * 86400) := IntWalk.i64_quo _ _ (by omega)
    have w5 : IntKind.i64.wrap (u + T * 360000 / (p * 86400)) = u + T * 360000 / (p * 86400) := wrap_in (by omega) (by omega)
    have w6 : (u + T * 360000 / (p * 86400)).tmod 360000 = (u + T * 360000 / (p * 86400)) % 360000 := IntWalk.rem_in _ _ (by omega)
    go_enter Try.func34, Try.ntmps34
    go_wp2_with (fail)
    (refine later_intro ?_; intro y)
    go_wp2_with (first | (go_at_call 25; refine (later_below (ValidPlanet_any _ _ _ _ _)).mono ?_; rintro e w' ⟨rfl, y, rfl⟩) | (go_at_call 57; refine (later_below (ValidMoment_any _ _ _)).mono ?_; rintro e w' ⟨rfl, y, rfl⟩))
    (refine wp_region_later (by kernel_rfl) (by kernel_rfl) ?_; (repeat (quiet_step ((go_at_call 58; exact later_below (C1.out _))))); refine wpQuiet_nil ?_; rintro _ ⟨y, rfl⟩)
    go_wp2
    go_ret2
    exact ⟨by rw [HO.out, HE.out]; rfl, (by repeat (first | exact Below.refl _ _ | refine below_alloc ?_ _ | refine below_drewN0 ?_ _ | refine below_drew0 ?_ | refine below_step ?_ (by assumption) | refine below_later ?_ _ | refine below_setCell0 ?_ (by first | exact Nat.le_refl _ | (simp; done) | omega | (simp; omega)) _))⟩
set_option maxHeartbeats 1000000 in
theorem sOrbitAngle_any (n : ByteArray) (p r u d m : Int) (w : World) :
    Calls Try.prog 32 #[.agg #[.string n, .int .i64 p, .int .i64 r, .int .i64 u], .agg #[.int .i64 d, .int .i64 m]] w fun e w' =>
      e = .returned (.tuple #[.int .i64 (orbO n.data.toList p r u d m).1, .int .i64 (orbO n.data.toList p r u d m).2]) ∧ Below w.heap.size w w' := by
  cases hv : vPlanet n.data.toList p r u && vMoment d m with
  | false =>
    have HO : Hid (orbO n.data.toList p r u d m = (0, 1)) := okO_no hv
    cases v1 : vPlanet n.data.toList p r u with
    | false =>
      clear hv
      go_enter Try.func32, Try.ntmps32
      go_wp2_with (fail)
      (refine later_intro ?_; intro y)
      go_wp2_with (first | (go_at_call 49; refine (later_same (l07One_any _ n p r u _ (by simp [go_sem]) (by simp [go_sem]) (by simp [go_sem]) (by simp [go_sem]))).mono ?_; rintro e w' ⟨rfl, y, rfl⟩) | (go_at_call 55; refine (later_below (l03Ok_any _ _ _)).mono ?_; rintro e w' ⟨rfl, y, rfl⟩))
      go_ret2
      exact ⟨by rw [HO.out]; rfl, (by repeat (first | exact Below.refl _ _ | refine below_alloc ?_ _ | refine below_drewN0 ?_ _ | refine below_drew0 ?_ | refine below_step ?_ (by assumption) | refine below_later ?_ _ | refine below_setCell0 ?_ (by first | exact Nat.le_refl _ | (simp; done) | omega | (simp; omega)) _))⟩
    | true =>
      have v2 : vMoment d m = false := by simpa [v1] using hv
      clear hv
      go_enter Try.func32, Try.ntmps32
      go_wp2_with (fail)
      (refine later_intro ?_; intro y)
      go_wp2_with (first | (go_at_call 49; refine (later_same (l07One_any _ n p r u _ (by simp [go_sem]) (by simp [go_sem]) (by simp [go_sem]) (by simp [go_sem]))).mono ?_; rintro e w' ⟨rfl, y, rfl⟩) | (go_at_call 55; refine (later_below (l03Ok_any _ _ _)).mono ?_; rintro e w' ⟨rfl, y, rfl⟩))
      go_ret2
      exact ⟨by rw [HO.out]; rfl, (by repeat (first | exact Below.refl _ _ | refine below_alloc ?_ _ | refine below_drewN0 ?_ _ | refine below_drew0 ?_ | refine below_step ?_ (by assumption) | refine below_later ?_ _ | refine below_setCell0 ?_ (by first | exact Nat.le_refl _ | (simp; done) | omega | (simp; omega)) _))⟩
  | true =>
    have HO : Hid (orbO n.data.toList p r u d m = (angleI p u d m, 0)) := okO_yes hv
    obtain ⟨v1, v2⟩ := Bool.and_eq_true_iff.1 hv
    clear hv
    obtain ⟨p1, p2, r1, r2, u1, u2⟩ := vPlanet_bd v1
    have hd := vMoment_bd v2
    go_enter Try.func32, Try.ntmps32
    go_wp2_with (fail)
    (refine later_intro ?_; intro y)
    go_wp2_with (first | (go_at_call 49; refine (later_same (l07One_any _ n p r u _ (by simp [go_sem]) (by simp [go_sem]) (by simp [go_sem]) (by simp [go_sem]))).mono ?_; rintro e w' ⟨rfl, y, rfl⟩) | (go_at_call 55; refine (later_below (l03Ok_any _ _ _)).mono ?_; rintro e w' ⟨rfl, y, rfl⟩) | (go_at_call 56; refine (later_below (l07Angle_any _ p u d m _ (by have := y.below.size; simp at this; omega) (by simp [go_sem]) (by simp [go_sem]) ⟨p1, p2⟩ ⟨u1, u2⟩ hd)).mono ?_; rintro e w' ⟨rfl, y, rfl⟩))
    go_ret2
    exact ⟨by rw [HO.out]; rfl, (by repeat (first | exact Below.refl _ _ | refine below_alloc ?_ _ | refine below_drewN0 ?_ _ | refine below_drew0 ?_ | refine below_step ?_ (by assumption) | refine below_later ?_ _ | refine below_setCell0 ?_ (by first | exact Nat.le_refl _ | (simp; done) | omega | (simp; omega)) _))⟩
set_option maxHeartbeats 1000000 in
theorem DomeArea_any (n : ByteArray) (r t : Int) (w : World) :
    Calls Try.prog 38 #[.agg #[.string n, .int .i64 r, .int .i64 t]] w fun e w' =>
      e = .returned (.tuple #[.int .i64 (areaO n.data.toList r t).1, .int .i64 (areaO n.data.toList r t).2]) ∧ Below w.heap.size w w' := by
  cases hv : vDome n.data.toList r t with
  | false =>
    have HO : Hid (areaO n.data.toList r t = (0, 1)) := okO_no hv
    go_enter Try.func38, Try.ntmps38
    go_wp2_with (fail)
    (refine later_intro ?_; intro y)
    go_wp2_with ((go_at_call 17; refine (later_below (ValidDome_any _ _ _ _)).mono ?_; rintro e w' ⟨rfl, y, rfl⟩))
    go_ret2
    exact ⟨by rw [HO.out]; rfl, (by repeat (first | exact Below.refl _ _ | refine below_alloc ?_ _ | refine below_drewN0 ?_ _ | refine below_drew0 ?_ | refine below_step ?_ (by assumption) | refine below_later ?_ _ | refine below_setCell0 ?_ (by first | exact Nat.le_refl _ | (simp; done) | omega | (simp; omega)) _))⟩
  | true =>
    have HO : Hid (areaO n.data.toList r t = (rnd (628318 * r * r) 100000, 0)) := okO_yes hv
    obtain ⟨r1, r2⟩ := vDome_bd hv
    obtain ⟨m1, m2⟩ := mul_small r r 30000 30000 (by omega) (by omega)
    obtain ⟨m3, m4⟩ := mul_small (628318 * r) r 18849540000 30000 (by omega) (by omega)
    go_enter Try.func38, Try.ntmps38
    go_wp2_with (fail)
    (refine later_intro ?_; intro y)
    go_wp2_with (first | (go_at_call 17; refine (later_below (ValidDome_any _ _ _ _)).mono ?_; rintro e w' ⟨rfl, y, rfl⟩) | (go_at_call 62; refine (later_drew (nearest_any _ _ _ (by omega) (by omega) (by omega) (by omega))).mono ?_; rintro e w' ⟨rfl, y, rfl⟩))
    go_ret2
    exact ⟨by rw [HO.out]; rfl, (by repeat (first | exact Below.refl _ _ | refine below_alloc ?_ _ | refine below_drewN0 ?_ _ | refine below_drew0 ?_ | refine below_step ?_ (by assumption) | refine below_later ?_ _ | refine below_setCell0 ?_ (by first | exact Nat.le_refl _ | (simp; done) | omega | (simp; omega)) _))⟩
set_option maxHeartbeats 1000000 in
theorem sDomeArea_any (n : ByteArray) (r t : Int) (w : World) :
    Calls Try.prog 37 #[.agg #[.string n, .int .i64 r, .int .i64 t]] w fun e w' =>
      e = .returned (.tuple #[.int .i64 (areaO n.data.toList r t).1, .int .i64 (areaO n.data.toList r t).2]) ∧ Below w.heap.size w w' := by
  cases hv : vDome n.data.toList r t with
  | false =>
    have HO : Hid (areaO n.data.toList r t = (0, 1)) := okO_no hv
    go_enter Try.func37, Try.ntmps37
    go_wp2_with (fail)
    (refine later_intro ?_; intro y)
    go_wp2_with ((go_at_call 45; refine (later_same (l09Ok_any _ n r t _ (by simp [go_sem]) (by simp [go_sem]) (by simp [go_sem]))).mono ?_; rintro e w' ⟨rfl, y, rfl⟩))
    go_ret2
    exact ⟨by rw [HO.out]; rfl, (by repeat (first | exact Below.refl _ _ | refine below_alloc ?_ _ | refine below_drewN0 ?_ _ | refine below_drew0 ?_ | refine below_step ?_ (by assumption) | refine below_later ?_ _ | refine below_setCell0 ?_ (by first | exact Nat.le_refl _ | (simp; done) | omega | (simp; omega)) _))⟩
  | true =>
    have HO : Hid (areaO n.data.toList r t = (rnd (628318 * r * r) 100000, 0)) := okO_yes hv
    obtain ⟨r1, r2⟩ := vDome_bd hv
    obtain ⟨m1, m2⟩ := mul_small r r 30000 30000 (by omega) (by omega)
    obtain ⟨m3, m4⟩ := mul_small (628318 * r) r 18849540000 30000 (by omega) (by omega)
    go_enter Try.func37, Try.ntmps37
    go_wp2_with (fail)
    (refine later_intro ?_; intro y)
    go_wp2_with (first | (go_at_call 45; refine (later_same (l09Ok_any _ n r t _ (by simp [go_sem]) (by simp [go_sem]) (by simp [go_sem]))).mono ?_; rintro e w' ⟨rfl, y, rfl⟩) | (go_at_call 61; refine (later_same (l01Div_any _ _ _ (by omega) (by omega) (by omega) (by omega))).mono ?_; rintro e w' ⟨rfl, y, rfl⟩))
    go_ret2
    exact ⟨by rw [HO.out]; rfl, (by repeat (first | exact Below.refl _ _ | refine below_alloc ?_ _ | refine below_drewN0 ?_ _ | refine below_drew0 ?_ | refine below_step ?_ (by assumption) | refine below_later ?_ _ | refine below_setCell0 ?_ (by first | exact Nat.le_refl _ | (simp; done) | omega | (simp; omega)) _))⟩
theorem l06Turn_any (a : Int) (w : World) : Calls Try.prog 72 #[.int .i64 a] w fun e w' => e = .returned (.bool (inB a 0 359999)) ∧ w = w' := by
  go_enter Try.func72, Try.ntmps72
  go_wp2_with ((go_at_call 52; refine (l00In_any _ _ _ _).mono ?_; rintro e w' ⟨rfl, rfl⟩))
  go_ret
  exact ⟨rfl, rfl⟩
set_option maxHeartbeats 1000000 in
theorem l06Ask_any (b : Nat) (n : ByteArray) (lo la a1 a2 d : Int) (w : World) (c0 : w.cell? ⟨b, 0, none⟩ = some (.string n)) (c1 : w.cell? ⟨b, 1, none⟩ = some (.int .i64 lo)) (c2 : w.cell? ⟨b, 2, none⟩ = some (.int .i64 la)) :
    Calls Try.prog 63 #[.pointer (some ⟨b, 0, none⟩), .int .i64 a1, .int .i64 a2, .int .i64 d] w fun e w' =>
      e = .returned (.int .i64 (askI n.data.toList lo la a1 a2 d)) ∧ w = w' := by
  cases v1 : vSite n.data.toList lo la with
  | false =>
    go_enter Try.func63, Try.ntmps63
    go_wp2_with ((go_at_call 48; refine (l06Ok_any _ n lo la _ (by assumption) (by assumption) (by assumption)).mono ?_; rintro e w' ⟨rfl, rfl⟩))
    go_ret
    exact ⟨ret_int (by simp [askI, v1]), rfl⟩
  | true =>
    cases v2 : inB a1 0 359999 with
    | false =>
      go_enter Try.func63, Try.ntmps63
      go_wp2_with (first | (go_at_call 48; refine (l06Ok_any _ n lo la _ (by assumption) (by assumption) (by assumption)).mono ?_; rintro e w' ⟨rfl, rfl⟩) | (go_at_call 72; refine (l06Turn_any _ _).mono ?_; rintro e w' ⟨rfl, rfl⟩) | (go_at_call 67; refine (l06Latitude_any _ _).mono ?_; rintro e w' ⟨rfl, rfl⟩))
      go_ret
      exact ⟨ret_int (by simp [askI, v1, v2]), rfl⟩
    | true =>
      cases v3 : inB a2 0 359999 with
      | false =>
        go_enter Try.func63, Try.ntmps63
        go_wp2_with (first | (go_at_call 48; refine (l06Ok_any _ n lo la _ (by assumption) (by assumption) (by assumption)).mono ?_; rintro e w' ⟨rfl, rfl⟩) | (go_at_call 72; refine (l06Turn_any _ _).mono ?_; rintro e w' ⟨rfl, rfl⟩) | (go_at_call 67; refine (l06Latitude_any _ _).mono ?_; rintro e w' ⟨rfl, rfl⟩))
        go_ret
        exact ⟨ret_int (by simp [askI, v1, v2, v3]), rfl⟩
      | true =>
        cases v4 : inB d (-90000) 90000 with
        | false =>
          go_enter Try.func63, Try.ntmps63
          go_wp2_with (first | (go_at_call 48; refine (l06Ok_any _ n lo la _ (by assumption) (by assumption) (by assumption)).mono ?_; rintro e w' ⟨rfl, rfl⟩) | (go_at_call 72; refine (l06Turn_any _ _).mono ?_; rintro e w' ⟨rfl, rfl⟩) | (go_at_call 67; refine (l06Latitude_any _ _).mono ?_; rintro e w' ⟨rfl, rfl⟩))
          go_ret
          exact ⟨ret_int (by simp [askI, v1, v2, v3, v4]), rfl⟩
        | true =>
          go_enter Try.func63, Try.ntmps63
          go_wp2_with (first | (go_at_call 48; refine (l06Ok_any _ n lo la _ (by assumption) (by assumption) (by assumption)).mono ?_; rintro e w' ⟨rfl, rfl⟩) | (go_at_call 72; refine (l06Turn_any _ _).mono ?_; rintro e w' ⟨rfl, rfl⟩) | (go_at_call 67; refine (l06Latitude_any _ _).mono ?_; rintro e w' ⟨rfl, rfl⟩))
          go_ret
          exact ⟨ret_int (by simp [askI, v1, v2, v3, v4]), rfl⟩
set_option maxHeartbeats 1000000 in
theorem CulminationAltitude_any (n : ByteArray) (lo la d : Int) (w : World) :
    Calls Try.prog 40 #[.agg #[.string n, .int .i64 lo, .int .i64 la], .int .i64 d] w fun e w' =>
      e = .returned (.tuple #[.int .i64 (culmO n.data.toList lo la d).1, .int .i64 (culmO n.data.toList lo la d).2]) ∧ Below w.heap.size w w' := by
  cases v1 : vSite n.data.toList lo la with
  | false =>
    have HO : Hid (culmO n.data.toList lo la d = (0, 1)) := okO_no v1
    go_enter Try.func40, Try.ntmps40
    go_wp2_with (fail)
    (refine later_intro ?_; intro y)
    go_wp2_with (first | (go_at_call 21; refine (later_below (ValidSite_any _ _ _ _)).mono ?_; rintro e w' ⟨rfl, y, rfl⟩) | (go_at_call 47; refine (within_any _ _ _ _).mono ?_; rintro e w' ⟨rfl, rfl⟩))
    go_ret2
    exact ⟨by rw [HO.out]; rfl, (by repeat (first | exact Below.refl _ _ | refine below_alloc ?_ _ | refine below_drewN0 ?_ _ | refine below_drew0 ?_ | refine below_step ?_ (by assumption) | refine below_later ?_ _ | refine below_setCell0 ?_ (by first | exact Nat.le_refl _ | (simp; done) | omega | (simp; omega)) _))⟩
  | true =>
    cases v2 : inB d (-90000) 90000 with
    | false =>
      have HO : Hid (culmO n.data.toList lo la d = (0, 2)) := (okO_yes v1).trans (okO_no v2)
      go_enter Try.func40, Try.ntmps40
      go_wp2_with (fail)
      (refine later_intro ?_; intro y)
      go_wp2_with (first | (go_at_call 21; refine (later_below (ValidSite_any _ _ _ _)).mono ?_; rintro e w' ⟨rfl, y, rfl⟩) | (go_at_call 47; refine (within_any _ _ _ _).mono ?_; rintro e w' ⟨rfl, rfl⟩))
      go_ret2
      exact ⟨by rw [HO.out]; rfl, (by repeat (first | exact Below.refl _ _ | refine below_alloc ?_ _ | refine below_drewN0 ?_ _ | refine below_drew0 ?_ | refine below_step ?_ (by assumption) | refine below_later ?_ _ | refine below_setCell0 ?_ (by first | exact Nat.le_refl _ | (simp; done) | omega | (simp; omega)) _))⟩
    | true =>
      have HO : Hid (culmO n.data.toList lo la d = (90000 - absI (la - d), 0)) := (okO_yes v1).trans (okO_yes v2)
      obtain ⟨l1, l2, l3, l4⟩ := vSite_bd v1
      obtain ⟨d1, d2⟩ := (inB_iff _ _ _).1 v2
      have hA := absI_bd (la - d)
      obtain ⟨A1, A2, A3, A4⟩ := hA
      have A5 : absI (la - d) ≤ 180000 := by omega
      clear A2 A3 A4
      go_enter Try.func40, Try.ntmps40
      go_wp2_with (fail)
      (refine later_intro ?_; intro y)
      go_wp2_with (first | (go_at_call 21; refine (later_below (ValidSite_any _ _ _ _)).mono ?_; rintro e w' ⟨rfl, y, rfl⟩) | (go_at_call 47; refine (within_any _ _ _ _).mono ?_; rintro e w' ⟨rfl, rfl⟩) | (go_at_call 65; refine (later_same (absOf_any _ _ (by omega) (by omega))).mono ?_; rintro e w' ⟨rfl, y, rfl⟩))
      go_ret2
      exact ⟨by rw [HO.out]; rfl, (by repeat (first | exact Below.refl _ _ | refine below_alloc ?_ _ | refine below_drewN0 ?_ _ | refine below_drew0 ?_ | refine below_step ?_ (by assumption) | refine below_later ?_ _ | refine below_setCell0 ?_ (by first | exact Nat.le_refl _ | (simp; done) | omega | (simp; omega)) _))⟩
set_option maxHeartbeats 1000000 in
theorem sCulminationAltitude_any (n : ByteArray) (lo la d : Int) (w : World) :
    Calls Try.prog 39 #[.agg #[.string n, .int .i64 lo, .int .i64 la], .int .i64 d] w fun e w' =>
      e = .returned (.tuple #[.int .i64 (culmO n.data.toList lo la d).1, .int .i64 (culmO n.data.toList lo la d).2]) ∧ Below w.heap.size w w' := by
  cases v1 : vSite n.data.toList lo la with
  | false =>
    have HO : Hid (culmO n.data.toList lo la d = (0, 1)) := okO_no v1
    have hk : askI n.data.toList lo la 0 0 d = 1 := by simp [askI, v1]
    go_enter Try.func39, Try.ntmps39
    go_wp2_with (fail)
    (refine later_intro ?_; intro y)
    go_wp2_with ((go_at_call 63; refine (later_same (l06Ask_any _ n lo la _ _ _ _ (by simp [go_sem]) (by simp [go_sem]) (by simp [go_sem]))).mono ?_; rintro e w' ⟨rfl, y, rfl⟩))
    go_ret2
    exact ⟨by rw [HO.out]; rfl, (by repeat (first | exact Below.refl _ _ | refine below_alloc ?_ _ | refine below_drewN0 ?_ _ | refine below_drew0 ?_ | refine below_step ?_ (by assumption) | refine below_later ?_ _ | refine below_setCell0 ?_ (by first | exact Nat.le_refl _ | (simp; done) | omega | (simp; omega)) _))⟩
  | true =>
    cases v2 : inB d (-90000) 90000 with
    | false =>
      have HO : Hid (culmO n.data.toList lo la d = (0, 2)) := (okO_yes v1).trans (okO_no v2)
      have hk : askI n.data.toList lo la 0 0 d = 2 := by simp [askI, v1, v2, inB_zero]
      go_enter Try.func39, Try.ntmps39
      go_wp2_with (fail)
      (refine later_intro ?_; intro y)
      go_wp2_with ((go_at_call 63; refine (later_same (l06Ask_any _ n lo la _ _ _ _ (by simp [go_sem]) (by simp [go_sem]) (by simp [go_sem]))).mono ?_; rintro e w' ⟨rfl, y, rfl⟩))
      go_ret2
      exact ⟨by rw [HO.out]; rfl, (by repeat (first | exact Below.refl _ _ | refine below_alloc ?_ _ | refine below_drewN0 ?_ _ | refine below_drew0 ?_ | refine below_step ?_ (by assumption) | refine below_later ?_ _ | refine below_setCell0 ?_ (by first | exact Nat.le_refl _ | (simp; done) | omega | (simp; omega)) _))⟩
    | true =>
      have HO : Hid (culmO n.data.toList lo la d = (90000 - absI (la - d), 0)) := (okO_yes v1).trans (okO_yes v2)
      have hk : askI n.data.toList lo la 0 0 d = 0 := by simp [askI, v1, v2, inB_zero]
      obtain ⟨l1, l2, l3, l4⟩ := vSite_bd v1
      obtain ⟨d1, d2⟩ := (inB_iff _ _ _).1 v2
      have hA := absI_bd (la - d)
      obtain ⟨A1, A2, A3, A4⟩ := hA
      have A5 : absI (la - d) ≤ 180000 := by omega
      clear A2 A3 A4
      go_enter Try.func39, Try.ntmps39
      go_wp2_with (fail)
      (refine later_intro ?_; intro y)
      go_wp2_with (first | (go_at_call 63; refine (later_same (l06Ask_any _ n lo la _ _ _ _ (by simp [go_sem]) (by simp [go_sem]) (by simp [go_sem]))).mono ?_; rintro e w' ⟨rfl, y, rfl⟩) | (go_at_call 64; refine (later_same (l02Abs_any _ _ (by omega) (by omega))).mono ?_; rintro e w' ⟨rfl, y, rfl⟩))
      go_ret2
      exact ⟨by rw [HO.out]; rfl, (by repeat (first | exact Below.refl _ _ | refine below_alloc ?_ _ | refine below_drewN0 ?_ _ | refine below_drew0 ?_ | refine below_step ?_ (by assumption) | refine below_later ?_ _ | refine below_setCell0 ?_ (by first | exact Nat.le_refl _ | (simp; done) | omega | (simp; omega)) _))⟩
set_option maxHeartbeats 1000000 in
theorem LowestAltitude_any (n : ByteArray) (lo la d : Int) (w : World) :
    Calls Try.prog 42 #[.agg #[.string n, .int .i64 lo, .int .i64 la], .int .i64 d] w fun e w' =>
      e = .returned (.tuple #[.int .i64 (lowO n.data.toList lo la d).1, .int .i64 (lowO n.data.toList lo la d).2]) ∧ Below w.heap.size w w' := by
  cases v1 : vSite n.data.toList lo la with
  | false =>
    have HO : Hid (lowO n.data.toList lo la d = (0, 1)) := okO_no v1
    go_enter Try.func42, Try.ntmps42
    go_wp2_with (fail)
    (refine later_intro ?_; intro y)
    go_wp2_with (first | (go_at_call 21; refine (later_below (ValidSite_any _ _ _ _)).mono ?_; rintro e w' ⟨rfl, y, rfl⟩) | (go_at_call 47; refine (within_any _ _ _ _).mono ?_; rintro e w' ⟨rfl, rfl⟩))
    go_ret2
    exact ⟨by rw [HO.out]; rfl, (by repeat (first | exact Below.refl _ _ | refine below_alloc ?_ _ | refine below_drewN0 ?_ _ | refine below_drew0 ?_ | refine below_step ?_ (by assumption) | refine below_later ?_ _ | refine below_setCell0 ?_ (by first | exact Nat.le_refl _ | (simp; done) | omega | (simp; omega)) _))⟩
  | true =>
    cases v2 : inB d (-90000) 90000 with
    | false =>
      have HO : Hid (lowO n.data.toList lo la d = (0, 2)) := (okO_yes v1).trans (okO_no v2)
      go_enter Try.func42, Try.ntmps42
      go_wp2_with (fail)
      (refine later_intro ?_; intro y)
      go_wp2_with (first | (go_at_call 21; refine (later_below (ValidSite_any _ _ _ _)).mono ?_; rintro e w' ⟨rfl, y, rfl⟩) | (go_at_call 47; refine (within_any _ _ _ _).mono ?_; rintro e w' ⟨rfl, rfl⟩))
      go_ret2
      exact ⟨by rw [HO.out]; rfl, (by repeat (first | exact Below.refl _ _ | refine below_alloc ?_ _ | refine below_drewN0 ?_ _ | refine below_drew0 ?_ | refine below_step ?_ (by assumption) | refine below_later ?_ _ | refine below_setCell0 ?_ (by first | exact Nat.le_refl _ | (simp; done) | omega | (simp; omega)) _))⟩
    | true =>
      have HO : Hid (lowO n.data.toList lo la d = (absI (la + d) - 90000, 0)) := (okO_yes v1).trans (okO_yes v2)
      obtain ⟨l1, l2, l3, l4⟩ := vSite_bd v1
      obtain ⟨d1, d2⟩ := (inB_iff _ _ _).1 v2
      have hA := absI_bd (la + d)
      obtain ⟨A1, A2, A3, A4⟩ := hA
      have A5 : absI (la + d) ≤ 180000 := by omega
      clear A2 A3 A4
      go_enter Try.func42, Try.ntmps42
      go_wp2_with (fail)
      (refine later_intro ?_; intro y)
      go_wp2_with (first | (go_at_call 21; refine (later_below (ValidSite_any _ _ _ _)).mono ?_; rintro e w' ⟨rfl, y, rfl⟩) | (go_at_call 47; refine (within_any _ _ _ _).mono ?_; rintro e w' ⟨rfl, rfl⟩) | (go_at_call 65; refine (later_same (absOf_any _ _ (by omega) (by omega))).mono ?_; rintro e w' ⟨rfl, y, rfl⟩))
      go_ret2
      exact ⟨by rw [HO.out]; rfl, (by repeat (first | exact Below.refl _ _ | refine below_alloc ?_ _ | refine below_drewN0 ?_ _ | refine below_drew0 ?_ | refine below_step ?_ (by assumption) | refine below_later ?_ _ | refine below_setCell0 ?_ (by first | exact Nat.le_refl _ | (simp; done) | omega | (simp; omega)) _))⟩
set_option maxHeartbeats 1000000 in
theorem sLowestAltitude_any (n : ByteArray) (lo la d : Int) (w : World) :
    Calls Try.prog 41 #[.agg #[.string n, .int .i64 lo, .int .i64 la], .int .i64 d] w fun e w' =>
      e = .returned (.tuple #[.int .i64 (lowO n.data.toList lo la d).1, .int .i64 (lowO n.data.toList lo la d).2]) ∧ Below w.heap.size w w' := by
  cases v1 : vSite n.data.toList lo la with
  | false =>
    have HO : Hid (lowO n.data.toList lo la d = (0, 1)) := okO_no v1
    have hk : askI n.data.toList lo la 0 0 d = 1 := by simp [askI, v1]
    go_enter Try.func41, Try.ntmps41
    go_wp2_with (fail)
    (refine later_intro ?_; intro y)
    go_wp2_with ((go_at_call 63; refine (later_same (l06Ask_any _ n lo la _ _ _ _ (by simp [go_sem]) (by simp [go_sem]) (by simp [go_sem]))).mono ?_; rintro e w' ⟨rfl, y, rfl⟩))
    go_ret2
    exact ⟨by rw [HO.out]; rfl, (by repeat (first | exact Below.refl _ _ | refine below_alloc ?_ _ | refine below_drewN0 ?_ _ | refine below_drew0 ?_ | refine below_step ?_ (by assumption) | refine below_later ?_ _ | refine below_setCell0 ?_ (by first | exact Nat.le_refl _ | (simp; done) | omega | (simp; omega)) _))⟩
  | true =>
    cases v2 : inB d (-90000) 90000 with
    | false =>
      have HO : Hid (lowO n.data.toList lo la d = (0, 2)) := (okO_yes v1).trans (okO_no v2)
      have hk : askI n.data.toList lo la 0 0 d = 2 := by simp [askI, v1, v2, inB_zero]
      go_enter Try.func41, Try.ntmps41
      go_wp2_with (fail)
      (refine later_intro ?_; intro y)
      go_wp2_with ((go_at_call 63; refine (later_same (l06Ask_any _ n lo la _ _ _ _ (by simp [go_sem]) (by simp [go_sem]) (by simp [go_sem]))).mono ?_; rintro e w' ⟨rfl, y, rfl⟩))
      go_ret2
      exact ⟨by rw [HO.out]; rfl, (by repeat (first | exact Below.refl _ _ | refine below_alloc ?_ _ | refine below_drewN0 ?_ _ | refine below_drew0 ?_ | refine below_step ?_ (by assumption) | refine below_later ?_ _ | refine below_setCell0 ?_ (by first | exact Nat.le_refl _ | (simp; done) | omega | (simp; omega)) _))⟩
    | true =>
      have HO : Hid (lowO n.data.toList lo la d = (absI (la + d) - 90000, 0)) := (okO_yes v1).trans (okO_yes v2)
      have hk : askI n.data.toList lo la 0 0 d = 0 := by simp [askI, v1, v2, inB_zero]
      obtain ⟨l1, l2, l3, l4⟩ := vSite_bd v1
      obtain ⟨d1, d2⟩ := (inB_iff _ _ _).1 v2
      have hA := absI_bd (la + d)
      obtain ⟨A1, A2, A3, A4⟩ := hA
      have A5 : absI (la + d) ≤ 180000 := by omega
      clear A2 A3 A4
      go_enter Try.func41, Try.ntmps41
      go_wp2_with (fail)
      (refine later_intro ?_; intro y)
      go_wp2_with (first | (go_at_call 63; refine (later_same (l06Ask_any _ n lo la _ _ _ _ (by simp [go_sem]) (by simp [go_sem]) (by simp [go_sem]))).mono ?_; rintro e w' ⟨rfl, y, rfl⟩) | (go_at_call 64; refine (later_same (l02Abs_any _ _ (by omega) (by omega))).mono ?_; rintro e w' ⟨rfl, y, rfl⟩))
      go_ret2
      exact ⟨by rw [HO.out]; rfl, (by repeat (first | exact Below.refl _ _ | refine below_alloc ?_ _ | refine below_drewN0 ?_ _ | refine below_drew0 ?_ | refine below_step ?_ (by assumption) | refine below_later ?_ _ | refine below_setCell0 ?_ (by first | exact Nat.le_refl _ | (simp; done) | omega | (simp; omega)) _))⟩
set_option maxHeartbeats 2000000 in
theorem SynodicPeriod_any (n1 : ByteArray) (p1 r1 u1 : Int) (n2 : ByteArray) (p2 r2 u2 : Int) (w : World) :
    Calls Try.prog 44 #[.agg #[.string n1, .int .i64 p1, .int .i64 r1, .int .i64 u1], .agg #[.string n2, .int .i64 p2, .int .i64 r2, .int .i64 u2]] w fun e w' =>
      e = .returned (.tuple #[.int .i64 (synO n1.data.toList p1 r1 u1 n2.data.toList p2 r2 u2).1, .int .i64 (synO n1.data.toList p1 r1 u1 n2.data.toList p2 r2 u2).2]) ∧ Below w.heap.size w w' := by
  cases v1 : vPlanet n1.data.toList p1 r1 u1 with
  | false =>
    have HO : Hid (synO n1.data.toList p1 r1 u1 n2.data.toList p2 r2 u2 = (0, 1)) := okO_no (by simp [v1])
    go_enter Try.func44, Try.ntmps44
    go_wp2_with (fail)
    (refine later_intro ?_; intro y)
    go_wp2_with ((go_at_call 25; refine (later_below (ValidPlanet_any _ _ _ _ _)).mono ?_; rintro e w' ⟨rfl, y, rfl⟩))
    go_ret2
    exact ⟨by rw [HO.out]; rfl, (by repeat (first | exact Below.refl _ _ | refine below_alloc ?_ _ | refine below_drewN0 ?_ _ | refine below_drew0 ?_ | refine below_step ?_ (by assumption) | refine below_later ?_ _ | refine below_setCell0 ?_ (by first | exact Nat.le_refl _ | (simp; done) | omega | (simp; omega)) _))⟩
  | true =>
    cases v2 : vPlanet n2.data.toList p2 r2 u2 with
    | false =>
      have HO : Hid (synO n1.data.toList p1 r1 u1 n2.data.toList p2 r2 u2 = (0, 1)) := okO_no (by simp [v2])
      go_enter Try.func44, Try.ntmps44
      go_wp2_with (fail)
      (refine later_intro ?_; intro y)
      go_wp2_with ((go_at_call 25; refine (later_below (ValidPlanet_any _ _ _ _ _)).mono ?_; rintro e w' ⟨rfl, y, rfl⟩))
      go_ret2
      exact ⟨by rw [HO.out]; rfl, (by repeat (first | exact Below.refl _ _ | refine below_alloc ?_ _ | refine below_drewN0 ?_ _ | refine below_drew0 ?_ | refine below_step ?_ (by assumption) | refine below_later ?_ _ | refine below_setCell0 ?_ (by first | exact Nat.le_refl _ | (simp; done) | omega | (simp; omega)) _))⟩
    | true =>
      obtain ⟨b1, b2, _⟩ := vPlanet_bd v1
      obtain ⟨b3, b4, _⟩ := vPlanet_bd v2
      cases v3 : p1 == p2 with
      | true =>
        have HO : Hid (synO n1.data.toList p1 r1 u1 n2.data.toList p2 r2 u2 = (0, 6)) := (okO_yes (by simp [v1, v2])).trans (okO_no (by simp [v3]))
        go_enter Try.func44, Try.ntmps44
        go_wp2_with (fail)
        (refine later_intro ?_; intro y)
        go_wp2_with ((go_at_call 25; refine (later_below (ValidPlanet_any _ _ _ _ _)).mono ?_; rintro e w' ⟨rfl, y, rfl⟩))
        go_ret2
        exact ⟨by rw [HO.out]; rfl, (by repeat (first | exact Below.refl _ _ | refine below_alloc ?_ _ | refine below_drewN0 ?_ _ | refine below_drew0 ?_ | refine below_step ?_ (by assumption) | refine below_later ?_ _ | refine below_setCell0 ?_ (by first | exact Nat.le_refl _ | (simp; done) | omega | (simp; omega)) _))⟩
      | false =>
        have HO : Hid (synO n1.data.toList p1 r1 u1 n2.data.toList p2 r2 u2 = (rnd (p1 * p2) (absI (p1 - p2)), 0)) := (okO_yes (by simp [v1, v2])).trans (okO_yes (by simp [v3]))
        have hne : ¬ p1 = p2 := by simpa using v3
        have hA := absI_bd (p1 - p2)
        obtain ⟨A1, A2, A3, A4⟩ := hA
        have A5 : absI (p1 - p2) ≤ 100000000 := by omega
        have A6 : 0 < absI (p1 - p2) := by omega
        clear A2 A3 A4
        obtain ⟨m1, m2⟩ := mul_small p1 p2 100000000 100000000 (by omega) (by omega)
        have C1 : Hid (∀ W, Calls Try.prog 65 #[.int .i64 (p1 - p2)] W fun e w' => e = .returned (.int .i64 (absI (p1 - p2))) ∧ W = w') := fun W => absOf_any _ W (by omega) (by omega)
        have C2 : Hid (∀ W, Calls Try.prog 62 #[.int .i64 (p1 * p2), .int .i64 (absI (p1 - p2))] W fun e w' => e = .returned (.int .i64 (rnd (p1 * p2) (absI (p1 - p2)))) ∧ ∃ n, w' = W.drewN n) := fun W => nearest_any _ _ W (by omega) (by omega) (by omega) (by omega)
        have w1 : IntKind.i64.wrap (p1 * p2) = p1 * p2 := wrap_in (by omega) (by omega)
        have w2 : IntKind.i64.wrap (p1 - p2) = p1 - p2 := wrap_in (by omega) (by omega)
        go_enter Try.func44, Try.ntmps44
        go_wp2_with (fail)
        (refine later_intro ?_; intro y)
        go_wp2_with ((go_at_call 25; refine (later_below (ValidPlanet_any _ _ _ _ _)).mono ?_; rintro e w' ⟨rfl, y, rfl⟩))
        (refine wp_region_later (by kernel_rfl) (by kernel_rfl) ?_; (repeat (quiet_step ((first | (go_at_call 65; exact later_same (C1.out _)) | (go_at_call 62; exact later_drew (C2.out _)))))); refine wpQuiet_nil ?_; rintro _ ⟨y, rfl⟩)
        go_wp2
        go_ret2
        exact ⟨by rw [HO.out]; rfl, (by repeat (first | exact Below.refl _ _ | refine below_alloc ?_ _ | refine below_drewN0 ?_ _ | refine below_drew0 ?_ | refine below_step ?_ (by assumption) | refine below_later ?_ _ | refine below_setCell0 ?_ (by first | exact Nat.le_refl _ | (simp; done) | omega | (simp; omega)) _))⟩
set_option maxHeartbeats 2000000 in
theorem sSynodicPeriod_any (n1 : ByteArray) (p1 r1 u1 : Int) (n2 : ByteArray) (p2 r2 u2 : Int) (w : World) :
    Calls Try.prog 43 #[.agg #[.string n1, .int .i64 p1, .int .i64 r1, .int .i64 u1], .agg #[.string n2, .int .i64 p2, .int .i64 r2, .int .i64 u2]] w fun e w' =>
      e = .returned (.tuple #[.int .i64 (synO n1.data.toList p1 r1 u1 n2.data.toList p2 r2 u2).1, .int .i64 (synO n1.data.toList p1 r1 u1 n2.data.toList p2 r2 u2).2]) ∧ Below w.heap.size w w' := by
  cases v1 : vPlanet n1.data.toList p1 r1 u1 with
  | false =>
    have HO : Hid (synO n1.data.toList p1 r1 u1 n2.data.toList p2 r2 u2 = (0, 1)) := okO_no (by simp [v1])
    go_enter Try.func43, Try.ntmps43
    go_wp2_with (fail)
    (refine later_intro ?_; intro y)
    (go_at_call 49; refine (later_same (l07One_any _ n1 p1 r1 u1 _ (by simp [go_sem]) (by simp [go_sem]) (by simp [go_sem]) (by simp [go_sem]))).mono ?_; rintro e w' ⟨rfl, y, rfl⟩)
    go_wp2
    go_ret2
    exact ⟨by rw [HO.out]; rfl, (by repeat (first | exact Below.refl _ _ | refine below_alloc ?_ _ | refine below_drewN0 ?_ _ | refine below_drew0 ?_ | refine below_step ?_ (by assumption) | refine below_later ?_ _ | refine below_setCell0 ?_ (by first | exact Nat.le_refl _ | (simp; done) | omega | (simp; omega)) _))⟩
  | true =>
    cases v2 : vPlanet n2.data.toList p2 r2 u2 with
    | false =>
      have HO : Hid (synO n1.data.toList p1 r1 u1 n2.data.toList p2 r2 u2 = (0, 1)) := okO_no (by simp [v2])
      go_enter Try.func43, Try.ntmps43
      go_wp2_with (fail)
      (refine later_intro ?_; intro y)
      (go_at_call 49; refine (later_same (l07One_any _ n1 p1 r1 u1 _ (by simp [go_sem]) (by simp [go_sem]) (by simp [go_sem]) (by simp [go_sem]))).mono ?_; rintro e w' ⟨rfl, y, rfl⟩)
      go_wp2_with (fail)
      (go_at_call 49; refine (later_same (l07One_any _ n2 p2 r2 u2 _ (by simp [go_sem]) (by simp [go_sem]) (by simp [go_sem]) (by simp [go_sem]))).mono ?_; rintro e w' ⟨rfl, y, rfl⟩)
      go_wp2
      go_ret2
      exact ⟨by rw [HO.out]; rfl, (by repeat (first | exact Below.refl _ _ | refine below_alloc ?_ _ | refine below_drewN0 ?_ _ | refine below_drew0 ?_ | refine below_step ?_ (by assumption) | refine below_later ?_ _ | refine below_setCell0 ?_ (by first | exact Nat.le_refl _ | (simp; done) | omega | (simp; omega)) _))⟩
    | true =>
      obtain ⟨b1, b2, _⟩ := vPlanet_bd v1
      obtain ⟨b3, b4, _⟩ := vPlanet_bd v2
      cases v3 : p1 == p2 with
      | true =>
        have HO : Hid (synO n1.data.toList p1 r1 u1 n2.data.toList p2 r2 u2 = (0, 6)) := (okO_yes (by simp [v1, v2])).trans (okO_no (by simp [v3]))
        have hne : p1 = p2 := by simpa using v3
        have hz : absI (p1 - p2) = 0 := by rw [hne, Int.sub_self]; rfl
        have HN := Lib.hid hne; clear hne
        go_enter Try.func43, Try.ntmps43
        go_wp2_with (fail)
        (refine later_intro ?_; intro y)
        (go_at_call 49; refine (later_same (l07One_any _ n1 p1 r1 u1 _ (by simp [go_sem]) (by simp [go_sem]) (by simp [go_sem]) (by simp [go_sem]))).mono ?_; rintro e w' ⟨rfl, y, rfl⟩)
        go_wp2_with (fail)
        (go_at_call 49; refine (later_same (l07One_any _ n2 p2 r2 u2 _ (by simp [go_sem]) (by simp [go_sem]) (by simp [go_sem]) (by simp [go_sem]))).mono ?_; rintro e w' ⟨rfl, y, rfl⟩)
        go_wp2_with (first | (go_at_call 64; refine (later_same (l02Abs_any _ _ (by omega) (by omega))).mono ?_; rintro e w' ⟨rfl, y, rfl⟩))
        go_ret2
        exact ⟨by rw [HO.out]; rfl, (by repeat (first | exact Below.refl _ _ | refine below_alloc ?_ _ | refine below_drewN0 ?_ _ | refine below_drew0 ?_ | refine below_step ?_ (by assumption) | refine below_later ?_ _ | refine below_setCell0 ?_ (by first | exact Nat.le_refl _ | (simp; done) | omega | (simp; omega)) _))⟩
      | false =>
        have HO : Hid (synO n1.data.toList p1 r1 u1 n2.data.toList p2 r2 u2 = (rnd (p1 * p2) (absI (p1 - p2)), 0)) := (okO_yes (by simp [v1, v2])).trans (okO_yes (by simp [v3]))
        have hne : ¬ p1 = p2 := by simpa using v3
        have hA := absI_bd (p1 - p2)
        obtain ⟨A1, A2, A3, A4⟩ := hA
        have A5 : absI (p1 - p2) ≤ 100000000 := by omega
        have A6 : 0 < absI (p1 - p2) := by omega
        have A7 : ¬ absI (p1 - p2) = 0 := by omega
        clear A2 A3 A4
        obtain ⟨m1, m2⟩ := mul_small p1 p2 100000000 100000000 (by omega) (by omega)
        go_enter Try.func43, Try.ntmps43
        go_wp2_with (fail)
        (refine later_intro ?_; intro y)
        (go_at_call 49; refine (later_same (l07One_any _ n1 p1 r1 u1 _ (by simp [go_sem]) (by simp [go_sem]) (by simp [go_sem]) (by simp [go_sem]))).mono ?_; rintro e w' ⟨rfl, y, rfl⟩)
        go_wp2_with (fail)
        (go_at_call 49; refine (later_same (l07One_any _ n2 p2 r2 u2 _ (by simp [go_sem]) (by simp [go_sem]) (by simp [go_sem]) (by simp [go_sem]))).mono ?_; rintro e w' ⟨rfl, y, rfl⟩)
        go_wp2_with (first | (go_at_call 61; refine (later_same (l01Div_any _ _ _ (by omega) (by omega) (by omega) (by omega))).mono ?_; rintro e w' ⟨rfl, y, rfl⟩) | (go_at_call 64; refine (later_same (l02Abs_any _ _ (by omega) (by omega))).mono ?_; rintro e w' ⟨rfl, y, rfl⟩))
        go_ret2
        exact ⟨by rw [HO.out]; rfl, (by repeat (first | exact Below.refl _ _ | refine below_alloc ?_ _ | refine below_drewN0 ?_ _ | refine below_drew0 ?_ | refine below_step ?_ (by assumption) | refine below_later ?_ _ | refine below_setCell0 ?_ (by first | exact Nat.le_refl _ | (simp; done) | omega | (simp; omega)) _))⟩
end Go.Proofs.Ythlkdbhbbihhjaa
