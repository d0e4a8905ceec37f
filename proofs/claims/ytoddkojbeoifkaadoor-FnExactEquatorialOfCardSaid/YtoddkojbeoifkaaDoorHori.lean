/- Contracts of the functions between the horizon and the equator. -/
import Derived.Test.YtoddkojbeoifkaaDoorAngl
import Derived.Test.YtoddkojbeoifkaaDoorHorS
namespace Go.Proofs.YtoddkojbeoifkaaDoor
set_option linter.unusedVariables false
set_option linter.unusedSimpArgs false
open Go.RowKit
attribute [local go_sem ↓] Go.wp_at_zero Go.wp_at_succ
set_option maxHeartbeats 2000000 in
theorem Horizontal_any (n : ByteArray) (lo la s r d : Int) (w : World) (hS : SinOk w) :
    Calls Tryd.prog 20 #[.agg #[.string n, .int .i64 lo, .int .i64 la], .int .i64 s, .int .i64 r, .int .i64 d] w fun e w' => e = .returned (.tuple #[.int .i64 (horO n.data.toList lo la s r d).1, .int .i64 (horO n.data.toList lo la s r d).2.1, .int .i64 (horO n.data.toList lo la s r d).2.2]) ∧ Below w.heap.size w w' := by
  by_cases hk : askI n.data.toList lo la s r d = 0
  · have HO := Lib.hid (horO_ok hk)
    have C1 : Hid (∀ W, SinOk W → Calls Tryd.prog 68 #[.agg #[.string n, .int .i64 lo, .int .i64 la], .int .i64 s, .int .i64 r, .int .i64 d] W fun e w' => e = .returned (.tuple #[.agg #[.int .i64 (hvV la s r d).x, .int .i64 (hvV la s r d).y, .int .i64 (hvV la s r d).z], .int .i64 0]) ∧ Below W.heap.size W w') := fun W hW => by
      have := HorizontalVector_any n lo la s r d W hW
      rw [hvO_ok hk] at this; exact this
    have C2 : Hid (∀ W, SinOk W → Calls Tryd.prog 64 #[.agg #[.int .i64 (hvV la s r d).x, .int .i64 (hvV la s r d).y, .int .i64 (hvV la s r d).z]] W fun e w' => e = .returned (.tuple #[.int .i64 (anglesO (hvV la s r d)).1, .int .i64 (anglesO (hvV la s r d)).2.1, .int .i64 (anglesO (hvV la s r d)).2.2]) ∧ Below W.heap.size W w') := fun W hW => AnglesOf_any (hvV la s r d) W hW (hvV_md _ _ _ _)
    clear hk
    generalize hvV la s r d = v at *
    generalize (anglesO v) = o at *
    go_enter Tryd.func20, Tryd.ntmps20
    go_wp2_with (fail)
    refine calls_named ?_
    intro W1 hW1
    have hbW : Below w.heap.size w W1 := by rw [hW1]; exact (by repeat (first | exact Below.refl _ _ | refine below_alloc ?_ _ | refine below_drewN0 ?_ _ | refine below_drew0 ?_ | refine below_step ?_ (by assumption) | refine below_later ?_ _ | refine below_setCell0 ?_ (by first | exact Nat.le_refl _ | (simp; done) | omega | (simp; omega)) _))
    have hS1 : SinOk W1 := by rw [hW1]; exact hS.alloc _
    clear hW1
    (refine later_intro ?_; intro y)
    (go_at_call 68; refine (later_below (C1.out _ (SinOk.later hS1 _))).mono ?_; rintro e w' ⟨rfl, y, rfl⟩)
    rename Later W1 => y1
    go_wp2_with (refine (C2.out _ (SinOk.alloc (SinOk.later hS1 _) _)).mono ?_; rintro e w9 ⟨rfl, hb9⟩)
    go_ret3
    exact ⟨by rw [HO.out]; rfl, below_step (below_alloc (below_later hbW _) _) hb9⟩
  · have HO := Lib.hid (horO_no hk)
    have C1 : Hid (∀ W, SinOk W → Calls Tryd.prog 68 #[.agg #[.string n, .int .i64 lo, .int .i64 la], .int .i64 s, .int .i64 r, .int .i64 d] W fun e w' => e = .returned (.tuple #[.agg #[.int .i64 0, .int .i64 0, .int .i64 0], .int .i64 (askI n.data.toList lo la s r d)]) ∧ Below W.heap.size W w') := fun W hW => by
      have := HorizontalVector_any n lo la s r d W hW
      rw [hvO_no hk] at this; exact this
    generalize askI n.data.toList lo la s r d = k at *
    have hk2 : (k == 0) = false := by simpa using hk
    go_enter Tryd.func20, Tryd.ntmps20
    go_wp2_with (fail)
    refine calls_named ?_
    intro W1 hW1
    have hbW : Below w.heap.size w W1 := by rw [hW1]; exact (by repeat (first | exact Below.refl _ _ | refine below_alloc ?_ _ | refine below_drewN0 ?_ _ | refine below_drew0 ?_ | refine below_step ?_ (by assumption) | refine below_later ?_ _ | refine below_setCell0 ?_ (by first | exact Nat.le_refl _ | (simp; done) | omega | (simp; omega)) _))
    have hS1 : SinOk W1 := by rw [hW1]; exact hS.alloc _
    clear hW1
    (refine later_intro ?_; intro y)
    (go_at_call 68; refine (later_below (C1.out _ (SinOk.later hS1 _))).mono ?_; rintro e w' ⟨rfl, y, rfl⟩)
    rename Later W1 => y1
    go_wp2
    go_ret3
    exact ⟨by rw [HO.out]; rfl, below_alloc (below_later hbW _) _⟩
set_option maxHeartbeats 2000000 in
theorem sHorizontal_any (n : ByteArray) (lo la s r d : Int) (w : World) :
    Calls Tryd.prog 19 #[.agg #[.string n, .int .i64 lo, .int .i64 la], .int .i64 s, .int .i64 r, .int .i64 d] w fun e w' => e = .returned (.tuple #[.int .i64 (horO n.data.toList lo la s r d).1, .int .i64 (horO n.data.toList lo la s r d).2.1, .int .i64 (horO n.data.toList lo la s r d).2.2]) ∧ Below w.heap.size w w' := by
  by_cases hk : askI n.data.toList lo la s r d = 0
  · have HO := Lib.hid (horO_ok hk)
    have C1 : Hid (∀ W, Calls Tryd.prog 66 #[.agg #[.string n, .int .i64 lo, .int .i64 la], .int .i64 s, .int .i64 r, .int .i64 d] W fun e w' => e = .returned (.tuple #[.agg #[.int .i64 (hvV la s r d).x, .int .i64 (hvV la s r d).y, .int .i64 (hvV la s r d).z], .int .i64 0]) ∧ Below W.heap.size W w') := fun W => by
      have := sHorizontalVector_any n lo la s r d W
      rw [hvO_ok hk] at this; exact this
    have C2 : Hid (∀ W, Calls Tryd.prog 67 #[.agg #[.int .i64 (hvV la s r d).x, .int .i64 (hvV la s r d).y, .int .i64 (hvV la s r d).z]] W fun e w' => e = .returned (.tuple #[.int .i64 (anglesO (hvV la s r d)).1, .int .i64 (anglesO (hvV la s r d)).2.1, .int .i64 (anglesO (hvV la s r d)).2.2]) ∧ Below W.heap.size W w') := fun W => sAnglesOf_any (hvV la s r d) W (hvV_md _ _ _ _)
    clear hk
    generalize hvV la s r d = v at *
    generalize (anglesO v) = o at *
    go_enter Tryd.func19, Tryd.ntmps19
    go_wp2_with (fail)
    refine calls_named ?_
    intro W1 hW1
    have hbW : Below w.heap.size w W1 := by rw [hW1]; exact (by repeat (first | exact Below.refl _ _ | refine below_alloc ?_ _ | refine below_drewN0 ?_ _ | refine below_drew0 ?_ | refine below_step ?_ (by assumption) | refine below_later ?_ _ | refine below_setCell0 ?_ (by first | exact Nat.le_refl _ | (simp; done) | omega | (simp; omega)) _))
    clear hW1
    (refine later_intro ?_; intro y)
    (go_at_call 66; refine (later_below (C1.out _)).mono ?_; rintro e w' ⟨rfl, y, rfl⟩)
    rename Later W1 => y1
    go_wp2_with (refine (C2.out _).mono ?_; rintro e w9 ⟨rfl, hb9⟩)
    go_ret3
    exact ⟨by rw [HO.out]; rfl, below_step (below_alloc (below_later hbW _) _) hb9⟩
  · have HO := Lib.hid (horO_no hk)
    have C1 : Hid (∀ W, Calls Tryd.prog 66 #[.agg #[.string n, .int .i64 lo, .int .i64 la], .int .i64 s, .int .i64 r, .int .i64 d] W fun e w' => e = .returned (.tuple #[.agg #[.int .i64 0, .int .i64 0, .int .i64 0], .int .i64 (askI n.data.toList lo la s r d)]) ∧ Below W.heap.size W w') := fun W => by
      have := sHorizontalVector_any n lo la s r d W
      rw [hvO_no hk] at this; exact this
    generalize askI n.data.toList lo la s r d = k at *
    have hk2 : (k == 0) = false := by simpa using hk
    go_enter Tryd.func19, Tryd.ntmps19
    go_wp2_with (fail)
    refine calls_named ?_
    intro W1 hW1
    have hbW : Below w.heap.size w W1 := by rw [hW1]; exact (by repeat (first | exact Below.refl _ _ | refine below_alloc ?_ _ | refine below_drewN0 ?_ _ | refine below_drew0 ?_ | refine below_step ?_ (by assumption) | refine below_later ?_ _ | refine below_setCell0 ?_ (by first | exact Nat.le_refl _ | (simp; done) | omega | (simp; omega)) _))
    clear hW1
    (refine later_intro ?_; intro y)
    (go_at_call 66; refine (later_below (C1.out _)).mono ?_; rintro e w' ⟨rfl, y, rfl⟩)
    rename Later W1 => y1
    go_wp2
    go_ret3
    exact ⟨by rw [HO.out]; rfl, below_alloc (below_later hbW _) _⟩
set_option maxHeartbeats 4000000 in
theorem EquatorialOf_any (n : ByteArray) (lo la s r d : Int) (w : World) (hS : SinOk w) :
    Calls Tryd.prog 18 #[.agg #[.string n, .int .i64 lo, .int .i64 la], .int .i64 s, .int .i64 r, .int .i64 d] w fun e w' => e = .returned (.tuple #[.int .i64 (equO n.data.toList lo la s r d).1, .int .i64 (equO n.data.toList lo la s r d).2.1, .int .i64 (equO n.data.toList lo la s r d).2.2]) ∧ Below w.heap.size w w' := by
  rcases askI_cases n.data.toList lo la s r d with ⟨v1, hk⟩ | ⟨v1, v2, hk⟩ | ⟨v1, v2, v3, hk⟩ | ⟨v1, v2, v3, hk⟩
  · have HO : Hid (equO n.data.toList lo la s r d = (0, 0, 1)) := by show _ = _; rw [equO_no (by rw [hk]; omega), hk]
    clear hk
    go_enter Tryd.func18, Tryd.ntmps18
    go_wp2_with (fail)
    (refine later_intro ?_; intro y)
    go_wp2_with ((go_at_call 59; refine (later_below (ValidSite_any _ _ _ _)).mono ?_; rintro e w' ⟨rfl, y, rfl⟩))
    go_ret3
    exact ⟨by rw [HO.out]; rfl, (by repeat (first | exact Below.refl _ _ | refine below_alloc ?_ _ | refine below_drewN0 ?_ _ | refine below_drew0 ?_ | refine below_step ?_ (by assumption) | refine below_later ?_ _ | refine below_setCell0 ?_ (by first | exact Nat.le_refl _ | (simp; done) | omega | (simp; omega)) _))⟩
  · have HO : Hid (equO n.data.toList lo la s r d = (0, 0, 2)) := by show _ = _; rw [equO_no (by rw [hk]; omega), hk]
    clear hk
    go_enter Tryd.func18, Tryd.ntmps18
    go_wp2_with (fail)
    (refine later_intro ?_; intro y)
    go_wp2_with (first | (go_at_call 59; refine (later_below (ValidSite_any _ _ _ _)).mono ?_; rintro e w' ⟨rfl, y, rfl⟩) | (go_at_call 60; refine (within_any _ _ _ _).mono ?_; rintro e w' ⟨rfl, rfl⟩) | (go_at_call 61; refine (later_same (validDirection_any _ _ _)).mono ?_; rintro e w' ⟨rfl, y, rfl⟩))
    go_ret3
    exact ⟨by rw [HO.out]; rfl, (by repeat (first | exact Below.refl _ _ | refine below_alloc ?_ _ | refine below_drewN0 ?_ _ | refine below_drew0 ?_ | refine below_step ?_ (by assumption) | refine below_later ?_ _ | refine below_setCell0 ?_ (by first | exact Nat.le_refl _ | (simp; done) | omega | (simp; omega)) _))⟩
  · have HO : Hid (equO n.data.toList lo la s r d = (0, 0, 2)) := by show _ = _; rw [equO_no (by rw [hk]; omega), hk]
    clear hk
    go_enter Tryd.func18, Tryd.ntmps18
    go_wp2_with (fail)
    (refine later_intro ?_; intro y)
    go_wp2_with (first | (go_at_call 59; refine (later_below (ValidSite_any _ _ _ _)).mono ?_; rintro e w' ⟨rfl, y, rfl⟩) | (go_at_call 60; refine (within_any _ _ _ _).mono ?_; rintro e w' ⟨rfl, rfl⟩) | (go_at_call 61; refine (later_same (validDirection_any _ _ _)).mono ?_; rintro e w' ⟨rfl, y, rfl⟩))
    go_ret3
    exact ⟨by rw [HO.out]; rfl, (by repeat (first | exact Below.refl _ _ | refine below_alloc ?_ _ | refine below_drewN0 ?_ _ | refine below_drew0 ?_ | refine below_step ?_ (by assumption) | refine below_later ?_ _ | refine below_setCell0 ?_ (by first | exact Nat.le_refl _ | (simp; done) | omega | (simp; omega)) _))⟩
  · obtain ⟨_, _, l1, l2⟩ := vSite_bd v1
    obtain ⟨s1, s2⟩ := (inB_iff _ _ _).1 v2
    obtain ⟨r1, r2, d1, d2⟩ := vDir_bd v3
    have hx := dirX_bd r d
    have hv := dirY_bd r d
    have hz := dirZ_bd d
    obtain ⟨lo1, lo2⟩ := lonI_bd (eqV_md la r d)
    have hcases : (zeroV (eqV la r d) = true ∧ equO n.data.toList lo la s r d = (0, 0, 6) ∧ (anglesO (eqV la r d)).2.2 = 6) ∨ (zeroV (eqV la r d) = false ∧ equO n.data.toList lo la s r d = (nrm (s + lonI (eqV la r d)), latI (eqV la r d), 0) ∧ anglesO (eqV la r d) = (lonI (eqV la r d), latI (eqV la r d), 0)) := by
      cases hzz : zeroV (eqV la r d) with
      | true => exact .inl ⟨rfl, equO_zero hk hzz, by rw [anglesO_zero hzz]⟩
      | false => exact .inr ⟨rfl, equO_yes hk hzz, anglesO_yes hzz⟩
    have C1 : Hid (∀ W, SinOk W → Calls Tryd.prog 62 #[.int .i64 r, .int .i64 d] W fun e w' => e = .returned (.agg #[.int .i64 (dirX r d), .int .i64 (dirY r d), .int .i64 (dirZ d)]) ∧ Below W.heap.size W w') := fun W hW => directionOf_any r d W hW ⟨by omega, by omega⟩ ⟨by omega, by omega⟩
    have C2 : Hid (∀ W, SinOk W → Calls Tryd.prog 63 #[.agg #[.int .i64 (dirZ d), .int .i64 (dirY r d), .int .i64 (dirX r d)], .int .i64 2, .int .i64 (-la)] W fun e w' => e = .returned (.tuple #[.agg #[.int .i64 (eqV la r d).x, .int .i64 (eqV la r d).y, .int .i64 (eqV la r d).z], .int .i64 0]) ∧ Below W.heap.size W w') := fun W hW => RotateAround_any (dirZ d) (dirY r d) (dirX r d) (-la) W hW hz ⟨by omega, by omega⟩ hx ⟨by omega, by omega⟩
    have C3 : Hid (∀ W, SinOk W → Calls Tryd.prog 64 #[.agg #[.int .i64 (eqV la r d).x, .int .i64 (eqV la r d).y, .int .i64 (eqV la r d).z]] W fun e w' => e = .returned (.tuple #[.int .i64 (anglesO (eqV la r d)).1, .int .i64 (anglesO (eqV la r d)).2.1, .int .i64 (anglesO (eqV la r d)).2.2]) ∧ Below W.heap.size W w') := fun W hW => AnglesOf_any (eqV la r d) W hW (eqV_md _ _ _)
    have wn : IntKind.i64.wrap (-la) = -la := wrap_in' (by omega) (by omega)
    clear hk hx hv hz
    generalize eqV la r d = v at *
    generalize dirX r d = dx at *
    generalize dirY r d = dy at *
    generalize dirZ d = dz at *
    have key : ∀ (a1 a2 a3 : Int), anglesO v = (a1, a2, a3) → True := fun _ _ _ _ => trivial
    rcases hcases with ⟨_, HO1, h6⟩ | ⟨_, HO1, h6⟩
    · have HO := Lib.hid HO1
      rw [h6] at C3
      clear HO1 h6 key
      generalize (anglesO v).1 = o1 at *
      generalize (anglesO v).2.1 = o2 at *
      go_enter Tryd.func18, Tryd.ntmps18
      go_wp2_with (fail)
      refine calls_named ?_
      intro W1 hW1
      have hbW : Below w.heap.size w W1 := by rw [hW1]; exact (by repeat (first | exact Below.refl _ _ | refine below_alloc ?_ _ | refine below_drewN0 ?_ _ | refine below_drew0 ?_ | refine below_step ?_ (by assumption) | refine below_later ?_ _ | refine below_setCell0 ?_ (by first | exact Nat.le_refl _ | (simp; done) | omega | (simp; omega)) _))
      have hlt0 : w.heap.size < W1.heap.size := by rw [hW1]; simp
      have c2 : W1.cell? ⟨w.heap.size, 2, none⟩ = some (.int .i64 la) := by rw [hW1]; simp
      have hS1 : SinOk W1 := by rw [hW1]; exact hS.alloc _
      clear hW1
      (refine later_intro ?_; intro y)
      go_wp2_with (first | (go_at_call 59; refine (later_below (ValidSite_any _ _ _ _)).mono ?_; rintro e w' ⟨rfl, y, rfl⟩) | (go_at_call 60; refine (within_any _ _ _ _).mono ?_; rintro e w' ⟨rfl, rfl⟩) | (go_at_call 61; refine (later_same (validDirection_any _ _ _)).mono ?_; rintro e w' ⟨rfl, y, rfl⟩) | ((go_at_call 62; refine (later_below (C1.out _ (SinOk.later hS1 _))).mono ?_; rintro e w' ⟨rfl, y, rfl⟩); rename Later W1 => y1; have hl1 : w.heap.size < y1.w.heap.size := Nat.lt_of_lt_of_le hlt0 (below_size y1.below); have c2' := (Later.cell y1 hlt0).trans c2))
      refine calls_named ?_
      intro W2 hW2
      have hbW2 : Below w.heap.size w W2 := by rw [hW2]; exact below_alloc (below_later hbW _) _
      have hS2 : SinOk W2 := by rw [hW2]; exact (SinOk.later hS1 _).alloc _
      clear hW2 c2'
      (refine later_intro ?_; intro y)
      (go_at_call 63; refine (later_below (C2.out _ (SinOk.later hS2 _))).mono ?_; rintro e w' ⟨rfl, y, rfl⟩)
      rename Later W2 => y2
      go_wp2_with (first | (refine (C3.out _ (SinOk.alloc (SinOk.later hS2 _) _)).mono ?_; rintro e w9 ⟨rfl, hb9⟩) | (go_at_call 65; refine (NormalAngle_any _ _ (by omega) (by omega)).mono ?_; rintro e w' ⟨rfl, rfl⟩))
      go_ret3
      exact ⟨by rw [HO.out]; rfl, below_step (below_alloc (below_later hbW2 _) _) hb9⟩
    · have HO := Lib.hid HO1
      rw [h6] at C3
      clear HO1 h6 key
      generalize lonI v = o1 at *
      generalize latI v = o2 at *
      go_enter Tryd.func18, Tryd.ntmps18
      go_wp2_with (fail)
      refine calls_named ?_
      intro W1 hW1
      have hbW : Below w.heap.size w W1 := by rw [hW1]; exact (by repeat (first | exact Below.refl _ _ | refine below_alloc ?_ _ | refine below_drewN0 ?_ _ | refine below_drew0 ?_ | refine below_step ?_ (by assumption) | refine below_later ?_ _ | refine below_setCell0 ?_ (by first | exact Nat.le_refl _ | (simp; done) | omega | (simp; omega)) _))
      have hlt0 : w.heap.size < W1.heap.size := by rw [hW1]; simp
      have c2 : W1.cell? ⟨w.heap.size, 2, none⟩ = some (.int .i64 la) := by rw [hW1]; simp
      have hS1 : SinOk W1 := by rw [hW1]; exact hS.alloc _
      clear hW1
      (refine later_intro ?_; intro y)
      go_wp2_with (first | (go_at_call 59; refine (later_below (ValidSite_any _ _ _ _)).mono ?_; rintro e w' ⟨rfl, y, rfl⟩) | (go_at_call 60; refine (within_any _ _ _ _).mono ?_; rintro e w' ⟨rfl, rfl⟩) | (go_at_call 61; refine (later_same (validDirection_any _ _ _)).mono ?_; rintro e w' ⟨rfl, y, rfl⟩) | ((go_at_call 62; refine (later_below (C1.out _ (SinOk.later hS1 _))).mono ?_; rintro e w' ⟨rfl, y, rfl⟩); rename Later W1 => y1; have hl1 : w.heap.size < y1.w.heap.size := Nat.lt_of_lt_of_le hlt0 (below_size y1.below); have c2' := (Later.cell y1 hlt0).trans c2))
      refine calls_named ?_
      intro W2 hW2
      have hbW2 : Below w.heap.size w W2 := by rw [hW2]; exact below_alloc (below_later hbW _) _
      have hS2 : SinOk W2 := by rw [hW2]; exact (SinOk.later hS1 _).alloc _
      clear hW2 c2'
      (refine later_intro ?_; intro y)
      (go_at_call 63; refine (later_below (C2.out _ (SinOk.later hS2 _))).mono ?_; rintro e w' ⟨rfl, y, rfl⟩)
      rename Later W2 => y2
      go_wp2_with (first | (refine (C3.out _ (SinOk.alloc (SinOk.later hS2 _) _)).mono ?_; rintro e w9 ⟨rfl, hb9⟩) | (go_at_call 65; refine (NormalAngle_any _ _ (by omega) (by omega)).mono ?_; rintro e w' ⟨rfl, rfl⟩))
      go_ret3
      exact ⟨by rw [HO.out]; rfl, below_step (below_alloc (below_later hbW2 _) _) hb9⟩
set_option maxHeartbeats 4000000 in
theorem sEquatorialOf_any (n : ByteArray) (lo la s r d : Int) (w : World) :
    Calls Tryd.prog 16 #[.agg #[.string n, .int .i64 lo, .int .i64 la], .int .i64 s, .int .i64 r, .int .i64 d] w fun e w' => e = .returned (.tuple #[.int .i64 (equO n.data.toList lo la s r d).1, .int .i64 (equO n.data.toList lo la s r d).2.1, .int .i64 (equO n.data.toList lo la s r d).2.2]) ∧ Below w.heap.size w w' := by
  by_cases hk : askI n.data.toList lo la s r d = 0
  · obtain ⟨v1, v2, v3⟩ : vSite n.data.toList lo la = true ∧ inB s 0 359999 = true ∧ vDir r d = true := by
      rcases askI_cases n.data.toList lo la s r d with ⟨v1, hk'⟩ | ⟨v1, v2, hk'⟩ | ⟨v1, v2, v3, hk'⟩ | ⟨v1, v2, v3, hk'⟩
      · rw [hk] at hk'; omega
      · rw [hk] at hk'; omega
      · rw [hk] at hk'; omega
      · exact ⟨v1, v2, v3⟩
    obtain ⟨_, _, l1, l2⟩ := vSite_bd v1
    obtain ⟨s1, s2⟩ := (inB_iff _ _ _).1 v2
    obtain ⟨r1, r2, d1, d2⟩ := vDir_bd v3
    have hx := dirX_bd r d
    have hv := dirY_bd r d
    have hz := dirZ_bd d
    have hmd := eqV_md la r d
    have hok : vVec (eqV la r d).x (eqV la r d).y (eqV la r d).z = true := vVec_ok hmd.1 hmd.2.1 hmd.2.2
    obtain ⟨lo1, lo2⟩ := lonI_bd hmd
    have A : Hid (∀ W b, W.cell? ⟨b, 0, none⟩ = some (.string n) → W.cell? ⟨b, 1, none⟩ = some (.int .i64 lo) → W.cell? ⟨b, 2, none⟩ = some (.int .i64 la) → Calls Tryd.prog 53 #[.pointer (some ⟨b, 0, none⟩), .int .i64 s, .int .i64 r, .int .i64 d] W fun e w' => e = .returned (.int .i64 0) ∧ W = w') := fun W b h0 h1 h2 => by
      have := l06Ask_any b n lo la s r d W h0 h1 h2
      rwa [hk] at this
    have C1 : Hid (∀ W, Calls Tryd.prog 54 #[.int .i64 r, .int .i64 d] W fun e w' => e = .returned (.agg #[.int .i64 (dirX r d), .int .i64 (dirY r d), .int .i64 (dirZ d)]) ∧ Below W.heap.size W w') := fun W => l04Direction_any r d W ⟨by omega, by omega⟩ ⟨by omega, by omega⟩
    have C2 : Hid (∀ W, Calls Tryd.prog 55 #[.agg #[.int .i64 (dirZ d), .int .i64 (dirY r d), .int .i64 (dirX r d)], .int .i64 2, .int .i64 (-la)] W fun e w' => e = .returned (.agg #[.int .i64 (eqV la r d).x, .int .i64 (eqV la r d).y, .int .i64 (eqV la r d).z]) ∧ Below W.heap.size W w') := fun W => l04Rotated_any (dirZ d) (dirY r d) (dirX r d) (-la) W hz ⟨by omega, by omega⟩ hx ⟨by omega, by omega⟩
    have wn : IntKind.i64.wrap (-la) = -la := wrap_in' (by omega) (by omega)
    have qa := run_eql_vec (eqV la r d).x (eqV la r d).y (eqV la r d).z
    cases hzz : zeroV (eqV la r d) with
    | true =>
      have HO := Lib.hid (equO_zero hk hzz)
      have qa' : zeroV ⟨(eqV la r d).x, (eqV la r d).y, (eqV la r d).z⟩ = true := hzz
      rw [qa'] at qa
      clear qa' hzz hk hx hv hz hmd lo1 lo2
      generalize eqV la r d = v at *
      generalize dirX r d = dx at *
      generalize dirY r d = dy at *
      generalize dirZ d = dz at *
      go_enter Tryd.func16, Tryd.ntmps16
      go_wp2_with (fail)
      refine calls_named ?_
      intro W1 hW1
      have hbW : Below w.heap.size w W1 := by rw [hW1]; exact (by repeat (first | exact Below.refl _ _ | refine below_alloc ?_ _ | refine below_drewN0 ?_ _ | refine below_drew0 ?_ | refine below_step ?_ (by assumption) | refine below_later ?_ _ | refine below_setCell0 ?_ (by first | exact Nat.le_refl _ | (simp; done) | omega | (simp; omega)) _))
      have hlt0 : w.heap.size < W1.heap.size := by rw [hW1]; simp
      have c0 : W1.cell? ⟨w.heap.size, 0, none⟩ = some (.string n) := by rw [hW1]; simp
      have c1 : W1.cell? ⟨w.heap.size, 1, none⟩ = some (.int .i64 lo) := by rw [hW1]; simp
      have c2 : W1.cell? ⟨w.heap.size, 2, none⟩ = some (.int .i64 la) := by rw [hW1]; simp
      clear hW1
      (refine later_intro ?_; intro y)
      (go_at_call 53; refine (later_same (A.out _ _ ((Later.cell _ hlt0).trans c0) ((Later.cell _ hlt0).trans c1) ((Later.cell _ hlt0).trans c2))).mono ?_; rintro e w' ⟨rfl, y, rfl⟩)
      go_wp2_with (fail)
      (go_at_call 54; refine (later_below (C1.out _)).mono ?_; rintro e w' ⟨rfl, y, rfl⟩)
      rename Later W1 => y1
      have hl1 : w.heap.size < y1.w.heap.size := Nat.lt_of_lt_of_le hlt0 (below_size y1.below)
      have c2' := (Later.cell y1 hlt0).trans c2
      go_wp2_with (fail)
      refine calls_named ?_
      intro W2 hW2
      have hbW2 : Below w.heap.size w W2 := by rw [hW2]; exact below_alloc (below_later hbW _) _
      clear hW2 c2'
      (refine later_intro ?_; intro y)
      (go_at_call 55; refine (later_below (C2.out _)).mono ?_; rintro e w' ⟨rfl, y, rfl⟩)
      go_wp2_with (fail)
      refine calls_named ?_
      intro W3 hW3
      rename Later W2 => y2
      have hbW3 : Below w.heap.size w W3 := by rw [hW3]; exact below_alloc (below_later hbW2 _) _
      have hlt3 : y2.w.heap.size < W3.heap.size := by rw [hW3]; simp
      have b0 : W3.cell? ⟨y2.w.heap.size, 0, none⟩ = some (.int .i64 v.x) := by rw [hW3]; simp
      have b1 : W3.cell? ⟨y2.w.heap.size, 1, none⟩ = some (.int .i64 v.y) := by rw [hW3]; simp
      have b2 : W3.cell? ⟨y2.w.heap.size, 2, none⟩ = some (.int .i64 v.z) := by rw [hW3]; simp
      clear hW3
      (refine later_intro ?_; intro y)
      go_wp2_with ((go_at_call 56; refine (later_below (l04Ok_any _ _ _ _)).mono ?_; rintro e w' ⟨rfl, y, rfl⟩))
      go_ret3
      exact ⟨by rw [HO.out]; rfl, below_later hbW3 _⟩
    | false =>
      have HO := Lib.hid (equO_yes hk hzz)
      have C3 : Hid (∀ W, Calls Tryd.prog 57 #[.agg #[.int .i64 (eqV la r d).x, .int .i64 (eqV la r d).y, .int .i64 (eqV la r d).z]] W fun e w' => e = .returned (.tuple #[.int .i64 (lonI (eqV la r d)), .int .i64 (latI (eqV la r d))]) ∧ Below W.heap.size W w') := fun W => l04Angles_any (eqV la r d) W hmd hzz
      have qa' : zeroV ⟨(eqV la r d).x, (eqV la r d).y, (eqV la r d).z⟩ = false := hzz
      rw [qa'] at qa
      clear qa' hzz hk hx hv hz hmd
      generalize lonI (eqV la r d) = o1 at *
      generalize latI (eqV la r d) = o2 at *
      generalize eqV la r d = v at *
      generalize dirX r d = dx at *
      generalize dirY r d = dy at *
      generalize dirZ d = dz at *
      go_enter Tryd.func16, Tryd.ntmps16
      go_wp2_with (fail)
      refine calls_named ?_
      intro W1 hW1
      have hbW : Below w.heap.size w W1 := by rw [hW1]; exact (by repeat (first | exact Below.refl _ _ | refine below_alloc ?_ _ | refine below_drewN0 ?_ _ | refine below_drew0 ?_ | refine below_step ?_ (by assumption) | refine below_later ?_ _ | refine below_setCell0 ?_ (by first | exact Nat.le_refl _ | (simp; done) | omega | (simp; omega)) _))
      have hlt0 : w.heap.size < W1.heap.size := by rw [hW1]; simp
      have c0 : W1.cell? ⟨w.heap.size, 0, none⟩ = some (.string n) := by rw [hW1]; simp
      have c1 : W1.cell? ⟨w.heap.size, 1, none⟩ = some (.int .i64 lo) := by rw [hW1]; simp
      have c2 : W1.cell? ⟨w.heap.size, 2, none⟩ = some (.int .i64 la) := by rw [hW1]; simp
      clear hW1
      (refine later_intro ?_; intro y)
      (go_at_call 53; refine (later_same (A.out _ _ ((Later.cell _ hlt0).trans c0) ((Later.cell _ hlt0).trans c1) ((Later.cell _ hlt0).trans c2))).mono ?_; rintro e w' ⟨rfl, y, rfl⟩)
      go_wp2_with (fail)
      (go_at_call 54; refine (later_below (C1.out _)).mono ?_; rintro e w' ⟨rfl, y, rfl⟩)
      rename Later W1 => y1
      have hl1 : w.heap.size < y1.w.heap.size := Nat.lt_of_lt_of_le hlt0 (below_size y1.below)
      have c2' := (Later.cell y1 hlt0).trans c2
      go_wp2_with (fail)
      refine calls_named ?_
      intro W2 hW2
      have hbW2 : Below w.heap.size w W2 := by rw [hW2]; exact below_alloc (below_later hbW _) _
      clear hW2 c2'
      (refine later_intro ?_; intro y)
      (go_at_call 55; refine (later_below (C2.out _)).mono ?_; rintro e w' ⟨rfl, y, rfl⟩)
      go_wp2_with (fail)
      refine calls_named ?_
      intro W3 hW3
      rename Later W2 => y2
      have hbW3 : Below w.heap.size w W3 := by rw [hW3]; exact below_alloc (below_later hbW2 _) _
      have hlt3 : y2.w.heap.size < W3.heap.size := by rw [hW3]; simp
      have b0 : W3.cell? ⟨y2.w.heap.size, 0, none⟩ = some (.int .i64 v.x) := by rw [hW3]; simp
      have b1 : W3.cell? ⟨y2.w.heap.size, 1, none⟩ = some (.int .i64 v.y) := by rw [hW3]; simp
      have b2 : W3.cell? ⟨y2.w.heap.size, 2, none⟩ = some (.int .i64 v.z) := by rw [hW3]; simp
      clear hW3
      (refine later_intro ?_; intro y)
      go_wp2_with (first | (go_at_call 56; refine (later_below (l04Ok_any _ _ _ _)).mono ?_; rintro e w' ⟨rfl, y, rfl⟩) | (go_at_call 57; refine (later_below (C3.out _)).mono ?_; rintro e w' ⟨rfl, y, rfl⟩) | (go_at_call 58; refine (later_same (l02Normal_any _ _ (by omega) (by omega))).mono ?_; rintro e w' ⟨rfl, y, rfl⟩))
      go_ret3
      exact ⟨by rw [HO.out]; rfl, below_later hbW3 _⟩
  · have HO := Lib.hid (equO_no hk)
    have A : Hid (∀ W b, W.cell? ⟨b, 0, none⟩ = some (.string n) → W.cell? ⟨b, 1, none⟩ = some (.int .i64 lo) → W.cell? ⟨b, 2, none⟩ = some (.int .i64 la) → Calls Tryd.prog 53 #[.pointer (some ⟨b, 0, none⟩), .int .i64 s, .int .i64 r, .int .i64 d] W fun e w' => e = .returned (.int .i64 (askI n.data.toList lo la s r d)) ∧ W = w') := fun W b h0 h1 h2 => l06Ask_any b n lo la s r d W h0 h1 h2
    generalize askI n.data.toList lo la s r d = k at *
    have hk2 : (k == 0) = false := by simpa using hk
    go_enter Tryd.func16, Tryd.ntmps16
    go_wp2_with (fail)
    (refine later_intro ?_; intro y)
    go_wp2_with ((go_at_call 53; refine (later_same (A.out _ _ (by simp [go_sem]) (by simp [go_sem]) (by simp [go_sem]))).mono ?_; rintro e w' ⟨rfl, y, rfl⟩))
    go_ret3
    exact ⟨by rw [HO.out]; rfl, (by repeat (first | exact Below.refl _ _ | refine below_alloc ?_ _ | refine below_drewN0 ?_ _ | refine below_drew0 ?_ | refine below_step ?_ (by assumption) | refine below_later ?_ _ | refine below_setCell0 ?_ (by first | exact Nat.le_refl _ | (simp; done) | omega | (simp; omega)) _))⟩
end Go.Proofs.YtoddkojbeoifkaaDoor
