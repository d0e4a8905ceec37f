/- Contracts of the functions that tell where and how a planet is seen. -/
import Derived.Test.YtbgjmahamhppfaaDoorWay
namespace Go.Proofs.YtbgjmahamhppfaaDoor
set_option linter.unusedVariables false
set_option linter.unusedSimpArgs false
open Go.RowKit
set_option maxHeartbeats 2000000 in
theorem SeenAngle_any (P Q : PlB) (d m : Int) (w : World) (hS : SinOk w) :
    Calls Tryd.prog 31 #[.agg #[.string P.n, .int .i64 P.p, .int .i64 P.r, .int .i64 P.u], .agg #[.string Q.n, .int .i64 Q.p, .int .i64 Q.r, .int .i64 Q.u], .agg #[.int .i64 d, .int .i64 m]] w fun e w' => e = .returned (.tuple #[.int .i64 (seenO P Q d m).1, .int .i64 (seenO P Q d m).2]) ∧ Below w.heap.size w w' := by
  rcases wyC_cases P Q d m with ⟨hk, hv⟩ | ⟨hk, hv, hz⟩ | ⟨hk, hv, hz⟩
  · have HO : Hid (seenO P Q d m = (0, 1)) := by show _ = _; rw [seenO_no (by rw [hk]; omega), hk]
    go_enter Tryd.func31, Tryd.ntmps31
    go_wp2_with (fail)
    (refine later_intro ?_; intro y)
    go_wp2_with ((go_at_call 64; refine (later_below (wayTo_any P Q d m _ (SinOk.later (((hS.alloc _).alloc _).alloc _) _))).mono ?_; rintro e w' ⟨rfl, y, rfl⟩))
    go_ret2
    exact ⟨by rw [HO.out]; rfl, (by repeat (first | exact Below.refl _ _ | refine below_alloc ?_ _ | refine below_drewN0 ?_ _ | refine below_drew0 ?_ | refine below_step ?_ (by assumption) | refine below_later ?_ _ | refine below_setCell0 ?_ (by first | exact Nat.le_refl _ | (simp; done) | omega | (simp; omega)) _))⟩
  · have HO : Hid (seenO P Q d m = (0, 6)) := by show _ = _; rw [seenO_no (by rw [hk]; omega), hk]
    go_enter Tryd.func31, Tryd.ntmps31
    go_wp2_with (fail)
    (refine later_intro ?_; intro y)
    go_wp2_with ((go_at_call 64; refine (later_below (wayTo_any P Q d m _ (SinOk.later (((hS.alloc _).alloc _).alloc _) _))).mono ?_; rintro e w' ⟨rfl, y, rfl⟩))
    go_ret2
    exact ⟨by rw [HO.out]; rfl, (by repeat (first | exact Below.refl _ _ | refine below_alloc ?_ _ | refine below_drewN0 ?_ _ | refine below_drew0 ?_ | refine below_step ?_ (by assumption) | refine below_later ?_ _ | refine below_setCell0 ?_ (by first | exact Nat.le_refl _ | (simp; done) | omega | (simp; omega)) _))⟩
  · have HO : Hid (seenO P Q d m = (arcI (wyY P Q d m) (wyX P Q d m), 0)) := seenO_ok hk
    obtain ⟨q1, q2, q3, q4⟩ := wy_bd hv
    have ha := arc_in (y := wyY P Q d m) (x := wyX P Q d m) (by omega) (by omega) ((wyZ_iff' _ _ _ _).1 hz)
    have a1 : (arcO (wyY P Q d m) (wyX P Q d m)).1 = arcI (wyY P Q d m) (wyX P Q d m) := by rw [ha]
    have a2 : (arcO (wyY P Q d m) (wyX P Q d m)).2 = 0 := by rw [ha]
    clear ha
    go_enter Tryd.func31, Tryd.ntmps31
    go_wp2_with (fail)
    (refine later_intro ?_; intro y)
    (go_at_call 64; refine (later_below (wayTo_any P Q d m _ (SinOk.later (((hS.alloc _).alloc _).alloc _) _))).mono ?_; rintro e w' ⟨rfl, y, rfl⟩)
    rw [hk, if_pos rfl, if_pos rfl]
    go_wp2_with ((go_at_call 65; refine (later_drew (ArcTangent_any _ _ _ (SinOk.later (((hS.alloc _).alloc _).alloc _) _))).mono ?_; rintro e w' ⟨rfl, y, rfl⟩))
    go_ret2
    exact ⟨by rw [HO.out]; rfl, (by repeat (first | exact Below.refl _ _ | refine below_alloc ?_ _ | refine below_drewN0 ?_ _ | refine below_drew0 ?_ | refine below_step ?_ (by assumption) | refine below_later ?_ _ | refine below_setCell0 ?_ (by first | exact Nat.le_refl _ | (simp; done) | omega | (simp; omega)) _))⟩
set_option maxHeartbeats 2000000 in
theorem SeenDistance_any (P Q : PlB) (d m : Int) (w : World) (hS : SinOk w) :
    Calls Tryd.prog 37 #[.agg #[.string P.n, .int .i64 P.p, .int .i64 P.r, .int .i64 P.u], .agg #[.string Q.n, .int .i64 Q.p, .int .i64 Q.r, .int .i64 Q.u], .agg #[.int .i64 d, .int .i64 m]] w fun e w' => e = .returned (.tuple #[.int .i64 (distO P Q d m).1, .int .i64 (distO P Q d m).2]) ∧ Below w.heap.size w w' := by
  rcases wyC_cases P Q d m with ⟨hk, hv⟩ | ⟨hk, hv, hz⟩ | ⟨hk, hv, hz⟩
  · have HO : Hid (distO P Q d m = (0, 1)) := by show _ = _; rw [distO_no (by rw [hk]; omega), hk]
    go_enter Tryd.func37, Tryd.ntmps37
    go_wp2_with (fail)
    (refine later_intro ?_; intro y)
    go_wp2_with ((go_at_call 64; refine (later_below (wayTo_any P Q d m _ (SinOk.later (((hS.alloc _).alloc _).alloc _) _))).mono ?_; rintro e w' ⟨rfl, y, rfl⟩))
    go_ret2
    exact ⟨by rw [HO.out]; rfl, (by repeat (first | exact Below.refl _ _ | refine below_alloc ?_ _ | refine below_drewN0 ?_ _ | refine below_drew0 ?_ | refine below_step ?_ (by assumption) | refine below_later ?_ _ | refine below_setCell0 ?_ (by first | exact Nat.le_refl _ | (simp; done) | omega | (simp; omega)) _))⟩
  · have HO : Hid (distO P Q d m = (0, 6)) := by show _ = _; rw [distO_no (by rw [hk]; omega), hk]
    go_enter Tryd.func37, Tryd.ntmps37
    go_wp2_with (fail)
    (refine later_intro ?_; intro y)
    go_wp2_with ((go_at_call 64; refine (later_below (wayTo_any P Q d m _ (SinOk.later (((hS.alloc _).alloc _).alloc _) _))).mono ?_; rintro e w' ⟨rfl, y, rfl⟩))
    go_ret2
    exact ⟨by rw [HO.out]; rfl, (by repeat (first | exact Below.refl _ _ | refine below_alloc ?_ _ | refine below_drewN0 ?_ _ | refine below_drew0 ?_ | refine below_step ?_ (by assumption) | refine below_later ?_ _ | refine below_setCell0 ?_ (by first | exact Nat.le_refl _ | (simp; done) | omega | (simp; omega)) _))⟩
  · have HO : Hid (distO P Q d m = (rootI (wyX P Q d m * wyX P Q d m + wyY P Q d m * wyY P Q d m), 0)) := distO_ok hk
    obtain ⟨q1, q2, q3, q4⟩ := wy_bd hv
    obtain ⟨s1, s2⟩ := sq_bd (wyX P Q d m) 100000000 (by omega)
    obtain ⟨s3, s4⟩ := sq_bd (wyY P Q d m) 100000000 (by omega)
    go_enter Tryd.func37, Tryd.ntmps37
    go_wp2_with (fail)
    (refine later_intro ?_; intro y)
    (go_at_call 64; refine (later_below (wayTo_any P Q d m _ (SinOk.later (((hS.alloc _).alloc _).alloc _) _))).mono ?_; rintro e w' ⟨rfl, y, rfl⟩)
    rw [hk, if_pos rfl, if_pos rfl]
    go_wp2_with ((go_at_call 73; refine (later_same (RootOf_any _ _ (by omega))).mono ?_; rintro e w' ⟨rfl, y, rfl⟩))
    go_ret2
    exact ⟨by rw [HO.out]; rfl, (by repeat (first | exact Below.refl _ _ | refine below_alloc ?_ _ | refine below_drewN0 ?_ _ | refine below_drew0 ?_ | refine below_step ?_ (by assumption) | refine below_later ?_ _ | refine below_setCell0 ?_ (by first | exact Nat.le_refl _ | (simp; done) | omega | (simp; omega)) _))⟩
set_option maxHeartbeats 2000000 in
theorem Elongation_any (P Q : PlB) (d m : Int) (w : World) (hS : SinOk w) :
    Calls Tryd.prog 33 #[.agg #[.string P.n, .int .i64 P.p, .int .i64 P.r, .int .i64 P.u], .agg #[.string Q.n, .int .i64 Q.p, .int .i64 Q.r, .int .i64 Q.u], .agg #[.int .i64 d, .int .i64 m]] w fun e w' => e = .returned (.tuple #[.int .i64 (elO P Q d m).1, .int .i64 (elO P Q d m).2]) ∧ Below w.heap.size w w' := by
  rcases wyC_cases P Q d m with ⟨hk, hv⟩ | ⟨hk, hv, hz⟩ | ⟨hk, hv, hz⟩
  · have HO : Hid (elO P Q d m = (0, 1)) := by show _ = _; rw [elO_no (by rw [hk]; omega), hk]
    have sk : seenO P Q d m = (0, wyC P Q d m) := seenO_no (by rw [hk]; omega)
    have s1 : (seenO P Q d m).1 = 0 := by rw [sk]
    have s2 : (seenO P Q d m).2 = wyC P Q d m := by rw [sk]
    clear sk
    go_enter Tryd.func33, Tryd.ntmps33
    go_wp2_with (fail)
    (refine later_intro ?_; intro y)
    go_wp2_with ((go_at_call 31; refine (later_below (SeenAngle_any P Q d m _ (SinOk.later (((hS.alloc _).alloc _).alloc _) _))).mono ?_; rintro e w' ⟨rfl, y, rfl⟩))
    go_ret2
    exact ⟨by rw [HO.out]; rfl, (by repeat (first | exact Below.refl _ _ | refine below_alloc ?_ _ | refine below_drewN0 ?_ _ | refine below_drew0 ?_ | refine below_step ?_ (by assumption) | refine below_later ?_ _ | refine below_setCell0 ?_ (by first | exact Nat.le_refl _ | (simp; done) | omega | (simp; omega)) _))⟩
  · have HO : Hid (elO P Q d m = (0, 6)) := by show _ = _; rw [elO_no (by rw [hk]; omega), hk]
    have sk : seenO P Q d m = (0, wyC P Q d m) := seenO_no (by rw [hk]; omega)
    have s1 : (seenO P Q d m).1 = 0 := by rw [sk]
    have s2 : (seenO P Q d m).2 = wyC P Q d m := by rw [sk]
    clear sk
    go_enter Tryd.func33, Tryd.ntmps33
    go_wp2_with (fail)
    (refine later_intro ?_; intro y)
    go_wp2_with ((go_at_call 31; refine (later_below (SeenAngle_any P Q d m _ (SinOk.later (((hS.alloc _).alloc _).alloc _) _))).mono ?_; rintro e w' ⟨rfl, y, rfl⟩))
    go_ret2
    exact ⟨by rw [HO.out]; rfl, (by repeat (first | exact Below.refl _ _ | refine below_alloc ?_ _ | refine below_drewN0 ?_ _ | refine below_drew0 ?_ | refine below_step ?_ (by assumption) | refine below_later ?_ _ | refine below_setCell0 ?_ (by first | exact Nat.le_refl _ | (simp; done) | omega | (simp; omega)) _))⟩
  · have HO : Hid (elO P Q d m = (betI (arcI (wyY P Q d m) (wyX P Q d m)) (angP Q d m + 180000), 0)) := elO_ok hk
    have sk := seenO_ok hk
    have s1 : (seenO P Q d m).1 = arcI (wyY P Q d m) (wyX P Q d m) := by rw [sk]
    have s2 : (seenO P Q d m).2 = 0 := by rw [sk]
    clear sk
    obtain ⟨v1, v2, v3⟩ := wyV_parts hv
    have o1 : (orbO Q.n.data.toList Q.p Q.r Q.u d m).1 = angP Q d m := congrArg Prod.fst (okO_yes (Bool.and_eq_true_iff.2 ⟨v2, v3⟩))
    obtain ⟨r1, r2⟩ := arcI_bd (wyY P Q d m) (wyX P Q d m)
    have ha : 0 ≤ angP Q d m ∧ angP Q d m ≤ 359999 := angleI_bd _ _ _ _
    obtain ⟨a1, a2⟩ := ha
    go_enter Tryd.func33, Tryd.ntmps33
    go_wp2_with (fail)
    (refine later_intro ?_; intro y)
    go_wp2_with (first | (go_at_call 31; refine (later_below (SeenAngle_any P Q d m _ (SinOk.later (((hS.alloc _).alloc _).alloc _) _))).mono ?_; rintro e w' ⟨rfl, y, rfl⟩) | (go_at_call 45; refine (later_below (OrbitAngle_any Q.n Q.p Q.r Q.u d m _)).mono ?_; rintro e w' ⟨rfl, y, rfl⟩) | (go_at_call 68; refine (later_same (AngleBetween_any _ _ _ (by omega) (by omega))).mono ?_; rintro e w' ⟨rfl, y, rfl⟩))
    go_ret2
    exact ⟨by rw [HO.out]; rfl, (by repeat (first | exact Below.refl _ _ | refine below_alloc ?_ _ | refine below_drewN0 ?_ _ | refine below_drew0 ?_ | refine below_step ?_ (by assumption) | refine below_later ?_ _ | refine below_setCell0 ?_ (by first | exact Nat.le_refl _ | (simp; done) | omega | (simp; omega)) _))⟩
set_option maxHeartbeats 2000000 in
theorem PhaseOf_any (P Q : PlB) (d m : Int) (w : World) (hS : SinOk w) :
    Calls Tryd.prog 35 #[.agg #[.string P.n, .int .i64 P.p, .int .i64 P.r, .int .i64 P.u], .agg #[.string Q.n, .int .i64 Q.p, .int .i64 Q.r, .int .i64 Q.u], .agg #[.int .i64 d, .int .i64 m]] w fun e w' => e = .returned (.tuple #[.int .i64 (phO P Q d m).1, .int .i64 (phO P Q d m).2]) ∧ Below w.heap.size w w' := by
  rcases wyC_cases P Q d m with ⟨hk, hv⟩ | ⟨hk, hv, hz⟩ | ⟨hk, hv, hz⟩
  · have HO : Hid (phO P Q d m = (0, 1)) := by show _ = _; rw [phO_no (by rw [hk]; omega), hk]
    have sk : seenO Q P d m = (0, wyC Q P d m) := seenO_no (by rw [wyC_symm, hk]; omega)
    have s1 : (seenO Q P d m).1 = 0 := by rw [sk]
    have s2 : (seenO Q P d m).2 = wyC P Q d m := by rw [sk]; exact wyC_symm _ _ _ _
    clear sk
    go_enter Tryd.func35, Tryd.ntmps35
    go_wp2_with (fail)
    (refine later_intro ?_; intro y)
    go_wp2_with ((go_at_call 31; refine (later_below (SeenAngle_any Q P d m _ (SinOk.later (((hS.alloc _).alloc _).alloc _) _))).mono ?_; rintro e w' ⟨rfl, y, rfl⟩))
    go_ret2
    exact ⟨by rw [HO.out]; rfl, (by repeat (first | exact Below.refl _ _ | refine below_alloc ?_ _ | refine below_drewN0 ?_ _ | refine below_drew0 ?_ | refine below_step ?_ (by assumption) | refine below_later ?_ _ | refine below_setCell0 ?_ (by first | exact Nat.le_refl _ | (simp; done) | omega | (simp; omega)) _))⟩
  · have HO : Hid (phO P Q d m = (0, 6)) := by show _ = _; rw [phO_no (by rw [hk]; omega), hk]
    have sk : seenO Q P d m = (0, wyC Q P d m) := seenO_no (by rw [wyC_symm, hk]; omega)
    have s1 : (seenO Q P d m).1 = 0 := by rw [sk]
    have s2 : (seenO Q P d m).2 = wyC P Q d m := by rw [sk]; exact wyC_symm _ _ _ _
    clear sk
    go_enter Tryd.func35, Tryd.ntmps35
    go_wp2_with (fail)
    (refine later_intro ?_; intro y)
    go_wp2_with ((go_at_call 31; refine (later_below (SeenAngle_any Q P d m _ (SinOk.later (((hS.alloc _).alloc _).alloc _) _))).mono ?_; rintro e w' ⟨rfl, y, rfl⟩))
    go_ret2
    exact ⟨by rw [HO.out]; rfl, (by repeat (first | exact Below.refl _ _ | refine below_alloc ?_ _ | refine below_drewN0 ?_ _ | refine below_drew0 ?_ | refine below_step ?_ (by assumption) | refine below_later ?_ _ | refine below_setCell0 ?_ (by first | exact Nat.le_refl _ | (simp; done) | omega | (simp; omega)) _))⟩
  · have HO : Hid (phO P Q d m = (rnd (1000 * (1000000 + cosI (phI P Q d m))) 2000000, 0)) := phO_ok hk
    have hk' : wyC Q P d m = 0 := by rw [wyC_symm, hk]
    have sk := seenO_ok hk'
    have s1 : (seenO Q P d m).1 = arcI (wyY Q P d m) (wyX Q P d m) := by rw [sk]
    have s2 : (seenO Q P d m).2 = 0 := by rw [sk]
    clear sk
    obtain ⟨v1, v2, v3⟩ := wyV_parts hv
    have o1 : (orbO P.n.data.toList P.p P.r P.u d m).1 = angP P d m := congrArg Prod.fst (okO_yes (Bool.and_eq_true_iff.2 ⟨v1, v3⟩))
    obtain ⟨r1, r2⟩ := arcI_bd (wyY Q P d m) (wyX Q P d m)
    have ha : 0 ≤ angP P d m ∧ angP P d m ≤ 359999 := angleI_bd _ _ _ _
    obtain ⟨a1, a2⟩ := ha
    have HP : Hid (phI P Q d m = betI (angP P d m + 180000) (arcI (wyY Q P d m) (wyX Q P d m))) := rfl
    have hph := betI_bd (angP P d m + 180000) (arcI (wyY Q P d m) (wyX Q P d m))
    rw [← HP.out] at hph
    obtain ⟨f1, f2⟩ := hph
    obtain ⟨f3, f4⟩ := cosI_bd (phI P Q d m)
    have C1 : Hid (∀ W, Calls Tryd.prog 68 #[.int .i64 (angP P d m + 180000), .int .i64 (arcI (wyY Q P d m) (wyX Q P d m))] W fun e w' => e = .returned (.int .i64 (phI P Q d m)) ∧ W = w') := fun W => AngleBetween_any _ _ W (by omega) (by omega)
    go_enter Tryd.func35, Tryd.ntmps35
    go_wp2_with (fail)
    (refine later_intro ?_; intro y)
    go_wp2_with (first | (go_at_call 31; refine (later_below (SeenAngle_any Q P d m _ (SinOk.later (((hS.alloc _).alloc _).alloc _) _))).mono ?_; rintro e w' ⟨rfl, y, rfl⟩) | (go_at_call 45; refine (later_below (OrbitAngle_any P.n P.p P.r P.u d m _)).mono ?_; rintro e w' ⟨rfl, y, rfl⟩) | (go_at_call 68; refine (later_same (C1.out _)).mono ?_; rintro e w' ⟨rfl, y, rfl⟩) | (go_at_call 47; refine (later_drew (CosineOf_any _ _ (SinOk.later (((hS.alloc _).alloc _).alloc _) _) (by omega) (by omega))).mono ?_; rintro e w' ⟨rfl, y, rfl⟩) | (go_at_call 46; refine (later_drew (nearest_any _ _ _ (by omega) (by omega) (by omega) (by omega))).mono ?_; rintro e w' ⟨rfl, y, rfl⟩))
    go_ret2
    exact ⟨by rw [HO.out]; rfl, (by repeat (first | exact Below.refl _ _ | refine below_alloc ?_ _ | refine below_drewN0 ?_ _ | refine below_drew0 ?_ | refine below_step ?_ (by assumption) | refine below_later ?_ _ | refine below_setCell0 ?_ (by first | exact Nat.le_refl _ | (simp; done) | omega | (simp; omega)) _))⟩
set_option maxHeartbeats 4000000 in
theorem sSeenAngle_any (P Q : PlB) (d m : Int) (w : World) :
    Calls Tryd.prog 30 #[.agg #[.string P.n, .int .i64 P.p, .int .i64 P.r, .int .i64 P.u], .agg #[.string Q.n, .int .i64 Q.p, .int .i64 Q.r, .int .i64 Q.u], .agg #[.int .i64 d, .int .i64 m]] w fun e w' => e = .returned (.tuple #[.int .i64 (seenO P Q d m).1, .int .i64 (seenO P Q d m).2]) ∧ Below w.heap.size w w' := by
  rcases wyC_cases P Q d m with ⟨hk, hv⟩ | ⟨hk, hv, hz⟩ | ⟨hk, hv, hz⟩
  · have HO : Hid (seenO P Q d m = (0, 1)) := by show _ = _; rw [seenO_no (by rw [hk]; omega), hk]
    go_enter Tryd.func30, Tryd.ntmps30
    go_wp2_with (fail)
    refine calls_named ?_
    intro W1 hW1
    have hbW : Below w.heap.size w W1 := by rw [hW1]; exact (by repeat (first | exact Below.refl _ _ | refine below_alloc ?_ _ | refine below_drewN0 ?_ _ | refine below_drew0 ?_ | refine below_step ?_ (by assumption) | refine below_later ?_ _ | refine below_setCell0 ?_ (by first | exact Nat.le_refl _ | (simp; done) | omega | (simp; omega)) _))
    have g1 : PlAt W1 w.heap.size P := by rw [hW1]; exact ⟨by simp; try omega, by simp [go_sem], by simp [go_sem], by simp [go_sem], by simp [go_sem]⟩
    have g2 : PlAt W1 (w.heap.size + 1) Q := by rw [hW1]; exact ⟨by simp; try omega, by simp [go_sem], by simp [go_sem], by simp [go_sem], by simp [go_sem]⟩
    have hlt : w.heap.size + 1 + 1 < W1.heap.size := by rw [hW1]; simp
    have c4 : W1.cell? ⟨w.heap.size + 1 + 1, 0, none⟩ = some (.int .i64 d) := by rw [hW1]; simp [go_sem]
    have c5 : W1.cell? ⟨w.heap.size + 1 + 1, 1, none⟩ = some (.int .i64 m) := by rw [hW1]; simp [go_sem]
    clear hW1
    (refine later_intro ?_; intro y)
    (go_at_call 62; refine (later_below (l07Ask_any d m _ (g1.later _) (g2.later _))).mono ?_; rintro e w' ⟨rfl, y, rfl⟩)
    go_wp2
    go_ret2
    exact ⟨by rw [HO.out]; rfl, below_later hbW _⟩
  · have HO : Hid (seenO P Q d m = (0, 6)) := by show _ = _; rw [seenO_no (by rw [hk]; omega), hk]
    go_enter Tryd.func30, Tryd.ntmps30
    go_wp2_with (fail)
    refine calls_named ?_
    intro W1 hW1
    have hbW : Below w.heap.size w W1 := by rw [hW1]; exact (by repeat (first | exact Below.refl _ _ | refine below_alloc ?_ _ | refine below_drewN0 ?_ _ | refine below_drew0 ?_ | refine below_step ?_ (by assumption) | refine below_later ?_ _ | refine below_setCell0 ?_ (by first | exact Nat.le_refl _ | (simp; done) | omega | (simp; omega)) _))
    have g1 : PlAt W1 w.heap.size P := by rw [hW1]; exact ⟨by simp; try omega, by simp [go_sem], by simp [go_sem], by simp [go_sem], by simp [go_sem]⟩
    have g2 : PlAt W1 (w.heap.size + 1) Q := by rw [hW1]; exact ⟨by simp; try omega, by simp [go_sem], by simp [go_sem], by simp [go_sem], by simp [go_sem]⟩
    have hlt : w.heap.size + 1 + 1 < W1.heap.size := by rw [hW1]; simp
    have c4 : W1.cell? ⟨w.heap.size + 1 + 1, 0, none⟩ = some (.int .i64 d) := by rw [hW1]; simp [go_sem]
    have c5 : W1.cell? ⟨w.heap.size + 1 + 1, 1, none⟩ = some (.int .i64 m) := by rw [hW1]; simp [go_sem]
    clear hW1
    (refine later_intro ?_; intro y)
    (go_at_call 62; refine (later_below (l07Ask_any d m _ (g1.later _) (g2.later _))).mono ?_; rintro e w' ⟨rfl, y, rfl⟩)
    go_wp2
    go_ret2
    exact ⟨by rw [HO.out]; rfl, below_later hbW _⟩
  · have HO := Lib.hid (seenO_ok hk)
    obtain ⟨v1, v2, v3⟩ := wyV_parts hv
    obtain ⟨q1, q2, q3, q4⟩ := wy_bd hv
    go_enter Tryd.func30, Tryd.ntmps30
    go_wp2_with (fail)
    refine calls_named ?_
    intro W1 hW1
    have hbW : Below w.heap.size w W1 := by rw [hW1]; exact (by repeat (first | exact Below.refl _ _ | refine below_alloc ?_ _ | refine below_drewN0 ?_ _ | refine below_drew0 ?_ | refine below_step ?_ (by assumption) | refine below_later ?_ _ | refine below_setCell0 ?_ (by first | exact Nat.le_refl _ | (simp; done) | omega | (simp; omega)) _))
    have g1 : PlAt W1 w.heap.size P := by rw [hW1]; exact ⟨by simp; try omega, by simp [go_sem], by simp [go_sem], by simp [go_sem], by simp [go_sem]⟩
    have g2 : PlAt W1 (w.heap.size + 1) Q := by rw [hW1]; exact ⟨by simp; try omega, by simp [go_sem], by simp [go_sem], by simp [go_sem], by simp [go_sem]⟩
    have hlt : w.heap.size + 1 + 1 < W1.heap.size := by rw [hW1]; simp
    have c4 : W1.cell? ⟨w.heap.size + 1 + 1, 0, none⟩ = some (.int .i64 d) := by rw [hW1]; simp [go_sem]
    have c5 : W1.cell? ⟨w.heap.size + 1 + 1, 1, none⟩ = some (.int .i64 m) := by rw [hW1]; simp [go_sem]
    clear hW1
    (refine later_intro ?_; intro y)
    (go_at_call 62; refine (later_below (l07Ask_any d m _ (g1.later _) (g2.later _))).mono ?_; rintro e w' ⟨rfl, y, rfl⟩)
    go_wp2_with ((go_at_call 63; refine (later_below (l07Seen_any d m _ (g1.later _) (g2.later _) hv)).mono ?_; rintro e w' ⟨rfl, y, rfl⟩))
    go_ret2
    exact ⟨by rw [HO.out]; rfl, below_later hbW _⟩
set_option maxHeartbeats 4000000 in
theorem sSeenDistance_any (P Q : PlB) (d m : Int) (w : World) :
    Calls Tryd.prog 36 #[.agg #[.string P.n, .int .i64 P.p, .int .i64 P.r, .int .i64 P.u], .agg #[.string Q.n, .int .i64 Q.p, .int .i64 Q.r, .int .i64 Q.u], .agg #[.int .i64 d, .int .i64 m]] w fun e w' => e = .returned (.tuple #[.int .i64 (distO P Q d m).1, .int .i64 (distO P Q d m).2]) ∧ Below w.heap.size w w' := by
  rcases wyC_cases P Q d m with ⟨hk, hv⟩ | ⟨hk, hv, hz⟩ | ⟨hk, hv, hz⟩
  · have HO : Hid (distO P Q d m = (0, 1)) := by show _ = _; rw [distO_no (by rw [hk]; omega), hk]
    go_enter Tryd.func36, Tryd.ntmps36
    go_wp2_with (fail)
    refine calls_named ?_
    intro W1 hW1
    have hbW : Below w.heap.size w W1 := by rw [hW1]; exact (by repeat (first | exact Below.refl _ _ | refine below_alloc ?_ _ | refine below_drewN0 ?_ _ | refine below_drew0 ?_ | refine below_step ?_ (by assumption) | refine below_later ?_ _ | refine below_setCell0 ?_ (by first | exact Nat.le_refl _ | (simp; done) | omega | (simp; omega)) _))
    have g1 : PlAt W1 w.heap.size P := by rw [hW1]; exact ⟨by simp; try omega, by simp [go_sem], by simp [go_sem], by simp [go_sem], by simp [go_sem]⟩
    have g2 : PlAt W1 (w.heap.size + 1) Q := by rw [hW1]; exact ⟨by simp; try omega, by simp [go_sem], by simp [go_sem], by simp [go_sem], by simp [go_sem]⟩
    have hlt : w.heap.size + 1 + 1 < W1.heap.size := by rw [hW1]; simp
    have c4 : W1.cell? ⟨w.heap.size + 1 + 1, 0, none⟩ = some (.int .i64 d) := by rw [hW1]; simp [go_sem]
    have c5 : W1.cell? ⟨w.heap.size + 1 + 1, 1, none⟩ = some (.int .i64 m) := by rw [hW1]; simp [go_sem]
    clear hW1
    (refine later_intro ?_; intro y)
    (go_at_call 62; refine (later_below (l07Ask_any d m _ (g1.later _) (g2.later _))).mono ?_; rintro e w' ⟨rfl, y, rfl⟩)
    go_wp2
    go_ret2
    exact ⟨by rw [HO.out]; rfl, below_later hbW _⟩
  · have HO : Hid (distO P Q d m = (0, 6)) := by show _ = _; rw [distO_no (by rw [hk]; omega), hk]
    go_enter Tryd.func36, Tryd.ntmps36
    go_wp2_with (fail)
    refine calls_named ?_
    intro W1 hW1
    have hbW : Below w.heap.size w W1 := by rw [hW1]; exact (by repeat (first | exact Below.refl _ _ | refine below_alloc ?_ _ | refine below_drewN0 ?_ _ | refine below_drew0 ?_ | refine below_step ?_ (by assumption) | refine below_later ?_ _ | refine below_setCell0 ?_ (by first | exact Nat.le_refl _ | (simp; done) | omega | (simp; omega)) _))
    have g1 : PlAt W1 w.heap.size P := by rw [hW1]; exact ⟨by simp; try omega, by simp [go_sem], by simp [go_sem], by simp [go_sem], by simp [go_sem]⟩
    have g2 : PlAt W1 (w.heap.size + 1) Q := by rw [hW1]; exact ⟨by simp; try omega, by simp [go_sem], by simp [go_sem], by simp [go_sem], by simp [go_sem]⟩
    have hlt : w.heap.size + 1 + 1 < W1.heap.size := by rw [hW1]; simp
    have c4 : W1.cell? ⟨w.heap.size + 1 + 1, 0, none⟩ = some (.int .i64 d) := by rw [hW1]; simp [go_sem]
    have c5 : W1.cell? ⟨w.heap.size + 1 + 1, 1, none⟩ = some (.int .i64 m) := by rw [hW1]; simp [go_sem]
    clear hW1
    (refine later_intro ?_; intro y)
    (go_at_call 62; refine (later_below (l07Ask_any d m _ (g1.later _) (g2.later _))).mono ?_; rintro e w' ⟨rfl, y, rfl⟩)
    go_wp2
    go_ret2
    exact ⟨by rw [HO.out]; rfl, below_later hbW _⟩
  · have HO := Lib.hid (distO_ok hk)
    obtain ⟨v1, v2, v3⟩ := wyV_parts hv
    obtain ⟨q1, q2, q3, q4⟩ := wy_bd hv
    obtain ⟨s1, s2⟩ := sq_bd (wyX P Q d m) 100000000 (by omega)
    obtain ⟨s3, s4⟩ := sq_bd (wyY P Q d m) 100000000 (by omega)
    go_enter Tryd.func36, Tryd.ntmps36
    go_wp2_with (fail)
    refine calls_named ?_
    intro W1 hW1
    have hbW : Below w.heap.size w W1 := by rw [hW1]; exact (by repeat (first | exact Below.refl _ _ | refine below_alloc ?_ _ | refine below_drewN0 ?_ _ | refine below_drew0 ?_ | refine below_step ?_ (by assumption) | refine below_later ?_ _ | refine below_setCell0 ?_ (by first | exact Nat.le_refl _ | (simp; done) | omega | (simp; omega)) _))
    have g1 : PlAt W1 w.heap.size P := by rw [hW1]; exact ⟨by simp; try omega, by simp [go_sem], by simp [go_sem], by simp [go_sem], by simp [go_sem]⟩
    have g2 : PlAt W1 (w.heap.size + 1) Q := by rw [hW1]; exact ⟨by simp; try omega, by simp [go_sem], by simp [go_sem], by simp [go_sem], by simp [go_sem]⟩
    have hlt : w.heap.size + 1 + 1 < W1.heap.size := by rw [hW1]; simp
    have c4 : W1.cell? ⟨w.heap.size + 1 + 1, 0, none⟩ = some (.int .i64 d) := by rw [hW1]; simp [go_sem]
    have c5 : W1.cell? ⟨w.heap.size + 1 + 1, 1, none⟩ = some (.int .i64 m) := by rw [hW1]; simp [go_sem]
    clear hW1
    (refine later_intro ?_; intro y)
    (go_at_call 62; refine (later_below (l07Ask_any d m _ (g1.later _) (g2.later _))).mono ?_; rintro e w' ⟨rfl, y, rfl⟩)
    go_wp2_with (first | (go_at_call 71; refine (later_below (l07Way_any d m _ (g1.later _) (g2.later _) v1 v2 v3)).mono ?_; rintro e w' ⟨rfl, y, rfl⟩) | (go_at_call 72; refine (later_same (l01Root_any _ _ (by omega))).mono ?_; rintro e w' ⟨rfl, y, rfl⟩))
    go_ret2
    exact ⟨by rw [HO.out]; rfl, below_later hbW _⟩
set_option maxHeartbeats 4000000 in
theorem sElongation_any (P Q : PlB) (d m : Int) (w : World) :
    Calls Tryd.prog 32 #[.agg #[.string P.n, .int .i64 P.p, .int .i64 P.r, .int .i64 P.u], .agg #[.string Q.n, .int .i64 Q.p, .int .i64 Q.r, .int .i64 Q.u], .agg #[.int .i64 d, .int .i64 m]] w fun e w' => e = .returned (.tuple #[.int .i64 (elO P Q d m).1, .int .i64 (elO P Q d m).2]) ∧ Below w.heap.size w w' := by
  rcases wyC_cases P Q d m with ⟨hk, hv⟩ | ⟨hk, hv, hz⟩ | ⟨hk, hv, hz⟩
  · have HO : Hid (elO P Q d m = (0, 1)) := by show _ = _; rw [elO_no (by rw [hk]; omega), hk]
    go_enter Tryd.func32, Tryd.ntmps32
    go_wp2_with (fail)
    refine calls_named ?_
    intro W1 hW1
    have hbW : Below w.heap.size w W1 := by rw [hW1]; exact (by repeat (first | exact Below.refl _ _ | refine below_alloc ?_ _ | refine below_drewN0 ?_ _ | refine below_drew0 ?_ | refine below_step ?_ (by assumption) | refine below_later ?_ _ | refine below_setCell0 ?_ (by first | exact Nat.le_refl _ | (simp; done) | omega | (simp; omega)) _))
    have g1 : PlAt W1 w.heap.size P := by rw [hW1]; exact ⟨by simp; try omega, by simp [go_sem], by simp [go_sem], by simp [go_sem], by simp [go_sem]⟩
    have g2 : PlAt W1 (w.heap.size + 1) Q := by rw [hW1]; exact ⟨by simp; try omega, by simp [go_sem], by simp [go_sem], by simp [go_sem], by simp [go_sem]⟩
    have hlt : w.heap.size + 1 + 1 < W1.heap.size := by rw [hW1]; simp
    have c4 : W1.cell? ⟨w.heap.size + 1 + 1, 0, none⟩ = some (.int .i64 d) := by rw [hW1]; simp [go_sem]
    have c5 : W1.cell? ⟨w.heap.size + 1 + 1, 1, none⟩ = some (.int .i64 m) := by rw [hW1]; simp [go_sem]
    clear hW1
    (refine later_intro ?_; intro y)
    (go_at_call 62; refine (later_below (l07Ask_any d m _ (g1.later _) (g2.later _))).mono ?_; rintro e w' ⟨rfl, y, rfl⟩)
    go_wp2
    go_ret2
    exact ⟨by rw [HO.out]; rfl, below_later hbW _⟩
  · have HO : Hid (elO P Q d m = (0, 6)) := by show _ = _; rw [elO_no (by rw [hk]; omega), hk]
    go_enter Tryd.func32, Tryd.ntmps32
    go_wp2_with (fail)
    refine calls_named ?_
    intro W1 hW1
    have hbW : Below w.heap.size w W1 := by rw [hW1]; exact (by repeat (first | exact Below.refl _ _ | refine below_alloc ?_ _ | refine below_drewN0 ?_ _ | refine below_drew0 ?_ | refine below_step ?_ (by assumption) | refine below_later ?_ _ | refine below_setCell0 ?_ (by first | exact Nat.le_refl _ | (simp; done) | omega | (simp; omega)) _))
    have g1 : PlAt W1 w.heap.size P := by rw [hW1]; exact ⟨by simp; try omega, by simp [go_sem], by simp [go_sem], by simp [go_sem], by simp [go_sem]⟩
    have g2 : PlAt W1 (w.heap.size + 1) Q := by rw [hW1]; exact ⟨by simp; try omega, by simp [go_sem], by simp [go_sem], by simp [go_sem], by simp [go_sem]⟩
    have hlt : w.heap.size + 1 + 1 < W1.heap.size := by rw [hW1]; simp
    have c4 : W1.cell? ⟨w.heap.size + 1 + 1, 0, none⟩ = some (.int .i64 d) := by rw [hW1]; simp [go_sem]
    have c5 : W1.cell? ⟨w.heap.size + 1 + 1, 1, none⟩ = some (.int .i64 m) := by rw [hW1]; simp [go_sem]
    clear hW1
    (refine later_intro ?_; intro y)
    (go_at_call 62; refine (later_below (l07Ask_any d m _ (g1.later _) (g2.later _))).mono ?_; rintro e w' ⟨rfl, y, rfl⟩)
    go_wp2
    go_ret2
    exact ⟨by rw [HO.out]; rfl, below_later hbW _⟩
  · have HO := Lib.hid (elO_ok hk)
    obtain ⟨v1, v2, v3⟩ := wyV_parts hv
    obtain ⟨q1, q2, q3, q4⟩ := wy_bd hv
    obtain ⟨r1, r2⟩ := arcI_bd (wyY P Q d m) (wyX P Q d m)
    have ha : 0 ≤ angP Q d m ∧ angP Q d m ≤ 359999 := angleI_bd _ _ _ _
    obtain ⟨a1, a2⟩ := ha
    have hn := nrm_bd (angP Q d m + 180000)
    obtain ⟨n1, n2⟩ := hn
    have C1 : Hid (∀ W, Calls Tryd.prog 66 #[.int .i64 (arcI (wyY P Q d m) (wyX P Q d m)), .int .i64 (nrm (angP Q d m + 180000))] W fun e w' => e = .returned (.int .i64 (betI (arcI (wyY P Q d m) (wyX P Q d m)) (angP Q d m + 180000))) ∧ W = w') := fun W => by
      have := l02Between_any (arcI (wyY P Q d m) (wyX P Q d m)) (nrm (angP Q d m + 180000)) W (by omega) (by omega)
      rwa [(betI_nrm _ _).1] at this
    have w1 : IntKind.i64.wrap (angP Q d m + 180000) = angP Q d m + 180000 := wrap_in (by omega) (by omega)
    go_enter Tryd.func32, Tryd.ntmps32
    go_wp2_with (fail)
    refine calls_named ?_
    intro W1 hW1
    have hbW : Below w.heap.size w W1 := by rw [hW1]; exact (by repeat (first | exact Below.refl _ _ | refine below_alloc ?_ _ | refine below_drewN0 ?_ _ | refine below_drew0 ?_ | refine below_step ?_ (by assumption) | refine below_later ?_ _ | refine below_setCell0 ?_ (by first | exact Nat.le_refl _ | (simp; done) | omega | (simp; omega)) _))
    have g1 : PlAt W1 w.heap.size P := by rw [hW1]; exact ⟨by simp; try omega, by simp [go_sem], by simp [go_sem], by simp [go_sem], by simp [go_sem]⟩
    have g2 : PlAt W1 (w.heap.size + 1) Q := by rw [hW1]; exact ⟨by simp; try omega, by simp [go_sem], by simp [go_sem], by simp [go_sem], by simp [go_sem]⟩
    have hlt : w.heap.size + 1 + 1 < W1.heap.size := by rw [hW1]; simp
    have c4 : W1.cell? ⟨w.heap.size + 1 + 1, 0, none⟩ = some (.int .i64 d) := by rw [hW1]; simp [go_sem]
    have c5 : W1.cell? ⟨w.heap.size + 1 + 1, 1, none⟩ = some (.int .i64 m) := by rw [hW1]; simp [go_sem]
    clear hW1
    (refine later_intro ?_; intro y)
    (go_at_call 62; refine (later_below (l07Ask_any d m _ (g1.later _) (g2.later _))).mono ?_; rintro e w' ⟨rfl, y, rfl⟩)
    go_wp2_with (fail)
    (refine wp_region_later (by kernel_rfl) (by kernel_rfl) ?_; (repeat (quiet_step ((first | (go_at_call 63; exact later_below (l07Seen_any d m _ (g1.later _) (g2.later _) hv)) | (go_at_call 67; exact later_below (l07Angle_at (g2.later _) v2 v3)) | (go_at_call 60; exact later_same (l02Normal_any _ _ (by omega) (by omega))) | (go_at_call 66; exact later_same (C1.out _)))))); refine wpQuiet_nil ?_; rintro _ ⟨y, rfl⟩)
    go_wp2
    go_ret2
    exact ⟨by rw [HO.out]; rfl, below_later hbW _⟩
set_option maxHeartbeats 4000000 in
theorem sPhaseOf_any (P Q : PlB) (d m : Int) (w : World) :
    Calls Tryd.prog 34 #[.agg #[.string P.n, .int .i64 P.p, .int .i64 P.r, .int .i64 P.u], .agg #[.string Q.n, .int .i64 Q.p, .int .i64 Q.r, .int .i64 Q.u], .agg #[.int .i64 d, .int .i64 m]] w fun e w' => e = .returned (.tuple #[.int .i64 (phO P Q d m).1, .int .i64 (phO P Q d m).2]) ∧ Below w.heap.size w w' := by
  rcases wyC_cases P Q d m with ⟨hk, hv⟩ | ⟨hk, hv, hz⟩ | ⟨hk, hv, hz⟩
  · have HO : Hid (phO P Q d m = (0, 1)) := by show _ = _; rw [phO_no (by rw [hk]; omega), hk]
    go_enter Tryd.func34, Tryd.ntmps34
    go_wp2_with (fail)
    refine calls_named ?_
    intro W1 hW1
    have hbW : Below w.heap.size w W1 := by rw [hW1]; exact (by repeat (first | exact Below.refl _ _ | refine below_alloc ?_ _ | refine below_drewN0 ?_ _ | refine below_drew0 ?_ | refine below_step ?_ (by assumption) | refine below_later ?_ _ | refine below_setCell0 ?_ (by first | exact Nat.le_refl _ | (simp; done) | omega | (simp; omega)) _))
    have g1 : PlAt W1 w.heap.size P := by rw [hW1]; exact ⟨by simp; try omega, by simp [go_sem], by simp [go_sem], by simp [go_sem], by simp [go_sem]⟩
    have g2 : PlAt W1 (w.heap.size + 1) Q := by rw [hW1]; exact ⟨by simp; try omega, by simp [go_sem], by simp [go_sem], by simp [go_sem], by simp [go_sem]⟩
    have hlt : w.heap.size + 1 + 1 < W1.heap.size := by rw [hW1]; simp
    have c4 : W1.cell? ⟨w.heap.size + 1 + 1, 0, none⟩ = some (.int .i64 d) := by rw [hW1]; simp [go_sem]
    have c5 : W1.cell? ⟨w.heap.size + 1 + 1, 1, none⟩ = some (.int .i64 m) := by rw [hW1]; simp [go_sem]
    clear hW1
    (refine later_intro ?_; intro y)
    (go_at_call 62; refine (later_below (l07Ask_any d m _ (g1.later _) (g2.later _))).mono ?_; rintro e w' ⟨rfl, y, rfl⟩)
    go_wp2
    go_ret2
    exact ⟨by rw [HO.out]; rfl, below_later hbW _⟩
  · have HO : Hid (phO P Q d m = (0, 6)) := by show _ = _; rw [phO_no (by rw [hk]; omega), hk]
    go_enter Tryd.func34, Tryd.ntmps34
    go_wp2_with (fail)
    refine calls_named ?_
    intro W1 hW1
    have hbW : Below w.heap.size w W1 := by rw [hW1]; exact (by repeat (first | exact Below.refl _ _ | refine below_alloc ?_ _ | refine below_drewN0 ?_ _ | refine below_drew0 ?_ | refine below_step ?_ (by assumption) | refine below_later ?_ _ | refine below_setCell0 ?_ (by first | exact Nat.le_refl _ | (simp; done) | omega | (simp; omega)) _))
    have g1 : PlAt W1 w.heap.size P := by rw [hW1]; exact ⟨by simp; try omega, by simp [go_sem], by simp [go_sem], by simp [go_sem], by simp [go_sem]⟩
    have g2 : PlAt W1 (w.heap.size + 1) Q := by rw [hW1]; exact ⟨by simp; try omega, by simp [go_sem], by simp [go_sem], by simp [go_sem], by simp [go_sem]⟩
    have hlt : w.heap.size + 1 + 1 < W1.heap.size := by rw [hW1]; simp
    have c4 : W1.cell? ⟨w.heap.size + 1 + 1, 0, none⟩ = some (.int .i64 d) := by rw [hW1]; simp [go_sem]
    have c5 : W1.cell? ⟨w.heap.size + 1 + 1, 1, none⟩ = some (.int .i64 m) := by rw [hW1]; simp [go_sem]
    clear hW1
    (refine later_intro ?_; intro y)
    (go_at_call 62; refine (later_below (l07Ask_any d m _ (g1.later _) (g2.later _))).mono ?_; rintro e w' ⟨rfl, y, rfl⟩)
    go_wp2
    go_ret2
    exact ⟨by rw [HO.out]; rfl, below_later hbW _⟩
  · have HO := Lib.hid (phO_ok hk)
    obtain ⟨v1, v2, v3⟩ := wyV_parts hv
    obtain ⟨q1, q2, q3, q4⟩ := wy_bd hv
    have hv' : wyV Q P d m = true := by simp [wyV, v1, v2, v3]
    obtain ⟨r1, r2⟩ := arcI_bd (wyY Q P d m) (wyX Q P d m)
    have ha : 0 ≤ angP P d m ∧ angP P d m ≤ 359999 := angleI_bd _ _ _ _
    obtain ⟨a1, a2⟩ := ha
    have hn := nrm_bd (angP P d m + 180000)
    obtain ⟨n1, n2⟩ := hn
    have HP : Hid (phI P Q d m = betI (angP P d m + 180000) (arcI (wyY Q P d m) (wyX Q P d m))) := rfl
    have hph := betI_bd (angP P d m + 180000) (arcI (wyY Q P d m) (wyX Q P d m))
    rw [← HP.out] at hph
    obtain ⟨f1, f2⟩ := hph
    obtain ⟨f3, f4⟩ := cosI_bd (phI P Q d m)
    have C1 : Hid (∀ W, Calls Tryd.prog 66 #[.int .i64 (nrm (angP P d m + 180000)), .int .i64 (arcI (wyY Q P d m) (wyX Q P d m))] W fun e w' => e = .returned (.int .i64 (phI P Q d m)) ∧ W = w') := fun W => by
      have := l02Between_any (nrm (angP P d m + 180000)) (arcI (wyY Q P d m) (wyX Q P d m)) W (by omega) (by omega)
      rwa [(betI_nrm _ _).2] at this
    have w1 : IntKind.i64.wrap (angP P d m + 180000) = angP P d m + 180000 := wrap_in (by omega) (by omega)
    go_enter Tryd.func34, Tryd.ntmps34
    go_wp2_with (fail)
    refine calls_named ?_
    intro W1 hW1
    have hbW : Below w.heap.size w W1 := by rw [hW1]; exact (by repeat (first | exact Below.refl _ _ | refine below_alloc ?_ _ | refine below_drewN0 ?_ _ | refine below_drew0 ?_ | refine below_step ?_ (by assumption) | refine below_later ?_ _ | refine below_setCell0 ?_ (by first | exact Nat.le_refl _ | (simp; done) | omega | (simp; omega)) _))
    have g1 : PlAt W1 w.heap.size P := by rw [hW1]; exact ⟨by simp; try omega, by simp [go_sem], by simp [go_sem], by simp [go_sem], by simp [go_sem]⟩
    have g2 : PlAt W1 (w.heap.size + 1) Q := by rw [hW1]; exact ⟨by simp; try omega, by simp [go_sem], by simp [go_sem], by simp [go_sem], by simp [go_sem]⟩
    have hlt : w.heap.size + 1 + 1 < W1.heap.size := by rw [hW1]; simp
    have c4 : W1.cell? ⟨w.heap.size + 1 + 1, 0, none⟩ = some (.int .i64 d) := by rw [hW1]; simp [go_sem]
    have c5 : W1.cell? ⟨w.heap.size + 1 + 1, 1, none⟩ = some (.int .i64 m) := by rw [hW1]; simp [go_sem]
    clear hW1
    (refine later_intro ?_; intro y)
    (go_at_call 62; refine (later_below (l07Ask_any d m _ (g1.later _) (g2.later _))).mono ?_; rintro e w' ⟨rfl, y, rfl⟩)
    go_wp2_with (fail)
    (refine wp_region_later (by kernel_rfl) (by kernel_rfl) ?_; (repeat (quiet_step ((first | (go_at_call 63; exact later_below (l07Seen_any d m _ (g2.later _) (g1.later _) hv')) | (go_at_call 67; exact later_below (l07Angle_at (g1.later _) v1 v3)) | (go_at_call 60; exact later_same (l02Normal_any _ _ (by omega) (by omega))) | (go_at_call 66; exact later_same (C1.out _)))))); refine wpQuiet_nil ?_; rintro _ ⟨y, rfl⟩)
    go_wp2_with (first | (go_at_call 70; refine (later_below (l02Cosine_any _ _ (by omega) (by omega))).mono ?_; rintro e w' ⟨rfl, y, rfl⟩) | (go_at_call 69; refine (later_same (l01Div_any _ _ _ (by omega) (by omega) (by omega) (by omega))).mono ?_; rintro e w' ⟨rfl, y, rfl⟩))
    go_ret2
    exact ⟨by rw [HO.out]; rfl, below_later hbW _⟩
end Go.Proofs.YtbgjmahamhppfaaDoor
