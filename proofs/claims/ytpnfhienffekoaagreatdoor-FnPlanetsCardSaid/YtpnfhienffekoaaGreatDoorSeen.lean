/- Contracts of the functions that tell where and how a planet is seen. -/
import Derived.Test.YtpnfhienffekoaaGreatDoorWay
namespace Go.Proofs.YtpnfhienffekoaaGreatDoor
set_option linter.unusedVariables false
set_option linter.unusedSimpArgs false
open Go.RowKit
set_option maxHeartbeats 2000000 in
theorem SeenAngle_any (P Q : PlB) (d m : Int) (w : World) (hS : SinOk w) :
    Calls Tryz.prog 17 #[.agg #[.string P.n, .int .i64 P.p, .int .i64 P.r, .int .i64 P.u], .agg #[.string Q.n, .int .i64 Q.p, .int .i64 Q.r, .int .i64 Q.u], .agg #[.int .i64 d, .int .i64 m]] w fun e w' => e = .returned (.tuple #[.int .i64 (seenO P Q d m).1, .int .i64 (seenO P Q d m).2]) ∧ Below w.heap.size w w' := by
  rcases wyC_cases P Q d m with ⟨hk, hv⟩ | ⟨hk, hv, hz⟩ | ⟨hk, hv, hz⟩
  · have HO : Hid (seenO P Q d m = (0, 1)) := by show _ = _; rw [seenO_no (by rw [hk]; omega), hk]
    go_enter Tryz.func17, Tryz.ntmps17
    go_wp2_with (fail)
    (refine later_intro ?_; intro y)
    go_wp2_with ((go_at_call 62; refine (later_below (wayTo_any P Q d m _ (SinOk.later (((hS.alloc _).alloc _).alloc _) _))).mono ?_; rintro e w' ⟨rfl, y, rfl⟩))
    go_ret2
    exact ⟨by rw [HO.out]; rfl, (by repeat (first | exact Below.refl _ _ | refine below_alloc ?_ _ | refine below_drewN0 ?_ _ | refine below_drew0 ?_ | refine below_step ?_ (by assumption) | refine below_later ?_ _ | refine below_setCell0 ?_ (by first | exact Nat.le_refl _ | (simp; done) | omega | (simp; omega)) _))⟩
  · have HO : Hid (seenO P Q d m = (0, 6)) := by show _ = _; rw [seenO_no (by rw [hk]; omega), hk]
    go_enter Tryz.func17, Tryz.ntmps17
    go_wp2_with (fail)
    (refine later_intro ?_; intro y)
    go_wp2_with ((go_at_call 62; refine (later_below (wayTo_any P Q d m _ (SinOk.later (((hS.alloc _).alloc _).alloc _) _))).mono ?_; rintro e w' ⟨rfl, y, rfl⟩))
    go_ret2
    exact ⟨by rw [HO.out]; rfl, (by repeat (first | exact Below.refl _ _ | refine below_alloc ?_ _ | refine below_drewN0 ?_ _ | refine below_drew0 ?_ | refine below_step ?_ (by assumption) | refine below_later ?_ _ | refine below_setCell0 ?_ (by first | exact Nat.le_refl _ | (simp; done) | omega | (simp; omega)) _))⟩
  · have HO : Hid (seenO P Q d m = (arcI (wyY P Q d m) (wyX P Q d m), 0)) := seenO_ok hk
    obtain ⟨q1, q2, q3, q4⟩ := wy_bd hv
    have ha := arc_in (y := wyY P Q d m) (x := wyX P Q d m) (by omega) (by omega) ((wyZ_iff' _ _ _ _).1 hz)
    have a1 : (arcO (wyY P Q d m) (wyX P Q d m)).1 = arcI (wyY P Q d m) (wyX P Q d m) := by rw [ha]
    have a2 : (arcO (wyY P Q d m) (wyX P Q d m)).2 = 0 := by rw [ha]
    clear ha
    go_enter Tryz.func17, Tryz.ntmps17
    go_wp2_with (fail)
    (refine later_intro ?_; intro y)
    (go_at_call 62; refine (later_below (wayTo_any P Q d m _ (SinOk.later (((hS.alloc _).alloc _).alloc _) _))).mono ?_; rintro e w' ⟨rfl, y, rfl⟩)
    rw [hk, if_pos rfl, if_pos rfl]
    go_wp2_with ((go_at_call 64; refine (later_drew (ArcTangent_any _ _ _ (SinOk.later (((hS.alloc _).alloc _).alloc _) _))).mono ?_; rintro e w' ⟨rfl, y, rfl⟩))
    go_ret2
    exact ⟨by rw [HO.out]; rfl, (by repeat (first | exact Below.refl _ _ | refine below_alloc ?_ _ | refine below_drewN0 ?_ _ | refine below_drew0 ?_ | refine below_step ?_ (by assumption) | refine below_later ?_ _ | refine below_setCell0 ?_ (by first | exact Nat.le_refl _ | (simp; done) | omega | (simp; omega)) _))⟩
set_option maxHeartbeats 2000000 in
theorem SeenDistance_any (P Q : PlB) (d m : Int) (w : World) (hS : SinOk w) :
    Calls Tryz.prog 16 #[.agg #[.string P.n, .int .i64 P.p, .int .i64 P.r, .int .i64 P.u], .agg #[.string Q.n, .int .i64 Q.p, .int .i64 Q.r, .int .i64 Q.u], .agg #[.int .i64 d, .int .i64 m]] w fun e w' => e = .returned (.tuple #[.int .i64 (distO P Q d m).1, .int .i64 (distO P Q d m).2]) ∧ Below w.heap.size w w' := by
  rcases wyC_cases P Q d m with ⟨hk, hv⟩ | ⟨hk, hv, hz⟩ | ⟨hk, hv, hz⟩
  · have HO : Hid (distO P Q d m = (0, 1)) := by show _ = _; rw [distO_no (by rw [hk]; omega), hk]
    go_enter Tryz.func16, Tryz.ntmps16
    go_wp2_with (fail)
    (refine later_intro ?_; intro y)
    go_wp2_with ((go_at_call 62; refine (later_below (wayTo_any P Q d m _ (SinOk.later (((hS.alloc _).alloc _).alloc _) _))).mono ?_; rintro e w' ⟨rfl, y, rfl⟩))
    go_ret2
    exact ⟨by rw [HO.out]; rfl, (by repeat (first | exact Below.refl _ _ | refine below_alloc ?_ _ | refine below_drewN0 ?_ _ | refine below_drew0 ?_ | refine below_step ?_ (by assumption) | refine below_later ?_ _ | refine below_setCell0 ?_ (by first | exact Nat.le_refl _ | (simp; done) | omega | (simp; omega)) _))⟩
  · have HO : Hid (distO P Q d m = (0, 6)) := by show _ = _; rw [distO_no (by rw [hk]; omega), hk]
    go_enter Tryz.func16, Tryz.ntmps16
    go_wp2_with (fail)
    (refine later_intro ?_; intro y)
    go_wp2_with ((go_at_call 62; refine (later_below (wayTo_any P Q d m _ (SinOk.later (((hS.alloc _).alloc _).alloc _) _))).mono ?_; rintro e w' ⟨rfl, y, rfl⟩))
    go_ret2
    exact ⟨by rw [HO.out]; rfl, (by repeat (first | exact Below.refl _ _ | refine below_alloc ?_ _ | refine below_drewN0 ?_ _ | refine below_drew0 ?_ | refine below_step ?_ (by assumption) | refine below_later ?_ _ | refine below_setCell0 ?_ (by first | exact Nat.le_refl _ | (simp; done) | omega | (simp; omega)) _))⟩
  · have HO : Hid (distO P Q d m = (rootI (wyX P Q d m * wyX P Q d m + wyY P Q d m * wyY P Q d m), 0)) := distO_ok hk
    obtain ⟨q1, q2, q3, q4⟩ := wy_bd hv
    obtain ⟨s1, s2⟩ := sq_bdP (wyX P Q d m) 100000000 (by omega)
    obtain ⟨s3, s4⟩ := sq_bdP (wyY P Q d m) 100000000 (by omega)
    go_enter Tryz.func16, Tryz.ntmps16
    go_wp2_with (fail)
    (refine later_intro ?_; intro y)
    (go_at_call 62; refine (later_below (wayTo_any P Q d m _ (SinOk.later (((hS.alloc _).alloc _).alloc _) _))).mono ?_; rintro e w' ⟨rfl, y, rfl⟩)
    rw [hk, if_pos rfl, if_pos rfl]
    go_wp2_with ((go_at_call 63; refine (later_same (RootOf_any _ _ (by omega))).mono ?_; rintro e w' ⟨rfl, y, rfl⟩))
    go_ret2
    exact ⟨by rw [HO.out]; rfl, (by repeat (first | exact Below.refl _ _ | refine below_alloc ?_ _ | refine below_drewN0 ?_ _ | refine below_drew0 ?_ | refine below_step ?_ (by assumption) | refine below_later ?_ _ | refine below_setCell0 ?_ (by first | exact Nat.le_refl _ | (simp; done) | omega | (simp; omega)) _))⟩
end Go.Proofs.YtpnfhienffekoaaGreatDoor
