/- Contracts of the functions on ways between planets and on what is seen. -/
import Derived.Test.YtpnfhienffekoaaGreatDoorPlan
namespace Go.Proofs.YtpnfhienffekoaaGreatDoor
set_option linter.unusedVariables false
set_option linter.unusedSimpArgs false
open Go.RowKit
theorem plO_no {P : PlB} {d m : Int} (h : (vP P && vMoment d m) = false) : (plO P d m).1 = 0 ∧ (plO P d m).2.1 = 0 ∧ (plO P d m).2.2 = 1 := by
  have e : plO P d m = (0, 0, 1) := by rw [plO, h]; rfl
  rw [e]; exact ⟨rfl, rfl, rfl⟩
theorem plO_yes {P : PlB} {d m : Int} (h : (vP P && vMoment d m) = true) : (plO P d m).1 = plX P d m ∧ (plO P d m).2.1 = plY P d m ∧ (plO P d m).2.2 = 0 := by
  have e : plO P d m = (plX P d m, plY P d m, 0) := by rw [plO, h]; rfl
  rw [e]; exact ⟨rfl, rfl, rfl⟩
set_option maxHeartbeats 4000000 in
theorem wayTo_any (P Q : PlB) (d m : Int) (w : World) (hS : SinOk w) :
    Calls Tryz.prog 62 #[.agg #[.string P.n, .int .i64 P.p, .int .i64 P.r, .int .i64 P.u], .agg #[.string Q.n, .int .i64 Q.p, .int .i64 Q.r, .int .i64 Q.u], .agg #[.int .i64 d, .int .i64 m]] w fun e w' =>
      e = .returned (.tuple #[.int .i64 (if wyC P Q d m = 0 then wyX P Q d m else 0), .int .i64 (if wyC P Q d m = 0 then wyY P Q d m else 0), .int .i64 (wyC P Q d m)]) ∧ Below w.heap.size w w' := by
  rcases wyC_cases P Q d m with ⟨hk, hv⟩ | ⟨hk, hv, hz⟩ | ⟨hk, hv, hz⟩
  · have hno : ¬ (1 : Int) = 0 := by omega
    rw [hk, if_neg hno, if_neg hno]
    clear hk hno
    cases v1 : vP P && vMoment d m with
    | false =>
      obtain ⟨e1, e2, e3⟩ := plO_no v1
      go_enter Tryz.func62, Tryz.ntmps62
      go_wp2_with (fail)
      (refine later_intro ?_; intro y)
      (go_at_call 10; refine (later_below (PlaceInOrbit_any P d m _ (SinOk.later (((hS.alloc _).alloc _).alloc _) _))).mono ?_; rintro e w' ⟨rfl, y, rfl⟩)
      go_wp2_with (fail)
      (go_at_call 10; refine (later_below (PlaceInOrbit_any Q d m _ (SinOk.later (((hS.alloc _).alloc _).alloc _) _))).mono ?_; rintro e w' ⟨rfl, y, rfl⟩)
      go_wp2
      go_ret3
      exact ⟨rfl, (by repeat (first | exact Below.refl _ _ | refine below_alloc ?_ _ | refine below_drewN0 ?_ _ | refine below_drew0 ?_ | refine below_step ?_ (by assumption) | refine below_later ?_ _ | refine below_setCell0 ?_ (by first | exact Nat.le_refl _ | (simp; done) | omega | (simp; omega)) _))⟩
    | true =>
      have v2 : (vP Q && vMoment d m) = false := by
        obtain ⟨a1, a2⟩ := Bool.and_eq_true_iff.1 v1
        simpa [wyV, a1, a2] using hv
      obtain ⟨e1, e2, e3⟩ := plO_yes v1
      obtain ⟨e4, e5, e6⟩ := plO_no v2
      go_enter Tryz.func62, Tryz.ntmps62
      go_wp2_with (fail)
      (refine later_intro ?_; intro y)
      (go_at_call 10; refine (later_below (PlaceInOrbit_any P d m _ (SinOk.later (((hS.alloc _).alloc _).alloc _) _))).mono ?_; rintro e w' ⟨rfl, y, rfl⟩)
      go_wp2_with (fail)
      (go_at_call 10; refine (later_below (PlaceInOrbit_any Q d m _ (SinOk.later (((hS.alloc _).alloc _).alloc _) _))).mono ?_; rintro e w' ⟨rfl, y, rfl⟩)
      go_wp2
      go_ret3
      exact ⟨rfl, (by repeat (first | exact Below.refl _ _ | refine below_alloc ?_ _ | refine below_drewN0 ?_ _ | refine below_drew0 ?_ | refine below_step ?_ (by assumption) | refine below_later ?_ _ | refine below_setCell0 ?_ (by first | exact Nat.le_refl _ | (simp; done) | omega | (simp; omega)) _))⟩
  · obtain ⟨a1, a2, a3⟩ := wyV_parts hv
    have hno : ¬ (6 : Int) = 0 := by omega
    rw [hk, if_neg hno, if_neg hno]
    clear hk hno hv
    obtain ⟨e1, e2, e3⟩ := plO_yes (Bool.and_eq_true_iff.2 ⟨a1, a3⟩)
    obtain ⟨e4, e5, e6⟩ := plO_yes (Bool.and_eq_true_iff.2 ⟨a2, a3⟩)
    obtain ⟨z1, z2⟩ := (wyZ_iff _ _ _ _).1 hz
    have z3 : (plX P d m == plX Q d m) = true := by unfold wyX at z1; simp; omega
    have z4 : (plY P d m == plY Q d m) = true := by unfold wyY at z2; simp; omega
    clear z1 z2 hz
    go_enter Tryz.func62, Tryz.ntmps62
    go_wp2_with (fail)
    (refine later_intro ?_; intro y)
    (go_at_call 10; refine (later_below (PlaceInOrbit_any P d m _ (SinOk.later (((hS.alloc _).alloc _).alloc _) _))).mono ?_; rintro e w' ⟨rfl, y, rfl⟩)
    go_wp2_with (fail)
    (go_at_call 10; refine (later_below (PlaceInOrbit_any Q d m _ (SinOk.later (((hS.alloc _).alloc _).alloc _) _))).mono ?_; rintro e w' ⟨rfl, y, rfl⟩)
    go_wp2
    go_ret3
    exact ⟨rfl, (by repeat (first | exact Below.refl _ _ | refine below_alloc ?_ _ | refine below_drewN0 ?_ _ | refine below_drew0 ?_ | refine below_step ?_ (by assumption) | refine below_later ?_ _ | refine below_setCell0 ?_ (by first | exact Nat.le_refl _ | (simp; done) | omega | (simp; omega)) _))⟩
  · obtain ⟨a1, a2, a3⟩ := wyV_parts hv
    rw [hk, if_pos rfl, if_pos rfl]
    obtain ⟨b1, b2, b3, b4⟩ := wy_bd hv
    clear hk hv
    obtain ⟨e1, e2, e3⟩ := plO_yes (Bool.and_eq_true_iff.2 ⟨a1, a3⟩)
    obtain ⟨e4, e5, e6⟩ := plO_yes (Bool.and_eq_true_iff.2 ⟨a2, a3⟩)
    have hz1 := (wyZ_iff' _ _ _ _).1 hz
    have HX : Hid (wyX P Q d m = plX P d m - plX Q d m) := rfl
    have HY : Hid (wyY P Q d m = plY P d m - plY Q d m) := rfl
    obtain ⟨q1, q2⟩ := plX_bd a1 d m
    obtain ⟨q3, q4⟩ := plX_bd a2 d m
    obtain ⟨q5, q6⟩ := plY_bd a1 d m
    obtain ⟨q7, q8⟩ := plY_bd a2 d m
    by_cases hx : plX P d m = plX Q d m
    · have x1 : (plX P d m == plX Q d m) = true := by simp [hx]
      have x2 : (plY P d m == plY Q d m) = false := by unfold wyX wyY at hz1; simp; omega
      clear hx hz hz1
      go_enter Tryz.func62, Tryz.ntmps62
      go_wp2_with (fail)
      (refine later_intro ?_; intro y)
      (go_at_call 10; refine (later_below (PlaceInOrbit_any P d m _ (SinOk.later (((hS.alloc _).alloc _).alloc _) _))).mono ?_; rintro e w' ⟨rfl, y, rfl⟩)
      go_wp2_with (fail)
      (go_at_call 10; refine (later_below (PlaceInOrbit_any Q d m _ (SinOk.later (((hS.alloc _).alloc _).alloc _) _))).mono ?_; rintro e w' ⟨rfl, y, rfl⟩)
      go_wp2
      go_ret3
      exact ⟨by rw [HX.out, HY.out]; rfl, (by repeat (first | exact Below.refl _ _ | refine below_alloc ?_ _ | refine below_drewN0 ?_ _ | refine below_drew0 ?_ | refine below_step ?_ (by assumption) | refine below_later ?_ _ | refine below_setCell0 ?_ (by first | exact Nat.le_refl _ | (simp; done) | omega | (simp; omega)) _))⟩
    · have x1 : (plX P d m == plX Q d m) = false := by simp [hx]
      clear hx hz hz1
      go_enter Tryz.func62, Tryz.ntmps62
      go_wp2_with (fail)
      (refine later_intro ?_; intro y)
      (go_at_call 10; refine (later_below (PlaceInOrbit_any P d m _ (SinOk.later (((hS.alloc _).alloc _).alloc _) _))).mono ?_; rintro e w' ⟨rfl, y, rfl⟩)
      go_wp2_with (fail)
      (go_at_call 10; refine (later_below (PlaceInOrbit_any Q d m _ (SinOk.later (((hS.alloc _).alloc _).alloc _) _))).mono ?_; rintro e w' ⟨rfl, y, rfl⟩)
      go_wp2
      go_ret3
      exact ⟨by rw [HX.out, HY.out]; rfl, (by repeat (first | exact Below.refl _ _ | refine below_alloc ?_ _ | refine below_drewN0 ?_ _ | refine below_drew0 ?_ | refine below_step ?_ (by assumption) | refine below_later ?_ _ | refine below_setCell0 ?_ (by first | exact Nat.le_refl _ | (simp; done) | omega | (simp; omega)) _))⟩
end Go.Proofs.YtpnfhienffekoaaGreatDoor
