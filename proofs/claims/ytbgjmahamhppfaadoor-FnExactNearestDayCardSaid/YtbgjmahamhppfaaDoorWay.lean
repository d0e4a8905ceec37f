/- Contracts of the functions on ways between planets and on what is seen. -/
import Derived.Test.YtbgjmahamhppfaaDoorPlan
namespace Go.Proofs.YtbgjmahamhppfaaDoor
set_option linter.unusedVariables false
set_option linter.unusedSimpArgs false
open Go.RowKit
theorem plO_no {P : PlB} {d m : Int} (h : (vP P && vMoment d m) = false) : (plO P d m).1 = 0 ∧ (plO P d m).2.1 = 0 ∧ (plO P d m).2.2 = 1 := by
  have e : plO P d m = (0, 0, 1) := by rw [plO, h]; rfl
  rw [e]; exact ⟨rfl, rfl, rfl⟩
theorem plO_yes {P : PlB} {d m : Int} (h : (vP P && vMoment d m) = true) : (plO P d m).1 = plX P d m ∧ (plO P d m).2.1 = plY P d m ∧ (plO P d m).2.2 = 0 := by
  have e : plO P d m = (plX P d m, plY P d m, 0) := by rw [plO, h]; rfl
  rw [e]; exact ⟨rfl, rfl, rfl⟩
set_option maxHeartbeats 4000000 in
theorem wayTo_any (P Q : PlB) (d m : Int) (w : World) (hS : SinOk w) :
    Calls Tryd.prog 64 #[.agg #[.string P.n, .int .i64 P.p, .int .i64 P.r, .int .i64 P.u], .agg #[.string Q.n, .int .i64 Q.p, .int .i64 Q.r, .int .i64 Q.u], .agg #[.int .i64 d, .int .i64 m]] w fun e w' =>
      e = .returned (.tuple #[.int .i64 (if wyC P Q d m = 0 then wyX P Q d m else 0), .int .i64 (if wyC P Q d m = 0 then wyY P Q d m else 0), .int .i64 (wyC P Q d m)]) ∧ Below w.heap.size w w' := by
  rcases wyC_cases P Q d m with ⟨hk, hv⟩ | ⟨hk, hv, hz⟩ | ⟨hk, hv, hz⟩
  · have hno : ¬ (1 : Int) = 0 := by omega
    rw [hk, if_neg hno, if_neg hno]
    clear hk hno
    cases v1 : vP P && vMoment d m with
    | false =>
      obtain ⟨e1, e2, e3⟩ := plO_no v1
      go_enter Tryd.func64, Tryd.ntmps64
      go_wp2_with (fail)
      (refine later_intro ?_; intro y)
      (go_at_call 18; refine (later_below (PlaceInOrbit_any P d m _ (SinOk.later (((hS.alloc _).alloc _).alloc _) _))).mono ?_; rintro e w' ⟨rfl, y, rfl⟩)
      go_wp2_with (fail)
      (go_at_call 18; refine (later_below (PlaceInOrbit_any Q d m _ (SinOk.later (((hS.alloc _).alloc _).alloc _) _))).mono ?_; rintro e w' ⟨rfl, y, rfl⟩)
      go_wp2
      go_ret3
      exact ⟨rfl, (by repeat (first | exact Below.refl _ _ | refine below_alloc ?_ _ | refine below_drewN0 ?_ _ | refine below_drew0 ?_ | refine below_step ?_ (by assumption) | refine below_later ?_ _ | refine below_setCell0 ?_ (by first | exact Nat.le_refl _ | (simp; done) | omega | (simp; omega)) _))⟩
    | true =>
      have v2 : (vP Q && vMoment d m) = false := by
        obtain ⟨a1, a2⟩ := Bool.and_eq_true_iff.1 v1
        simpa [wyV, a1, a2] using hv
      obtain ⟨e1, e2, e3⟩ := plO_yes v1
      obtain ⟨e4, e5, e6⟩ := plO_no v2
      go_enter Tryd.func64, Tryd.ntmps64
      go_wp2_with (fail)
      (refine later_intro ?_; intro y)
      (go_at_call 18; refine (later_below (PlaceInOrbit_any P d m _ (SinOk.later (((hS.alloc _).alloc _).alloc _) _))).mono ?_; rintro e w' ⟨rfl, y, rfl⟩)
      go_wp2_with (fail)
      (go_at_call 18; refine (later_below (PlaceInOrbit_any Q d m _ (SinOk.later (((hS.alloc _).alloc _).alloc _) _))).mono ?_; rintro e w' ⟨rfl, y, rfl⟩)
      go_wp2
      go_ret3
      exact ⟨rfl, (by repeat (first | exact Below.refl _ _ | refine below_alloc ?_ _ | refine below_drewN0 ?_ _ | refine below_drew0 ?_ | refine below_step ?_ (by assumption) | refine below_later ?_ _ | refine below_setCell0 ?_ (by first | exact Nat.le_refl _ | (simp; done) | omega | (simp; omega)) _))⟩
  · obtain ⟨a1, a2, a3⟩ := wyV_parts hv
    have hno : ¬ (6 : Int) = 0 := by omega
    rw [hk, if_neg hno, if_neg hno]
    clear hk hno hv
    obtain ⟨e1, e2, e3⟩ := plO_yes (Bool.and_eq_true_iff.2 ⟨a1, a3⟩)
    obtain ⟨e4, e5, e6⟩ := plO_yes (Bool.and_eq_true_iff.2 ⟨a2, a3⟩)
    obtain ⟨z1, z2⟩ := (wyZ_iff _ _ _ _).1 hz
    have z3 : (plX P d m == plX Q d m) = true := by unfold wyX at z1; simp; omega
    have z4 : (plY P d m == plY Q d m) = true := by unfold wyY at z2; simp; omega
    clear z1 z2 hz
    go_enter Tryd.func64, Tryd.ntmps64
    go_wp2_with (fail)
    (refine later_intro ?_; intro y)
    (go_at_call 18; refine (later_below (PlaceInOrbit_any P d m _ (SinOk.later (((hS.alloc _).alloc _).alloc _) _))).mono ?_; rintro e w' ⟨rfl, y, rfl⟩)
    go_wp2_with (fail)
    (go_at_call 18; refine (later_below (PlaceInOrbit_any Q d m _ (SinOk.later (((hS.alloc _).alloc _).alloc _) _))).mono ?_; rintro e w' ⟨rfl, y, rfl⟩)
    go_wp2
    go_ret3
    exact ⟨rfl, (by repeat (first | exact Below.refl _ _ | refine below_alloc ?_ _ | refine below_drewN0 ?_ _ | refine below_drew0 ?_ | refine below_step ?_ (by assumption) | refine below_later ?_ _ | refine below_setCell0 ?_ (by first | exact Nat.le_refl _ | (simp; done) | omega | (simp; omega)) _))⟩
  · obtain ⟨a1, a2, a3⟩ := wyV_parts hv
    rw [hk, if_pos rfl, if_pos rfl]
    obtain ⟨b1, b2, b3, b4⟩ := wy_bd hv
    clear hk hv
    obtain ⟨e1, e2, e3⟩ := plO_yes (Bool.and_eq_true_iff.2 ⟨a1, a3⟩)
    obtain ⟨e4, e5, e6⟩ := plO_yes (Bool.and_eq_true_iff.2 ⟨a2, a3⟩)
    have hz1 := (wyZ_iff' _ _ _ _).1 hz
    have HX : Hid (wyX P Q d m = plX P d m - plX Q d m) := rfl
    have HY : Hid (wyY P Q d m = plY P d m - plY Q d m) := rfl
    obtain ⟨q1, q2⟩ := plX_bd a1 d m
    obtain ⟨q3, q4⟩ := plX_bd a2 d m
    obtain ⟨q5, q6⟩ := plY_bd a1 d m
    obtain ⟨q7, q8⟩ := plY_bd a2 d m
    by_cases hx : plX P d m = plX Q d m
    · have x1 : (plX P d m == plX Q d m) = true := by simp [hx]
      have x2 : (plY P d m == plY Q d m) = false := by unfold wyX wyY at hz1; simp; omega
      clear hx hz hz1
      go_enter Tryd.func64, Tryd.ntmps64
      go_wp2_with (fail)
      (refine later_intro ?_; intro y)
      (go_at_call 18; refine (later_below (PlaceInOrbit_any P d m _ (SinOk.later (((hS.alloc _).alloc _).alloc _) _))).mono ?_; rintro e w' ⟨rfl, y, rfl⟩)
      go_wp2_with (fail)
      (go_at_call 18; refine (later_below (PlaceInOrbit_any Q d m _ (SinOk.later (((hS.alloc _).alloc _).alloc _) _))).mono ?_; rintro e w' ⟨rfl, y, rfl⟩)
      go_wp2
      go_ret3
      exact ⟨by rw [HX.out, HY.out]; rfl, (by repeat (first | exact Below.refl _ _ | refine below_alloc ?_ _ | refine below_drewN0 ?_ _ | refine below_drew0 ?_ | refine below_step ?_ (by assumption) | refine below_later ?_ _ | refine below_setCell0 ?_ (by first | exact Nat.le_refl _ | (simp; done) | omega | (simp; omega)) _))⟩
    · have x1 : (plX P d m == plX Q d m) = false := by simp [hx]
      clear hx hz hz1
      go_enter Tryd.func64, Tryd.ntmps64
      go_wp2_with (fail)
      (refine later_intro ?_; intro y)
      (go_at_call 18; refine (later_below (PlaceInOrbit_any P d m _ (SinOk.later (((hS.alloc _).alloc _).alloc _) _))).mono ?_; rintro e w' ⟨rfl, y, rfl⟩)
      go_wp2_with (fail)
      (go_at_call 18; refine (later_below (PlaceInOrbit_any Q d m _ (SinOk.later (((hS.alloc _).alloc _).alloc _) _))).mono ?_; rintro e w' ⟨rfl, y, rfl⟩)
      go_wp2
      go_ret3
      exact ⟨by rw [HX.out, HY.out]; rfl, (by repeat (first | exact Below.refl _ _ | refine below_alloc ?_ _ | refine below_drewN0 ?_ _ | refine below_drew0 ?_ | refine below_step ?_ (by assumption) | refine below_later ?_ _ | refine below_setCell0 ?_ (by first | exact Nat.le_refl _ | (simp; done) | omega | (simp; omega)) _))⟩
set_option maxHeartbeats 2000000 in
theorem l07Way_any {b1 b2 : Nat} {P Q : PlB} (d m : Int) (w : World) (h1 : PlAt w b1 P) (h2 : PlAt w b2 Q) (v1 : vP P = true) (v2 : vP Q = true) (v3 : vMoment d m = true) :
    Calls Tryd.prog 71 #[.pointer (some ⟨b1, 0, none⟩), .pointer (some ⟨b2, 0, none⟩), .agg #[.int .i64 d, .int .i64 m]] w fun e w' => e = .returned (.tuple #[.int .i64 (wyX P Q d m), .int .i64 (wyY P Q d m)]) ∧ Below w.heap.size w w' := by
  have HX : Hid (wyX P Q d m = plX P d m - plX Q d m) := rfl
  have HY : Hid (wyY P Q d m = plY P d m - plY Q d m) := rfl
  obtain ⟨q1, q2⟩ := plX_bd v1 d m
  obtain ⟨q3, q4⟩ := plX_bd v2 d m
  obtain ⟨q5, q6⟩ := plY_bd v1 d m
  obtain ⟨q7, q8⟩ := plY_bd v2 d m
  go_enter Tryd.func71, Tryd.ntmps71
  go_wp2_with (fail)
  refine calls_named ?_
  intro W1 hW1
  have hbW : Below w.heap.size w W1 := by rw [hW1]; exact (by repeat (first | exact Below.refl _ _ | refine below_alloc ?_ _ | refine below_drewN0 ?_ _ | refine below_drew0 ?_ | refine below_step ?_ (by assumption) | refine below_later ?_ _ | refine below_setCell0 ?_ (by first | exact Nat.le_refl _ | (simp; done) | omega | (simp; omega)) _))
  have g1 : PlAt W1 b1 P := h1.of_below hbW
  have g2 : PlAt W1 b2 Q := h2.of_below hbW
  have hlt : w.heap.size < W1.heap.size := by rw [hW1]; simp
  have c4 : W1.cell? ⟨w.heap.size, 0, none⟩ = some (.int .i64 d) := by rw [hW1]; simp
  have c5 : W1.cell? ⟨w.heap.size, 1, none⟩ = some (.int .i64 m) := by rw [hW1]; simp
  clear hW1
  (refine later_intro ?_; intro y)
  (go_at_call 44; refine (later_below (l07Place_any d m _ (g1.later _) v1 v3)).mono ?_; rintro e w' ⟨rfl, y, rfl⟩)
  go_wp2_with (fail)
  (go_at_call 44; refine (later_below (l07Place_any d m _ (g2.later _) v2 v3)).mono ?_; rintro e w' ⟨rfl, y, rfl⟩)
  go_wp2
  go_ret2
  exact ⟨by rw [HX.out, HY.out]; rfl, below_later hbW _⟩
set_option maxHeartbeats 2000000 in
theorem l07Ask_any {b1 b2 : Nat} {P Q : PlB} (d m : Int) (w : World) (h1 : PlAt w b1 P) (h2 : PlAt w b2 Q) :
    Calls Tryd.prog 62 #[.pointer (some ⟨b1, 0, none⟩), .pointer (some ⟨b2, 0, none⟩), .agg #[.int .i64 d, .int .i64 m]] w fun e w' => e = .returned (.int .i64 (wyC P Q d m)) ∧ Below w.heap.size w w' := by
  have HC := Lib.hid (wyC_cases P Q d m)
  cases v1 : vP P with
  | false =>
    have HK : Hid (wyC P Q d m = 1) := wyC_no (by simp [wyV, v1])
    go_enter Tryd.func62, Tryd.ntmps62
    go_wp2_with (fail)
    refine calls_named ?_
    intro W1 hW1
    have hbW : Below w.heap.size w W1 := by rw [hW1]; exact (by repeat (first | exact Below.refl _ _ | refine below_alloc ?_ _ | refine below_drewN0 ?_ _ | refine below_drew0 ?_ | refine below_step ?_ (by assumption) | refine below_later ?_ _ | refine below_setCell0 ?_ (by first | exact Nat.le_refl _ | (simp; done) | omega | (simp; omega)) _))
    have g1 : PlAt W1 b1 P := h1.of_below hbW
    clear hW1
    (refine later_intro ?_; intro y)
    (go_at_call 42; refine (later_same (l07One_at (g1.later _))).mono ?_; rintro e w' ⟨rfl, y, rfl⟩)
    go_wp2
    go_ret
    exact ⟨by rw [HK.out]; rfl, below_later hbW _⟩
  | true =>
    cases v2 : vP Q with
    | false =>
      have HK : Hid (wyC P Q d m = 1) := wyC_no (by simp [wyV, v2])
      go_enter Tryd.func62, Tryd.ntmps62
      go_wp2_with (fail)
      refine calls_named ?_
      intro W1 hW1
      have hbW : Below w.heap.size w W1 := by rw [hW1]; exact (by repeat (first | exact Below.refl _ _ | refine below_alloc ?_ _ | refine below_drewN0 ?_ _ | refine below_drew0 ?_ | refine below_step ?_ (by assumption) | refine below_later ?_ _ | refine below_setCell0 ?_ (by first | exact Nat.le_refl _ | (simp; done) | omega | (simp; omega)) _))
      have g1 : PlAt W1 b1 P := h1.of_below hbW
      have g2 : PlAt W1 b2 Q := h2.of_below hbW
      clear hW1
      (refine later_intro ?_; intro y)
      (go_at_call 42; refine (later_same (l07One_at (g1.later _))).mono ?_; rintro e w' ⟨rfl, y, rfl⟩)
      go_wp2_with (fail)
      (go_at_call 42; refine (later_same (l07One_at (g2.later _))).mono ?_; rintro e w' ⟨rfl, y, rfl⟩)
      go_wp2
      go_ret
      exact ⟨by rw [HK.out]; rfl, below_later hbW _⟩
    | true =>
      cases v3 : vMoment d m with
      | false =>
        have HK : Hid (wyC P Q d m = 1) := wyC_no (by simp [wyV, v3])
        go_enter Tryd.func62, Tryd.ntmps62
        go_wp2_with (fail)
        refine calls_named ?_
        intro W1 hW1
        have hbW : Below w.heap.size w W1 := by rw [hW1]; exact (by repeat (first | exact Below.refl _ _ | refine below_alloc ?_ _ | refine below_drewN0 ?_ _ | refine below_drew0 ?_ | refine below_step ?_ (by assumption) | refine below_later ?_ _ | refine below_setCell0 ?_ (by first | exact Nat.le_refl _ | (simp; done) | omega | (simp; omega)) _))
        have g1 : PlAt W1 b1 P := h1.of_below hbW
        have g2 : PlAt W1 b2 Q := h2.of_below hbW
        have hlt : w.heap.size < W1.heap.size := by rw [hW1]; simp
        have c4 : W1.cell? ⟨w.heap.size, 0, none⟩ = some (.int .i64 d) := by rw [hW1]; simp
        have c5 : W1.cell? ⟨w.heap.size, 1, none⟩ = some (.int .i64 m) := by rw [hW1]; simp
        clear hW1
        (refine later_intro ?_; intro y)
        (go_at_call 42; refine (later_same (l07One_at (g1.later _))).mono ?_; rintro e w' ⟨rfl, y, rfl⟩)
        go_wp2_with (fail)
        (go_at_call 42; refine (later_same (l07One_at (g2.later _))).mono ?_; rintro e w' ⟨rfl, y, rfl⟩)
        go_wp2_with ((go_at_call 43; refine (later_below (l03Ok_any _ _ _)).mono ?_; rintro e w' ⟨rfl, y, rfl⟩))
        go_ret
        exact ⟨by rw [HK.out]; rfl, below_later hbW _⟩
      | true =>
        have hV : wyV P Q d m = true := by simp [wyV, v1, v2, v3]
        cases z : wyZ P Q d m with
        | true =>
          have HK : Hid (wyC P Q d m = 6) := wyC_zero hV z
          obtain ⟨z1, z2⟩ := (wyZ_iff _ _ _ _).1 z
          have z3 : (wyX P Q d m == 0) = true := by simp [z1]
          have z4 : (wyY P Q d m == 0) = true := by simp [z2]
          clear z1 z2 z
          go_enter Tryd.func62, Tryd.ntmps62
          go_wp2_with (fail)
          refine calls_named ?_
          intro W1 hW1
          have hbW : Below w.heap.size w W1 := by rw [hW1]; exact (by repeat (first | exact Below.refl _ _ | refine below_alloc ?_ _ | refine below_drewN0 ?_ _ | refine below_drew0 ?_ | refine below_step ?_ (by assumption) | refine below_later ?_ _ | refine below_setCell0 ?_ (by first | exact Nat.le_refl _ | (simp; done) | omega | (simp; omega)) _))
          have g1 : PlAt W1 b1 P := h1.of_below hbW
          have g2 : PlAt W1 b2 Q := h2.of_below hbW
          have hlt : w.heap.size < W1.heap.size := by rw [hW1]; simp
          have c4 : W1.cell? ⟨w.heap.size, 0, none⟩ = some (.int .i64 d) := by rw [hW1]; simp
          have c5 : W1.cell? ⟨w.heap.size, 1, none⟩ = some (.int .i64 m) := by rw [hW1]; simp
          clear hW1
          (refine later_intro ?_; intro y)
          (go_at_call 42; refine (later_same (l07One_at (g1.later _))).mono ?_; rintro e w' ⟨rfl, y, rfl⟩)
          go_wp2_with (fail)
          (go_at_call 42; refine (later_same (l07One_at (g2.later _))).mono ?_; rintro e w' ⟨rfl, y, rfl⟩)
          go_wp2_with (first | (go_at_call 43; refine (later_below (l03Ok_any _ _ _)).mono ?_; rintro e w' ⟨rfl, y, rfl⟩) | (go_at_call 71; refine (later_below (l07Way_any d m _ (g1.later _) (g2.later _) v1 v2 v3)).mono ?_; rintro e w' ⟨rfl, y, rfl⟩))
          go_ret
          exact ⟨by rw [HK.out]; rfl, below_later hbW _⟩
        | false =>
          have HK : Hid (wyC P Q d m = 0) := wyC_ok hV z
          have z1 := (wyZ_iff' _ _ _ _).1 z
          have HZ := Lib.hid z1
          clear z1 z
          by_cases hx : wyX P Q d m = 0
          · have z3 : (wyX P Q d m == 0) = true := by simp [hx]
            have z4 : (wyY P Q d m == 0) = false := by have := HZ.out; simp; omega
            clear hx
            go_enter Tryd.func62, Tryd.ntmps62
            go_wp2_with (fail)
            refine calls_named ?_
            intro W1 hW1
            have hbW : Below w.heap.size w W1 := by rw [hW1]; exact (by repeat (first | exact Below.refl _ _ | refine below_alloc ?_ _ | refine below_drewN0 ?_ _ | refine below_drew0 ?_ | refine below_step ?_ (by assumption) | refine below_later ?_ _ | refine below_setCell0 ?_ (by first | exact Nat.le_refl _ | (simp; done) | omega | (simp; omega)) _))
            have g1 : PlAt W1 b1 P := h1.of_below hbW
            have g2 : PlAt W1 b2 Q := h2.of_below hbW
            have hlt : w.heap.size < W1.heap.size := by rw [hW1]; simp
            have c4 : W1.cell? ⟨w.heap.size, 0, none⟩ = some (.int .i64 d) := by rw [hW1]; simp
            have c5 : W1.cell? ⟨w.heap.size, 1, none⟩ = some (.int .i64 m) := by rw [hW1]; simp
            clear hW1
            (refine later_intro ?_; intro y)
            (go_at_call 42; refine (later_same (l07One_at (g1.later _))).mono ?_; rintro e w' ⟨rfl, y, rfl⟩)
            go_wp2_with (fail)
            (go_at_call 42; refine (later_same (l07One_at (g2.later _))).mono ?_; rintro e w' ⟨rfl, y, rfl⟩)
            go_wp2_with (first | (go_at_call 43; refine (later_below (l03Ok_any _ _ _)).mono ?_; rintro e w' ⟨rfl, y, rfl⟩) | (go_at_call 71; refine (later_below (l07Way_any d m _ (g1.later _) (g2.later _) v1 v2 v3)).mono ?_; rintro e w' ⟨rfl, y, rfl⟩))
            go_ret
            exact ⟨by rw [HK.out]; rfl, below_later hbW _⟩
          · have z3 : (wyX P Q d m == 0) = false := by simp [hx]
            clear hx
            go_enter Tryd.func62, Tryd.ntmps62
            go_wp2_with (fail)
            refine calls_named ?_
            intro W1 hW1
            have hbW : Below w.heap.size w W1 := by rw [hW1]; exact (by repeat (first | exact Below.refl _ _ | refine below_alloc ?_ _ | refine below_drewN0 ?_ _ | refine below_drew0 ?_ | refine below_step ?_ (by assumption) | refine below_later ?_ _ | refine below_setCell0 ?_ (by first | exact Nat.le_refl _ | (simp; done) | omega | (simp; omega)) _))
            have g1 : PlAt W1 b1 P := h1.of_below hbW
            have g2 : PlAt W1 b2 Q := h2.of_below hbW
            have hlt : w.heap.size < W1.heap.size := by rw [hW1]; simp
            have c4 : W1.cell? ⟨w.heap.size, 0, none⟩ = some (.int .i64 d) := by rw [hW1]; simp
            have c5 : W1.cell? ⟨w.heap.size, 1, none⟩ = some (.int .i64 m) := by rw [hW1]; simp
            clear hW1
            (refine later_intro ?_; intro y)
            (go_at_call 42; refine (later_same (l07One_at (g1.later _))).mono ?_; rintro e w' ⟨rfl, y, rfl⟩)
            go_wp2_with (fail)
            (go_at_call 42; refine (later_same (l07One_at (g2.later _))).mono ?_; rintro e w' ⟨rfl, y, rfl⟩)
            go_wp2_with (first | (go_at_call 43; refine (later_below (l03Ok_any _ _ _)).mono ?_; rintro e w' ⟨rfl, y, rfl⟩) | (go_at_call 71; refine (later_below (l07Way_any d m _ (g1.later _) (g2.later _) v1 v2 v3)).mono ?_; rintro e w' ⟨rfl, y, rfl⟩))
            go_ret
            exact ⟨by rw [HK.out]; rfl, below_later hbW _⟩
set_option maxHeartbeats 2000000 in
theorem l07Seen_any {b1 b2 : Nat} {P Q : PlB} (d m : Int) (w : World) (h1 : PlAt w b1 P) (h2 : PlAt w b2 Q) (hv : wyV P Q d m = true) :
    Calls Tryd.prog 63 #[.pointer (some ⟨b1, 0, none⟩), .pointer (some ⟨b2, 0, none⟩), .agg #[.int .i64 d, .int .i64 m]] w fun e w' => e = .returned (.int .i64 (arcI (wyY P Q d m) (wyX P Q d m))) ∧ Below w.heap.size w w' := by
  obtain ⟨v1, v2, v3⟩ := wyV_parts hv
  obtain ⟨q1, q2, q3, q4⟩ := wy_bd hv
  go_enter Tryd.func63, Tryd.ntmps63
  go_wp2_with (fail)
  refine calls_named ?_
  intro W1 hW1
  have hbW : Below w.heap.size w W1 := by rw [hW1]; exact (by repeat (first | exact Below.refl _ _ | refine below_alloc ?_ _ | refine below_drewN0 ?_ _ | refine below_drew0 ?_ | refine below_step ?_ (by assumption) | refine below_later ?_ _ | refine below_setCell0 ?_ (by first | exact Nat.le_refl _ | (simp; done) | omega | (simp; omega)) _))
  have g1 : PlAt W1 b1 P := h1.of_below hbW
  have g2 : PlAt W1 b2 Q := h2.of_below hbW
  clear hW1
  (refine later_intro ?_; intro y)
  (go_at_call 71; refine (later_below (l07Way_any d m _ (g1.later _) (g2.later _) v1 v2 v3)).mono ?_; rintro e w' ⟨rfl, y, rfl⟩)
  go_wp2_with ((go_at_call 95; refine (later_below (l02Arc_any _ _ _ (by omega) (by omega))).mono ?_; rintro e w' ⟨rfl, y, rfl⟩))
  go_ret
  exact ⟨rfl, below_later hbW _⟩
end Go.Proofs.YtbgjmahamhppfaaDoor
