/- Contracts of the functions on the motion of planets in the sky. -/
import Derived.Test.YtbgjmahamhppfaaDoorSeen
import Derived.Test.YtbgjmahamhppfaaDoorRebase
import Derived.Test.YtbgjmahamhppfaaDoorPlainNear
namespace Go.Proofs.YtbgjmahamhppfaaDoor
set_option linter.unusedVariables false
set_option linter.unusedSimpArgs false
open Go.RowKit
theorem momentOf_any (t d m : Int) (w : World) (h1 : 0 ≤ t ∧ t ≤ 8640000000000) (hd : t.tdiv 86400000 = d) (hm : t.tmod 86400000 = m) :
    Calls Tryd.prog 99 #[.int .i64 t] w fun e w' => e = .returned (.agg #[.int .i64 d, .int .i64 m]) ∧ Below w.heap.size w w' := by
  obtain ⟨h1, h2⟩ := h1
  have b1 : t.tdiv 86400000 = t / 86400000 := Int.tdiv_eq_ediv_of_nonneg h1
  have b2 : t.tmod 86400000 = t % 86400000 := Int.tmod_eq_emod_of_nonneg h1
  have wd : IntKind.i64.wrap d = d := wrap_in (by omega) (by omega)
  have wm : IntKind.i64.wrap m = m := wrap_in (by omega) (by omega)
  clear b1 b2
  go_enter Tryd.func99, Tryd.ntmps99
  go_wp2
  exact bodyPost_ret (v := .agg #[.int .i64 d, .int .i64 m]) (by simp [results, Tryd.results99, go_sem, hd, hm, wd, wm]) rfl ⟨rfl, (by repeat (first | exact Below.refl _ _ | refine below_alloc ?_ _ | refine below_drewN0 ?_ _ | refine below_drew0 ?_ | refine below_step ?_ (by assumption) | refine below_later ?_ _ | refine below_setCell0 ?_ (by first | exact Nat.le_refl _ | (simp; done) | omega | (simp; omega)) _))⟩
theorem milli_day (d m : Int) (h : 0 ≤ d ∧ d ≤ 99999 ∧ 0 ≤ m ∧ m ≤ 86399999) : (milliI d m + 86400000).tdiv 86400000 = d + 1 ∧ (milliI d m + 86400000).tmod 86400000 = m := by
  have e : milliI d m = d * 86400000 + m := rfl
  have b1 : (milliI d m + 86400000).tdiv 86400000 = (milliI d m + 86400000) / 86400000 := Int.tdiv_eq_ediv_of_nonneg (by omega)
  have b2 : (milliI d m + 86400000).tmod 86400000 = (milliI d m + 86400000) % 86400000 := Int.tmod_eq_emod_of_nonneg (by omega)
  rw [b1, b2, e]; omega
/-- the moment a day later -/
theorem MomentAfter_day (d m : Int) (w : World) (hv : vMoment d m = true) :
    Calls Tryd.prog 75 #[.agg #[.int .i64 d, .int .i64 m], .int .i64 86400000] w fun e w' =>
      e = .returned (.tuple #[.agg #[.int .i64 (if d = 99999 then 0 else d + 1), .int .i64 (if d = 99999 then 0 else m)], .int .i64 (if d = 99999 then 6 else 0)]) ∧ Below w.heap.size w w' := by
  have hd := vMoment_bd hv
  obtain ⟨d1, d2, d3, d4⟩ := hd
  obtain ⟨t1, t2⟩ := milli_day d m ⟨d1, d2, d3, d4⟩
  have e : milliI d m = d * 86400000 + m := rfl
  have q1 : inB 86400000 (-8640000000000) 8640000000000 = true := by decide
  have e1 : 0 ≤ milliI d m := by omega
  have e2 : milliI d m ≤ 8639999999999 := by omega
  by_cases hl : d = 99999
  · have q2 : inB (milliI d m + 86400000) 0 8639999999999 = false := by rw [Bool.eq_false_iff, ne_eq, inB_iff]; omega
    rw [if_pos hl, if_pos hl, if_pos hl]
    clear hl t1 t2 e
    go_enter Tryd.func75, Tryd.ntmps75
    go_wp2_with (fail)
    (refine later_intro ?_; intro y)
    go_wp2_with (first | (go_at_call 53; refine (within_any _ _ _ _).mono ?_; rintro e w' ⟨rfl, rfl⟩) | (go_at_call 79; refine (later_below (ValidMoment_any _ _ _)).mono ?_; rintro e w' ⟨rfl, y, rfl⟩) | (go_at_call 84; refine (later_below (milliOf_any d m _ ⟨d1, d2, d3, d4⟩)).mono ?_; rintro e w' ⟨rfl, y, rfl⟩))
    exact bodyPost_ret (v := .tuple #[.agg #[.int .i64 0, .int .i64 0], .int .i64 6]) (by simp [results, Tryd.results75, go_sem]) rfl ⟨rfl, (by repeat (first | exact Below.refl _ _ | refine below_alloc ?_ _ | refine below_drewN0 ?_ _ | refine below_drew0 ?_ | refine below_step ?_ (by assumption) | refine below_later ?_ _ | refine below_setCell0 ?_ (by first | exact Nat.le_refl _ | (simp; done) | omega | (simp; omega)) _))⟩
  · have q2 : inB (milliI d m + 86400000) 0 8639999999999 = true := by rw [inB_iff]; omega
    have e3 : 0 ≤ milliI d m + 86400000 := by omega
    have e4 : milliI d m + 86400000 ≤ 8640000000000 := by omega
    rw [if_neg hl, if_neg hl, if_neg hl]
    clear hl e
    have T1 := Lib.hid t1
    have T2 := Lib.hid t2
    clear t1 t2
    go_enter Tryd.func75, Tryd.ntmps75
    go_wp2_with (fail)
    (refine later_intro ?_; intro y)
    go_wp2_with (first | (go_at_call 53; refine (within_any _ _ _ _).mono ?_; rintro e w' ⟨rfl, rfl⟩) | (go_at_call 79; refine (later_below (ValidMoment_any _ _ _)).mono ?_; rintro e w' ⟨rfl, y, rfl⟩) | (go_at_call 84; refine (later_below (milliOf_any d m _ ⟨d1, d2, d3, d4⟩)).mono ?_; rintro e w' ⟨rfl, y, rfl⟩) | (go_at_call 99; refine (later_below (momentOf_any _ _ _ _ ⟨e3, e4⟩ T1.out T2.out)).mono ?_; rintro e w' ⟨rfl, y, rfl⟩))
    exact bodyPost_ret (v := .tuple #[.agg #[.int .i64 (d + 1), .int .i64 m], .int .i64 0]) (by simp [results, Tryd.results75, go_sem]) rfl ⟨rfl, (by repeat (first | exact Below.refl _ _ | refine below_alloc ?_ _ | refine below_drewN0 ?_ _ | refine below_drew0 ?_ | refine below_step ?_ (by assumption) | refine below_later ?_ _ | refine below_setCell0 ?_ (by first | exact Nat.le_refl _ | (simp; done) | omega | (simp; omega)) _))⟩
set_option maxHeartbeats 2000000 in
theorem IsRetrograde_any (P Q : PlB) (d m : Int) (w : World) (hS : SinOk w) :
    Calls Tryd.prog 39 #[.agg #[.string P.n, .int .i64 P.p, .int .i64 P.r, .int .i64 P.u], .agg #[.string Q.n, .int .i64 Q.p, .int .i64 Q.r, .int .i64 Q.u], .agg #[.int .i64 d, .int .i64 m]] w fun e w' => e = .returned (.bool (retI P Q d m)) ∧ Below w.heap.size w w' := by
  rcases seenO_pair P Q d m with ⟨hk, s1, s2⟩ | ⟨hk, s1, s2⟩
  · have hv := wyC_moment hk
    obtain ⟨d1, d2, d3, d4⟩ := vMoment_bd hv
    by_cases hl : d = 99999
    · have HO : Hid (retI P Q d m = false) := by show _ = _; exact retI_no2 (by rw [hl, show (99999 : Int) + 1 = 100000 from rfl, wyC_last]; omega)
      subst hl
      go_enter Tryd.func39, Tryd.ntmps39
      go_wp2_with (fail)
      (refine later_intro ?_; intro y)
      (go_at_call 31; refine (later_below (SeenAngle_any P Q _ m _ (SinOk.later (((hS.alloc _).alloc _).alloc _) _))).mono ?_; rintro e w' ⟨rfl, y, rfl⟩)
      go_wp2_with (fail)
      (go_at_call 75; refine (later_below (MomentAfter_day _ m _ hv)).mono ?_; rintro e w' ⟨rfl, y, rfl⟩)
      rw [if_pos rfl, if_pos rfl, if_pos rfl]
      go_wp2
      go_ret
      exact ⟨by rw [HO.out]; rfl, (by repeat (first | exact Below.refl _ _ | refine below_alloc ?_ _ | refine below_drewN0 ?_ _ | refine below_drew0 ?_ | refine below_step ?_ (by assumption) | refine below_later ?_ _ | refine below_setCell0 ?_ (by first | exact Nat.le_refl _ | (simp; done) | omega | (simp; omega)) _))⟩
    · rcases seenO_pair P Q (d + 1) m with ⟨hk2, s3, s4⟩ | ⟨hk2, s3, s4⟩
      · have HO : Hid (retI P Q d m = decide (sgnI (sawI P Q d m) (sawI P Q (d + 1) m) < 0)) := retI_ok hk hk2
        obtain ⟨a1, a2⟩ := sawI_bd P Q d m
        obtain ⟨a3, a4⟩ := sawI_bd P Q (d + 1) m
        go_enter Tryd.func39, Tryd.ntmps39
        go_wp2_with (fail)
        (refine later_intro ?_; intro y)
        (go_at_call 31; refine (later_below (SeenAngle_any P Q _ m _ (SinOk.later (((hS.alloc _).alloc _).alloc _) _))).mono ?_; rintro e w' ⟨rfl, y, rfl⟩)
        go_wp2_with (fail)
        (go_at_call 75; refine (later_below (MomentAfter_day _ m _ hv)).mono ?_; rintro e w' ⟨rfl, y, rfl⟩)
        rw [if_neg hl, if_neg hl, if_neg hl]
        have sz : w.heap.size + 1 + 1 + 1 ≤ y.w.heap.size := by simpa using below_size y.below
        have sz0 : w.heap.size < y.w.heap.size := by omega
        have sz1 : w.heap.size + 1 < y.w.heap.size := by omega
        have sz2 : w.heap.size + 1 + 1 < y.w.heap.size := by omega
        go_wp2_with (fail)
        (refine calls_rebase y (by repeat (first | exact Below.refl _ _ | refine below_alloc ?_ _ | refine below_drewN0 ?_ _ | refine below_drew0 ?_ | refine below_step ?_ (by assumption) | refine below_later ?_ _ | refine below_setCell0 ?_ (by first | exact Nat.le_refl _ | (simp; done) | omega | (simp; omega)) _)) ?_; intro y)
        (go_at_call 31; refine (later_below (SeenAngle_any P Q _ m _ (SinOk.later (((hS.alloc _).alloc _).alloc _) _))).mono ?_; rintro e w' ⟨rfl, y, rfl⟩)
        go_wp2_with ((go_at_call 76; refine (later_same (SignedBetween_any _ _ _ (by omega) (by omega))).mono ?_; rintro e w' ⟨rfl, y, rfl⟩))
        go_ret
        exact ⟨by rw [HO.out]; rfl, (by repeat (first | exact Below.refl _ _ | refine below_alloc ?_ _ | refine below_drewN0 ?_ _ | refine below_drew0 ?_ | refine below_step ?_ (by assumption) | refine below_later ?_ _ | refine below_setCell0 ?_ (by first | exact Nat.le_refl _ | (simp; done) | omega | (simp; omega)) _))⟩
      · have HO : Hid (retI P Q d m = false) := retI_no2 hk2
        have hb2 : (wyC P Q (d + 1) m == 0) = false := by simp [hk2]
        go_enter Tryd.func39, Tryd.ntmps39
        go_wp2_with (fail)
        (refine later_intro ?_; intro y)
        (go_at_call 31; refine (later_below (SeenAngle_any P Q _ m _ (SinOk.later (((hS.alloc _).alloc _).alloc _) _))).mono ?_; rintro e w' ⟨rfl, y, rfl⟩)
        go_wp2_with (fail)
        (go_at_call 75; refine (later_below (MomentAfter_day _ m _ hv)).mono ?_; rintro e w' ⟨rfl, y, rfl⟩)
        rw [if_neg hl, if_neg hl, if_neg hl]
        have sz : w.heap.size + 1 + 1 + 1 ≤ y.w.heap.size := by simpa using below_size y.below
        have sz0 : w.heap.size < y.w.heap.size := by omega
        have sz1 : w.heap.size + 1 < y.w.heap.size := by omega
        have sz2 : w.heap.size + 1 + 1 < y.w.heap.size := by omega
        go_wp2_with (fail)
        (refine calls_rebase y (by repeat (first | exact Below.refl _ _ | refine below_alloc ?_ _ | refine below_drewN0 ?_ _ | refine below_drew0 ?_ | refine below_step ?_ (by assumption) | refine below_later ?_ _ | refine below_setCell0 ?_ (by first | exact Nat.le_refl _ | (simp; done) | omega | (simp; omega)) _)) ?_; intro y)
        (go_at_call 31; refine (later_below (SeenAngle_any P Q _ m _ (SinOk.later (((hS.alloc _).alloc _).alloc _) _))).mono ?_; rintro e w' ⟨rfl, y, rfl⟩)
        go_wp2
        go_ret
        exact ⟨by rw [HO.out]; rfl, (by repeat (first | exact Below.refl _ _ | refine below_alloc ?_ _ | refine below_drewN0 ?_ _ | refine below_drew0 ?_ | refine below_step ?_ (by assumption) | refine below_later ?_ _ | refine below_setCell0 ?_ (by first | exact Nat.le_refl _ | (simp; done) | omega | (simp; omega)) _))⟩
  · have HO : Hid (retI P Q d m = false) := retI_no1 hk
    have hb : (wyC P Q d m != 0) = true := by simp [hk]
    go_enter Tryd.func39, Tryd.ntmps39
    go_wp2_with (fail)
    (refine later_intro ?_; intro y)
    (go_at_call 31; refine (later_below (SeenAngle_any P Q _ m _ (SinOk.later (((hS.alloc _).alloc _).alloc _) _))).mono ?_; rintro e w' ⟨rfl, y, rfl⟩)
    go_wp2
    go_ret
    exact ⟨by rw [HO.out]; rfl, (by repeat (first | exact Below.refl _ _ | refine below_alloc ?_ _ | refine below_drewN0 ?_ _ | refine below_drew0 ?_ | refine below_step ?_ (by assumption) | refine below_later ?_ _ | refine below_setCell0 ?_ (by first | exact Nat.le_refl _ | (simp; done) | omega | (simp; omega)) _))⟩
set_option maxHeartbeats 2000000 in
theorem sIsRetrograde_any (P Q : PlB) (d m : Int) (w : World) :
    Calls Tryd.prog 38 #[.agg #[.string P.n, .int .i64 P.p, .int .i64 P.r, .int .i64 P.u], .agg #[.string Q.n, .int .i64 Q.p, .int .i64 Q.r, .int .i64 Q.u], .agg #[.int .i64 d, .int .i64 m]] w fun e w' => e = .returned (.bool (retI P Q d m)) ∧ Below w.heap.size w w' := by
  by_cases hk : wyC P Q d m = 0
  · obtain ⟨d1, d2, d3, d4⟩ := vMoment_bd (wyC_moment hk)
    have hY := wyC_yes hk
    have hW : Hid (retI P Q d m = (wyC P Q (d + 1) m == 0 && decide (sgnI (sawI P Q d m) (sawI P Q (d + 1) m) < 0))) := by show _ = _; simp [retI, hk]
    go_enter Tryd.func38, Tryd.ntmps38
    go_wp2_with (fail)
    refine calls_named ?_
    intro W1 hW1
    have hbW : Below w.heap.size w W1 := by rw [hW1]; exact (by repeat (first | exact Below.refl _ _ | refine below_alloc ?_ _ | refine below_drewN0 ?_ _ | refine below_drew0 ?_ | refine below_step ?_ (by assumption) | refine below_later ?_ _ | refine below_setCell0 ?_ (by first | exact Nat.le_refl _ | (simp; done) | omega | (simp; omega)) _))
    have g1 : PlAt W1 w.heap.size P := by rw [hW1]; exact ⟨by simp; try omega, by simp [go_sem], by simp [go_sem], by simp [go_sem], by simp [go_sem]⟩
    have g2 : PlAt W1 (w.heap.size + 1) Q := by rw [hW1]; exact ⟨by simp; try omega, by simp [go_sem], by simp [go_sem], by simp [go_sem], by simp [go_sem]⟩
    have hlt : w.heap.size + 2 < W1.heap.size := by rw [hW1]; simp
    have c4 : W1.cell? ⟨w.heap.size + 2, 0, none⟩ = some (.int .i64 d) := by rw [hW1]; simp [go_sem]
    have c5 : W1.cell? ⟨w.heap.size + 2, 1, none⟩ = some (.int .i64 m) := by rw [hW1]; simp [go_sem]
    clear hW1
    (refine later_intro ?_; intro y)
    (go_at_call 62; refine (later_below (l07Ask_any d m _ (g1.later _) (g2.later _))).mono ?_; rintro e w' ⟨rfl, y, rfl⟩)
    go_wp2_with (fail)
    refine calls_named ?_
    intro W2 hW2
    have hbW2 : Below W1.heap.size W1 W2 := by rw [hW2]; exact (by repeat (first | exact Below.refl _ _ | refine below_alloc ?_ _ | refine below_drewN0 ?_ _ | refine below_drew0 ?_ | refine below_step ?_ (by assumption) | refine below_later ?_ _ | refine below_setCell0 ?_ (by first | exact Nat.le_refl _ | (simp; done) | omega | (simp; omega)) _))
    have g3 : PlAt W2 w.heap.size P := g1.of_below hbW2
    have g4 : PlAt W2 (w.heap.size + 1) Q := g2.of_below hbW2
    have k4 : W2.cell? ⟨w.heap.size + 2, 0, none⟩ = some (.int .i64 d) := ((bcell hbW2).1 _ _ hlt).trans c4
    have k5 : W2.cell? ⟨w.heap.size + 2, 1, none⟩ = some (.int .i64 m) := ((bcell hbW2).1 _ _ hlt).trans c5
    have klt : w.heap.size + 2 < W2.heap.size := Nat.lt_of_lt_of_le hlt hbW2.size
    obtain ⟨B2, hB2⟩ : ∃ B2, B2 = y.w.heap.size := ⟨_, rfl⟩
    have blt : B2 < W2.heap.size := by rw [hW2, hB2]; simp
    have k6 : W2.cell? ⟨B2, 0, none⟩ = some (.int .i64 (d + 1)) := by rw [hW2, hB2]; simp [go_sem]
    have k7 : W2.cell? ⟨B2, 1, none⟩ = some (.int .i64 m) := by rw [hW2, hB2]; simp [go_sem]
    rw [← hB2]
    clear hW2 g1 g2 c4 c5 hlt hB2
    (refine later_intro ?_; intro y)
    (go_at_call 62; refine (later_below (l07Ask_any _ m _ (g3.later _) (g4.later _))).mono ?_; rintro e w' ⟨rfl, y, rfl⟩)
    by_cases hk2 : wyC P Q (d + 1) m = 0
    · have hY2 := wyC_yes hk2
      have HO : Hid (retI P Q d m = decide (sgnI (sawI P Q d m) (sawI P Q (d + 1) m) < 0)) := retI_ok hk hk2
      clear hW
      obtain ⟨r1, r2⟩ := arcI_bd (wyY P Q d m) (wyX P Q d m)
      obtain ⟨r3, r4⟩ := arcI_bd (wyY P Q (d + 1) m) (wyX P Q (d + 1) m)
      go_wp2_with (fail)
      (refine wp_region_later (by kernel_rfl) (by kernel_rfl) ?_; (repeat (quiet_step ((first | (go_at_call 63; exact later_below (l07Seen_any _ _ _ (g3.later _) (g4.later _) (by assumption))) | (go_at_call 74; exact later_same (l02Signed_any _ _ _ (by omega) (by omega))))))); refine wpQuiet_nil ?_; rintro _ ⟨y, rfl⟩)
      go_wp2
      go_ret
      exact ⟨by rw [HO.out]; rfl, below_later (below_step hbW hbW2) _⟩
    · have HO : Hid (retI P Q d m = false) := retI_no2 hk2
      have hb2 : (wyC P Q (d + 1) m != 0) = true := by simp [hk2]
      go_wp2
      go_ret
      exact ⟨by rw [HO.out]; rfl, below_later (below_step hbW hbW2) _⟩
  · have HO : Hid (retI P Q d m = false) := retI_no1 hk
    have hb : (wyC P Q d m != 0) = true := by simp [hk]
    go_enter Tryd.func38, Tryd.ntmps38
    go_wp2_with (fail)
    refine calls_named ?_
    intro W1 hW1
    have hbW : Below w.heap.size w W1 := by rw [hW1]; exact (by repeat (first | exact Below.refl _ _ | refine below_alloc ?_ _ | refine below_drewN0 ?_ _ | refine below_drew0 ?_ | refine below_step ?_ (by assumption) | refine below_later ?_ _ | refine below_setCell0 ?_ (by first | exact Nat.le_refl _ | (simp; done) | omega | (simp; omega)) _))
    have g1 : PlAt W1 w.heap.size P := by rw [hW1]; exact ⟨by simp; try omega, by simp [go_sem], by simp [go_sem], by simp [go_sem], by simp [go_sem]⟩
    have g2 : PlAt W1 (w.heap.size + 1) Q := by rw [hW1]; exact ⟨by simp; try omega, by simp [go_sem], by simp [go_sem], by simp [go_sem], by simp [go_sem]⟩
    have hlt : w.heap.size + 2 < W1.heap.size := by rw [hW1]; simp
    have c4 : W1.cell? ⟨w.heap.size + 2, 0, none⟩ = some (.int .i64 d) := by rw [hW1]; simp [go_sem]
    have c5 : W1.cell? ⟨w.heap.size + 2, 1, none⟩ = some (.int .i64 m) := by rw [hW1]; simp [go_sem]
    clear hW1
    (refine later_intro ?_; intro y)
    (go_at_call 62; refine (later_below (l07Ask_any d m _ (g1.later _) (g2.later _))).mono ?_; rintro e w' ⟨rfl, y, rfl⟩)
    go_wp2
    go_ret
    exact ⟨by rw [HO.out]; rfl, below_later hbW _⟩
end Go.Proofs.YtbgjmahamhppfaaDoor
