/- Contracts of the functions on places of planets and the ways between them. -/
import Derived.Test.YtbgjmahamhppfaaDoorSky
import Derived.Test.YtbgjmahamhppfaaDoorArcT
import Derived.Test.YtbgjmahamhppfaaDoorRoot
import Derived.Test.YtbgjmahamhppfaaDoorPlainPlan
namespace Go.Proofs.YtbgjmahamhppfaaDoor
set_option linter.unusedVariables false
set_option linter.unusedSimpArgs false
open Go.RowKit
/-- a planet lies at the head of block b -/
def PlAt (w : World) (b : Nat) (P : PlB) : Prop :=
  b < w.heap.size ∧ w.cell? ⟨b, 0, none⟩ = some (.string P.n) ∧ w.cell? ⟨b, 1, none⟩ = some (.int .i64 P.p) ∧ w.cell? ⟨b, 2, none⟩ = some (.int .i64 P.r) ∧ w.cell? ⟨b, 3, none⟩ = some (.int .i64 P.u)
theorem PlAt.of_below {w w' : World} {b : Nat} {P : PlB} (h : PlAt w b P) (hb : Below w.heap.size w w') : PlAt w' b P := by
  obtain ⟨h0, h1, h2, h3, h4⟩ := h
  exact ⟨Nat.lt_of_lt_of_le h0 hb.size, (hb.cell (p := ⟨b, 0, none⟩) h0).trans h1, (hb.cell (p := ⟨b, 1, none⟩) h0).trans h2, (hb.cell (p := ⟨b, 2, none⟩) h0).trans h3, (hb.cell (p := ⟨b, 3, none⟩) h0).trans h4⟩
theorem PlAt.later {w : World} {b : Nat} {P : PlB} (h : PlAt w b P) (y : Later w) : PlAt y.w b P := h.of_below y.below
theorem l07One_at {b : Nat} {P : PlB} {w : World} (h : PlAt w b P) :
    Calls Tryd.prog 42 #[.pointer (some ⟨b, 0, none⟩)] w fun e w' => e = .returned (.bool (vP P)) ∧ w = w' := l07One_any b P.n P.p P.r P.u w h.2.1 h.2.2.1 h.2.2.2.1 h.2.2.2.2
theorem l07Angle_at {b : Nat} {P : PlB} {w : World} (h : PlAt w b P) (hv : vP P = true) {d m : Int} (hm : vMoment d m = true) :
    Calls Tryd.prog 67 #[.pointer (some ⟨b, 0, none⟩), .agg #[.int .i64 d, .int .i64 m]] w fun e w' => e = .returned (.int .i64 (angP P d m)) ∧ Below w.heap.size w w' :=
  l07Angle_any b P.p P.u d m w h.1 h.2.2.1 h.2.2.2.2 ⟨(vP_bd hv).1, (vP_bd hv).2.1⟩ ⟨(vP_bd hv).2.2.2.2.1, (vP_bd hv).2.2.2.2.2⟩ (vMoment_bd hm)
theorem results_tmp3' {fn : Func} {t u v : Tmp} (h : fn.results = #[.tmp t, .tmp u, .tmp v]) (tmps : Array Value) (P : Program) (w : World) :
    (results fn tmps).run P w = .ok (.tuple #[tmps.getD t undef, tmps.getD u undef, tmps.getD v undef]) w := by simp [results, h]
set_option maxHeartbeats 2000000 in
theorem PlaceInOrbit_any (P : PlB) (d m : Int) (w : World) (hS : SinOk w) :
    Calls Tryd.prog 18 #[.agg #[.string P.n, .int .i64 P.p, .int .i64 P.r, .int .i64 P.u], .agg #[.int .i64 d, .int .i64 m]] w fun e w' =>
      e = .returned (.tuple #[.int .i64 (plO P d m).1, .int .i64 (plO P d m).2.1, .int .i64 (plO P d m).2.2]) ∧ Below w.heap.size w w' := by
  cases hv : vP P && vMoment d m with
  | false =>
    have HO : Hid (plO P d m = (0, 0, 1)) := by show _ = _; rw [plO, hv]; rfl
    have hc : (orbO P.n.data.toList P.p P.r P.u d m).1 = 0 := congrArg Prod.fst (okO_no hv)
    have hc2 : (orbO P.n.data.toList P.p P.r P.u d m).2 = 1 := congrArg Prod.snd (okO_no hv)
    go_enter Tryd.func18, Tryd.ntmps18
    go_wp2_with (fail)
    (refine later_intro ?_; intro y)
    go_wp2_with ((go_at_call 45; refine (later_below (OrbitAngle_any _ _ _ _ _ _ _)).mono ?_; rintro e w' ⟨rfl, y, rfl⟩))
    go_ret3
    exact ⟨by rw [HO.out]; rfl, (by repeat (first | exact Below.refl _ _ | refine below_alloc ?_ _ | refine below_drewN0 ?_ _ | refine below_drew0 ?_ | refine below_step ?_ (by assumption) | refine below_later ?_ _ | refine below_setCell0 ?_ (by first | exact Nat.le_refl _ | (simp; done) | omega | (simp; omega)) _))⟩
  | true =>
    have HO : Hid (plO P d m = (plX P d m, plY P d m, 0)) := by show _ = _; rw [plO, hv]; rfl
    have hc : (orbO P.n.data.toList P.p P.r P.u d m).1 = angP P d m := congrArg Prod.fst (okO_yes hv)
    have hc2 : (orbO P.n.data.toList P.p P.r P.u d m).2 = 0 := congrArg Prod.snd (okO_yes hv)
    obtain ⟨v1, v2⟩ := Bool.and_eq_true_iff.1 hv
    obtain ⟨_, _, r1, r2, _⟩ := vP_bd v1
    have HX : Hid (plX P d m = rnd (P.r * cosI (angP P d m)) 1000) := rfl
    have HY : Hid (plY P d m = rnd (P.r * sinI (angP P d m)) 1000) := rfl
    have ha : 0 ≤ angP P d m ∧ angP P d m ≤ 359999 := angleI_bd _ _ _ _
    obtain ⟨a1, a2⟩ := ha
    generalize angP P d m = a at *
    obtain ⟨p1, p2, p3, p4⟩ := coord_bd P.r (cosI a) r1 r2 (cosI_bd a)
    obtain ⟨p5, p6, p7, p8⟩ := coord_bd P.r (sinI a) r1 r2 (sinI_bd a)
    have w1 : IntKind.i64.wrap (P.r * cosI a) = P.r * cosI a := wrap_in (by omega) (by omega)
    have w2 : IntKind.i64.wrap (P.r * sinI a) = P.r * sinI a := wrap_in (by omega) (by omega)
    go_enter Tryd.func18, Tryd.ntmps18
    go_wp2_with (fail)
    refine calls_named ?_
    intro W1 hW1
    have hS1 : SinOk W1 := by rw [hW1]; exact (hS.alloc _).alloc _
    have hbW : Below w.heap.size w W1 := by rw [hW1]; exact (by repeat (first | exact Below.refl _ _ | refine below_alloc ?_ _ | refine below_drewN0 ?_ _ | refine below_drew0 ?_ | refine below_step ?_ (by assumption) | refine below_later ?_ _ | refine below_setCell0 ?_ (by first | exact Nat.le_refl _ | (simp; done) | omega | (simp; omega)) _))
    have hlt : w.heap.size < W1.heap.size := by rw [hW1]; simp; omega
    have c2 : W1.cell? ⟨w.heap.size, 2, none⟩ = some (.int .i64 P.r) := by rw [hW1]; simp
    clear hW1
    (refine later_intro ?_; intro y)
    go_wp2_with ((go_at_call 45; refine (later_below (OrbitAngle_any _ _ _ _ _ _ _)).mono ?_; rintro e w' ⟨rfl, y, rfl⟩))
    (refine wp_region_later (by kernel_rfl) (by kernel_rfl) ?_; (repeat (quiet_step ((first | (go_at_call 47; exact later_drew (CosineOf_any _ _ (SinOk.later hS1 _) (by omega) (by omega))) | (go_at_call 48; exact later_drew (SineOf_any _ _ (SinOk.later hS1 _) (by omega) (by omega))) | (go_at_call 46; exact later_drew (nearest_any _ _ _ (by omega) (by omega) (by omega) (by omega))))))); refine wpQuiet_nil ?_; rintro _ ⟨y, rfl⟩)
    go_wp2
    go_ret3
    exact ⟨by rw [HO.out, HX.out, HY.out]; rfl, below_later hbW _⟩
set_option maxHeartbeats 2000000 in
theorem l07Place_any {b : Nat} {P : PlB} (d m : Int) (w : World) (hP : PlAt w b P) (v1 : vP P = true) (v2 : vMoment d m = true) :
    Calls Tryd.prog 44 #[.pointer (some ⟨b, 0, none⟩), .agg #[.int .i64 d, .int .i64 m]] w fun e w' => e = .returned (.tuple #[.int .i64 (plX P d m), .int .i64 (plY P d m)]) ∧ Below w.heap.size w w' := by
  obtain ⟨_, _, r1, r2, _⟩ := vP_bd v1
  have HX : Hid (plX P d m = rnd (P.r * cosI (angP P d m)) 1000) := rfl
  have HY : Hid (plY P d m = rnd (P.r * sinI (angP P d m)) 1000) := rfl
  have ha : 0 ≤ angP P d m ∧ angP P d m ≤ 359999 := angleI_bd _ _ _ _
  obtain ⟨a1, a2⟩ := ha
  go_enter Tryd.func44, Tryd.ntmps44
  go_wp2_with (fail)
  refine calls_named ?_
  intro W1 hW1
  have hbW : Below w.heap.size w W1 := by rw [hW1]; exact (by repeat (first | exact Below.refl _ _ | refine below_alloc ?_ _ | refine below_drewN0 ?_ _ | refine below_drew0 ?_ | refine below_step ?_ (by assumption) | refine below_later ?_ _ | refine below_setCell0 ?_ (by first | exact Nat.le_refl _ | (simp; done) | omega | (simp; omega)) _))
  have hP1 : PlAt W1 b P := hP.of_below hbW
  obtain ⟨hlt, _, _, c2, _⟩ := hP1
  have hP1 : PlAt W1 b P := hP.of_below hbW
  clear hW1
  (refine later_intro ?_; intro y)
  (go_at_call 67; refine (later_below (l07Angle_at (PlAt.later hP1 _) v1 v2)).mono ?_; rintro e w' ⟨rfl, y, rfl⟩)
  generalize angP P d m = a at *
  obtain ⟨p1, p2, p3, p4⟩ := coord_bd P.r (cosI a) r1 r2 (cosI_bd a)
  obtain ⟨p5, p6, p7, p8⟩ := coord_bd P.r (sinI a) r1 r2 (sinI_bd a)
  have w1 : IntKind.i64.wrap (P.r * cosI a) = P.r * cosI a := wrap_in (by omega) (by omega)
  have w2 : IntKind.i64.wrap (P.r * sinI a) = P.r * sinI a := wrap_in (by omega) (by omega)
  go_wp2_with (fail)
  (refine wp_region_later (by kernel_rfl) (by kernel_rfl) ?_; (repeat (quiet_step ((first | (go_at_call 70; exact later_below (l02Cosine_any _ _ (by omega) (by omega))) | (go_at_call 83; exact later_below (l02Sine_any _ _ (by omega) (by omega))) | (go_at_call 69; exact later_same (l01Div_any _ _ _ (by omega) (by omega) (by omega) (by omega))))))); refine wpQuiet_nil ?_; rintro _ ⟨y, rfl⟩)
  go_wp2
  go_ret2
  exact ⟨by rw [HX.out, HY.out]; rfl, below_later hbW _⟩
set_option maxHeartbeats 2000000 in
theorem sPlaceInOrbit_any (P : PlB) (d m : Int) (w : World) :
    Calls Tryd.prog 15 #[.agg #[.string P.n, .int .i64 P.p, .int .i64 P.r, .int .i64 P.u], .agg #[.int .i64 d, .int .i64 m]] w fun e w' =>
      e = .returned (.tuple #[.int .i64 (plO P d m).1, .int .i64 (plO P d m).2.1, .int .i64 (plO P d m).2.2]) ∧ Below w.heap.size w w' := by
  cases v1 : vP P with
  | false =>
    have HO : Hid (plO P d m = (0, 0, 1)) := by show _ = _; rw [plO, v1]; rfl
    go_enter Tryd.func15, Tryd.ntmps15
    go_wp2_with (fail)
    refine calls_named ?_
    intro W1 hW1
    have hbW : Below w.heap.size w W1 := by rw [hW1]; exact (by repeat (first | exact Below.refl _ _ | refine below_alloc ?_ _ | refine below_drewN0 ?_ _ | refine below_drew0 ?_ | refine below_step ?_ (by assumption) | refine below_later ?_ _ | refine below_setCell0 ?_ (by first | exact Nat.le_refl _ | (simp; done) | omega | (simp; omega)) _))
    have g1 : PlAt W1 w.heap.size P := by rw [hW1]; exact ⟨by simp; try omega, by simp [go_sem], by simp [go_sem], by simp [go_sem], by simp [go_sem]⟩
    clear hW1
    (refine later_intro ?_; intro y)
    (go_at_call 42; refine (later_same (l07One_at (g1.later _))).mono ?_; rintro e w' ⟨rfl, y, rfl⟩)
    go_wp2
    go_ret3
    exact ⟨by rw [HO.out]; rfl, below_later hbW _⟩
  | true =>
    cases v2 : vMoment d m with
    | false =>
      have HO : Hid (plO P d m = (0, 0, 1)) := by show _ = _; rw [plO, v1, v2]; rfl
      go_enter Tryd.func15, Tryd.ntmps15
      go_wp2_with (fail)
      refine calls_named ?_
      intro W1 hW1
      have hbW : Below w.heap.size w W1 := by rw [hW1]; exact (by repeat (first | exact Below.refl _ _ | refine below_alloc ?_ _ | refine below_drewN0 ?_ _ | refine below_drew0 ?_ | refine below_step ?_ (by assumption) | refine below_later ?_ _ | refine below_setCell0 ?_ (by first | exact Nat.le_refl _ | (simp; done) | omega | (simp; omega)) _))
      have g1 : PlAt W1 w.heap.size P := by rw [hW1]; exact ⟨by simp; try omega, by simp [go_sem], by simp [go_sem], by simp [go_sem], by simp [go_sem]⟩
      have hlt : w.heap.size + 1 < W1.heap.size := by rw [hW1]; simp
      have c4 : W1.cell? ⟨w.heap.size + 1, 0, none⟩ = some (.int .i64 d) := by rw [hW1]; simp [go_sem]
      have c5 : W1.cell? ⟨w.heap.size + 1, 1, none⟩ = some (.int .i64 m) := by rw [hW1]; simp [go_sem]
      clear hW1
      (refine later_intro ?_; intro y)
      (go_at_call 42; refine (later_same (l07One_at (g1.later _))).mono ?_; rintro e w' ⟨rfl, y, rfl⟩)
      go_wp2_with ((go_at_call 43; refine (later_below (l03Ok_any _ _ _)).mono ?_; rintro e w' ⟨rfl, y, rfl⟩))
      go_ret3
      exact ⟨by rw [HO.out]; rfl, below_later hbW _⟩
    | true =>
      have HO : Hid (plO P d m = (plX P d m, plY P d m, 0)) := by show _ = _; rw [plO, v1, v2]; rfl
      go_enter Tryd.func15, Tryd.ntmps15
      go_wp2_with (fail)
      refine calls_named ?_
      intro W1 hW1
      have hbW : Below w.heap.size w W1 := by rw [hW1]; exact (by repeat (first | exact Below.refl _ _ | refine below_alloc ?_ _ | refine below_drewN0 ?_ _ | refine below_drew0 ?_ | refine below_step ?_ (by assumption) | refine below_later ?_ _ | refine below_setCell0 ?_ (by first | exact Nat.le_refl _ | (simp; done) | omega | (simp; omega)) _))
      have g1 : PlAt W1 w.heap.size P := by rw [hW1]; exact ⟨by simp; try omega, by simp [go_sem], by simp [go_sem], by simp [go_sem], by simp [go_sem]⟩
      have hlt : w.heap.size + 1 < W1.heap.size := by rw [hW1]; simp
      have c4 : W1.cell? ⟨w.heap.size + 1, 0, none⟩ = some (.int .i64 d) := by rw [hW1]; simp [go_sem]
      have c5 : W1.cell? ⟨w.heap.size + 1, 1, none⟩ = some (.int .i64 m) := by rw [hW1]; simp [go_sem]
      clear hW1
      (refine later_intro ?_; intro y)
      (go_at_call 42; refine (later_same (l07One_at (g1.later _))).mono ?_; rintro e w' ⟨rfl, y, rfl⟩)
      go_wp2_with (first | (go_at_call 43; refine (later_below (l03Ok_any _ _ _)).mono ?_; rintro e w' ⟨rfl, y, rfl⟩) | (go_at_call 44; refine (later_below (l07Place_any d m _ (g1.later _) v1 v2)).mono ?_; rintro e w' ⟨rfl, y, rfl⟩))
      go_ret3
      exact ⟨by rw [HO.out]; rfl, below_later hbW _⟩
end Go.Proofs.YtbgjmahamhppfaaDoor
