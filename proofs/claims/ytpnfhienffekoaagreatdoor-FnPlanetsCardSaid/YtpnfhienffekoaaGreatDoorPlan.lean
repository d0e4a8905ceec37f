/- Contracts of the functions on places of planets and the ways between them. -/
import Derived.Test.YtpnfhienffekoaaGreatDoorGrpNum
import Derived.Test.YtpnfhienffekoaaGreatDoorArcT
import Derived.Test.YtpnfhienffekoaaGreatDoorRoot
import Derived.Test.YtpnfhienffekoaaGreatDoorPlainPlan
namespace Go.Proofs.YtpnfhienffekoaaGreatDoor
set_option linter.unusedVariables false
set_option linter.unusedSimpArgs false
open Go.RowKit
/-- a planet lies at the head of block b -/
def PlAt (w : World) (b : Nat) (P : PlB) : Prop :=
  b < w.heap.size ∧ w.cell? ⟨b, 0, none⟩ = some (.string P.n) ∧ w.cell? ⟨b, 1, none⟩ = some (.int .i64 P.p) ∧ w.cell? ⟨b, 2, none⟩ = some (.int .i64 P.r) ∧ w.cell? ⟨b, 3, none⟩ = some (.int .i64 P.u)
theorem PlAt.of_below {w w' : World} {b : Nat} {P : PlB} (h : PlAt w b P) (hb : Below w.heap.size w w') : PlAt w' b P := by
  obtain ⟨h0, h1, h2, h3, h4⟩ := h
  exact ⟨Nat.lt_of_lt_of_le h0 hb.size, (hb.cell (p := ⟨b, 0, none⟩) h0).trans h1, (hb.cell (p := ⟨b, 1, none⟩) h0).trans h2, (hb.cell (p := ⟨b, 2, none⟩) h0).trans h3, (hb.cell (p := ⟨b, 3, none⟩) h0).trans h4⟩
theorem PlAt.later {w : World} {b : Nat} {P : PlB} (h : PlAt w b P) (y : Later w) : PlAt y.w b P := h.of_below y.below
theorem results_tmp3' {fn : Func} {t u v : Tmp} (h : fn.results = #[.tmp t, .tmp u, .tmp v]) (tmps : Array Value) (P : Program) (w : World) :
    (results fn tmps).run P w = .ok (.tuple #[tmps.getD t undef, tmps.getD u undef, tmps.getD v undef]) w := by simp [results, h]
set_option maxHeartbeats 2000000 in
theorem PlaceInOrbit_any (P : PlB) (d m : Int) (w : World) (hS : SinOk w) :
    Calls Tryz.prog 10 #[.agg #[.string P.n, .int .i64 P.p, .int .i64 P.r, .int .i64 P.u], .agg #[.int .i64 d, .int .i64 m]] w fun e w' =>
      e = .returned (.tuple #[.int .i64 (plO P d m).1, .int .i64 (plO P d m).2.1, .int .i64 (plO P d m).2.2]) ∧ Below w.heap.size w w' := by
  cases hv : vP P && vMoment d m with
  | false =>
    have HO : Hid (plO P d m = (0, 0, 1)) := by show _ = _; rw [plO, hv]; rfl
    have hc : (orbO P.n.data.toList P.p P.r P.u d m).1 = 0 := congrArg Prod.fst (okO_no hv)
    have hc2 : (orbO P.n.data.toList P.p P.r P.u d m).2 = 1 := congrArg Prod.snd (okO_no hv)
    go_enter Tryz.func10, Tryz.ntmps10
    go_wp2_with (fail)
    (refine later_intro ?_; intro y)
    go_wp2_with ((go_at_call 9; refine (later_below (OrbitAngle_any _ _ _ _ _ _ _)).mono ?_; rintro e w' ⟨rfl, y, rfl⟩))
    go_ret3
    exact ⟨by rw [HO.out]; rfl, (by repeat (first | exact Below.refl _ _ | refine below_alloc ?_ _ | refine below_drewN0 ?_ _ | refine below_drew0 ?_ | refine below_step ?_ (by assumption) | refine below_later ?_ _ | refine below_setCell0 ?_ (by first | exact Nat.le_refl _ | (simp; done) | omega | (simp; omega)) _))⟩
  | true =>
    have HO : Hid (plO P d m = (plX P d m, plY P d m, 0)) := by show _ = _; rw [plO, hv]; rfl
    have hc : (orbO P.n.data.toList P.p P.r P.u d m).1 = angP P d m := congrArg Prod.fst (okO_yes hv)
    have hc2 : (orbO P.n.data.toList P.p P.r P.u d m).2 = 0 := congrArg Prod.snd (okO_yes hv)
    obtain ⟨v1, v2⟩ := Bool.and_eq_true_iff.1 hv
    obtain ⟨_, _, r1, r2, _⟩ := vP_bd v1
    have HX : Hid (plX P d m = rnd (P.r * cosI (angP P d m)) 1000) := rfl
    have HY : Hid (plY P d m = rnd (P.r * sinI (angP P d m)) 1000) := rfl
    have ha : 0 ≤ angP P d m ∧ angP P d m ≤ 359999 := angleI_bd _ _ _ _
    obtain ⟨a1, a2⟩ := ha
    generalize angP P d m = a at *
    obtain ⟨p1, p2, p3, p4⟩ := coord_bd P.r (cosI a) r1 r2 (cosI_bd a)
    obtain ⟨p5, p6, p7, p8⟩ := coord_bd P.r (sinI a) r1 r2 (sinI_bd a)
    have w1 : IntKind.i64.wrap (P.r * cosI a) = P.r * cosI a := wrap_in (by omega) (by omega)
    have w2 : IntKind.i64.wrap (P.r * sinI a) = P.r * sinI a := wrap_in (by omega) (by omega)
    go_enter Tryz.func10, Tryz.ntmps10
    go_wp2_with (fail)
    refine calls_named ?_
    intro W1 hW1
    have hS1 : SinOk W1 := by rw [hW1]; exact (hS.alloc _).alloc _
    have hbW : Below w.heap.size w W1 := by rw [hW1]; exact (by repeat (first | exact Below.refl _ _ | refine below_alloc ?_ _ | refine below_drewN0 ?_ _ | refine below_drew0 ?_ | refine below_step ?_ (by assumption) | refine below_later ?_ _ | refine below_setCell0 ?_ (by first | exact Nat.le_refl _ | (simp; done) | omega | (simp; omega)) _))
    have hlt : w.heap.size < W1.heap.size := by rw [hW1]; simp; omega
    have c2 : W1.cell? ⟨w.heap.size, 2, none⟩ = some (.int .i64 P.r) := by rw [hW1]; simp
    clear hW1
    (refine later_intro ?_; intro y)
    go_wp2_with ((go_at_call 9; refine (later_below (OrbitAngle_any _ _ _ _ _ _ _)).mono ?_; rintro e w' ⟨rfl, y, rfl⟩))
    (refine wp_region_later (by kernel_rfl) (by kernel_rfl) ?_; (repeat (quiet_step ((first | (go_at_call 51; exact later_drew (CosineOf_any _ _ (SinOk.later hS1 _) (by omega) (by omega))) | (go_at_call 52; exact later_drew (SineOf_any _ _ (SinOk.later hS1 _) (by omega) (by omega))) | (go_at_call 50; exact later_drew (nearest_any _ _ _ (by omega) (by omega) (by omega) (by omega))))))); refine wpQuiet_nil ?_; rintro _ ⟨y, rfl⟩)
    go_wp2
    go_ret3
    exact ⟨by rw [HO.out, HX.out, HY.out]; rfl, below_later hbW _⟩
end Go.Proofs.YtpnfhienffekoaaGreatDoor
