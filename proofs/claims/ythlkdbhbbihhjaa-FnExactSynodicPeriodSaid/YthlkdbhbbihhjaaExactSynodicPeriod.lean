/- FnExactSynodicPeriod returns true for every input: the program's SynodicPeriod and the reference's give the same answer. -/
import Derived.Test.YthlkdbhbbihhjaaSky
import Derived.Test.YthlkdbhbbihhjaaLawA
import Derived.Test.YthlkdbhbbihhjaaOpen
import Derived.Test.YthlkdbhbbihhjaaRows
namespace Go.Proofs.Ythlkdbhbbihhjaa
set_option linter.unusedVariables false
set_option linter.unusedSimpArgs false
open Go.RowKit
set_option maxHeartbeats 2000000 in
theorem FnExactSynodicPeriod_walk (n1 : ByteArray) (p1 r1 u1 : Int) (n2 : ByteArray) (p2 r2 u2 : Int) (w : World) (hs1 : StrOk n1) (_ : I64 p1) (_ : I64 r1) (_ : I64 u1) (hs2 : StrOk n2) (_ : I64 p2) (_ : I64 r2) (_ : I64 u2) :
    Calls Try.prog 13 #[.agg #[.string n1, .int .i64 p1, .int .i64 r1, .int .i64 u1], .agg #[.string n2, .int .i64 p2, .int .i64 r2, .int .i64 u2]] w fun e w' => e = .returned (.bool true) ∧ Below w.heap.size w w' := by
  rcases szL_cases 1048576 n1.size with ⟨h1, h2⟩ | ⟨h1, h2⟩
  · go_enter Try.func13, Try.ntmps13
    go_wp2_with (fail)
    (refine later_intro ?_; intro y)
    go_wp2_with ((go_at_call 22; refine (later_below (szPlanet_any n1 p1 r1 u1 _ _ hs1 (by omega) (by omega))).mono ?_; rintro e w' ⟨rfl, y, rfl⟩))
    go_ret
    exact ⟨rfl, (by repeat (first | exact Below.refl _ _ | refine below_alloc ?_ _ | refine below_drewN0 ?_ _ | refine below_drew0 ?_ | refine below_step ?_ (by assumption) | refine below_later ?_ _ | refine below_setCell0 ?_ (by first | exact Nat.le_refl _ | (simp; done) | omega | (simp; omega)) _))⟩
  · rcases szL_cases (1048576 - n1.size) n2.size with ⟨h3, h4⟩ | ⟨h3, h4⟩
    · go_enter Try.func13, Try.ntmps13
      go_wp2_with (fail)
      (refine later_intro ?_; intro y)
      (go_at_call 22; refine (later_below (szPlanet_any n1 p1 r1 u1 _ _ hs1 (by omega) (by omega))).mono ?_; rintro e w' ⟨rfl, y, rfl⟩)
      go_wp2_with ((go_at_call 22; refine (later_below (szPlanet_any n2 p2 r2 u2 _ _ hs2 (by omega) (by omega))).mono ?_; rintro e w' ⟨rfl, y, rfl⟩))
      go_ret
      exact ⟨rfl, (by repeat (first | exact Below.refl _ _ | refine below_alloc ?_ _ | refine below_drewN0 ?_ _ | refine below_drew0 ?_ | refine below_step ?_ (by assumption) | refine below_later ?_ _ | refine below_setCell0 ?_ (by first | exact Nat.le_refl _ | (simp; done) | omega | (simp; omega)) _))⟩
    · go_enter Try.func13, Try.ntmps13
      go_wp2_with (fail)
      (refine later_intro ?_; intro y)
      (go_at_call 22; refine (later_below (szPlanet_any n1 p1 r1 u1 _ _ hs1 (by omega) (by omega))).mono ?_; rintro e w' ⟨rfl, y, rfl⟩)
      go_wp2_with ((go_at_call 22; refine (later_below (szPlanet_any n2 p2 r2 u2 _ _ hs2 (by omega) (by omega))).mono ?_; rintro e w' ⟨rfl, y, rfl⟩))
      (refine wp_region_later (by kernel_rfl) (by kernel_rfl) ?_; (repeat (quiet_step ((first | (go_at_call 24; exact later_below (toPlanet_any _ _ _ _ _)) | (go_at_call 43; exact later_below (sSynodicPeriod_any _ _ _ _ _ _ _ _ _)))))); refine wpQuiet_nil ?_; rintro _ ⟨y, rfl⟩)
      go_wp2_with (fail)
      (refine wp_region_later (by kernel_rfl) (by kernel_rfl) ?_; (repeat (quiet_step ((first | (go_at_call 24; exact later_below (toPlanet_any _ _ _ _ _)) | (go_at_call 44; exact later_below (SynodicPeriod_any _ _ _ _ _ _ _ _ _)))))); refine wpQuiet_nil ?_; rintro _ ⟨y, rfl⟩)
      go_wp2
      go_ret
      exact ⟨rfl, (by repeat (first | exact Below.refl _ _ | refine below_alloc ?_ _ | refine below_drewN0 ?_ _ | refine below_drew0 ?_ | refine below_step ?_ (by assumption) | refine below_later ?_ _ | refine below_setCell0 ?_ (by first | exact Nat.le_refl _ | (simp; done) | omega | (simp; omega)) _))⟩

namespace FnExactSynodicPeriod
open Go.ChangeShapes Go.WideShapes Go.ChangeAt Go.RowKit Go.Joins
open Go.ChangeMaps (open_string shut_string)
theorem own : ownKnob Try.prog.godebug = none := by kernel_rfl
theorem laidOut : laidOutB Try.prog = true := by kernel_rfl
set_option maxRecDepth 100000 in
set_option maxHeartbeats 1000000 in
theorem lifted (os : Os) (started : os.Started) (H : Type) (enc : TypeId × Value → H) :
    ReturnsInHanded {} Try.checked os 13 .any (Rows.fnExactSynodicPeriodSpec.pre6 enc Try.prog Try.f13 Rows.fnExactSynodicPeriodRow.domain false) (Rows.fnExactSynodicPeriodSpec.post enc Try.prog Try.f13 false true false false) := by
  refine returnsInHanded_of_change (C := Try.checked) own started (by kernel_rfl) Try.func13
    (ChangeSpec.witness6 (enc := enc) (C := Try.checked) false ⟨#[], #[.agg #[.string ⟨#[]⟩, .int .i64 0, .int .i64 0, .int .i64 0], .agg #[.string ⟨#[]⟩, .int .i64 0, .int .i64 0, .int .i64 0]], []⟩ 8 (by kernel_rfl) (by kernel_rfl) (by kernel_rfl) (by kernel_rfl)) ?_
  intro W base args ds gs before hval0 hW hcnd _
  have hval : ∀ (j : Nat) t v, Try.f13.params[j]? = some t → args[j]? = some v → Value.okWide Try.prog W .any base t v := hval0
  have hW' := hW
  obtain ⟨p, q, hA0, hV, rfl, hfz, hnd⟩ := hW
  have hA : DataW.TrodAll enc Try.prog W 0 (fun _ => true) true Try.f13.params.toList args.toList ds p := hA0
  rw [Try.params13] at hA hval
  obtain ⟨v0, vs0, d0, ds0, p0, q0, hargs, rfl, rfl, h0, r0⟩ := trodAll_cons hA
  obtain ⟨v1, vs1, d1, ds1, p1, q1, rfl, rfl, rfl, h1, r1⟩ := trodAll_cons r0
  obtain ⟨rfl, rfl, rfl⟩ := trodAll_nil r1
  obtain rfl : args = #[v0, v1] := by cases args; simp_all
  obtain ⟨rfl, rfl⟩ := trodVars_none hV
  have k0 := h0
  have lt0 : ∀ x ∈ p0, x.block < W.heap.size := by obtain ⟨m, hm⟩ := k0; exact DataW.trod_lt m _ _ _ hm
  have k1 := h1
  have lt1 : ∀ x ∈ p1, x.block < W.heap.size := by obtain ⟨m, hm⟩ := k1; exact DataW.trod_lt m _ _ _ hm
  obtain ⟨c0_0, c0_1, c0_2, c0_3, y0_0, y0_1, y0_2, y0_3, m0, rfl, rfl, rfl, t0_0, t0_1, t0_2, t0_3⟩ := open_agg4 Try.underlying37 (by kernel_rfl) (by kernel_rfl) (hval 0 37 v0 rfl rfl) h0
  obtain ⟨a0_0, rfl, g0_0⟩ := cell_string Try.underlying9 t0_0
  obtain ⟨a0_1, rfl, g0_1⟩ := cell_int Try.underlying2 t0_1
  obtain ⟨a0_2, rfl, g0_2⟩ := cell_int Try.underlying2 t0_2
  obtain ⟨a0_3, rfl, g0_3⟩ := cell_int Try.underlying2 t0_3
  obtain ⟨c1_0, c1_1, c1_2, c1_3, y1_0, y1_1, y1_2, y1_3, m1, rfl, rfl, rfl, t1_0, t1_1, t1_2, t1_3⟩ := open_agg4 Try.underlying37 (by kernel_rfl) (by kernel_rfl) (hval 1 37 v1 rfl rfl) h1
  obtain ⟨a1_0, rfl, g1_0⟩ := cell_string Try.underlying9 t1_0
  obtain ⟨a1_1, rfl, g1_1⟩ := cell_int Try.underlying2 t1_1
  obtain ⟨a1_2, rfl, g1_2⟩ := cell_int Try.underlying2 t1_2
  obtain ⟨a1_3, rfl, g1_3⟩ := cell_int Try.underlying2 t1_3
  clear hA0 hval0
  refine (FnExactSynodicPeriod_walk a0_0 a0_1 a0_2 a0_3 a1_0 a1_1 a1_2 a1_3 W g0_0 g0_1 g0_2 g0_3 g1_0 g1_1 g1_2 g1_3).mono fun e W' ⟨he, bel⟩ => ?_
  subst he
  exact ⟨_, rfl, _, _, _, [], _, [], hW', trodAll_mk1 (shut_bool Try.underlying4 _), (trodAll_cons_mk (Below.trod laidOut (by kernel_rfl) (of_decide_eq_true (by kernel_rfl)) k0 bel lt0) (trodAll_cons_mk (Below.trod laidOut (by kernel_rfl) (of_decide_eq_true (by kernel_rfl)) k1 bel lt1) trodAll_mk0)), rfl, bel.frame _, fun h => by cases h⟩
theorem over : Rows.fnExactSynodicPeriodRow.holds Try.pinned (OpenSpec.ofChange Rows.fnExactSynodicPeriodSpec) :=
  OpenClaim.holds_of_wide 13 Try.f13 rfl rfl rfl rfl rfl rfl rfl ⟨rfl, rfl, rfl, rfl, rfl⟩ rfl rfl rfl rfl rfl (by kernel_rfl) Try.func13 (by kernel_rfl)
    (of_decide_eq_true (by kernel_rfl)) (by unfold Func.isWrapper; first | (rw [if_pos (by decide +kernel)]; kernel_rfl) | (rw [if_neg (by decide +kernel)]; exact ⟨rfl, rfl⟩))
    (fun os started H enc _ => lifted os started H enc)
/-- the statement -/
theorem proved : Rows.FnExactSynodicPeriodSaid := over
end FnExactSynodicPeriod
end Go.Proofs.Ythlkdbhbbihhjaa
