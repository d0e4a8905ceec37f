/- The program's ValidPlanets returns what the reference's returns, for all arguments. No condition. -/
import Derived.Test.YtafaggeicdijdaaPla
import Derived.Test.YtafaggeicdijdaaChecked
import Derived.Test.YtafaggeicdijdaaRows
import Derived.OpenVars
import Derived.RowKit
namespace Go.Proofs.Ytafaggeicdijdaa
set_option linter.unusedVariables false
set_option linter.unusedSimpArgs false
open Go.RowKit
set_option maxHeartbeats 2000000 in
theorem FnExactValidPlanets_walk (A0 : Option Addr) (n0 c0 : Nat) (l0 : List Pla) (w : World) (hl0 : l0.length = n0) (hn0 : n0 ≤ 9223372036854775807) (hS0 : Plans w A0 l0) (hi0 : ∀ x ∈ l0, x.i64) :
    Calls Try.prog 4 #[.slice A0 n0 c0] w fun e w' => e = .returned (.bool true) ∧ Below w.heap.size w w' := by
  have HL0 := Lib.hid hl0
  have HI0 := Lib.hid hi0
  clear hl0 hi0
  go_enter Try.func4, Try.ntmps4
  go_wp2_with (fail)
  refine (szPlanetS_any A0 n0 c0 l0 1048576 _ HL0.out hn0 hS0 HI0.out (by omega) (by omega)).mono ?_
  rintro e w1 ⟨r1, rfl, hr1, hb1⟩
  rcases hr1 with hr1 | ⟨za1, zb1, zc1⟩
  · go_wp2
    go_ret
    exact ⟨rfl, (by repeat (first | exact Below.refl _ _ | refine below_alloc ?_ _ | refine below_drewN0 ?_ _ | refine below_drew0 ?_ | refine below_step ?_ (by assumption) | refine below_later ?_ _ | refine below_setCell0 ?_ (by first | exact Nat.le_refl _ | (simp; done) | omega | (simp; omega)) _))⟩
  go_wp2_with (fail)
  refine (toPlanetS_any A0 n0 c0 l0 _ HL0.out (by omega) (hS0.below hb1)).mono ?_
  rintro e w2 ⟨rfl, hB2, hb2⟩
  go_wp2_with (fail)
  refine (sValidPlans_any _ n0 n0 l0 _ HL0.out hn0 hB2.plans).mono ?_
  rintro e w3 ⟨rfl, hb3⟩
  go_wp2_with (fail)
  refine (toPlanetS_any A0 n0 c0 l0 _ HL0.out (by omega) (((hS0.below hb1).below hb2).below hb3)).mono ?_
  rintro e w4 ⟨rfl, hB4, hb4⟩
  go_wp2_with (fail)
  refine (ValidPlans_any _ n0 n0 l0 _ HL0.out hn0 hB4.plans).mono ?_
  rintro e w5 ⟨rfl, hb5⟩
  go_wp2_with (fail)
  refine (toPlanetS_any A0 n0 c0 l0 _ HL0.out (by omega) (((((hS0.below hb1).below hb2).below hb3).below hb4).below hb5)).mono ?_
  rintro e w6 ⟨rfl, hB6, hb6⟩
  go_wp2_with (fail)
  refine (eqPlanetS_same _ _ n0 _ _ l0 _ HL0.out (by omega) ((hB4.plans.below hb5).below hb6) hB6.plans).mono ?_
  rintro e w7 ⟨rfl, hb7⟩
  go_wp2
  go_ret
  exact ⟨rfl, (by repeat (first | exact Below.refl _ _ | refine below_alloc ?_ _ | refine below_drewN0 ?_ _ | refine below_drew0 ?_ | refine below_step ?_ (by assumption) | refine below_later ?_ _ | refine below_setCell0 ?_ (by first | exact Nat.le_refl _ | (simp; done) | omega | (simp; omega)) _))⟩
namespace FnExactValidPlanets
open Go.ChangeShapes Go.WideShapes Go.ChangeAt Go.RowKit Go.Joins
open Go.ChangeMaps (open_string shut_string)
theorem own : ownKnob Try.prog.godebug = none := by kernel_rfl
theorem laidOut : laidOutB Try.prog = true := by kernel_rfl
set_option maxRecDepth 100000 in
set_option maxHeartbeats 1000000 in
theorem lifted (os : Os) (started : os.Started) (H : Type) (enc : TypeId × Value → H) :
    ReturnsInHanded {} Try.checked os 4 .any (Rows.fnExactValidPlanetsSpec.pre6 enc Try.prog Try.f4 Rows.fnExactValidPlanetsRow.domain false) (Rows.fnExactValidPlanetsSpec.post enc Try.prog Try.f4 false true false false) := by
  refine returnsInHanded_of_change (C := Try.checked) own started (by kernel_rfl) Try.func4
    (ChangeSpec.witness6 (enc := enc) (C := Try.checked) false ⟨#[], #[.slice none 0 0], []⟩ 8 (by kernel_rfl) (by kernel_rfl) (by kernel_rfl) (by kernel_rfl)) ?_
  intro W base args ds gs before hval0 hW hcnd _
  have hval : ∀ (j : Nat) t v, Try.f4.params[j]? = some t → args[j]? = some v → Value.okWide Try.prog W .any base t v := hval0
  have hW' := hW
  obtain ⟨p, q, hA0, hV, rfl, hfz, hnd⟩ := hW
  have hA : DataW.TrodAll enc Try.prog W 0 (fun _ => true) true Try.f4.params.toList args.toList ds p := hA0
  rw [Try.params4] at hA hval
  obtain ⟨v0, vs0, d0, ds0, p0, q0, hargs, rfl, rfl, h0, r0⟩ := trodAll_cons hA
  obtain ⟨rfl, rfl, rfl⟩ := trodAll_nil r0
  obtain rfl : args = #[v0] := by cases args; simp_all
  obtain ⟨rfl, rfl⟩ := trodVars_none hV
  have k0 := h0
  have lt0 : ∀ x ∈ p0, x.block < W.heap.size := by obtain ⟨m, hm⟩ := k0; exact DataW.trod_lt m _ _ _ hm
  obtain ⟨A0, n0, c0, l0, rfl, hl0, hn0, hc0, hx0, hS0, hi0⟩ := open_plans Try.underlying28 Try.underlying70 (by kernel_rfl) (by kernel_rfl) Try.underlying9 Try.underlying2 Try.underlying2 Try.underlying2 (hval 0 28 v0 rfl rfl) h0
  clear hA0 hval0
  refine (FnExactValidPlanets_walk A0 n0 c0 l0 W hl0 hn0 hS0 hi0).mono fun e W' ⟨he, bel⟩ => ?_
  subst he
  exact ⟨_, rfl, _, _, _, [], _, [], hW', trodAll_mk1 (shut_bool Try.underlying4 _), (trodAll_cons_mk (Below.trod laidOut (by kernel_rfl) (of_decide_eq_true (by kernel_rfl)) k0 bel lt0) trodAll_mk0), rfl, bel.frame _, fun h => by cases h⟩
theorem over : Rows.fnExactValidPlanetsRow.holds Try.pinned (OpenSpec.ofChange Rows.fnExactValidPlanetsSpec) :=
  OpenClaim.holds_of_wide 4 Try.f4 rfl rfl rfl rfl rfl rfl rfl ⟨rfl, rfl, rfl, rfl, rfl⟩ rfl rfl rfl rfl rfl (by kernel_rfl) Try.func4 (by kernel_rfl)
    (of_decide_eq_true (by kernel_rfl)) (by unfold Func.isWrapper; first | (rw [if_pos (by decide +kernel)]; kernel_rfl) | (rw [if_neg (by decide +kernel)]; exact ⟨rfl, rfl⟩))
    (fun os started H enc _ => lifted os started H enc)
/-- the statement -/
theorem proved : Rows.FnExactValidPlanetsSaid := over
end FnExactValidPlanets
end Go.Proofs.Ytafaggeicdijdaa
