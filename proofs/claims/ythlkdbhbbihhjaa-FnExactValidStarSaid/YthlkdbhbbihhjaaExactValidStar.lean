/- FnExactValidStar returns true for every input: the program's ValidStar and the reference's compute the same Bool. -/
import Derived.Test.YthlkdbhbbihhjaaLawA
import Derived.Test.YthlkdbhbbihhjaaOpen
import Derived.Test.YthlkdbhbbihhjaaRows
namespace Go.Proofs.Ythlkdbhbbihhjaa
set_option linter.unusedVariables false
set_option linter.unusedSimpArgs false
open Go.RowKit
set_option maxHeartbeats 1000000 in
theorem FnExactValidStar_walk (s : ByteArray) (r d m c : Int) (w : World) (hs : StrOk s) (hr : I64 r) (hd : I64 d) (hm : I64 m) (hc : I64 c) :
    Calls Try.prog 6 #[.agg #[.string s, .int .i64 r, .int .i64 d, .int .i64 m, .int .i64 c]] w fun e w' => e = .returned (.bool true) ∧ Below w.heap.size w w' := by
  rcases szL_cases 1048576 s.size with ⟨h1, h2⟩ | ⟨h1, h2⟩
  · go_enter Try.func6, Try.ntmps6
    go_wp2_with (fail)
    (refine later_intro ?_; intro y)
    go_wp2_with ((go_at_call 26; refine (later_below (szStar_any s r d m c _ _ hs (by omega) (by omega))).mono ?_; rintro e w' ⟨rfl, y, rfl⟩))
    go_ret
    exact ⟨rfl, (by repeat (first | exact Below.refl _ _ | refine below_alloc ?_ _ | refine below_drewN0 ?_ _ | refine below_drew0 ?_ | refine below_step ?_ (by assumption) | refine below_later ?_ _ | refine below_setCell0 ?_ (by first | exact Nat.le_refl _ | (simp; done) | omega | (simp; omega)) _))⟩
  · go_enter Try.func6, Try.ntmps6
    go_wp2_with (fail)
    (refine later_intro ?_; intro y)
    go_wp2_with (first | (go_at_call 26; refine (later_below (szStar_any s r d m c _ _ hs (by omega) (by omega))).mono ?_; rintro e w' ⟨rfl, y, rfl⟩) | (go_at_call 28; refine (later_below (toStar_any _ _ _ _ _ _)).mono ?_; rintro e w' ⟨rfl, y, rfl⟩) | (go_at_call 29; refine (later_below (ValidStar_any _ _ _ _ _ _)).mono ?_; rintro e w' ⟨rfl, y, rfl⟩) | (go_at_call 27; refine (later_below (sValidStar_any _ _ _ _ _ _)).mono ?_; rintro e w' ⟨rfl, y, rfl⟩))
    go_ret
    exact ⟨rfl, (by repeat (first | exact Below.refl _ _ | refine below_alloc ?_ _ | refine below_drewN0 ?_ _ | refine below_drew0 ?_ | refine below_step ?_ (by assumption) | refine below_later ?_ _ | refine below_setCell0 ?_ (by first | exact Nat.le_refl _ | (simp; done) | omega | (simp; omega)) _))⟩

namespace FnExactValidStar
open Go.ChangeShapes Go.WideShapes Go.ChangeAt Go.RowKit Go.Joins
open Go.ChangeMaps (open_string shut_string)
theorem own : ownKnob Try.prog.godebug = none := by kernel_rfl
theorem laidOut : laidOutB Try.prog = true := by kernel_rfl
set_option maxRecDepth 100000 in
set_option maxHeartbeats 1000000 in
theorem lifted (os : Os) (started : os.Started) (H : Type) (enc : TypeId × Value → H) :
    ReturnsInHanded {} Try.checked os 6 .any (Rows.fnExactValidStarSpec.pre6 enc Try.prog Try.f6 Rows.fnExactValidStarRow.domain false) (Rows.fnExactValidStarSpec.post enc Try.prog Try.f6 false true false false) := by
  refine returnsInHanded_of_change (C := Try.checked) own started (by kernel_rfl) Try.func6
    (ChangeSpec.witness6 (enc := enc) (C := Try.checked) false ⟨#[], #[.agg #[.string ⟨#[]⟩, .int .i64 0, .int .i64 0, .int .i64 0, .int .i64 0]], []⟩ 8 (by kernel_rfl) (by kernel_rfl) (by kernel_rfl) (by kernel_rfl)) ?_
  intro W base args ds gs before hval0 hW hcnd _
  have hval : ∀ (j : Nat) t v, Try.f6.params[j]? = some t → args[j]? = some v → Value.okWide Try.prog W .any base t v := hval0
  have hW' := hW
  obtain ⟨p, q, hA0, hV, rfl, hfz, hnd⟩ := hW
  have hA : DataW.TrodAll enc Try.prog W 0 (fun _ => true) true Try.f6.params.toList args.toList ds p := hA0
  rw [Try.params6] at hA hval
  obtain ⟨v0, vs0, d0, ds0, p0, q0, hargs, rfl, rfl, h0, r0⟩ := trodAll_cons hA
  obtain ⟨rfl, rfl, rfl⟩ := trodAll_nil r0
  obtain rfl : args = #[v0] := by cases args; simp_all
  obtain ⟨rfl, rfl⟩ := trodVars_none hV
  have k0 := h0
  have lt0 : ∀ x ∈ p0, x.block < W.heap.size := by obtain ⟨m, hm⟩ := k0; exact DataW.trod_lt m _ _ _ hm
  obtain ⟨c0_0, c0_1, c0_2, c0_3, c0_4, y0_0, y0_1, y0_2, y0_3, y0_4, m0, rfl, rfl, rfl, t0_0, t0_1, t0_2, t0_3, t0_4⟩ := open_agg5 Try.underlying44 (by kernel_rfl) (by kernel_rfl) (hval 0 44 v0 rfl rfl) h0
  obtain ⟨a0_0, rfl, g0_0⟩ := cell_string Try.underlying9 t0_0
  obtain ⟨a0_1, rfl, g0_1⟩ := cell_int Try.underlying2 t0_1
  obtain ⟨a0_2, rfl, g0_2⟩ := cell_int Try.underlying2 t0_2
  obtain ⟨a0_3, rfl, g0_3⟩ := cell_int Try.underlying2 t0_3
  obtain ⟨a0_4, rfl, g0_4⟩ := cell_int Try.underlying2 t0_4
  clear hA0 hval0
  refine (FnExactValidStar_walk a0_0 a0_1 a0_2 a0_3 a0_4 W g0_0 g0_1 g0_2 g0_3 g0_4).mono fun e W' ⟨he, bel⟩ => ?_
  subst he
  exact ⟨_, rfl, _, _, _, [], _, [], hW', trodAll_mk1 (shut_bool Try.underlying4 _), (trodAll_cons_mk (Below.trod laidOut (by kernel_rfl) (of_decide_eq_true (by kernel_rfl)) k0 bel lt0) trodAll_mk0), rfl, bel.frame _, fun h => by cases h⟩
theorem over : Rows.fnExactValidStarRow.holds Try.pinned (OpenSpec.ofChange Rows.fnExactValidStarSpec) :=
  OpenClaim.holds_of_wide 6 Try.f6 rfl rfl rfl rfl rfl rfl rfl ⟨rfl, rfl, rfl, rfl, rfl⟩ rfl rfl rfl rfl rfl (by kernel_rfl) Try.func6 (by kernel_rfl)
    (of_decide_eq_true (by kernel_rfl)) (by unfold Func.isWrapper; first | (rw [if_pos (by decide +kernel)]; kernel_rfl) | (rw [if_neg (by decide +kernel)]; exact ⟨rfl, rfl⟩))
    (fun os started H enc _ => lifted os started H enc)
/-- the statement -/
theorem proved : Rows.FnExactValidStarSaid := over
end FnExactValidStar
end Go.Proofs.Ythlkdbhbbihhjaa
