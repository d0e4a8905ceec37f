/- FnExactNearestDay returns true for every input: the program's NearestDay and the reference's give the same answer. -/
import Derived.Test.YtbgjmahamhppfaaDoorNearDay
import Derived.Test.YtbgjmahamhppfaaDoorLawA
import Derived.Test.YtbgjmahamhppfaaDoorOpen
import Derived.Test.YtbgjmahamhppfaaDoorTied
namespace Go.Proofs.YtbgjmahamhppfaaDoor
set_option linter.unusedVariables false
set_option linter.unusedSimpArgs false
open Go.RowKit
set_option maxHeartbeats 4000000 in
theorem FnExactNearestDay_walk (n1 : ByteArray) (p1 r1 u1 : Int) (n2 : ByteArray) (p2 r2 u2 : Int) (n3 : ByteArray) (p3 r3 u3 : Int) (d m n : Int) (w : World) (hs1 : StrOk n1) (_ : I64 p1) (_ : I64 r1) (_ : I64 u1) (hs2 : StrOk n2) (_ : I64 p2) (_ : I64 r2) (_ : I64 u2) (hs3 : StrOk n3) (_ : I64 p3) (_ : I64 r3) (_ : I64 u3) (_ : I64 d) (_ : I64 m) (hn : I64 n) (hS : SinOk w) :
    Calls Tryd.prog 13 #[.agg #[.string n1, .int .i64 p1, .int .i64 r1, .int .i64 u1], .agg #[.string n2, .int .i64 p2, .int .i64 r2, .int .i64 u2], .agg #[.string n3, .int .i64 p3, .int .i64 r3, .int .i64 u3], .agg #[.int .i64 d, .int .i64 m], .int .i64 n] w fun e w' => e = .returned (.bool true) ∧ Below w.heap.size w w' := by
  have hn' : -9223372036854775808 ≤ n ∧ n ≤ 9223372036854775807 := hn
  rcases szL_cases 1048576 n1.size with ⟨h1, h2⟩ | ⟨h1, h2⟩
  · go_enter Tryd.func13, Tryd.ntmps13
    go_wp2_with (fail)
    (refine later_intro ?_; intro y)
    (go_at_call 14; refine (later_below (szPlanet_any n1 p1 r1 u1 _ _ hs1 (by omega) (by omega))).mono ?_; rintro e w' ⟨rfl, y, rfl⟩)
    go_wp2
    go_ret
    exact ⟨rfl, (by repeat (first | exact Below.refl _ _ | refine below_alloc ?_ _ | refine below_drewN0 ?_ _ | refine below_drew0 ?_ | refine below_step ?_ (by assumption) | refine below_later ?_ _ | refine below_setCell0 ?_ (by first | exact Nat.le_refl _ | (simp; done) | omega | (simp; omega)) _))⟩
  · rcases szL_cases (1048576 - n1.size) n2.size with ⟨h3, h4⟩ | ⟨h3, h4⟩
    · go_enter Tryd.func13, Tryd.ntmps13
      go_wp2_with (fail)
      (refine later_intro ?_; intro y)
      (go_at_call 14; refine (later_below (szPlanet_any n1 p1 r1 u1 _ _ hs1 (by omega) (by omega))).mono ?_; rintro e w' ⟨rfl, y, rfl⟩)
      go_wp2_with (fail)
      (go_at_call 14; refine (later_below (szPlanet_any n2 p2 r2 u2 _ _ hs2 (by omega) (by omega))).mono ?_; rintro e w' ⟨rfl, y, rfl⟩)
      go_wp2
      go_ret
      exact ⟨rfl, (by repeat (first | exact Below.refl _ _ | refine below_alloc ?_ _ | refine below_drewN0 ?_ _ | refine below_drew0 ?_ | refine below_step ?_ (by assumption) | refine below_later ?_ _ | refine below_setCell0 ?_ (by first | exact Nat.le_refl _ | (simp; done) | omega | (simp; omega)) _))⟩
    · rcases szL_cases (1048576 - n1.size - n2.size) n3.size with ⟨h5, h6⟩ | ⟨h5, h6⟩
      · go_enter Tryd.func13, Tryd.ntmps13
        go_wp2_with (fail)
        (refine later_intro ?_; intro y)
        (go_at_call 14; refine (later_below (szPlanet_any n1 p1 r1 u1 _ _ hs1 (by omega) (by omega))).mono ?_; rintro e w' ⟨rfl, y, rfl⟩)
        go_wp2_with (fail)
        (go_at_call 14; refine (later_below (szPlanet_any n2 p2 r2 u2 _ _ hs2 (by omega) (by omega))).mono ?_; rintro e w' ⟨rfl, y, rfl⟩)
        go_wp2_with (fail)
        (go_at_call 14; refine (later_below (szPlanet_any n3 p3 r3 u3 _ _ hs3 (by omega) (by omega))).mono ?_; rintro e w' ⟨rfl, y, rfl⟩)
        go_wp2
        go_ret
        exact ⟨rfl, (by repeat (first | exact Below.refl _ _ | refine below_alloc ?_ _ | refine below_drewN0 ?_ _ | refine below_drew0 ?_ | refine below_step ?_ (by assumption) | refine below_later ?_ _ | refine below_setCell0 ?_ (by first | exact Nat.le_refl _ | (simp; done) | omega | (simp; omega)) _))⟩
      · go_enter Tryd.func13, Tryd.ntmps13
        go_wp2_with (fail)
        (refine later_intro ?_; intro y)
        (go_at_call 14; refine (later_below (szPlanet_any n1 p1 r1 u1 _ _ hs1 (by omega) (by omega))).mono ?_; rintro e w' ⟨rfl, y, rfl⟩)
        go_wp2_with (fail)
        (go_at_call 14; refine (later_below (szPlanet_any n2 p2 r2 u2 _ _ hs2 (by omega) (by omega))).mono ?_; rintro e w' ⟨rfl, y, rfl⟩)
        go_wp2_with (fail)
        (go_at_call 14; refine (later_below (szPlanet_any n3 p3 r3 u3 _ _ hs3 (by omega) (by omega))).mono ?_; rintro e w' ⟨rfl, y, rfl⟩)
        go_wp2_with (fail)
        (refine wp_region_later (by kernel_rfl) (by kernel_rfl) ?_; (repeat (quiet_step ((first | (go_at_call 16; exact later_below (toPlanet_any _ _ _ _ _)) | (go_at_call 17; exact later_below (toMoment_any _ _ _)) | (go_at_call 40; exact later_below (sNearestDay_any ⟨n1, p1, r1, u1⟩ ⟨n2, p2, r2, u2⟩ ⟨n3, p3, r3, u3⟩ d m n _ hn')))))); refine wpQuiet_nil ?_; rintro _ ⟨y, rfl⟩)
        go_wp2_with (fail)
        (refine wp_region_later (by kernel_rfl) (by kernel_rfl) ?_; (repeat (quiet_step ((first | (go_at_call 16; exact later_below (toPlanet_any _ _ _ _ _)) | (go_at_call 17; exact later_below (toMoment_any _ _ _)) | (go_at_call 41; exact later_below (NearestDay_any ⟨n1, p1, r1, u1⟩ ⟨n2, p2, r2, u2⟩ ⟨n3, p3, r3, u3⟩ d m n _ hn' (SinOk.later ((((hS.alloc _).alloc _).alloc _).alloc _) _))))))); refine wpQuiet_nil ?_; rintro _ ⟨y, rfl⟩)
        go_wp2
        go_ret
        exact ⟨rfl, (by repeat (first | exact Below.refl _ _ | refine below_alloc ?_ _ | refine below_drewN0 ?_ _ | refine below_drew0 ?_ | refine below_step ?_ (by assumption) | refine below_later ?_ _ | refine below_setCell0 ?_ (by first | exact Nat.le_refl _ | (simp; done) | omega | (simp; omega)) _))⟩

namespace FnExactNearestDay
open Go.ChangeShapes Go.WideShapes Go.ChangeAt Go.RowKit Go.Joins
open Go.ChangeMaps (open_string shut_string)
theorem own : ownKnob Tryd.prog.godebug = none := by kernel_rfl
theorem laidOut : laidOutB Tryd.prog = true := by kernel_rfl
theorem gTab : Tryd.prog.globalNamed "loop.example/g00955/impl.sines" = some 0 := by kernel_rfl
theorem gTabType : (Tryd.prog.globals[0]?).map (·.type) = some 85 := by kernel_rfl
theorem cellsT : Tryd.prog.cellsOf 85 = 91 := by kernel_rfl
theorem cells1 : Tryd.prog.cellsOf 2 = 1 := by kernel_rfl
theorem table {W : World} (h : laidMetH Tryd.prog Rows.fnExactNearestDayRow.laid W) : Lib.TabIs Tryd.prog W "loop.example/g00955/impl.sines" .i64 sinTab :=
  Lib.tabIs_of_head (rest := []) gTab gTabType Tryd.underlying85 Tryd.underlying2 cells1 cellsT h
theorem sinOk {W : World} (h : laidMetH Tryd.prog Rows.fnExactNearestDayRow.laid W) : SinOk W :=
  ⟨lt_of_cell ((table h).cell gTab 0 (by show 0 < 91; omega)), fun k hk => (table h).cell gTab k (by show k < 91; exact hk)⟩
noncomputable def laidWorld (os : Os) : World :=
  { World.holding Tryd.prog os ⟨#[], #[], []⟩ with heap := (World.holding Tryd.prog os ⟨#[], #[], []⟩).heap.modify 0 fun
      | .cells _ t frozen => .cells (sinTab.map (Value.int .i64)).toArray t frozen
      | o => o }
theorem laid_met (os : Os) : laidMet Tryd.prog Rows.fnExactNearestDayRow.laid ((laidWorld os).forCall (fun _ _ => 0) ⟨#[], #[.agg #[.string ⟨#[]⟩, .int .i64 0, .int .i64 0, .int .i64 0], .agg #[.string ⟨#[]⟩, .int .i64 0, .int .i64 0, .int .i64 0], .agg #[.string ⟨#[]⟩, .int .i64 0, .int .i64 0, .int .i64 0], .agg #[.int .i64 0, .int .i64 0], .int .i64 0], []⟩).memory :=
  laidMet_of_run' 8 (by kernel_rfl) (by kernel_rfl)
theorem reads (os : Os) {H : Type} (enc : TypeId × Value → H) : ∃ places, DataW.whole enc Tryd.prog ((laidWorld os).forCall (fun _ _ => 0) ⟨#[], #[.agg #[.string ⟨#[]⟩, .int .i64 0, .int .i64 0, .int .i64 0], .agg #[.string ⟨#[]⟩, .int .i64 0, .int .i64 0, .int .i64 0], .agg #[.string ⟨#[]⟩, .int .i64 0, .int .i64 0, .int .i64 0], .agg #[.int .i64 0, .int .i64 0], .int .i64 0], []⟩).memory Tryd.f13.params.toList Rows.fnExactNearestDaySpec.vars false (#[.agg #[.string ⟨#[]⟩, .int .i64 0, .int .i64 0, .int .i64 0], .agg #[.string ⟨#[]⟩, .int .i64 0, .int .i64 0, .int .i64 0], .agg #[.string ⟨#[]⟩, .int .i64 0, .int .i64 0, .int .i64 0], .agg #[.int .i64 0, .int .i64 0], .int .i64 0] : Array Value).toList 8 = some ([.agg [.lit (.string []), .lit (.int .i64 0), .lit (.int .i64 0), .lit (.int .i64 0)], .agg [.lit (.string []), .lit (.int .i64 0), .lit (.int .i64 0), .lit (.int .i64 0)], .agg [.lit (.string []), .lit (.int .i64 0), .lit (.int .i64 0), .lit (.int .i64 0)], .agg [.lit (.int .i64 0), .lit (.int .i64 0)], .lit (.int .i64 0)], [Rows.laid_loop_example_g00955_impl_sines], places) :=
  ⟨((DataW.whole enc Tryd.prog ((laidWorld os).forCall (fun _ _ => 0) ⟨#[], #[.agg #[.string ⟨#[]⟩, .int .i64 0, .int .i64 0, .int .i64 0], .agg #[.string ⟨#[]⟩, .int .i64 0, .int .i64 0, .int .i64 0], .agg #[.string ⟨#[]⟩, .int .i64 0, .int .i64 0, .int .i64 0], .agg #[.int .i64 0, .int .i64 0], .int .i64 0], []⟩).memory Tryd.f13.params.toList Rows.fnExactNearestDaySpec.vars false (#[.agg #[.string ⟨#[]⟩, .int .i64 0, .int .i64 0, .int .i64 0], .agg #[.string ⟨#[]⟩, .int .i64 0, .int .i64 0, .int .i64 0], .agg #[.string ⟨#[]⟩, .int .i64 0, .int .i64 0, .int .i64 0], .agg #[.int .i64 0, .int .i64 0], .int .i64 0] : Array Value).toList 8).map (fun x => x.2.2)).getD [], by kernel_rfl⟩
set_option maxRecDepth 100000 in
set_option maxHeartbeats 2000000 in
theorem lifted (os : Os) (started : os.Started) (H : Type) (enc : TypeId × Value → H) (F : Stop.Interp) :
    ReturnsInHanded {} Tryd.checked os 13 .any ((OpenSpec.ofChange Rows.fnExactNearestDaySpec).preRow enc Tryd.prog Tryd.f13 Rows.fnExactNearestDayRow.domain false Rows.fnExactNearestDayRow.laid) (((OpenSpec.ofChange Rows.fnExactNearestDaySpec).at F).post enc Tryd.prog Tryd.f13 false true false false) := by
  obtain ⟨places, hx⟩ := reads os enc
  refine returnsInHanded_of_row (C := Tryd.checked) (s := OpenSpec.ofChange Rows.fnExactNearestDaySpec) own started (by kernel_rfl) Tryd.func13
    (witness_row_at (enc := enc) (C := Tryd.checked) false (laidWorld os) #[.agg #[.string ⟨#[]⟩, .int .i64 0, .int .i64 0, .int .i64 0], .agg #[.string ⟨#[]⟩, .int .i64 0, .int .i64 0, .int .i64 0], .agg #[.string ⟨#[]⟩, .int .i64 0, .int .i64 0, .int .i64 0], .agg #[.int .i64 0, .int .i64 0], .int .i64 0] rfl (by kernel_rfl) (by kernel_rfl) (by kernel_rfl)
      (OpenSpec.preRow_of_cond 8 hx (by kernel_rfl) (fun k hk => by cases hk) (by kernel_rfl) (laid_met os))) ?_
  intro W base args ds gs before hval0 hW _ _ _ hL _ _
  have hval : ∀ (j : Nat) t v, Tryd.f13.params[j]? = some t → args[j]? = some v → Value.okWide Tryd.prog W .any base t v := hval0
  have hW' := hW
  obtain ⟨p, q, hA0, hV, rfl, hfz, hnd⟩ := hW
  have hA : DataW.TrodAll enc Tryd.prog W 0 (fun _ => true) true Tryd.f13.params.toList args.toList ds p := hA0
  rw [Tryd.params13] at hA hval
  obtain ⟨v0, vs0, d0, ds0, p0, q0, hargs, rfl, rfl, h0, r0⟩ := trodAll_cons hA
  obtain ⟨v1, vs1, d1, ds1, p1, q1, rfl, rfl, rfl, h1, r1⟩ := trodAll_cons r0
  obtain ⟨v2, vs2, d2, ds2, p2, q2, rfl, rfl, rfl, h2, r2⟩ := trodAll_cons r1
  obtain ⟨v3, vs3, d3, ds3, p3, q3, rfl, rfl, rfl, h3, r3⟩ := trodAll_cons r2
  obtain ⟨v4, vs4, d4, ds4, p4, q4, rfl, rfl, rfl, h4, r4⟩ := trodAll_cons r3
  obtain ⟨rfl, rfl, rfl⟩ := trodAll_nil r4
  obtain rfl : args = #[v0, v1, v2, v3, v4] := by cases args; simp_all
  have hVk := hV
  obtain ⟨_, _, _, _, dg, _, rfl, _, _, _, _, _⟩ := trodVars_one hV
  have k0 := h0
  have lt0 : ∀ x ∈ p0, x.block < W.heap.size := by obtain ⟨m, hm⟩ := k0; exact DataW.trod_lt m _ _ _ hm
  have k1 := h1
  have lt1 : ∀ x ∈ p1, x.block < W.heap.size := by obtain ⟨m, hm⟩ := k1; exact DataW.trod_lt m _ _ _ hm
  have k2 := h2
  have lt2 : ∀ x ∈ p2, x.block < W.heap.size := by obtain ⟨m, hm⟩ := k2; exact DataW.trod_lt m _ _ _ hm
  have k3 := h3
  have lt3 : ∀ x ∈ p3, x.block < W.heap.size := by obtain ⟨m, hm⟩ := k3; exact DataW.trod_lt m _ _ _ hm
  have k4 := h4
  have lt4 : ∀ x ∈ p4, x.block < W.heap.size := by obtain ⟨m, hm⟩ := k4; exact DataW.trod_lt m _ _ _ hm
  obtain ⟨c0_0, c0_1, c0_2, c0_3, y0_0, y0_1, y0_2, y0_3, m0, rfl, rfl, rfl, t0_0, t0_1, t0_2, t0_3⟩ := open_agg4 Tryd.underlying23 (by kernel_rfl) (by kernel_rfl) (hval 0 23 v0 rfl rfl) h0
  obtain ⟨a0_0, rfl, g0_0⟩ := cell_string Tryd.underlying9 t0_0
  obtain ⟨a0_1, rfl, g0_1⟩ := cell_int Tryd.underlying2 t0_1
  obtain ⟨a0_2, rfl, g0_2⟩ := cell_int Tryd.underlying2 t0_2
  obtain ⟨a0_3, rfl, g0_3⟩ := cell_int Tryd.underlying2 t0_3
  obtain ⟨c1_0, c1_1, c1_2, c1_3, y1_0, y1_1, y1_2, y1_3, m1, rfl, rfl, rfl, t1_0, t1_1, t1_2, t1_3⟩ := open_agg4 Tryd.underlying23 (by kernel_rfl) (by kernel_rfl) (hval 1 23 v1 rfl rfl) h1
  obtain ⟨a1_0, rfl, g1_0⟩ := cell_string Tryd.underlying9 t1_0
  obtain ⟨a1_1, rfl, g1_1⟩ := cell_int Tryd.underlying2 t1_1
  obtain ⟨a1_2, rfl, g1_2⟩ := cell_int Tryd.underlying2 t1_2
  obtain ⟨a1_3, rfl, g1_3⟩ := cell_int Tryd.underlying2 t1_3
  obtain ⟨c2_0, c2_1, c2_2, c2_3, y2_0, y2_1, y2_2, y2_3, m2, rfl, rfl, rfl, t2_0, t2_1, t2_2, t2_3⟩ := open_agg4 Tryd.underlying23 (by kernel_rfl) (by kernel_rfl) (hval 2 23 v2 rfl rfl) h2
  obtain ⟨a2_0, rfl, g2_0⟩ := cell_string Tryd.underlying9 t2_0
  obtain ⟨a2_1, rfl, g2_1⟩ := cell_int Tryd.underlying2 t2_1
  obtain ⟨a2_2, rfl, g2_2⟩ := cell_int Tryd.underlying2 t2_2
  obtain ⟨a2_3, rfl, g2_3⟩ := cell_int Tryd.underlying2 t2_3
  obtain ⟨c3_0, c3_1, y3_0, y3_1, m3, rfl, rfl, rfl, t3_0, t3_1⟩ := open_agg2 Tryd.underlying25 (by kernel_rfl) (by kernel_rfl) (hval 3 25 v3 rfl rfl) h3
  obtain ⟨a3_0, rfl, g3_0⟩ := cell_int Tryd.underlying2 t3_0
  obtain ⟨a3_1, rfl, g3_1⟩ := cell_int Tryd.underlying2 t3_1
  obtain ⟨a4, rfl, rfl, rfl, g4⟩ := open_int Tryd.underlying2 (hval 4 2 v4 rfl rfl) h4
  clear hA0 hval0
  refine (FnExactNearestDay_walk a0_0 a0_1 a0_2 a0_3 a1_0 a1_1 a1_2 a1_3 a2_0 a2_1 a2_2 a2_3 a3_0 a3_1 a4 W g0_0 g0_1 g0_2 g0_3 g1_0 g1_1 g1_2 g1_3 g2_0 g2_1 g2_2 g2_3 g3_0 g3_1 (i64_of_wf g4) (sinOk hL)).mono fun e W' ⟨he, bel⟩ => ?_
  subst he
  exact ⟨_, rfl, _, _, _, [], _, _, hW', trodAll_mk1 (shut_bool Tryd.underlying4 _), (trodAll_cons_mk (Below.trod laidOut (by kernel_rfl) (of_decide_eq_true (by kernel_rfl)) k0 bel lt0) (trodAll_cons_mk (Below.trod laidOut (by kernel_rfl) (of_decide_eq_true (by kernel_rfl)) k1 bel lt1) (trodAll_cons_mk (Below.trod laidOut (by kernel_rfl) (of_decide_eq_true (by kernel_rfl)) k2 bel lt2) (trodAll_cons_mk (Below.trod laidOut (by kernel_rfl) (of_decide_eq_true (by kernel_rfl)) k3 bel lt3) (trodAll_cons_mk (Below.trod laidOut (by kernel_rfl) (of_decide_eq_true (by kernel_rfl)) k4 bel lt4) trodAll_mk0))))), Below.trodVars laidOut bel (by kernel_rfl) hVk, bel.frame _, fun h => by cases h⟩
theorem said : Rows.FnExactNearestDaySaid :=
  OpenClaim.holds_of_cond 13 Tryd.f13 rfl rfl rfl rfl rfl rfl rfl ⟨rfl, rfl, rfl, rfl, rfl⟩ rfl rfl rfl rfl rfl (by kernel_rfl) Tryd.func13 (by kernel_rfl)
    (of_decide_eq_true (by kernel_rfl)) (by unfold Func.isWrapper; first | (rw [if_pos (by decide +kernel)]; kernel_rfl) | (rw [if_neg (by decide +kernel)]; exact ⟨rfl, rfl⟩))
    (fun os started H enc _ F => by rw [OpenClaim.pre_eq_preRow]; exact lifted os started H enc F)
theorem plain (f : FuncId) (fn : Func) (hf : Tryd.pinned.checked.prog.funcNamed "loop.example/g00955/laws.FnExactNearestDay" = some f) (hfn : Tryd.pinned.checked.prog.funcs[f]? = some fn) :
    false = Tryd.pinned.checked.prog.looks [] ∧ ∀ (j : Nat) t, fn.params[j]? = some t → Tryd.pinned.checked.prog.wantsStandIn t = false := by
  obtain rfl : f = 13 := Option.some.inj ((show Tryd.prog.funcNamed "loop.example/g00955/laws.FnExactNearestDay" = some 13 by kernel_rfl).symm.trans hf) |>.symm
  obtain rfl : fn = Tryd.f13 := (Option.some.inj (Tryd.func13.symm.trans hfn)).symm
  refine ⟨by kernel_rfl, fun j t ht => ?_⟩
  rw [Tryd.params13] at ht
  have hm : t ∈ [23, 23, 23, 25, 2] := by simpa using Array.mem_of_getElem? ht
  have hall : ([23, 23, 23, 25, 2].all fun u => !Tryd.prog.wantsStandIn u) = true := by kernel_rfl
  exact (show Tryd.prog.wantsStandIn t = false by simpa using List.all_eq_true.1 hall t hm)
/-- the statement: the card -/
theorem proved : Rows.FnExactNearestDayCardSaid :=
  Claim7.holds_tied_plain_at .later [] _ _ _ _ said (fun _ h => by cases h) (by kernel_rfl) (fun _ h => by cases h) fnExactNearestDay_row_tie rfl ⟨rfl, rfl⟩ (by kernel_rfl) rfl plain (by kernel_rfl)
end FnExactNearestDay
end Go.Proofs.YtbgjmahamhppfaaDoor
