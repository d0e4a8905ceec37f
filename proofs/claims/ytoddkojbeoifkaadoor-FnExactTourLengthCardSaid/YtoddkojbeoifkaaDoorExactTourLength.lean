/- The program's TourLength returns what the reference's returns, for all arguments. No condition. -/
import Derived.Test.YtoddkojbeoifkaaDoorTour
import Derived.Test.YtoddkojbeoifkaaDoorTied
import Derived.Test.YtoddkojbeoifkaaDoorChecked
import Derived.Test.YtoddkojbeoifkaaDoorRows
import Derived.OpenVars
import Derived.RowKit
namespace Go.Proofs.YtoddkojbeoifkaaDoor
set_option linter.unusedVariables false
set_option linter.unusedSimpArgs false
open Go.RowKit
set_option maxHeartbeats 2000000 in
theorem FnExactTourLength_walk (A0 : Option Addr) (n0 c0 : Nat) (l0 : List Sta) (A1 : Option Addr) (n1 c1 : Nat) (l1 : List Int) (w : World) (hl0 : l0.length = n0) (hn0 : n0 ≤ 9223372036854775807) (hS0 : Stars w A0 l0) (hi0 : ∀ x ∈ l0, x.i64) (hl1 : l1.length = n1) (hn1 : n1 ≤ 9223372036854775807) (hS1 : Ints w A1 l1) (hi1 : ∀ x ∈ l1, I64 x) (hSin : SinOk w) :
    Calls Tryd.prog 7 #[.slice A0 n0 c0, .slice A1 n1 c1] w fun e w' => e = .returned (.bool true) ∧ Below w.heap.size w w' := by
  have HL0 := Lib.hid hl0
  have HI0 := Lib.hid hi0
  clear hl0 hi0
  have HL1 := Lib.hid hl1
  have HI1 := Lib.hid hi1
  clear hl1 hi1
  by_cases hlong : ¬ (n1 : Int) ≤ 1048576
  · go_enter Tryd.func7, Tryd.ntmps7
    go_wp2
    go_ret
    exact ⟨rfl, (by repeat (first | exact Below.refl _ _ | refine below_alloc ?_ _ | refine below_drewN0 ?_ _ | refine below_drew0 ?_ | refine below_step ?_ (by assumption) | refine below_later ?_ _ | refine below_setCell0 ?_ (by first | exact Nat.le_refl _ | (simp; done) | omega | (simp; omega)) _))⟩
  have hlong2 : (n1 : Int) ≤ 1048576 := by omega
  go_enter Tryd.func7, Tryd.ntmps7
  go_wp2_with (fail)
  refine (szStarS_any A0 n0 c0 l0 1048576 _ HL0.out hn0 hS0 HI0.out (by omega) (by omega)).mono ?_
  rintro e w1 ⟨r1, rfl, hr1, hb1⟩
  rcases hr1 with hr1 | ⟨za1, zb1, zc1⟩
  · go_wp2
    go_ret
    exact ⟨rfl, (by repeat (first | exact Below.refl _ _ | refine below_alloc ?_ _ | refine below_drewN0 ?_ _ | refine below_drew0 ?_ | refine below_step ?_ (by assumption) | refine below_later ?_ _ | refine below_setCell0 ?_ (by first | exact Nat.le_refl _ | (simp; done) | omega | (simp; omega)) _))⟩
  go_wp2_with (fail)
  refine (toStarS_any A0 n0 c0 l0 _ HL0.out (by omega) (hS0.below hb1)).mono ?_
  rintro e w2 ⟨rfl, hB2, hb2⟩
  go_wp2_with (fail)
  refine (toInt64S_any A1 n1 c1 l1 _ HL1.out (by omega) ((hS1.below hb1).below hb2)).mono ?_
  rintro e w3 ⟨rfl, hB3, hb3⟩
  go_wp2_with (fail)
  refine (sTourLength_any _ _ n0 n0 n1 n1 l0 l1 _ HL0.out HL1.out hn0 (by omega) (hB2.stars.below hb3) hB3.nums).mono ?_
  rintro e w4 ⟨rfl, hb4⟩
  go_wp2_with (fail)
  refine (toStarS_any A0 n0 c0 l0 _ HL0.out (by omega) ((((hS0.below hb1).below hb2).below hb3).below hb4)).mono ?_
  rintro e w5 ⟨rfl, hB5, hb5⟩
  go_wp2_with (fail)
  refine (toInt64S_any A1 n1 c1 l1 _ HL1.out (by omega) (((((hS1.below hb1).below hb2).below hb3).below hb4).below hb5)).mono ?_
  rintro e w6 ⟨rfl, hB6, hb6⟩
  go_wp2_with (fail)
  refine (TourLength_any _ _ n0 n0 n1 n1 l0 l1 _ ((((((hSin.of_below hb1).of_below hb2).of_below hb3).of_below hb4).of_below hb5).of_below hb6) HL0.out HL1.out hn0 (by omega) (hB5.stars.below hb6) hB6.nums).mono ?_
  rintro e w7 ⟨rfl, hb7⟩
  go_wp2_with (fail)
  refine (toStarS_any A0 n0 c0 l0 _ HL0.out (by omega) (((((((hS0.below hb1).below hb2).below hb3).below hb4).below hb5).below hb6).below hb7)).mono ?_
  rintro e w8 ⟨rfl, hB8, hb8⟩
  go_wp2_with (fail)
  refine (eqStarS_same _ _ n0 _ _ l0 _ HL0.out (by omega) (((hB5.stars.below hb6).below hb7).below hb8) hB8.stars).mono ?_
  rintro e w9 ⟨rfl, hb9⟩
  go_wp2_with (fail)
  refine (toInt64S_any A1 n1 c1 l1 _ HL1.out (by omega) (((((((((hS1.below hb1).below hb2).below hb3).below hb4).below hb5).below hb6).below hb7).below hb8).below hb9)).mono ?_
  rintro e w10 ⟨rfl, hB10, hb10⟩
  go_wp2_with (fail)
  refine (eqInt64S_same _ _ n1 _ _ l1 _ HL1.out (by omega) ((((hB6.nums.below hb7).below hb8).below hb9).below hb10) hB10.nums).mono ?_
  rintro e w11 ⟨rfl, hb11⟩
  go_wp2
  go_ret
  exact ⟨rfl, (by repeat (first | exact Below.refl _ _ | refine below_alloc ?_ _ | refine below_drewN0 ?_ _ | refine below_drew0 ?_ | refine below_step ?_ (by assumption) | refine below_later ?_ _ | refine below_setCell0 ?_ (by first | exact Nat.le_refl _ | (simp; done) | omega | (simp; omega)) _))⟩
namespace FnExactTourLength
open Go.ChangeShapes Go.WideShapes Go.ChangeAt Go.RowKit Go.Joins
open Go.ChangeMaps (open_string shut_string)
theorem own : ownKnob Tryd.prog.godebug = none := by kernel_rfl
theorem laidOut : laidOutB Tryd.prog = true := by kernel_rfl
theorem gTab : Tryd.prog.globalNamed "loop.example/g00955/impl.sines" = some 0 := by kernel_rfl
theorem gTabType : (Tryd.prog.globals[0]?).map (·.type) = some 131 := by kernel_rfl
theorem cellsT : Tryd.prog.cellsOf 131 = 91 := by kernel_rfl
theorem cells1 : Tryd.prog.cellsOf 2 = 1 := by kernel_rfl
theorem table {W : World} (h : laidMetH Tryd.prog Rows.fnExactTourLengthRow.laid W) : Lib.TabIs Tryd.prog W "loop.example/g00955/impl.sines" .i64 sinTab :=
  Lib.tabIs_of_head (rest := []) gTab gTabType Tryd.underlying131 Tryd.underlying2 cells1 cellsT h
theorem sinOk {W : World} (h : laidMetH Tryd.prog Rows.fnExactTourLengthRow.laid W) : SinOk W :=
  ⟨lt_of_cell ((table h).cell gTab 0 (by show 0 < 91; omega)), fun k hk => (table h).cell gTab k (by show k < 91; exact hk)⟩
noncomputable def laidWorld (os : Os) : World :=
  { World.holding Tryd.prog os ⟨#[], #[], []⟩ with heap := (World.holding Tryd.prog os ⟨#[], #[], []⟩).heap.modify 0 fun
      | .cells _ t frozen => .cells (sinTab.map (Value.int .i64)).toArray t frozen
      | o => o }
theorem laid_met (os : Os) : laidMet Tryd.prog Rows.fnExactTourLengthRow.laid ((laidWorld os).forCall (fun _ _ => 0) ⟨#[], #[.slice none 0 0, .slice none 0 0], []⟩).memory :=
  laidMet_of_run' 8 (by kernel_rfl) (by kernel_rfl)
theorem reads (os : Os) {H : Type} (enc : TypeId × Value → H) : ∃ places, DataW.whole enc Tryd.prog ((laidWorld os).forCall (fun _ _ => 0) ⟨#[], #[.slice none 0 0, .slice none 0 0], []⟩).memory Tryd.f7.params.toList Rows.fnExactTourLengthSpec.vars false (#[.slice none 0 0, .slice none 0 0] : Array Value).toList 8 = some ([.nil, .nil], [Rows.laid_loop_example_g00955_impl_sines], places) :=
  ⟨((DataW.whole enc Tryd.prog ((laidWorld os).forCall (fun _ _ => 0) ⟨#[], #[.slice none 0 0, .slice none 0 0], []⟩).memory Tryd.f7.params.toList Rows.fnExactTourLengthSpec.vars false (#[.slice none 0 0, .slice none 0 0] : Array Value).toList 8).map (fun x => x.2.2)).getD [], by kernel_rfl⟩
set_option maxRecDepth 100000 in
set_option maxHeartbeats 2000000 in
theorem lifted (os : Os) (started : os.Started) (H : Type) (enc : TypeId × Value → H) (F : Stop.Interp) :
    ReturnsInHanded {} Tryd.checked os 7 .any ((OpenSpec.ofChange Rows.fnExactTourLengthSpec).preRow enc Tryd.prog Tryd.f7 Rows.fnExactTourLengthRow.domain false Rows.fnExactTourLengthRow.laid) (((OpenSpec.ofChange Rows.fnExactTourLengthSpec).at F).post enc Tryd.prog Tryd.f7 false true false false) := by
  obtain ⟨places, hx⟩ := reads os enc
  refine returnsInHanded_of_row (C := Tryd.checked) (s := OpenSpec.ofChange Rows.fnExactTourLengthSpec) own started (by kernel_rfl) Tryd.func7
    (witness_row_at (enc := enc) (C := Tryd.checked) false (laidWorld os) #[.slice none 0 0, .slice none 0 0] rfl (by kernel_rfl) (by kernel_rfl) (by kernel_rfl)
      (OpenSpec.preRow_of_cond 8 hx (by kernel_rfl) (fun k hk => by cases hk) (by kernel_rfl) (laid_met os))) ?_
  intro W base args ds gs before hval0 hW _ _ _ hL _ _
  have hval : ∀ (j : Nat) t v, Tryd.f7.params[j]? = some t → args[j]? = some v → Value.okWide Tryd.prog W .any base t v := hval0
  have hW' := hW
  obtain ⟨p, q, hA0, hV, rfl, hfz, hnd⟩ := hW
  have hA : DataW.TrodAll enc Tryd.prog W 0 (fun _ => true) true Tryd.f7.params.toList args.toList ds p := hA0
  rw [Tryd.params7] at hA hval
  obtain ⟨v0, vs0, d0, ds0, p0, q0, hargs, rfl, rfl, h0, r0⟩ := trodAll_cons hA
  obtain ⟨v1, vs1, d1, ds1, p1, q1, rfl, rfl, rfl, h1, r1⟩ := trodAll_cons r0
  obtain ⟨rfl, rfl, rfl⟩ := trodAll_nil r1
  obtain rfl : args = #[v0, v1] := by cases args; simp_all
  have hVk := hV
  obtain ⟨_, _, _, _, dg, _, rfl, _, _, _, _, _⟩ := trodVars_one hV
  have k0 := h0
  have lt0 : ∀ x ∈ p0, x.block < W.heap.size := by obtain ⟨m, hm⟩ := k0; exact DataW.trod_lt m _ _ _ hm
  have k1 := h1
  have lt1 : ∀ x ∈ p1, x.block < W.heap.size := by obtain ⟨m, hm⟩ := k1; exact DataW.trod_lt m _ _ _ hm
  obtain ⟨A0, n0, c0, l0, rfl, hl0, hn0, hc0, hx0, hS0, hi0⟩ := open_stars Tryd.underlying30 Tryd.underlying85 (by kernel_rfl) (by kernel_rfl) Tryd.underlying9 Tryd.underlying2 Tryd.underlying2 Tryd.underlying2 Tryd.underlying2 (hval 0 30 v0 rfl rfl) h0
  obtain ⟨A1, n1, c1, l1, rfl, hl1, hn1, hc1, hx1, hS1, hi1⟩ := open_nums Tryd.underlying39 Tryd.underlying2 (by kernel_rfl) (hval 1 39 v1 rfl rfl) h1
  clear hA0 hval0
  refine (FnExactTourLength_walk A0 n0 c0 l0 A1 n1 c1 l1 W hl0 hn0 hS0 hi0 hl1 hn1 hS1 hi1 (sinOk hL)).mono fun e W' ⟨he, bel⟩ => ?_
  subst he
  exact ⟨_, rfl, _, _, _, [], _, _, hW', trodAll_mk1 (shut_bool Tryd.underlying4 _), (trodAll_cons_mk (Below.trod laidOut (by kernel_rfl) (of_decide_eq_true (by kernel_rfl)) k0 bel lt0) (trodAll_cons_mk (Below.trod laidOut (by kernel_rfl) (of_decide_eq_true (by kernel_rfl)) k1 bel lt1) trodAll_mk0)), Below.trodVars laidOut bel (by kernel_rfl) hVk, bel.frame _, fun h => by cases h⟩
theorem said : Rows.FnExactTourLengthSaid :=
  OpenClaim.holds_of_cond 7 Tryd.f7 rfl rfl rfl rfl rfl rfl rfl ⟨rfl, rfl, rfl, rfl, rfl⟩ rfl rfl rfl rfl rfl (by kernel_rfl) Tryd.func7 (by kernel_rfl)
    (of_decide_eq_true (by kernel_rfl)) (by unfold Func.isWrapper; first | (rw [if_pos (by decide +kernel)]; kernel_rfl) | (rw [if_neg (by decide +kernel)]; exact ⟨rfl, rfl⟩))
    (fun os started H enc _ F => by rw [OpenClaim.pre_eq_preRow]; exact lifted os started H enc F)
theorem plain (f : FuncId) (fn : Func) (hf : Tryd.pinned.checked.prog.funcNamed "loop.example/g00955/laws.FnExactTourLength" = some f) (hfn : Tryd.pinned.checked.prog.funcs[f]? = some fn) :
    false = Tryd.pinned.checked.prog.looks [] ∧ ∀ (j : Nat) t, fn.params[j]? = some t → Tryd.pinned.checked.prog.wantsStandIn t = false := by
  obtain rfl : f = 7 := Option.some.inj ((show Tryd.prog.funcNamed "loop.example/g00955/laws.FnExactTourLength" = some 7 by kernel_rfl).symm.trans hf) |>.symm
  obtain rfl : fn = Tryd.f7 := (Option.some.inj (Tryd.func7.symm.trans hfn)).symm
  refine ⟨by kernel_rfl, fun j t ht => ?_⟩
  rw [Tryd.params7] at ht
  have hm : t ∈ [30, 39] := by simpa using Array.mem_of_getElem? ht
  have hall : ([30, 39].all fun u => !Tryd.prog.wantsStandIn u) = true := by kernel_rfl
  exact (show Tryd.prog.wantsStandIn t = false by simpa using List.all_eq_true.1 hall t hm)
/-- the statement: the card -/
theorem proved : Rows.FnExactTourLengthCardSaid :=
  Claim7.holds_tied_plain_at .later [] _ _ _ _ said (fun _ h => by cases h) (by kernel_rfl) (fun _ h => by cases h) fnExactTourLength_row_tie rfl ⟨rfl, rfl⟩ (by kernel_rfl) rfl plain (by kernel_rfl)
end FnExactTourLength
end Go.Proofs.YtoddkojbeoifkaaDoor
