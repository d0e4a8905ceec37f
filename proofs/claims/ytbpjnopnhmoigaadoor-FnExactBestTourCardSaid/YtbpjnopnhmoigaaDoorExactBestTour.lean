/- The program's BestTour returns what the reference's returns, for all arguments. No condition. -/
import Derived.Test.YtbpjnopnhmoigaaDoorBestG
import Derived.Test.YtbpjnopnhmoigaaDoorGrpOwn
import Derived.Test.YtbpjnopnhmoigaaDoorTied
import Derived.Test.YtbpjnopnhmoigaaDoorChecked
import Derived.Test.YtbpjnopnhmoigaaDoorRows
import Derived.OpenVars
import Derived.RowKit
namespace Go.Proofs.YtbpjnopnhmoigaaDoor
set_option linter.unusedVariables false
set_option linter.unusedSimpArgs false
open Go.RowKit
set_option maxHeartbeats 4000000 in
theorem FnExactBestTour_walk (A0 : Option Addr) (n0 c0 : Nat) (l0 : List Sta) (a1 : Int) (a2 : Int) (w : World) (hl0 : l0.length = n0) (hn0 : n0 ≤ 9223372036854775807) (hS0 : Stars w A0 l0) (hi0 : ∀ x ∈ l0, x.i64) (g1 : I64 a1) (g2 : I64 a2) (hSin : SinOk w) :
    Calls Tryd.prog 3 #[.slice A0 n0 c0, .int .i64 a1, .int .i64 a2] w fun e w' => e = .returned (.bool true) ∧ Below w.heap.size w w' := by
  have HL0 := Lib.hid hl0
  have HI0 := Lib.hid hi0
  clear hl0 hi0
  have CS : Hid (∀ W A, Stars W A l0 → Calls Tryd.prog 12 #[.slice A n0 n0, .int .i64 a1, .int .i64 a2] W fun e w' => ∃ v : Value, e = .returned (.tuple #[v, .int .i64 (bestO l0 a1 a2).2.1, .int .i64 (bestO l0 a1 a2).2.2]) ∧ OwnI w' W.heap.size v (bestO l0 a1 a2).1 ∧ Below W.heap.size W w') := Lib.hid (fun W A hA => sBestTour_any A n0 n0 l0 a1 a2 W HL0.out hn0 hA)
  have CI : Hid (∀ W A, SinOk W → Stars W A l0 → Calls Tryd.prog 14 #[.slice A n0 n0, .int .i64 a1, .int .i64 a2] W fun e w' => ∃ v : Value, e = .returned (.tuple #[v, .int .i64 (bestO l0 a1 a2).2.1, .int .i64 (bestO l0 a1 a2).2.2]) ∧ OwnI w' W.heap.size v (bestO l0 a1 a2).1 ∧ Below W.heap.size W w') := Lib.hid (fun W A hW hA => BestTour_any A n0 n0 l0 a1 a2 W hW HL0.out hn0 hA)
  have hLen : (bestO l0 a1 a2).1.length ≤ 24 := bestO_len _ _ _
  generalize (bestO l0 a1 a2).1 = L at *
  generalize (bestO l0 a1 a2).2.1 = code0 at *
  generalize (bestO l0 a1 a2).2.2 = code1 at *
  go_enter Tryd.func3, Tryd.ntmps3
  go_wp2_with (fail)
  refine (szStarS_any A0 n0 c0 l0 1048576 _ HL0.out hn0 hS0 HI0.out (by omega) (by omega)).mono ?_
  rintro e w1 ⟨r1, rfl, hr1, hb1⟩
  rcases hr1 with hr1 | ⟨za1, zb1, zc1⟩
  · go_wp2
    go_ret
    exact ⟨rfl, (by repeat (first | exact Below.refl _ _ | refine below_alloc ?_ _ | refine below_drewN0 ?_ _ | refine below_drew0 ?_ | refine below_step ?_ (by assumption) | refine below_later ?_ _ | refine below_setCell0 ?_ (by first | exact Nat.le_refl _ | (simp; done) | omega | (simp; omega)) _))⟩
  have HT := hb1
  go_wp2_with (fail)
  refine (toStarS_any A0 n0 c0 l0 _ HL0.out (by omega) (hS0.below HT)).mono ?_
  rintro e w2 ⟨rfl, hP, hb2⟩
  replace HT := below_step HT hb2
  go_wp2_with (fail)
  refine (CS.out _ _ hP.stars).mono ?_
  rintro e w3 ⟨vW, rfl, hW, hb3⟩
  replace HT := below_step HT hb3
  clear hP
  have neW : ∀ q, vW.ownBlock = some q → some w3.heap.size = some q → False := fun q hq e => by have h1 := (hW.lt q hq).2; injection e with e; omega
  have hgX : w.heap.size ≤ w3.heap.size := HT.size
  go_wp2_with (fail)
  refine (toStarS_any A0 n0 c0 l0 _ HL0.out (by omega) (hS0.below HT)).mono ?_
  rintro e w4 ⟨rfl, hX, hb4⟩
  replace HT := below_step HT hb4
  replace hW := hW.below hb4
  go_wp2_with (fail)
  refine (CI.out _ _ (hSin.of_below HT) hX.stars).mono ?_
  rintro e w5 ⟨vG, rfl, hG, hb5⟩
  have neG : ∀ q, vG.ownBlock = some q → some w3.heap.size = some q → False := fun q hq e => by have h1 := (hG.lt q hq).1; have h2 := hX.lt; injection e with e; omega
  have neWG : ∀ q, vW.ownBlock = some q → vG.ownBlock = some q → False := fun q hq e => by have h1 := (hG.lt q e).1; have h2 := (hW.lt q hq).2; omega
  have hGB : ∀ q, vG.ownBlock = some q → w.heap.size ≤ q := fun q hq => by have h1 := (hG.lt q hq).1; have h2 := HT.size; omega
  replace HT := below_step HT hb5
  replace hW := hW.below hb5
  replace hX := hX.keep hb5
  go_wp2_with (fail)
  refine (eqOwnI_same _ _ _ _ L _ (by omega) hG hW).mono ?_
  rintro e w6 ⟨rfl, hb6⟩
  replace HT := below_step HT hb6
  replace hW := hW.below hb6
  replace hG := hG.below hb6
  replace hX := hX.keep hb6
  go_wp2_with (fail)
  refine (toStarS_any A0 n0 c0 l0 _ HL0.out (by omega) (hS0.below HT)).mono ?_
  rintro e w7 ⟨rfl, hT, hb7⟩
  replace HT := below_step HT hb7
  replace hW := hW.below hb7
  replace hG := hG.below hb7
  replace hX := hX.keep hb7
  have hTs := hT.stars
  go_wp2_with (fail)
  refine (eqStarS_same _ _ n0 _ _ l0 _ HL0.out (by omega) hX.stars hTs).mono ?_
  rintro e w8 ⟨rfl, hb8⟩
  replace HT := below_step HT hb8
  replace hW := hW.below hb8
  replace hG := hG.below hb8
  replace hX := hX.keep hb8
  clear hTs hT
  go_wp2_with (fail)
  refine (markStarS_any w3.heap.size n0 n0 (staCells l0) 1 _ (by rw [staCells_length, HL0.out]; exact Nat.le_refl _) (by omega) hX (by omega) (by omega)).mono ?_
  rintro e w9 ⟨ds, rfl, hD, _, _, hg9⟩
  replace HT := below_of_grown HT hg9 HT.size (fun q hq => by injection hq with hq; omega)
  replace hW := hW.only hg9 neW
  replace hG := hG.only hg9 neG
  clear hX hD hg9
  go_wp2_with (fail)
  refine (eqOwnI_same _ _ _ _ L _ (by omega) hG hW).mono ?_
  rintro e w10 ⟨rfl, hb10⟩
  replace HT := below_step HT hb10
  replace hW := hW.below hb10
  replace hG := hG.below hb10
  go_wp2_with (fail)
  refine (markOwnI_any _ _ L 1 _ (by omega) hG (by omega) (by omega)).mono ?_
  rintro e w11 ⟨rfl, hM, hg11⟩
  replace HT := below_of_grown HT hg11 HT.size hGB
  replace hW := hW.only hg11 neWG
  clear hG
  go_wp2_with (fail)
  refine (heldOwnI_same _ _ L.length 1 _ (by omega) hM (by omega) (by omega)).mono ?_
  rintro e w12 ⟨rfl, rfl⟩
  go_wp2_with (fail)
  refine (toStarS_any A0 n0 c0 l0 _ HL0.out (by omega) (hS0.below HT)).mono ?_
  rintro e w13 ⟨rfl, hZ, hb13⟩
  replace HT := below_step HT hb13
  replace hW := hW.below hb13
  replace hM := hM.below hb13
  go_wp2_with (fail)
  refine (CI.out _ _ (hSin.of_below HT) hZ.stars).mono ?_
  rintro e w14 ⟨vH, rfl, hH, hb14⟩
  replace HT := below_step HT hb14
  replace hW := hW.below hb14
  replace hM := hM.below hb14
  clear hZ
  go_wp2_with (fail)
  refine (eqOwnI_same _ _ _ _ L _ (by omega) hH hW).mono ?_
  rintro e w15 ⟨rfl, hb15⟩
  replace HT := below_step HT hb15
  replace hW := hW.below hb15
  replace hM := hM.below hb15
  replace hH := hH.below hb15
  go_wp2_with (fail)
  refine (heldOwnI_same _ _ L.length 1 _ (by omega) hM (by omega) (by omega)).mono ?_
  rintro e w16 ⟨rfl, rfl⟩
  go_wp2
  go_ret
  exact ⟨rfl, HT⟩
namespace FnExactBestTour
open Go.ChangeShapes Go.WideShapes Go.ChangeAt Go.RowKit Go.Joins
open Go.ChangeMaps (open_string shut_string)
theorem own : ownKnob Tryd.prog.godebug = none := by kernel_rfl
theorem laidOut : laidOutB Tryd.prog = true := by kernel_rfl
theorem gTab : Tryd.prog.globalNamed "loop.example/g00955/impl.sines" = some 0 := by kernel_rfl
theorem gTabType : (Tryd.prog.globals[0]?).map (·.type) = some 165 := by kernel_rfl
theorem cellsT : Tryd.prog.cellsOf 165 = 91 := by kernel_rfl
theorem cells1 : Tryd.prog.cellsOf 2 = 1 := by kernel_rfl
theorem table {W : World} (h : laidMetH Tryd.prog Rows.fnExactBestTourRow.laid W) : Lib.TabIs Tryd.prog W "loop.example/g00955/impl.sines" .i64 sinTab :=
  Lib.tabIs_of_head (rest := []) gTab gTabType Tryd.underlying165 Tryd.underlying2 cells1 cellsT h
theorem sinOk {W : World} (h : laidMetH Tryd.prog Rows.fnExactBestTourRow.laid W) : SinOk W :=
  ⟨lt_of_cell ((table h).cell gTab 0 (by show 0 < 91; omega)), fun k hk => (table h).cell gTab k (by show k < 91; exact hk)⟩
noncomputable def laidWorld (os : Os) : World :=
  { World.holding Tryd.prog os ⟨#[], #[], []⟩ with heap := (World.holding Tryd.prog os ⟨#[], #[], []⟩).heap.modify 0 fun
      | .cells _ t frozen => .cells (sinTab.map (Value.int .i64)).toArray t frozen
      | o => o }
theorem laid_met (os : Os) : laidMet Tryd.prog Rows.fnExactBestTourRow.laid ((laidWorld os).forCall (fun _ _ => 0) ⟨#[], #[.slice none 0 0, .int .i64 0, .int .i64 0], []⟩).memory :=
  laidMet_of_run' 8 (by kernel_rfl) (by kernel_rfl)
theorem reads (os : Os) {H : Type} (enc : TypeId × Value → H) : ∃ places, DataW.whole enc Tryd.prog ((laidWorld os).forCall (fun _ _ => 0) ⟨#[], #[.slice none 0 0, .int .i64 0, .int .i64 0], []⟩).memory Tryd.f3.params.toList Rows.fnExactBestTourSpec.vars false (#[.slice none 0 0, .int .i64 0, .int .i64 0] : Array Value).toList 8 = some ([.nil, .lit (.int .i64 0), .lit (.int .i64 0)], [Rows.laid_loop_example_g00955_impl_sines], places) :=
  ⟨((DataW.whole enc Tryd.prog ((laidWorld os).forCall (fun _ _ => 0) ⟨#[], #[.slice none 0 0, .int .i64 0, .int .i64 0], []⟩).memory Tryd.f3.params.toList Rows.fnExactBestTourSpec.vars false (#[.slice none 0 0, .int .i64 0, .int .i64 0] : Array Value).toList 8).map (fun x => x.2.2)).getD [], by kernel_rfl⟩
set_option maxRecDepth 100000 in
set_option maxHeartbeats 2000000 in
theorem lifted (os : Os) (started : os.Started) (H : Type) (enc : TypeId × Value → H) (F : Stop.Interp) :
    ReturnsInHanded {} Tryd.checked os 3 .any ((OpenSpec.ofChange Rows.fnExactBestTourSpec).preRow enc Tryd.prog Tryd.f3 Rows.fnExactBestTourRow.domain false Rows.fnExactBestTourRow.laid) (((OpenSpec.ofChange Rows.fnExactBestTourSpec).at F).post enc Tryd.prog Tryd.f3 false true false false) := by
  obtain ⟨places, hx⟩ := reads os enc
  refine returnsInHanded_of_row (C := Tryd.checked) (s := OpenSpec.ofChange Rows.fnExactBestTourSpec) own started (by kernel_rfl) Tryd.func3
    (witness_row_at (enc := enc) (C := Tryd.checked) false (laidWorld os) #[.slice none 0 0, .int .i64 0, .int .i64 0] rfl (by kernel_rfl) (by kernel_rfl) (by kernel_rfl)
      (OpenSpec.preRow_of_cond 8 hx (by kernel_rfl) (fun k hk => by cases hk) (by kernel_rfl) (laid_met os))) ?_
  intro W base args ds gs before hval0 hW _ _ _ hL _ _
  have hval : ∀ (j : Nat) t v, Tryd.f3.params[j]? = some t → args[j]? = some v → Value.okWide Tryd.prog W .any base t v := hval0
  have hW' := hW
  obtain ⟨p, q, hA0, hV, rfl, hfz, hnd⟩ := hW
  have hA : DataW.TrodAll enc Tryd.prog W 0 (fun _ => true) true Tryd.f3.params.toList args.toList ds p := hA0
  rw [Tryd.params3] at hA hval
  obtain ⟨v0, vs0, d0, ds0, p0, q0, hargs, rfl, rfl, h0, r0⟩ := trodAll_cons hA
  obtain ⟨v1, vs1, d1, ds1, p1, q1, rfl, rfl, rfl, h1, r1⟩ := trodAll_cons r0
  obtain ⟨v2, vs2, d2, ds2, p2, q2, rfl, rfl, rfl, h2, r2⟩ := trodAll_cons r1
  obtain ⟨rfl, rfl, rfl⟩ := trodAll_nil r2
  obtain rfl : args = #[v0, v1, v2] := by cases args; simp_all
  have hVk := hV
  obtain ⟨_, _, _, _, dg, _, rfl, _, _, _, _, _⟩ := trodVars_one hV
  have k0 := h0
  have lt0 : ∀ x ∈ p0, x.block < W.heap.size := by obtain ⟨m, hm⟩ := k0; exact DataW.trod_lt m _ _ _ hm
  have k1 := h1
  have lt1 : ∀ x ∈ p1, x.block < W.heap.size := by obtain ⟨m, hm⟩ := k1; exact DataW.trod_lt m _ _ _ hm
  have k2 := h2
  have lt2 : ∀ x ∈ p2, x.block < W.heap.size := by obtain ⟨m, hm⟩ := k2; exact DataW.trod_lt m _ _ _ hm
  obtain ⟨A0, n0, c0, l0, rfl, hl0, hn0, hc0, hx0, hS0, hi0⟩ := open_stars Tryd.underlying22 Tryd.underlying82 (by kernel_rfl) (by kernel_rfl) Tryd.underlying9 Tryd.underlying2 Tryd.underlying2 Tryd.underlying2 Tryd.underlying2 (hval 0 22 v0 rfl rfl) h0
  obtain ⟨a1, rfl, rfl, rfl, g1⟩ := open_int Tryd.underlying2 (hval 1 2 v1 rfl rfl) h1
  obtain ⟨a2, rfl, rfl, rfl, g2⟩ := open_int Tryd.underlying2 (hval 2 2 v2 rfl rfl) h2
  clear hA0 hval0
  refine (FnExactBestTour_walk A0 n0 c0 l0 a1 a2 W hl0 hn0 hS0 hi0 (i64_of_wf g1) (i64_of_wf g2) (sinOk hL)).mono fun e W' ⟨he, bel⟩ => ?_
  subst he
  exact ⟨_, rfl, _, _, _, [], _, _, hW', trodAll_mk1 (shut_bool Tryd.underlying4 _), (trodAll_cons_mk (Below.trod laidOut (by kernel_rfl) (of_decide_eq_true (by kernel_rfl)) k0 bel lt0) (trodAll_cons_mk (Below.trod laidOut (by kernel_rfl) (of_decide_eq_true (by kernel_rfl)) k1 bel lt1) (trodAll_cons_mk (Below.trod laidOut (by kernel_rfl) (of_decide_eq_true (by kernel_rfl)) k2 bel lt2) trodAll_mk0))), Below.trodVars laidOut bel (by kernel_rfl) hVk, bel.frame _, fun h => by cases h⟩
theorem said : Rows.FnExactBestTourSaid :=
  OpenClaim.holds_of_cond 3 Tryd.f3 rfl rfl rfl rfl rfl rfl rfl ⟨rfl, rfl, rfl, rfl, rfl⟩ rfl rfl rfl rfl rfl (by kernel_rfl) Tryd.func3 (by kernel_rfl)
    (of_decide_eq_true (by kernel_rfl)) (by unfold Func.isWrapper; first | (rw [if_pos (by decide +kernel)]; kernel_rfl) | (rw [if_neg (by decide +kernel)]; exact ⟨rfl, rfl⟩))
    (fun os started H enc _ F => by rw [OpenClaim.pre_eq_preRow]; exact lifted os started H enc F)
theorem plain (f : FuncId) (fn : Func) (hf : Tryd.pinned.checked.prog.funcNamed "loop.example/g00955/laws.FnExactBestTour" = some f) (hfn : Tryd.pinned.checked.prog.funcs[f]? = some fn) :
    false = Tryd.pinned.checked.prog.looks [] ∧ ∀ (j : Nat) t, fn.params[j]? = some t → Tryd.pinned.checked.prog.wantsStandIn t = false := by
  obtain rfl : f = 3 := Option.some.inj ((show Tryd.prog.funcNamed "loop.example/g00955/laws.FnExactBestTour" = some 3 by kernel_rfl).symm.trans hf) |>.symm
  obtain rfl : fn = Tryd.f3 := (Option.some.inj (Tryd.func3.symm.trans hfn)).symm
  refine ⟨by kernel_rfl, fun j t ht => ?_⟩
  rw [Tryd.params3] at ht
  have hm : t ∈ [22, 2, 2] := by simpa using Array.mem_of_getElem? ht
  have hall : ([22, 2, 2].all fun u => !Tryd.prog.wantsStandIn u) = true := by kernel_rfl
  exact (show Tryd.prog.wantsStandIn t = false by simpa using List.all_eq_true.1 hall t hm)
/-- the statement: the card -/
theorem proved : Rows.FnExactBestTourCardSaid :=
  Claim7.holds_tied_plain_at .later [] _ _ _ _ said (fun _ h => by cases h) (by kernel_rfl) (fun _ h => by cases h) fnExactBestTour_row_tie rfl ⟨rfl, rfl⟩ (by kernel_rfl) rfl plain (by kernel_rfl)
end FnExactBestTour
end Go.Proofs.YtbpjnopnhmoigaaDoor
