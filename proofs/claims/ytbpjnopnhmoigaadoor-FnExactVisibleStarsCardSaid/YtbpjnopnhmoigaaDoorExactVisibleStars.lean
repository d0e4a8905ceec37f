/- The program's VisibleStars returns what the reference's returns, for all arguments. No condition. -/
import Derived.Test.YtbpjnopnhmoigaaDoorVstS
import Derived.Test.YtbpjnopnhmoigaaDoorGrpOwn
import Derived.Test.YtbpjnopnhmoigaaDoorGrpNum
import Derived.Test.YtbpjnopnhmoigaaDoorTied
import Derived.Test.YtbpjnopnhmoigaaDoorChecked
import Derived.Test.YtbpjnopnhmoigaaDoorRows
import Derived.OpenVars
import Derived.RowKit
namespace Go.Proofs.YtbpjnopnhmoigaaDoor
set_option linter.unusedVariables false
set_option linter.unusedSimpArgs false
open Go.RowKit
set_option maxRecDepth 100000 in
set_option maxHeartbeats 8000000 in
theorem FnExactVisibleStars_walk (a0_0 : ByteArray) (a0_1 : Int) (a0_2 : Int) (a1 : Int) (A2 : Option Addr) (n2 c2 : Nat) (l2 : List Sta) (a3 : Int) (w : World) (g0_0 : StrOk a0_0) (g0_1 : I64 a0_1) (g0_2 : I64 a0_2) (g1 : I64 a1) (hl2 : l2.length = n2) (hn2 : n2 ≤ 9223372036854775807) (hS2 : Stars w A2 l2) (hi2 : ∀ x ∈ l2, x.i64) (g3 : I64 a3) (hSin : SinOk w) :
    Calls Tryd.prog 6 #[.agg #[.string a0_0, .int .i64 a0_1, .int .i64 a0_2], .int .i64 a1, .slice A2 n2 c2, .int .i64 a3] w fun e w' => e = .returned (.bool true) ∧ Below w.heap.size w w' := by
  have HL2 := Lib.hid hl2
  have HI2 := Lib.hid hi2
  clear hl2 hi2
  have CS : Hid (∀ W A, Stars W A l2 → Calls Tryd.prog 30 #[.agg #[.string a0_0, .int .i64 a0_1, .int .i64 a0_2], .int .i64 a1, .slice A n2 n2, .int .i64 a3] W fun e w' => ∃ v : Value, e = .returned (.tuple #[v, .int .i64 (vstO l2 a0_0.data.toList a0_1 a0_2 a1 a3).2]) ∧ OwnI w' W.heap.size v (vstO l2 a0_0.data.toList a0_1 a0_2 a1 a3).1 ∧ Below W.heap.size W w') := Lib.hid (fun W A hA => sVisibleStars_any A n2 n2 l2 a0_0 a0_1 a0_2 a1 a3 W HL2.out hn2 hA)
  have CI : Hid (∀ W A, SinOk W → Stars W A l2 → Calls Tryd.prog 31 #[.agg #[.string a0_0, .int .i64 a0_1, .int .i64 a0_2], .int .i64 a1, .slice A n2 n2, .int .i64 a3] W fun e w' => ∃ v : Value, e = .returned (.tuple #[v, .int .i64 (vstO l2 a0_0.data.toList a0_1 a0_2 a1 a3).2]) ∧ OwnI w' W.heap.size v (vstO l2 a0_0.data.toList a0_1 a0_2 a1 a3).1 ∧ Below W.heap.size W w') := Lib.hid (fun W A hW hA => VisibleStars_any A n2 n2 l2 a0_0 a0_1 a0_2 a1 a3 W hW HL2.out hn2 hA)
  have hLen : (vstO l2 a0_0.data.toList a0_1 a0_2 a1 a3).1.length ≤ 24 := vstO_len _ _ _ _ _ _
  generalize (vstO l2 a0_0.data.toList a0_1 a0_2 a1 a3).1 = L at *
  generalize (vstO l2 a0_0.data.toList a0_1 a0_2 a1 a3).2 = code0 at *
  have HSX : Blk (w.alloc (.cells #[.string a0_0, .int .i64 a0_1, .int .i64 a0_2] 45)) w.heap.size 45 (siteCells a0_0 a0_1 a0_2) := Blk.new _ _ _
  have HT : Below w.heap.size w (w.alloc (.cells #[.string a0_0, .int .i64 a0_1, .int .i64 a0_2] 45)) := below_alloc (Below.refl _ _) _
  go_enter Tryd.func6, Tryd.ntmps6
  obtain ⟨tx0, tx1, tx2⟩ := HSX.site
  rcases szL_cases 1048576 a0_0.size with ⟨zz1, zz2⟩ | ⟨zz1, zz2⟩
  · go_wp2_with (refine (szSite_any a0_0 a0_1 a0_2 1048576 _ g0_0 (by omega) (by omega)).mono ?_; rintro e w1 ⟨rfl, hb1⟩)
    go_ret
    exact ⟨rfl, below_step HT hb1⟩
  go_wp2_with (fail)
  refine (szSite_any a0_0 a0_1 a0_2 1048576 _ g0_0 (by omega) (by omega)).mono ?_
  rintro e w1 ⟨rfl, hb1⟩
  replace HT := below_step HT hb1
  replace HSX := HSX.keep hb1
  clear tx0 tx1 tx2
  have hz0 : 0 ≤ szL 1048576 a0_0.size ∧ szL 1048576 a0_0.size ≤ 1048576 := by omega
  clear zz1 zz2
  generalize szL 1048576 a0_0.size = r1 at *
  obtain ⟨hz0, hz1⟩ := hz0
  go_wp2_with (fail)
  refine (szStarS_any A2 n2 c2 l2 r1 _ HL2.out hn2 (hS2.below HT) HI2.out (by omega) (by omega)).mono ?_
  rintro e w2 ⟨r2, rfl, hr2, hb2⟩
  rcases hr2 with hr2 | ⟨za2, zb2, zc2⟩
  · go_wp2
    go_ret
    exact ⟨rfl, (by repeat (first | exact Below.refl _ _ | refine below_alloc ?_ _ | refine below_drewN0 ?_ _ | refine below_drew0 ?_ | refine below_step ?_ (by assumption) | refine below_later ?_ _ | refine below_setCell0 ?_ (by first | exact Nat.le_refl _ | (simp; done) | omega | (simp; omega)) _))⟩
  replace HT := below_step HT hb2
  replace HSX := HSX.keep hb2
  obtain ⟨tx0, tx1, tx2⟩ := HSX.site
  go_wp2_with (fail)
  refine (toSite_any a0_0 a0_1 a0_2 _).mono ?_
  rintro e w3 ⟨rfl, hb3⟩
  replace HT := below_step HT hb3
  replace HSX := HSX.keep hb3
  clear tx0 tx1 tx2
  go_wp2_with (fail)
  refine (toStarS_any A2 n2 c2 l2 _ HL2.out (by omega) (hS2.below HT)).mono ?_
  rintro e w4 ⟨rfl, hP, hb4⟩
  replace HT := below_step HT hb4
  replace HSX := HSX.keep hb4
  go_wp2_with (fail)
  refine (CS.out _ _ hP.stars).mono ?_
  rintro e w5 ⟨vW, rfl, hW, hb5⟩
  replace HT := below_step HT hb5
  replace HSX := HSX.keep hb5
  clear hP
  have neW : ∀ q, vW.ownBlock = some q → some w5.heap.size = some q → False := fun q hq e => by have h1 := (hW.lt q hq).2; injection e with e; omega
  have hgX : w.heap.size ≤ w5.heap.size := HT.size
  have hSXl0 : w.heap.size < w5.heap.size := HSX.lt
  go_wp2_with (fail)
  refine (toStarS_any A2 n2 c2 l2 _ HL2.out (by omega) (hS2.below HT)).mono ?_
  rintro e w6 ⟨rfl, hX, hb6⟩
  replace HT := below_step HT hb6
  replace hW := hW.below hb6
  replace HSX := HSX.keep hb6
  obtain ⟨tx0, tx1, tx2⟩ := HSX.site
  go_wp2_with (fail)
  refine (toSite_any a0_0 a0_1 a0_2 _).mono ?_
  rintro e w7 ⟨rfl, hb7⟩
  replace HT := below_step HT hb7
  replace hW := hW.below hb7
  replace HSX := HSX.keep hb7
  replace hX := hX.keep hb7
  clear tx0 tx1 tx2
  go_wp2_with (fail)
  refine (CI.out _ _ (hSin.of_below HT) hX.stars).mono ?_
  rintro e w8 ⟨vG, rfl, hG, hb8⟩
  have neG : ∀ q, vG.ownBlock = some q → some w5.heap.size = some q → False := fun q hq e => by have h1 := (hG.lt q hq).1; have h2 := hX.lt; injection e with e; omega
  have neWG : ∀ q, vW.ownBlock = some q → vG.ownBlock = some q → False := fun q hq e => by have h1 := (hG.lt q e).1; have h2 := (hW.lt q hq).2; omega
  have hGB : ∀ q, vG.ownBlock = some q → w.heap.size ≤ q := fun q hq => by have h1 := (hG.lt q hq).1; have h2 := HT.size; omega
  have hSXl : w.heap.size < w5.heap.size := hSXl0
  have neSG : ∀ q, vG.ownBlock = some q → w.heap.size < q := fun q hq => by have h1 := (hG.lt q hq).1; have h2 := hX.lt; omega
  replace HT := below_step HT hb8
  replace hW := hW.below hb8
  replace HSX := HSX.keep hb8
  replace hX := hX.keep hb8
  go_wp2_with (fail)
  refine (eqOwnI_same _ _ _ _ L _ (by omega) hG hW).mono ?_
  rintro e w9 ⟨rfl, hb9⟩
  replace HT := below_step HT hb9
  replace hW := hW.below hb9
  replace hG := hG.below hb9
  replace HSX := HSX.keep hb9
  replace hX := hX.keep hb9
  go_wp2_with (fail)
  refine (toStarS_any A2 n2 c2 l2 _ HL2.out (by omega) (hS2.below HT)).mono ?_
  rintro e w10 ⟨rfl, hT, hb10⟩
  replace HT := below_step HT hb10
  replace hW := hW.below hb10
  replace hG := hG.below hb10
  replace HSX := HSX.keep hb10
  replace hX := hX.keep hb10
  have hTs := hT.stars
  go_wp2_with (fail)
  refine (eqStarS_same _ _ n2 _ _ l2 _ HL2.out (by omega) hX.stars hTs).mono ?_
  rintro e w11 ⟨rfl, hb11⟩
  replace HT := below_step HT hb11
  replace hW := hW.below hb11
  replace hG := hG.below hb11
  replace HSX := HSX.keep hb11
  replace hX := hX.keep hb11
  clear hTs hT
  go_wp2_with (fail)
  refine (markStarS_any w5.heap.size n2 n2 (staCells l2) 1 _ (by rw [staCells_length, HL2.out]; exact Nat.le_refl _) (by omega) hX (by omega) (by omega)).mono ?_
  rintro e w12 ⟨ds, rfl, hD, _, _, hg12⟩
  replace HT := below_of_grown HT hg12 HT.size (fun q hq => by injection hq with hq; omega)
  replace HSX := HSX.grown2 hg12 (fun q hq => by injection hq with hq; have := hSXl; omega)
  replace hW := hW.only hg12 neW
  replace hG := hG.only hg12 neG
  clear hX hD hg12
  go_wp2_with (fail)
  refine (eqOwnI_same _ _ _ _ L _ (by omega) hG hW).mono ?_
  rintro e w13 ⟨rfl, hb13⟩
  replace HT := below_step HT hb13
  replace hW := hW.below hb13
  replace hG := hG.below hb13
  replace HSX := HSX.keep hb13
  go_wp2_with (fail)
  refine (markOwnI_any _ _ L 1 _ (by omega) hG (by omega) (by omega)).mono ?_
  rintro e w14 ⟨rfl, hM, hg14⟩
  replace HT := below_of_grown HT hg14 HT.size hGB
  replace hW := hW.only hg14 neWG
  replace HSX := HSX.grown2 hg14 (fun q hq => by have h1 := neSG q hq; omega)
  clear hG
  go_wp2_with (fail)
  refine (heldOwnI_same _ _ L.length 1 _ (by omega) hM (by omega) (by omega)).mono ?_
  rintro e w15 ⟨rfl, rfl⟩
  obtain ⟨tx0, tx1, tx2⟩ := HSX.site
  go_wp2_with (fail)
  refine (toSite_any a0_0 a0_1 a0_2 _).mono ?_
  rintro e w16 ⟨rfl, hb16⟩
  replace HT := below_step HT hb16
  replace hW := hW.below hb16
  replace hM := hM.below hb16
  replace HSX := HSX.keep hb16
  clear tx0 tx1 tx2
  go_wp2_with (fail)
  refine (toStarS_any A2 n2 c2 l2 _ HL2.out (by omega) (hS2.below HT)).mono ?_
  rintro e w17 ⟨rfl, hZ, hb17⟩
  replace HT := below_step HT hb17
  replace hW := hW.below hb17
  replace hM := hM.below hb17
  replace HSX := HSX.keep hb17
  go_wp2_with (fail)
  refine (CI.out _ _ (hSin.of_below HT) hZ.stars).mono ?_
  rintro e w18 ⟨vH, rfl, hH, hb18⟩
  replace HT := below_step HT hb18
  replace hW := hW.below hb18
  replace hM := hM.below hb18
  replace HSX := HSX.keep hb18
  clear hZ
  go_wp2_with (fail)
  refine (eqOwnI_same _ _ _ _ L _ (by omega) hH hW).mono ?_
  rintro e w19 ⟨rfl, hb19⟩
  replace HT := below_step HT hb19
  replace hW := hW.below hb19
  replace hM := hM.below hb19
  replace hH := hH.below hb19
  replace HSX := HSX.keep hb19
  go_wp2_with (fail)
  refine (heldOwnI_same _ _ L.length 1 _ (by omega) hM (by omega) (by omega)).mono ?_
  rintro e w20 ⟨rfl, rfl⟩
  go_wp2
  go_ret
  exact ⟨rfl, HT⟩
namespace FnExactVisibleStars
open Go.ChangeShapes Go.WideShapes Go.ChangeAt Go.RowKit Go.Joins
open Go.ChangeMaps (open_string shut_string)
theorem own : ownKnob Tryd.prog.godebug = none := by kernel_rfl
theorem laidOut : laidOutB Tryd.prog = true := by kernel_rfl
theorem gTab : Tryd.prog.globalNamed "loop.example/g00955/impl.sines" = some 0 := by kernel_rfl
theorem gTabType : (Tryd.prog.globals[0]?).map (·.type) = some 165 := by kernel_rfl
theorem cellsT : Tryd.prog.cellsOf 165 = 91 := by kernel_rfl
theorem cells1 : Tryd.prog.cellsOf 2 = 1 := by kernel_rfl
theorem table {W : World} (h : laidMetH Tryd.prog Rows.fnExactVisibleStarsRow.laid W) : Lib.TabIs Tryd.prog W "loop.example/g00955/impl.sines" .i64 sinTab :=
  Lib.tabIs_of_head (rest := []) gTab gTabType Tryd.underlying165 Tryd.underlying2 cells1 cellsT h
theorem sinOk {W : World} (h : laidMetH Tryd.prog Rows.fnExactVisibleStarsRow.laid W) : SinOk W :=
  ⟨lt_of_cell ((table h).cell gTab 0 (by show 0 < 91; omega)), fun k hk => (table h).cell gTab k (by show k < 91; exact hk)⟩
noncomputable def laidWorld (os : Os) : World :=
  { World.holding Tryd.prog os ⟨#[], #[], []⟩ with heap := (World.holding Tryd.prog os ⟨#[], #[], []⟩).heap.modify 0 fun
      | .cells _ t frozen => .cells (sinTab.map (Value.int .i64)).toArray t frozen
      | o => o }
theorem laid_met (os : Os) : laidMet Tryd.prog Rows.fnExactVisibleStarsRow.laid ((laidWorld os).forCall (fun _ _ => 0) ⟨#[], #[.agg #[.string ⟨#[]⟩, .int .i64 0, .int .i64 0], .int .i64 0, .slice none 0 0, .int .i64 0], []⟩).memory :=
  laidMet_of_run' 8 (by kernel_rfl) (by kernel_rfl)
theorem reads (os : Os) {H : Type} (enc : TypeId × Value → H) : ∃ places, DataW.whole enc Tryd.prog ((laidWorld os).forCall (fun _ _ => 0) ⟨#[], #[.agg #[.string ⟨#[]⟩, .int .i64 0, .int .i64 0], .int .i64 0, .slice none 0 0, .int .i64 0], []⟩).memory Tryd.f6.params.toList Rows.fnExactVisibleStarsSpec.vars false (#[.agg #[.string ⟨#[]⟩, .int .i64 0, .int .i64 0], .int .i64 0, .slice none 0 0, .int .i64 0] : Array Value).toList 8 = some ([.agg [.lit (.string []), .lit (.int .i64 0), .lit (.int .i64 0)], .lit (.int .i64 0), .nil, .lit (.int .i64 0)], [Rows.laid_loop_example_g00955_impl_sines], places) :=
  ⟨((DataW.whole enc Tryd.prog ((laidWorld os).forCall (fun _ _ => 0) ⟨#[], #[.agg #[.string ⟨#[]⟩, .int .i64 0, .int .i64 0], .int .i64 0, .slice none 0 0, .int .i64 0], []⟩).memory Tryd.f6.params.toList Rows.fnExactVisibleStarsSpec.vars false (#[.agg #[.string ⟨#[]⟩, .int .i64 0, .int .i64 0], .int .i64 0, .slice none 0 0, .int .i64 0] : Array Value).toList 8).map (fun x => x.2.2)).getD [], by kernel_rfl⟩
set_option maxRecDepth 100000 in
set_option maxHeartbeats 2000000 in
theorem lifted (os : Os) (started : os.Started) (H : Type) (enc : TypeId × Value → H) (F : Stop.Interp) :
    ReturnsInHanded {} Tryd.checked os 6 .any ((OpenSpec.ofChange Rows.fnExactVisibleStarsSpec).preRow enc Tryd.prog Tryd.f6 Rows.fnExactVisibleStarsRow.domain false Rows.fnExactVisibleStarsRow.laid) (((OpenSpec.ofChange Rows.fnExactVisibleStarsSpec).at F).post enc Tryd.prog Tryd.f6 false true false false) := by
  obtain ⟨places, hx⟩ := reads os enc
  refine returnsInHanded_of_row (C := Tryd.checked) (s := OpenSpec.ofChange Rows.fnExactVisibleStarsSpec) own started (by kernel_rfl) Tryd.func6
    (witness_row_at (enc := enc) (C := Tryd.checked) false (laidWorld os) #[.agg #[.string ⟨#[]⟩, .int .i64 0, .int .i64 0], .int .i64 0, .slice none 0 0, .int .i64 0] rfl (by kernel_rfl) (by kernel_rfl) (by kernel_rfl)
      (OpenSpec.preRow_of_cond 8 hx (by kernel_rfl) (fun k hk => by cases hk) (by kernel_rfl) (laid_met os))) ?_
  intro W base args ds gs before hval0 hW _ _ _ hL _ _
  have hval : ∀ (j : Nat) t v, Tryd.f6.params[j]? = some t → args[j]? = some v → Value.okWide Tryd.prog W .any base t v := hval0
  have hW' := hW
  obtain ⟨p, q, hA0, hV, rfl, hfz, hnd⟩ := hW
  have hA : DataW.TrodAll enc Tryd.prog W 0 (fun _ => true) true Tryd.f6.params.toList args.toList ds p := hA0
  rw [Tryd.params6] at hA hval
  obtain ⟨v0, vs0, d0, ds0, p0, q0, hargs, rfl, rfl, h0, r0⟩ := trodAll_cons hA
  obtain ⟨v1, vs1, d1, ds1, p1, q1, rfl, rfl, rfl, h1, r1⟩ := trodAll_cons r0
  obtain ⟨v2, vs2, d2, ds2, p2, q2, rfl, rfl, rfl, h2, r2⟩ := trodAll_cons r1
  obtain ⟨v3, vs3, d3, ds3, p3, q3, rfl, rfl, rfl, h3, r3⟩ := trodAll_cons r2
  obtain ⟨rfl, rfl, rfl⟩ := trodAll_nil r3
  obtain rfl : args = #[v0, v1, v2, v3] := by cases args; simp_all
  have hVk := hV
  obtain ⟨_, _, _, _, dg, _, rfl, _, _, _, _, _⟩ := trodVars_one hV
  have k0 := h0
  have lt0 : ∀ x ∈ p0, x.block < W.heap.size := by obtain ⟨m, hm⟩ := k0; exact DataW.trod_lt m _ _ _ hm
  have k1 := h1
  have lt1 : ∀ x ∈ p1, x.block < W.heap.size := by obtain ⟨m, hm⟩ := k1; exact DataW.trod_lt m _ _ _ hm
  have k2 := h2
  have lt2 : ∀ x ∈ p2, x.block < W.heap.size := by obtain ⟨m, hm⟩ := k2; exact DataW.trod_lt m _ _ _ hm
  have k3 := h3
  have lt3 : ∀ x ∈ p3, x.block < W.heap.size := by obtain ⟨m, hm⟩ := k3; exact DataW.trod_lt m _ _ _ hm
  obtain ⟨c0_0, c0_1, c0_2, y0_0, y0_1, y0_2, m0, rfl, rfl, rfl, t0_0, t0_1, t0_2⟩ := open_agg3 Tryd.underlying45 (by kernel_rfl) (by kernel_rfl) (hval 0 45 v0 rfl rfl) h0
  obtain ⟨a0_0, rfl, g0_0⟩ := cell_string Tryd.underlying9 t0_0
  obtain ⟨a0_1, rfl, g0_1⟩ := cell_int Tryd.underlying2 t0_1
  obtain ⟨a0_2, rfl, g0_2⟩ := cell_int Tryd.underlying2 t0_2
  obtain ⟨a1, rfl, rfl, rfl, g1⟩ := open_int Tryd.underlying2 (hval 1 2 v1 rfl rfl) h1
  obtain ⟨A2, n2, c2, l2, rfl, hl2, hn2, hc2, hx2, hS2, hi2⟩ := open_stars Tryd.underlying22 Tryd.underlying82 (by kernel_rfl) (by kernel_rfl) Tryd.underlying9 Tryd.underlying2 Tryd.underlying2 Tryd.underlying2 Tryd.underlying2 (hval 2 22 v2 rfl rfl) h2
  obtain ⟨a3, rfl, rfl, rfl, g3⟩ := open_int Tryd.underlying2 (hval 3 2 v3 rfl rfl) h3
  clear hA0 hval0
  refine (FnExactVisibleStars_walk a0_0 a0_1 a0_2 a1 A2 n2 c2 l2 a3 W g0_0 g0_1 g0_2 (i64_of_wf g1) hl2 hn2 hS2 hi2 (i64_of_wf g3) (sinOk hL)).mono fun e W' ⟨he, bel⟩ => ?_
  subst he
  exact ⟨_, rfl, _, _, _, [], _, _, hW', trodAll_mk1 (shut_bool Tryd.underlying4 _), (trodAll_cons_mk (Below.trod laidOut (by kernel_rfl) (of_decide_eq_true (by kernel_rfl)) k0 bel lt0) (trodAll_cons_mk (Below.trod laidOut (by kernel_rfl) (of_decide_eq_true (by kernel_rfl)) k1 bel lt1) (trodAll_cons_mk (Below.trod laidOut (by kernel_rfl) (of_decide_eq_true (by kernel_rfl)) k2 bel lt2) (trodAll_cons_mk (Below.trod laidOut (by kernel_rfl) (of_decide_eq_true (by kernel_rfl)) k3 bel lt3) trodAll_mk0)))), Below.trodVars laidOut bel (by kernel_rfl) hVk, bel.frame _, fun h => by cases h⟩
theorem said : Rows.FnExactVisibleStarsSaid :=
  OpenClaim.holds_of_cond 6 Tryd.f6 rfl rfl rfl rfl rfl rfl rfl ⟨rfl, rfl, rfl, rfl, rfl⟩ rfl rfl rfl rfl rfl (by kernel_rfl) Tryd.func6 (by kernel_rfl)
    (of_decide_eq_true (by kernel_rfl)) (by unfold Func.isWrapper; first | (rw [if_pos (by decide +kernel)]; kernel_rfl) | (rw [if_neg (by decide +kernel)]; exact ⟨rfl, rfl⟩))
    (fun os started H enc _ F => by rw [OpenClaim.pre_eq_preRow]; exact lifted os started H enc F)
theorem plain (f : FuncId) (fn : Func) (hf : Tryd.pinned.checked.prog.funcNamed "loop.example/g00955/laws.FnExactVisibleStars" = some f) (hfn : Tryd.pinned.checked.prog.funcs[f]? = some fn) :
    false = Tryd.pinned.checked.prog.looks [] ∧ ∀ (j : Nat) t, fn.params[j]? = some t → Tryd.pinned.checked.prog.wantsStandIn t = false := by
  obtain rfl : f = 6 := Option.some.inj ((show Tryd.prog.funcNamed "loop.example/g00955/laws.FnExactVisibleStars" = some 6 by kernel_rfl).symm.trans hf) |>.symm
  obtain rfl : fn = Tryd.f6 := (Option.some.inj (Tryd.func6.symm.trans hfn)).symm
  refine ⟨by kernel_rfl, fun j t ht => ?_⟩
  rw [Tryd.params6] at ht
  have hm : t ∈ [45, 2, 22, 2] := by simpa using Array.mem_of_getElem? ht
  have hall : ([45, 2, 22, 2].all fun u => !Tryd.prog.wantsStandIn u) = true := by kernel_rfl
  exact (show Tryd.prog.wantsStandIn t = false by simpa using List.all_eq_true.1 hall t hm)
/-- the statement: the card -/
theorem proved : Rows.FnExactVisibleStarsCardSaid :=
  Claim7.holds_tied_plain_at .later [] _ _ _ _ said (fun _ h => by cases h) (by kernel_rfl) (fun _ h => by cases h) fnExactVisibleStars_row_tie rfl ⟨rfl, rfl⟩ (by kernel_rfl) rfl plain (by kernel_rfl)
end FnExactVisibleStars
end Go.Proofs.YtbpjnopnhmoigaaDoor
