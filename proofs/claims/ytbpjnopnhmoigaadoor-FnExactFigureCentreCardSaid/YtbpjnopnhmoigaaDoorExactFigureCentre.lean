/- The program's FigureCentre returns what the reference's returns, for all arguments. No condition. -/
import Derived.Test.YtbpjnopnhmoigaaDoorCentS
import Derived.Test.YtbpjnopnhmoigaaDoorGrpFigs
import Derived.Test.YtbpjnopnhmoigaaDoorHeld
import Derived.Deep.RegionHeld3
import Derived.Test.YtbpjnopnhmoigaaDoorChecked
import Derived.Test.YtbpjnopnhmoigaaDoorRows
import Derived.Test.YtbpjnopnhmoigaaDoorTied
import Derived.OpenVars
import Derived.RowKit
namespace Go.Proofs.YtbpjnopnhmoigaaDoor
set_option linter.unusedVariables false
set_option linter.unusedSimpArgs false
open Go.RowKit
set_option maxRecDepth 100000 in
set_option maxHeartbeats 4000000 in
theorem FnExactFigureCentre_walk (a0_0 : ByteArray) (B0 : Option Addr) (p0 q0 : Nat) (LL0 : List (List Int)) (A1 : Option Addr) (n1 c1 : Nat) (l1 : List Sta) (w : World) (g0_0 : StrOk a0_0) (hp0 : LL0.length = p0) (hq0 : p0 ≤ 9223372036854775807) (hB0 : Lists w B0 LL0) (hl1 : l1.length = n1) (hn1 : n1 ≤ 9223372036854775807) (hS1 : Stars w A1 l1) (hi1 : ∀ x ∈ l1, x.i64) (hSin : SinOk w) :
    Calls Tryd.prog 8 #[.agg #[.string a0_0, .slice B0 p0 q0], .slice A1 n1 c1] w fun e w' => e = .returned (.bool true) ∧ Below w.heap.size w w' := by
  have HP := Lib.hid hp0
  clear hp0
  have HL1 := Lib.hid hl1
  have HI1 := Lib.hid hi1
  clear hl1 hi1
  have CS : Hid (∀ W B A, Lists W B LL0 → Stars W A l1 → Calls Tryd.prog 34 #[.agg #[.string a0_0, .slice B p0 p0], .slice A n1 n1] W fun e w' => e = .returned (.tuple #[.int .i64 (centO a0_0 LL0 l1).1, .int .i64 (centO a0_0 LL0 l1).2.1, .int .i64 (centO a0_0 LL0 l1).2.2]) ∧ Below W.heap.size W w') := Lib.hid (fun W B A hB hA => sFigureCentre_any a0_0 B p0 p0 LL0 A n1 n1 l1 W HP.out hq0 hB HL1.out hn1 hA)
  have CI : Hid (∀ W B A, SinOk W → Lists W B LL0 → Stars W A l1 → Calls Tryd.prog 35 #[.agg #[.string a0_0, .slice B p0 p0], .slice A n1 n1] W fun e w' => e = .returned (.tuple #[.int .i64 (centO a0_0 LL0 l1).1, .int .i64 (centO a0_0 LL0 l1).2.1, .int .i64 (centO a0_0 LL0 l1).2.2]) ∧ Below W.heap.size W w') := Lib.hid (fun W B A hW hB hA => FigureCentre_any a0_0 B p0 p0 LL0 A n1 n1 l1 W hW HP.out hq0 hB HL1.out hn1 hA)
  generalize (centO a0_0 LL0 l1).1 = res at CS CI
  generalize (centO a0_0 LL0 l1).2.1 = res2 at CS CI
  generalize (centO a0_0 LL0 l1).2.2 = code at CS CI
  have HBX : Blk (w.alloc (.cells #[.string a0_0, .slice B0 p0 q0] 36)) w.heap.size 36 (figCells a0_0 B0 p0 q0) := Blk.new _ _ _
  have HT : Below w.heap.size w (w.alloc (.cells #[.string a0_0, .slice B0 p0 q0] 36)) := below_alloc (Below.refl _ _) _
  go_enter Tryd.func8, Tryd.ntmps8
  obtain ⟨bx0, bx1⟩ := HBX.fig
  go_wp2_with (fail)
  refine (szFigure_any a0_0 B0 p0 q0 LL0 1048576 _ g0_0 HP.out hq0 (hB0.below HT) (by omega) (by omega)).mono ?_
  rintro e w1 ⟨r1, rfl, hr1, hb1⟩
  rcases hr1 with hr1 | ⟨za1, zb1, zc1⟩
  · go_wp2
    go_ret
    exact ⟨rfl, below_step HT hb1⟩
  replace HT := below_step HT hb1
  replace HBX := HBX.keep hb1
  clear bx0 bx1
  have hsz : p0 + tot LL0 ≤ 1048576 := by omega
  have hp1 : p0 ≤ 1048576 := by omega
  go_wp2_with (fail)
  refine (szStarS_any A1 n1 c1 l1 r1 _ HL1.out hn1 (hS1.below HT) HI1.out (by omega) (by omega)).mono ?_
  rintro e w2 ⟨r2, rfl, hr2, hb2⟩
  rcases hr2 with hr2 | ⟨za2, zb2, zc2⟩
  · go_wp2
    go_ret
    exact ⟨rfl, below_step HT hb2⟩
  replace HT := below_step HT hb2
  replace HBX := HBX.keep hb2
  obtain ⟨bx0, bx1⟩ := HBX.fig
  go_wp2_with (fail)
  refine (toFigure_any a0_0 B0 p0 q0 LL0 _ HP.out hsz (hB0.below HT)).mono ?_
  rintro e w3 ⟨gP, rfl, hP, hPge, hb3⟩
  replace HT := below_step HT hb3
  replace HBX := HBX.keep hb3
  clear bx0 bx1
  go_wp2_with (fail)
  refine (toStarS_any A1 n1 c1 l1 _ HL1.out (by omega) (hS1.below HT)).mono ?_
  rintro e w4 ⟨rfl, hQ, hb4⟩
  replace HT := below_step HT hb4
  replace HBX := HBX.keep hb4
  replace hP := hP.keep hb4
  go_wp2_with (fail)
  refine (CS.out _ _ _ (hP.lists2 (by omega)) hQ.stars).mono ?_
  rintro e w5 ⟨rfl, hb5⟩
  replace HT := below_step HT hb5
  replace HBX := HBX.keep hb5
  replace hP := hP.keep hb5
  replace hQ := hQ.keep hb5
  clear hP hQ
  obtain ⟨bx0, bx1⟩ := HBX.fig
  go_wp2_with (fail)
  refine (toFigure_any a0_0 B0 p0 q0 LL0 _ HP.out hsz (hB0.below HT)).mono ?_
  rintro e w6 ⟨gF, rfl, hF, hFge, hb6⟩
  replace HT := below_step HT hb6
  replace HBX := HBX.keep hb6
  clear bx0 bx1
  go_wp2_with (fail)
  have HX0 : Blk (w6.alloc (.cells #[.string a0_0, .slice (some ⟨gF, 0, none⟩) p0 p0] 40)) w6.heap.size 40 (figCells a0_0 (some ⟨gF, 0, none⟩) p0 p0) := Blk.new _ _ _
  have HTa : Below w6.heap.size w6 (w6.alloc (.cells #[.string a0_0, .slice (some ⟨gF, 0, none⟩) p0 p0] 40)) := below_alloc (Below.refl _ _) _
  replace HT := below_step HT HTa
  replace HBX := HBX.keep HTa
  replace hF := hF.keep HTa
  clear HTa
  generalize w6.alloc (.cells #[.string a0_0, .slice (some ⟨gF, 0, none⟩) p0 p0] 40) = wB at *
  generalize w6.heap.size = bX at *
  go_wp2_with (fail)
  refine (toStarS_any A1 n1 c1 l1 _ HL1.out (by omega) (hS1.below HT)).mono ?_
  rintro e w7 ⟨rfl, hX, hb7⟩
  replace HT := below_step HT hb7
  replace HBX := HBX.keep hb7
  replace hF := hF.keep hb7
  replace HX0 := HX0.keep hb7
  obtain ⟨xx0, xx1⟩ := HX0.fig
  go_wp2_with (fail)
  refine (CI.out _ _ _ (hSin.of_below HT) (hF.lists2 (by omega)) hX.stars).mono ?_
  rintro e w8 ⟨rfl, hb8⟩
  replace HT := below_step HT hb8
  replace HBX := HBX.keep hb8
  replace hF := hF.keep hb8
  replace HX0 := HX0.keep hb8
  replace hX := hX.keep hb8
  clear xx0 xx1
  obtain ⟨bx0, bx1⟩ := HBX.fig
  obtain ⟨xx0, xx1⟩ := HX0.fig
  have hS4 := And.intro bx0 (And.intro bx1 (And.intro xx0 xx1))
  go_wp2_with (fail)
  go_region_held3 (fun w' => w'.cell? ⟨w.heap.size, 0, none⟩ = some (.string a0_0) ∧ w'.cell? ⟨w.heap.size, 1, none⟩ = some (.slice B0 p0 q0) ∧ w'.cell? ⟨bX, 0, none⟩ = some (.string a0_0) ∧ w'.cell? ⟨bX, 1, none⟩ = some (.slice (some ⟨gF, 0, none⟩) p0 p0))
    ((first | assumption | exact held4 (by assumption) (by assumption) | exact held4 (by assumption) (below_drew0 (Below.refl _ _))))
    (first
      | (go_at_call 22; refine (toFigure_any a0_0 B0 p0 q0 LL0 _ HP.out hsz (hB0.below (by first | exact HT | exact below_drew0 HT))).mono ?_; rintro e w9 ⟨gE, rfl, hE, hEge, hb9⟩)
      | (go_at_call 24; refine (eqFigure_same a0_0 _ _ p0 p0 p0 LL0 _ HP.out hq0 ((hF.keep (below_step (below_drew0 (Below.refl _ _)) hb9)).lists2 (by omega)) (hE.lists2 (by omega))).mono ?_; rintro e w10 ⟨rfl, hb10⟩))
  clear bx0 bx1
  clear xx0 xx1
  clear hS4
  have HTd := below_drew0 (Below.refl w8.heap.size w8)
  replace HT := below_step HT HTd
  replace HBX := HBX.keep HTd
  replace hF := hF.keep HTd
  replace HX0 := HX0.keep HTd
  replace hX := hX.keep HTd
  clear HTd
  replace HT := below_step HT hb9
  replace HBX := HBX.keep hb9
  replace hF := hF.keep hb9
  replace HX0 := HX0.keep hb9
  replace hX := hX.keep hb9
  replace HT := below_step HT hb10
  replace HBX := HBX.keep hb10
  replace hF := hF.keep hb10
  replace HX0 := HX0.keep hb10
  replace hX := hX.keep hb10
  clear hE
  go_wp2_with (fail)
  refine (toStarS_any A1 n1 c1 l1 _ HL1.out (by omega) (hS1.below HT)).mono ?_
  rintro e w11 ⟨rfl, hT, hb11⟩
  replace HT := below_step HT hb11
  replace HBX := HBX.keep hb11
  replace hF := hF.keep hb11
  replace HX0 := HX0.keep hb11
  replace hX := hX.keep hb11
  go_wp2_with (fail)
  refine (eqStarS_same _ _ n1 _ _ l1 _ HL1.out (by omega) hX.stars hT.stars).mono ?_
  rintro e w12 ⟨rfl, hb12⟩
  replace HT := below_step HT hb12
  replace HBX := HBX.keep hb12
  replace hF := hF.keep hb12
  replace HX0 := HX0.keep hb12
  replace hX := hX.keep hb12
  replace hT := hT.keep hb12
  go_wp2
  go_ret
  exact ⟨rfl, HT⟩
namespace FnExactFigureCentre
open Go.ChangeShapes Go.WideShapes Go.ChangeAt Go.RowKit Go.Joins
open Go.ChangeMaps (open_string shut_string)
theorem own : ownKnob Tryd.prog.godebug = none := by kernel_rfl
theorem laidOut : laidOutB Tryd.prog = true := by kernel_rfl
theorem gTab : Tryd.prog.globalNamed "loop.example/g00955/impl.sines" = some 0 := by kernel_rfl
theorem gTabType : (Tryd.prog.globals[0]?).map (·.type) = some 165 := by kernel_rfl
theorem cellsT : Tryd.prog.cellsOf 165 = 91 := by kernel_rfl
theorem cells1 : Tryd.prog.cellsOf 2 = 1 := by kernel_rfl
theorem table {W : World} (h : laidMetH Tryd.prog Rows.fnExactFigureCentreRow.laid W) : Lib.TabIs Tryd.prog W "loop.example/g00955/impl.sines" .i64 sinTab :=
  Lib.tabIs_of_head (rest := []) gTab gTabType Tryd.underlying165 Tryd.underlying2 cells1 cellsT h
theorem sinOk {W : World} (h : laidMetH Tryd.prog Rows.fnExactFigureCentreRow.laid W) : SinOk W :=
  ⟨lt_of_cell ((table h).cell gTab 0 (by show 0 < 91; omega)), fun k hk => (table h).cell gTab k (by show k < 91; exact hk)⟩
noncomputable def laidWorld (os : Os) : World :=
  { World.holding Tryd.prog os ⟨#[], #[], []⟩ with heap := (World.holding Tryd.prog os ⟨#[], #[], []⟩).heap.modify 0 fun
      | .cells _ t frozen => .cells (sinTab.map (Value.int .i64)).toArray t frozen
      | o => o }
theorem laid_met (os : Os) : laidMet Tryd.prog Rows.fnExactFigureCentreRow.laid ((laidWorld os).forCall (fun _ _ => 0) ⟨#[], #[.agg #[.string ⟨#[]⟩, .slice none 0 0], .slice none 0 0], []⟩).memory :=
  laidMet_of_run' 8 (by kernel_rfl) (by kernel_rfl)
theorem reads (os : Os) {H : Type} (enc : TypeId × Value → H) : ∃ places, DataW.whole enc Tryd.prog ((laidWorld os).forCall (fun _ _ => 0) ⟨#[], #[.agg #[.string ⟨#[]⟩, .slice none 0 0], .slice none 0 0], []⟩).memory Tryd.f8.params.toList Rows.fnExactFigureCentreSpec.vars false (#[.agg #[.string ⟨#[]⟩, .slice none 0 0], .slice none 0 0] : Array Value).toList 8 = some ([.agg [.lit (.string []), .nil], .nil], [Rows.laid_loop_example_g00955_impl_sines], places) :=
  ⟨((DataW.whole enc Tryd.prog ((laidWorld os).forCall (fun _ _ => 0) ⟨#[], #[.agg #[.string ⟨#[]⟩, .slice none 0 0], .slice none 0 0], []⟩).memory Tryd.f8.params.toList Rows.fnExactFigureCentreSpec.vars false (#[.agg #[.string ⟨#[]⟩, .slice none 0 0], .slice none 0 0] : Array Value).toList 8).map (fun x => x.2.2)).getD [], by kernel_rfl⟩
set_option maxRecDepth 100000 in
set_option maxHeartbeats 2000000 in
theorem lifted (os : Os) (started : os.Started) (H : Type) (enc : TypeId × Value → H) (F : Stop.Interp) :
    ReturnsInHanded {} Tryd.checked os 8 .any ((OpenSpec.ofChange Rows.fnExactFigureCentreSpec).preRow enc Tryd.prog Tryd.f8 Rows.fnExactFigureCentreRow.domain false Rows.fnExactFigureCentreRow.laid) (((OpenSpec.ofChange Rows.fnExactFigureCentreSpec).at F).post enc Tryd.prog Tryd.f8 false true false false) := by
  obtain ⟨places, hx⟩ := reads os enc
  refine returnsInHanded_of_row (C := Tryd.checked) (s := OpenSpec.ofChange Rows.fnExactFigureCentreSpec) own started (by kernel_rfl) Tryd.func8
    (witness_row_at (enc := enc) (C := Tryd.checked) false (laidWorld os) #[.agg #[.string ⟨#[]⟩, .slice none 0 0], .slice none 0 0] rfl (by kernel_rfl) (by kernel_rfl) (by kernel_rfl)
      (OpenSpec.preRow_of_cond 8 hx (by kernel_rfl) (fun k hk => by cases hk) (by kernel_rfl) (laid_met os))) ?_
  intro W base args ds gs before hval0 hW _ _ _ hL _ _
  have hval : ∀ (j : Nat) t v, Tryd.f8.params[j]? = some t → args[j]? = some v → Value.okWide Tryd.prog W .any base t v := hval0
  have hW' := hW
  obtain ⟨p, q, hA0, hV, rfl, hfz, hnd⟩ := hW
  have hA : DataW.TrodAll enc Tryd.prog W 0 (fun _ => true) true Tryd.f8.params.toList args.toList ds p := hA0
  rw [Tryd.params8] at hA hval
  obtain ⟨v0, vs0, d0, ds0, p0, q0, hargs, rfl, rfl, h0, r0⟩ := trodAll_cons hA
  obtain ⟨v1, vs1, d1, ds1, p1, q1, rfl, rfl, rfl, h1, r1⟩ := trodAll_cons r0
  obtain ⟨rfl, rfl, rfl⟩ := trodAll_nil r1
  obtain rfl : args = #[v0, v1] := by cases args; simp_all
  have hVk := hV
  obtain ⟨_, _, _, _, dg, _, rfl, _, _, _, _, _⟩ := trodVars_one hV
  have k0 := h0
  have lt0 : ∀ x ∈ p0, x.block < W.heap.size := by obtain ⟨m, hm⟩ := k0; exact DataW.trod_lt m _ _ _ hm
  have k1 := h1
  have lt1 : ∀ x ∈ p1, x.block < W.heap.size := by obtain ⟨m, hm⟩ := k1; exact DataW.trod_lt m _ _ _ hm
  obtain ⟨c0_0, c0_1, y0_0, y0_1, m0, rfl, rfl, rfl, t0_0, t0_1⟩ := open_agg2 Tryd.underlying36 (by kernel_rfl) (by kernel_rfl) (hval 0 36 v0 rfl rfl) h0
  obtain ⟨a0_0, rfl, g0_0⟩ := cell_string Tryd.underlying9 t0_0
  obtain ⟨B0, p0, q0, LL0, rfl, hp0, hq0, _, _, hB0⟩ := open_lists Tryd.underlying34 Tryd.underlying24 Tryd.underlying2 (by kernel_rfl) (by kernel_rfl) t0_1
  obtain ⟨A1, n1, c1, l1, rfl, hl1, hn1, hc1, hx1, hS1, hi1⟩ := open_stars Tryd.underlying22 Tryd.underlying82 (by kernel_rfl) (by kernel_rfl) Tryd.underlying9 Tryd.underlying2 Tryd.underlying2 Tryd.underlying2 Tryd.underlying2 (hval 1 22 v1 rfl rfl) h1
  clear hA0 hval0
  refine (FnExactFigureCentre_walk a0_0 B0 p0 q0 LL0 A1 n1 c1 l1 W g0_0 hp0 hq0 hB0 hl1 hn1 hS1 hi1 (sinOk hL)).mono fun e W' ⟨he, bel⟩ => ?_
  subst he
  exact ⟨_, rfl, _, _, _, [], _, _, hW', trodAll_mk1 (shut_bool Tryd.underlying4 _), (trodAll_cons_mk (Below.trod laidOut (by kernel_rfl) (of_decide_eq_true (by kernel_rfl)) k0 bel lt0) (trodAll_cons_mk (Below.trod laidOut (by kernel_rfl) (of_decide_eq_true (by kernel_rfl)) k1 bel lt1) trodAll_mk0)), Below.trodVars laidOut bel (by kernel_rfl) hVk, bel.frame _, fun h => by cases h⟩
theorem said : Rows.FnExactFigureCentreSaid :=
  OpenClaim.holds_of_cond 8 Tryd.f8 rfl rfl rfl rfl rfl rfl rfl ⟨rfl, rfl, rfl, rfl, rfl⟩ rfl rfl rfl rfl rfl (by kernel_rfl) Tryd.func8 (by kernel_rfl)
    (of_decide_eq_true (by kernel_rfl)) (by unfold Func.isWrapper; first | (rw [if_pos (by decide +kernel)]; kernel_rfl) | (rw [if_neg (by decide +kernel)]; exact ⟨rfl, rfl⟩))
    (fun os started H enc _ F => by rw [OpenClaim.pre_eq_preRow]; exact lifted os started H enc F)
theorem plain (f : FuncId) (fn : Func) (hf : Tryd.pinned.checked.prog.funcNamed "loop.example/g00955/laws.FnExactFigureCentre" = some f) (hfn : Tryd.pinned.checked.prog.funcs[f]? = some fn) :
    false = Tryd.pinned.checked.prog.looks [] ∧ ∀ (j : Nat) t, fn.params[j]? = some t → Tryd.pinned.checked.prog.wantsStandIn t = false := by
  obtain rfl : f = 8 := Option.some.inj ((show Tryd.prog.funcNamed "loop.example/g00955/laws.FnExactFigureCentre" = some 8 by kernel_rfl).symm.trans hf) |>.symm
  obtain rfl : fn = Tryd.f8 := (Option.some.inj (Tryd.func8.symm.trans hfn)).symm
  refine ⟨by kernel_rfl, fun j t ht => ?_⟩
  rw [Tryd.params8] at ht
  have hm : t ∈ [36, 22] := by simpa using Array.mem_of_getElem? ht
  have hall : ([36, 22].all fun u => !Tryd.prog.wantsStandIn u) = true := by kernel_rfl
  exact (show Tryd.prog.wantsStandIn t = false by simpa using List.all_eq_true.1 hall t hm)
/-- the statement: the card -/
theorem proved : Rows.FnExactFigureCentreCardSaid :=
  Claim7.holds_tied_plain_at .later [] _ _ _ _ said (fun _ h => by cases h) (by kernel_rfl) (fun _ h => by cases h) fnExactFigureCentre_row_tie rfl ⟨rfl, rfl⟩ (by kernel_rfl) rfl plain (by kernel_rfl)
end FnExactFigureCentre
end Go.Proofs.YtbpjnopnhmoigaaDoor
