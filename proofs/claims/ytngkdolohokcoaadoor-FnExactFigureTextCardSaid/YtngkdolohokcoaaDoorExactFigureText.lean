/- The program's FigureText returns what the reference's returns, for all arguments. No condition. -/
import Derived.Test.YtngkdolohokcoaaDoorFigT
import Derived.Test.YtngkdolohokcoaaDoorGrpFigs
import Derived.Test.YtngkdolohokcoaaDoorHeld
import Derived.Test.YtngkdolohokcoaaDoorLaidT
import Derived.Deep.RegionHeld3
import Derived.Test.YtngkdolohokcoaaDoorChecked
import Derived.RowKit
namespace Go.Proofs.YtngkdolohokcoaaDoor
set_option linter.unusedVariables false
set_option linter.unusedSimpArgs false
open Go.RowKit
set_option maxRecDepth 100000 in
set_option maxHeartbeats 4000000 in
theorem FnExactFigureText_walk (a0_0 : ByteArray) (B0 : Option Addr) (p0 q0 : Nat) (LL0 : List (List Int)) (w : World) (g0_0 : StrOk a0_0) (hp0 : LL0.length = p0) (hq0 : p0 ≤ 9223372036854775807) (hB0 : Lists w B0 LL0) (hPow : PowOk w) :
    Calls Tryd.prog 6 #[.agg #[.string a0_0, .slice B0 p0 q0]] w fun e w' => e = .returned (.bool true) ∧ Below w.heap.size w w' := by
  have HP := Lib.hid hp0
  clear hp0
  have CS : Hid (∀ W B, Lists W B LL0 → Calls Tryd.prog 24 #[.agg #[.string a0_0, .slice B p0 p0]] W fun e w' => e = .returned (.string (tx (figTO a0_0.data.toList LL0))) ∧ Below W.heap.size W w') := Lib.hid (fun W B hB => sFigureText_any a0_0 B p0 p0 LL0 W HP.out hq0 hB)
  have CI : Hid (∀ W B, PowOk W → Lists W B LL0 → Calls Tryd.prog 26 #[.agg #[.string a0_0, .slice B p0 p0]] W fun e w' => e = .returned (.string (tx (figTO a0_0.data.toList LL0))) ∧ Below W.heap.size W w') := Lib.hid (fun W B hP hB => FigureText_any a0_0 B p0 p0 LL0 W HP.out hq0 hB hP)
  generalize tx (figTO a0_0.data.toList LL0) = T at CS CI
  have HBX : Blk (w.alloc (.cells #[.string a0_0, .slice B0 p0 q0] 45)) w.heap.size 45 (figCells a0_0 B0 p0 q0) := Blk.new _ _ _
  have HT : Below w.heap.size w (w.alloc (.cells #[.string a0_0, .slice B0 p0 q0] 45)) := below_alloc (Below.refl _ _) _
  have HPW := Lib.hid hPow
  clear hPow
  go_enter Tryd.func6, Tryd.ntmps6
  obtain ⟨bx0, bx1⟩ := HBX.fig
  go_wp2_with (fail)
  refine (szFigure_any a0_0 B0 p0 q0 LL0 1048576 _ g0_0 HP.out hq0 (hB0.below HT) (by omega) (by omega)).mono ?_
  rintro e w1 ⟨r1, rfl, hr1, hb1⟩
  rcases hr1 with hr1 | ⟨za1, zb1, zc1⟩
  · go_wp2
    go_ret
    exact ⟨rfl, below_step HT hb1⟩
  replace HT := below_step HT hb1
  replace HBX := HBX.keep hb1
  clear bx0 bx1
  have hsz : p0 + tot LL0 ≤ 1048576 := by omega
  have hp1 : p0 ≤ 1048576 := by omega
  obtain ⟨bx0, bx1⟩ := HBX.fig
  have hBXl0 : w.heap.size < w1.heap.size := HBX.lt
  go_wp2_with (fail)
  refine (toFigure_any a0_0 B0 p0 q0 LL0 _ HP.out hsz (hB0.below HT)).mono ?_
  rintro e w3 ⟨gP, rfl, hP, hPge, hb3⟩
  replace HT := below_step HT hb3
  replace HBX := HBX.keep hb3
  clear bx0 bx1
  go_wp2_with (fail)
  refine (CS.out _ _ (hP.lists2 (by omega))).mono ?_
  rintro e w5 ⟨rfl, hb5⟩
  replace HT := below_step HT hb5
  replace HBX := HBX.keep hb5
  clear hP
  have hBXl : w.heap.size < w5.heap.size := HBX.lt
  obtain ⟨bx0, bx1⟩ := HBX.fig
  go_wp2_with (fail)
  refine (toFigure_any a0_0 B0 p0 q0 LL0 _ HP.out hsz (hB0.below HT)).mono ?_
  rintro e w6 ⟨gF, rfl, hF, hFge, hb6⟩
  replace HT := below_step HT hb6
  replace HBX := HBX.keep hb6
  clear bx0 bx1
  go_wp2_with (fail)
  have HX0 : Blk (w6.alloc (.cells #[.string a0_0, .slice (some ⟨gF, 0, none⟩) p0 p0] 48)) w6.heap.size 48 (figCells a0_0 (some ⟨gF, 0, none⟩) p0 p0) := Blk.new _ _ _
  have hF1 := hF.lt
  have hBB := HX0.lt
  have HTa : Below w6.heap.size w6 (w6.alloc (.cells #[.string a0_0, .slice (some ⟨gF, 0, none⟩) p0 p0] 48)) := below_alloc (Below.refl _ _) _
  replace HT := below_step HT HTa
  replace HBX := HBX.keep HTa
  replace hF := hF.keep HTa
  clear HTa
  generalize w6.alloc (.cells #[.string a0_0, .slice (some ⟨gF, 0, none⟩) p0 p0] 48) = wB at *
  generalize w6.heap.size = bX at *
  refine (CI.out _ _ (HPW.out.below HT) (hF.lists2 (by omega))).mono ?_
  rintro e w8 ⟨rfl, hb8⟩
  replace HT := below_step HT hb8
  replace HBX := HBX.keep hb8
  replace hF := hF.keep hb8
  replace HX0 := HX0.keep hb8
  obtain ⟨bx0, bx1⟩ := HBX.fig
  obtain ⟨xx0, xx1⟩ := HX0.fig
  have hS4 := And.intro bx0 (And.intro bx1 (And.intro xx0 xx1))
  go_wp2_with (fail)
  go_region_held3 (fun w' => w'.cell? ⟨w.heap.size, 0, none⟩ = some (.string a0_0) ∧ w'.cell? ⟨w.heap.size, 1, none⟩ = some (.slice B0 p0 q0) ∧ w'.cell? ⟨bX, 0, none⟩ = some (.string a0_0) ∧ w'.cell? ⟨bX, 1, none⟩ = some (.slice (some ⟨gF, 0, none⟩) p0 p0))
    ((first | assumption | exact held4 (by assumption) (by assumption) | exact held4 (by assumption) (below_drew0 (Below.refl _ _))))
    (first
      | (go_at_call 25; refine (toFigure_any a0_0 B0 p0 q0 LL0 _ HP.out hsz (hB0.below (by first | exact HT | exact below_drew0 HT))).mono ?_; rintro e w10 ⟨gE, rfl, hE, hEge, hb10⟩)
      | (go_at_call 27; refine (eqFigure_same a0_0 _ _ p0 p0 p0 LL0 _ HP.out hq0 ((hF.keep (below_step (below_drew0 (Below.refl _ _)) hb10)).lists2 (by omega)) (hE.lists2 (by omega))).mono ?_; rintro e w11 ⟨rfl, hb11⟩))
  clear bx0 bx1 xx0 xx1 hS4
  have HTd := below_drew0 (Below.refl w8.heap.size w8)
  replace HT := below_step HT HTd
  replace HT := below_step HT hb10
  replace HT := below_step HT hb11
  go_wp2_with (fail)
  go_ret
  exact ⟨rfl, HT⟩
namespace FnExactFigureText
open Go.ChangeShapes Go.WideShapes Go.ChangeAt Go.RowKit Go.Joins
open Go.ChangeMaps (open_string shut_string)
theorem own : ownKnob Tryd.prog.godebug = none := by kernel_rfl
theorem laidOut : laidOutB Tryd.prog = true := by kernel_rfl
noncomputable def laidWorld (os : Os) : World := World.doorLaid Tryd.prog 200 os
theorem laid_met (os : Os) : laidMet Tryd.prog Rows.fnExactFigureTextRow.laid ((laidWorld os).forCall (fun _ _ => 0) ⟨#[], #[.agg #[.string ⟨#[]⟩, .slice none 0 0]], []⟩).memory :=
  laidMet_of_run' 8 (by kernel_rfl) (by kernel_rfl)
theorem reads (os : Os) {H : Type} (enc : TypeId × Value → H) : ∃ places, DataW.whole enc Tryd.prog ((laidWorld os).forCall (fun _ _ => 0) ⟨#[], #[.agg #[.string ⟨#[]⟩, .slice none 0 0]], []⟩).memory Tryd.f6.params.toList Rows.fnExactFigureTextSpec.vars false (#[.agg #[.string ⟨#[]⟩, .slice none 0 0]] : Array Value).toList 8 = some ([.agg [.lit (.string []), .nil]], [], places) :=
  ⟨((DataW.whole enc Tryd.prog ((laidWorld os).forCall (fun _ _ => 0) ⟨#[], #[.agg #[.string ⟨#[]⟩, .slice none 0 0]], []⟩).memory Tryd.f6.params.toList Rows.fnExactFigureTextSpec.vars false (#[.agg #[.string ⟨#[]⟩, .slice none 0 0]] : Array Value).toList 8).map (fun x => x.2.2)).getD [], by kernel_rfl⟩
set_option maxRecDepth 100000 in
set_option maxHeartbeats 2000000 in
theorem lifted (os : Os) (started : os.Started) (H : Type) (enc : TypeId × Value → H) (F : Stop.Interp) :
    ReturnsInHanded {} Tryd.checked os 6 .any ((OpenSpec.ofChange Rows.fnExactFigureTextSpec).preRow enc Tryd.prog Tryd.f6 Rows.fnExactFigureTextRow.domain false Rows.fnExactFigureTextRow.laid) (((OpenSpec.ofChange Rows.fnExactFigureTextSpec).at F).post enc Tryd.prog Tryd.f6 false true false false) := by
  obtain ⟨places, hx⟩ := reads os enc
  refine returnsInHanded_of_row (C := Tryd.checked) (s := OpenSpec.ofChange Rows.fnExactFigureTextSpec) own started (by kernel_rfl) Tryd.func6
    (witness_row_atRef (enc := enc) (C := Tryd.checked) false (laidWorld os) #[.agg #[.string ⟨#[]⟩, .slice none 0 0]] rfl (by kernel_rfl) (by kernel_rfl) (by kernel_rfl)
      (OpenSpec.preRow_of_cond 8 hx (by kernel_rfl) (fun k hk => by cases hk) (by kernel_rfl) (laid_met os))) ?_
  intro W base args ds gs before hval0 hW _ _ _ hL hsh _
  have hval : ∀ (j : Nat) t v, Tryd.f6.params[j]? = some t → args[j]? = some v → Value.okWide Tryd.prog W .any base t v := hval0
  have hW' := hW
  obtain ⟨p, q, hA0, hV, rfl, hfz, hnd⟩ := hW
  have hA : DataW.TrodAll enc Tryd.prog W 0 (fun _ => true) true Tryd.f6.params.toList args.toList ds p := hA0
  rw [Tryd.params6] at hA hval
  obtain ⟨v0, vs0, d0, ds0, p0, q0, hargs, rfl, rfl, h0, r0⟩ := trodAll_cons hA
  obtain ⟨rfl, rfl, rfl⟩ := trodAll_nil r0
  obtain rfl : args = #[v0] := by cases args; simp_all
  obtain ⟨rfl, rfl⟩ := trodVars_none hV
  have k0 := h0
  have lt0 : ∀ x ∈ p0, x.block < W.heap.size := by obtain ⟨m, hm⟩ := k0; exact DataW.trod_lt m _ _ _ hm
  obtain ⟨c0_0, c0_1, y0_0, y0_1, m0, rfl, rfl, rfl, t0_0, t0_1⟩ := open_agg2 Tryd.underlying45 (by kernel_rfl) (by kernel_rfl) (hval 0 45 v0 rfl rfl) h0
  obtain ⟨a0_0, rfl, g0_0⟩ := cell_string Tryd.underlying9 t0_0
  obtain ⟨B0, p0, q0, LL0, rfl, hp0, hq0, _, _, hB0⟩ := open_lists Tryd.underlying43 Tryd.underlying79 Tryd.underlying2 (by kernel_rfl) (by kernel_rfl) t0_1
  clear hA0 hval0
  refine (FnExactFigureText_walk a0_0 B0 p0 q0 LL0 W g0_0 hp0 hq0 hB0 (powOk_tail hL)).mono fun e W' ⟨he, bel⟩ => ?_
  subst he
  exact ⟨_, rfl, _, _, _, [], _, [], hW', trodAll_mk1 (shut_bool Tryd.underlying4 _), (trodAll_cons_mk (Below.trod laidOut (by kernel_rfl) (of_decide_eq_true (by kernel_rfl)) k0 bel lt0) trodAll_mk0), rfl, bel.frame _, fun h => by cases h⟩
theorem said : Rows.FnExactFigureTextSaid :=
  OpenClaim.holds_of_cond 6 Tryd.f6 rfl rfl rfl rfl rfl rfl rfl ⟨rfl, rfl, rfl, rfl, rfl⟩ rfl rfl rfl rfl rfl (by kernel_rfl) Tryd.func6 (by kernel_rfl)
    (of_decide_eq_true (by kernel_rfl)) (by unfold Func.isWrapper; first | (rw [if_pos (by decide +kernel)]; kernel_rfl) | (rw [if_neg (by decide +kernel)]; exact ⟨rfl, rfl⟩))
    (fun os started H enc _ F => by rw [OpenClaim.pre_eq_preRow]; exact lifted os started H enc F)
theorem plain (f : FuncId) (fn : Func) (hf : Tryd.pinned.checked.prog.funcNamed "loop.example/g00955/laws.FnExactFigureText" = some f) (hfn : Tryd.pinned.checked.prog.funcs[f]? = some fn) :
    true = Tryd.pinned.checked.prog.looks [] ∧ ∀ (j : Nat) t, fn.params[j]? = some t → Tryd.pinned.checked.prog.wantsStandIn t = false := by
  obtain rfl : f = 6 := Option.some.inj ((show Tryd.prog.funcNamed "loop.example/g00955/laws.FnExactFigureText" = some 6 by kernel_rfl).symm.trans hf) |>.symm
  obtain rfl : fn = Tryd.f6 := (Option.some.inj (Tryd.func6.symm.trans hfn)).symm
  refine ⟨by kernel_rfl, fun j t ht => ?_⟩
  rw [Tryd.params6] at ht
  have hm : t ∈ [45] := by simpa using Array.mem_of_getElem? ht
  have hall : ([45].all fun u => !Tryd.prog.wantsStandIn u) = true := by kernel_rfl
  exact (show Tryd.prog.wantsStandIn t = false by simpa using List.all_eq_true.1 hall t hm)
/-- the statement: the card -/
theorem proved : Rows.FnExactFigureTextCardSaid :=
  Claim7.holds_tied_plain_at .later [] _ _ _ _ said (fun _ h => by cases h) (by kernel_rfl) (fun _ h => by cases h) fnExactFigureText_row_tie rfl ⟨rfl, rfl⟩ (by kernel_rfl) rfl plain (by kernel_rfl)
end FnExactFigureText
end Go.Proofs.YtngkdolohokcoaaDoor
