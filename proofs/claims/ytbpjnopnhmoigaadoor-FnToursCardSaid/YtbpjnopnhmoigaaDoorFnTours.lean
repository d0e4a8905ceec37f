/- The shortest tour begins with its star, is as long as told and is not longer than the tour by the nearest stars: for all arguments. No condition. -/
import Derived.Test.YtbpjnopnhmoigaaDoorPlainTours
import Derived.Test.YtbpjnopnhmoigaaDoorDrawT
import Derived.Test.YtbpjnopnhmoigaaDoorBest
import Derived.Test.YtbpjnopnhmoigaaDoorNTour
import Derived.Test.YtbpjnopnhmoigaaDoorTour
import Derived.Test.YtbpjnopnhmoigaaDoorTied
import Derived.Test.YtbpjnopnhmoigaaDoorChecked
import Derived.Test.YtbpjnopnhmoigaaDoorRows
import Derived.OpenVars
import Derived.RowKit
namespace Go.Proofs.YtbpjnopnhmoigaaDoor
set_option linter.unusedVariables false
set_option linter.unusedSimpArgs false
open Go.RowKit
theorem b10Long_any (A : Option Addr) (n c : Nat) (w : World) :
    Calls Tryd.prog 36 #[.slice A n c] w fun e w' => e = .returned (.bool (decide (1048576 < n))) ∧ w = w' := by
  by_cases h : 1048576 < n
  · have h' : (1048576 : Int) < (n : Int) := by omega
    go_enter Tryd.func36, Tryd.ntmps36
    go_wp2_with (fail)
    go_ret
    exact ⟨by simp [h], rfl⟩
  · go_enter Tryd.func36, Tryd.ntmps36
    go_wp2_with (fail)
    go_ret
    exact ⟨by simp [h]; omega, rfl⟩
theorem cell_below {w w' : World} {b o : Nat} {v : Value} (h : w.cell? ⟨b, o, none⟩ = some v) (hb : Below w.heap.size w w') : w'.cell? ⟨b, o, none⟩ = some v := (hb.cell (p := ⟨b, o, none⟩) (World.block_lt_of_cell? w _ h)).trans h
theorem OwnI.head {w : World} {base : Nat} {v : Value} {l : List Int} (h : OwnI w base v l) {s : Int} (h0 : l[0]? = some s) : ∃ q cap, v = .slice (some ⟨q, 0, none⟩) l.length cap ∧ Ints w (some ⟨q, 0, none⟩) l ∧ w.cell? ⟨q, 0, none⟩ = some (.int .i64 s) := by
  obtain ⟨A2, c2, rfl, hI2, h1, h2, _, hs2⟩ := h.form2
  obtain ⟨bq, oq, eq, hq⟩ := hI2 (by have := (List.getElem?_eq_some_iff.1 h0).1; omega)
  rcases hs2 with rfl | ⟨g, rfl⟩
  · cases eq
  · injection eq with eq; injection eq with e1 e2
    subst e1 e2
    exact ⟨_, c2, rfl, hI2, hq 0 s h0⟩
set_option maxRecDepth 100000 in
set_option maxHeartbeats 4000000 in
theorem FnTours_walk (A0 : Option Addr) (n0 c0 : Nat) (l0 : List Int) (w : World) (hl0 : l0.length = n0) (hn0 : n0 ≤ 9223372036854775807) (hS0 : Bytes w A0 l0) (hi0 : ∀ x ∈ l0, ByteOk x) (hSin : SinOk w) :
    Calls Tryd.prog 9 #[.slice A0 n0 c0] w fun e w' => e = .returned (.bool true) ∧ Below w.heap.size w w' := by
  have HI0 := Lib.hid hi0
  clear hi0
  have CL := Lib.hid (b10Long_any A0 n0 c0 w)
  by_cases hlong : 1048576 < n0
  · rw [decide_eq_true hlong] at CL
    clear hlong
    go_enter Tryd.func9, Tryd.ntmps9
    go_wp2_with (refine CL.out.mono ?_; rintro e w1 ⟨rfl, rfl⟩)
    go_ret
    exact ⟨rfl, Below.refl _ _⟩
  · rw [decide_eq_false hlong] at CL
    go_enter Tryd.func9, Tryd.ntmps9
    go_wp2_with (refine CL.out.mono ?_; rintro e w1 ⟨rfl, rfl⟩)
    refine (DrawBestTour_any A0 n0 c0 l0 w hl0 (by omega) hS0 HI0.out).mono ?_
    rintro e w1 ⟨v, l, st, bu, rfl, hO, hl30, hb1⟩
    obtain ⟨A, c, rfl, hA⟩ := hO.form
    have HNE := Lib.hid (fun h => tours_near (l := l) (s := st) h)
    have HNO := Lib.hid (fun h => tours_no (l := l) (s := st) (b := bu) h)
    have HYE := Lib.hid (fun h => tours_yes (l := l) (s := st) (b := bu) h)
    have CB := Lib.hid (fun W hS hA => BestTour_any A l.length c l st bu W hS rfl (by omega) hA)
    have CN := Lib.hid (fun W hS hA => NearestTour_any A l.length c l st W hS rfl (by omega) hA)
    have CT := Lib.hid (fun W A' m c' ord hS hm hm2 hA hA' => TourLength_any A A' l.length c m c' l ord W hS rfl hm (by omega) hm2 hA hA')
    have hB24 : (bestO l st bu).1.length ≤ 24 := bestO_len _ _ _
    have HS1 := Lib.hid (hSin.of_below hb1)
    have hN24 : (ntO l st).1.length ≤ 24 := ntO_len _ _
    clear hO CL hS0 hSin hl0
    generalize (bestO l st bu).1 = Bs at *
    generalize (bestO l st bu).2.1 = Bl at *
    generalize (bestO l st bu).2.2 = Bc at *
    generalize (ntO l st).1 = Ns at *
    generalize (ntO l st).2.1 = Nl at *
    generalize (ntO l st).2.2 = Nc at *
    obtain ⟨nb, hnb⟩ : ∃ n, Bs.length = n := ⟨_, rfl⟩
    obtain ⟨nn, hnn⟩ : ∃ n, Ns.length = n := ⟨_, rfl⟩
    rw [hnb] at hB24
    rw [hnn] at hN24
    have HNB := Lib.hid hnb
    have HNN := Lib.hid hnn
    clear hnb hnn
    go_wp2_with (fail)
    refine (CB.out _ HS1.out hA).mono ?_
    rintro e w2 ⟨v2, rfl, hO2, hb2⟩
    have hA2 := hA.below hb2
    have HS2 := Lib.hid (HS1.out.of_below hb2)
    replace hb1 := below_step hb1 hb2
    clear hA HS1 hb2
    go_wp2_with (fail)
    refine (CN.out _ HS2.out hA2).mono ?_
    rintro e w3 ⟨v3, rfl, hO3, hb3⟩
    replace hO2 := hO2.below hb3
    have hA3 := hA2.below hb3
    have HS3 := Lib.hid (HS2.out.of_below hb3)
    replace hb1 := below_step hb1 hb3
    clear hA2 HS2 hb3
    have HO2 := Lib.hid hO2
    clear hO2
    by_cases hn : Nc = 0
    · subst hn
      obtain ⟨ht, hnl, hnh⟩ := HNE.out rfl
      obtain ⟨q3, c3, rfl, hI3, x3⟩ := hO3.head hnh
      have CT3 := Lib.hid (CT.out w3 (some ⟨q3, 0, none⟩) nn c3 Ns HS3.out HNN.out (by omega) hA3 hI3)
      rw [ht] at CT3
      dsimp only at CT3
      rw [HNN.out] at hnl ⊢
      have hn0 : ((nn : Int) == 0) = false := by rw [beq_eq_false_iff_ne]; omega
      have hq3 := World.block_lt_of_cell? w3 _ x3
      dsimp only at hq3
      clear hO3 ht hnh hI3 HNE
      go_wp2_with (fail)
      refine CT3.out.mono ?_
      rintro e w4 ⟨rfl, hb4⟩
      have HO4 := Lib.hid (HO2.out.below hb4)
      have hA4 := hA3.below hb4
      have HS4 := Lib.hid (HS3.out.of_below hb4)
      replace x3 := cell_below x3 hb4
      have hs4 := hb4.size
      replace hb1 := below_step hb1 hb4
      clear hA3 HS3 hb4 HO2 CT3
      by_cases hc : Bc = 0
      · subst hc
        obtain ⟨_, ht, hle, hbl, hbh⟩ := HYE.out rfl
        obtain ⟨q2, c2, rfl, hI2, x2⟩ := HO4.out.head hbh
        have CT2 := Lib.hid (CT.out w4 (some ⟨q2, 0, none⟩) nb c2 Bs HS4.out HNB.out (by omega) hA4 hI2)
        rw [ht] at CT2
        dsimp only at CT2
        rw [HNB.out] at hbl ⊢
        have hq2 := World.block_lt_of_cell? w4 _ x2
        dsimp only at hq2
        clear ht hbh hI2 HYE HNO HO4
        go_wp2_with (fail)
        refine CT2.out.mono ?_
        rintro e w5 ⟨rfl, hb5⟩
        replace x2 := cell_below x2 hb5
        have hs5 := hb5.size
        replace hb1 := below_step hb1 hb5
        go_wp2_with (fail)
        go_ret
        exact ⟨rfl, hb1⟩
      · obtain ⟨e1, e2⟩ := HNO.out hc
        subst e1 e2
        obtain ⟨A2, c2, rfl, _⟩ := HO4.out.form
        have hc1 : (Bc == 0) = false := by rw [beq_eq_false_iff_ne]; exact hc
        have hc2 : (Bc != 0) = true := by rw [bne_iff_ne]; exact hc
        clear HYE HNO HO4
        go_wp2_with (fail)
        go_ret
        exact ⟨rfl, hb1⟩
    · have hc : Bc ≠ 0 := fun e => hn (HYE.out e).1
      obtain ⟨e1, e2⟩ := HNO.out hc
      subst e1 e2
      obtain ⟨A2, c2, rfl, _⟩ := HO2.out.form
      have hc1 : (Bc == 0) = false := by rw [beq_eq_false_iff_ne]; exact hc
      have hc2 : (Bc != 0) = true := by rw [bne_iff_ne]; exact hc
      have hn1 : (Nc == 0) = false := by rw [beq_eq_false_iff_ne]; exact hn
      clear HYE HNO HNE HO2
      go_wp2_with (fail)
      go_ret
      exact ⟨rfl, hb1⟩
namespace FnTours
open Go.ChangeShapes Go.WideShapes Go.ChangeAt Go.RowKit Go.Joins
open Go.ChangeMaps (open_string shut_string)
theorem own : ownKnob Tryd.prog.godebug = none := by kernel_rfl
theorem laidOut : laidOutB Tryd.prog = true := by kernel_rfl
theorem gTab : Tryd.prog.globalNamed "loop.example/g00955/impl.sines" = some 0 := by kernel_rfl
theorem gTabType : (Tryd.prog.globals[0]?).map (·.type) = some 165 := by kernel_rfl
theorem cellsT : Tryd.prog.cellsOf 165 = 91 := by kernel_rfl
theorem cells1 : Tryd.prog.cellsOf 2 = 1 := by kernel_rfl
theorem table {W : World} (h : laidMetH Tryd.prog Rows.fnToursRow.laid W) : Lib.TabIs Tryd.prog W "loop.example/g00955/impl.sines" .i64 sinTab :=
  Lib.tabIs_of_head (rest := []) gTab gTabType Tryd.underlying165 Tryd.underlying2 cells1 cellsT h
theorem sinOk {W : World} (h : laidMetH Tryd.prog Rows.fnToursRow.laid W) : SinOk W :=
  ⟨lt_of_cell ((table h).cell gTab 0 (by show 0 < 91; omega)), fun k hk => (table h).cell gTab k (by show k < 91; exact hk)⟩
noncomputable def laidWorld (os : Os) : World :=
  { World.holding Tryd.prog os ⟨#[], #[], []⟩ with heap := (World.holding Tryd.prog os ⟨#[], #[], []⟩).heap.modify 0 fun
      | .cells _ t frozen => .cells (sinTab.map (Value.int .i64)).toArray t frozen
      | o => o }
theorem laid_met (os : Os) : laidMet Tryd.prog Rows.fnToursRow.laid ((laidWorld os).forCall (fun _ _ => 0) ⟨#[], #[.slice none 0 0], []⟩).memory :=
  laidMet_of_run' 8 (by kernel_rfl) (by kernel_rfl)
theorem reads (os : Os) {H : Type} (enc : TypeId × Value → H) : ∃ places, DataW.whole enc Tryd.prog ((laidWorld os).forCall (fun _ _ => 0) ⟨#[], #[.slice none 0 0], []⟩).memory Tryd.f9.params.toList Rows.fnToursSpec.vars false (#[.slice none 0 0] : Array Value).toList 8 = some ([.nil], [Rows.laid_loop_example_g00955_impl_sines], places) :=
  ⟨((DataW.whole enc Tryd.prog ((laidWorld os).forCall (fun _ _ => 0) ⟨#[], #[.slice none 0 0], []⟩).memory Tryd.f9.params.toList Rows.fnToursSpec.vars false (#[.slice none 0 0] : Array Value).toList 8).map (fun x => x.2.2)).getD [], by kernel_rfl⟩
set_option maxRecDepth 100000 in
set_option maxHeartbeats 2000000 in
theorem lifted (os : Os) (started : os.Started) (H : Type) (enc : TypeId × Value → H) (F : Stop.Interp) :
    ReturnsInHanded {} Tryd.checked os 9 .any ((OpenSpec.ofChange Rows.fnToursSpec).preRow enc Tryd.prog Tryd.f9 Rows.fnToursRow.domain false Rows.fnToursRow.laid) (((OpenSpec.ofChange Rows.fnToursSpec).at F).post enc Tryd.prog Tryd.f9 false true false false) := by
  obtain ⟨places, hx⟩ := reads os enc
  refine returnsInHanded_of_row (C := Tryd.checked) (s := OpenSpec.ofChange Rows.fnToursSpec) own started (by kernel_rfl) Tryd.func9
    (witness_row_at (enc := enc) (C := Tryd.checked) false (laidWorld os) #[.slice none 0 0] rfl (by kernel_rfl) (by kernel_rfl) (by kernel_rfl)
      (OpenSpec.preRow_of_cond 8 hx (by kernel_rfl) (fun k hk => by cases hk) (by kernel_rfl) (laid_met os))) ?_
  intro W base args ds gs before hval0 hW _ _ _ hL _ _
  have hval : ∀ (j : Nat) t v, Tryd.f9.params[j]? = some t → args[j]? = some v → Value.okWide Tryd.prog W .any base t v := hval0
  have hW' := hW
  obtain ⟨p, q, hA0, hV, rfl, hfz, hnd⟩ := hW
  have hA : DataW.TrodAll enc Tryd.prog W 0 (fun _ => true) true Tryd.f9.params.toList args.toList ds p := hA0
  rw [Tryd.params9] at hA hval
  obtain ⟨v0, vs0, d0, ds0, p0, q0, hargs, rfl, rfl, h0, r0⟩ := trodAll_cons hA
  obtain ⟨rfl, rfl, rfl⟩ := trodAll_nil r0
  obtain rfl : args = #[v0] := by cases args; simp_all
  have hVk := hV
  obtain ⟨_, _, _, _, dg, _, rfl, _, _, _, _, _⟩ := trodVars_one hV
  have k0 := h0
  have lt0 : ∀ x ∈ p0, x.block < W.heap.size := by obtain ⟨m, hm⟩ := k0; exact DataW.trod_lt m _ _ _ hm
  obtain ⟨A0, n0, c0, l0, rfl, hl0, hn0, hc0, hx0, hS0, hi0⟩ := open_bytes Tryd.underlying57 Tryd.underlying5 (by kernel_rfl) (hval 0 57 v0 rfl rfl) h0
  clear hA0 hval0
  refine (FnTours_walk A0 n0 c0 l0 W hl0 hn0 hS0 hi0 (sinOk hL)).mono fun e W' ⟨he, bel⟩ => ?_
  subst he
  exact ⟨_, rfl, _, _, _, [], _, _, hW', trodAll_mk1 (shut_bool Tryd.underlying4 _), (trodAll_cons_mk (Below.trod laidOut (by kernel_rfl) (of_decide_eq_true (by kernel_rfl)) k0 bel lt0) trodAll_mk0), Below.trodVars laidOut bel (by kernel_rfl) hVk, bel.frame _, fun h => by cases h⟩
theorem said : Rows.FnToursSaid :=
  OpenClaim.holds_of_cond 9 Tryd.f9 rfl rfl rfl rfl rfl rfl rfl ⟨rfl, rfl, rfl, rfl, rfl⟩ rfl rfl rfl rfl rfl (by kernel_rfl) Tryd.func9 (by kernel_rfl)
    (of_decide_eq_true (by kernel_rfl)) (by unfold Func.isWrapper; first | (rw [if_pos (by decide +kernel)]; kernel_rfl) | (rw [if_neg (by decide +kernel)]; exact ⟨rfl, rfl⟩))
    (fun os started H enc _ F => by rw [OpenClaim.pre_eq_preRow]; exact lifted os started H enc F)
theorem plain (f : FuncId) (fn : Func) (hf : Tryd.pinned.checked.prog.funcNamed "loop.example/g00955/laws.FnTours" = some f) (hfn : Tryd.pinned.checked.prog.funcs[f]? = some fn) :
    false = Tryd.pinned.checked.prog.looks [] ∧ ∀ (j : Nat) t, fn.params[j]? = some t → Tryd.pinned.checked.prog.wantsStandIn t = false := by
  obtain rfl : f = 9 := Option.some.inj ((show Tryd.prog.funcNamed "loop.example/g00955/laws.FnTours" = some 9 by kernel_rfl).symm.trans hf) |>.symm
  obtain rfl : fn = Tryd.f9 := (Option.some.inj (Tryd.func9.symm.trans hfn)).symm
  refine ⟨by kernel_rfl, fun j t ht => ?_⟩
  rw [Tryd.params9] at ht
  have hm : t ∈ [57] := by simpa using Array.mem_of_getElem? ht
  have hall : ([57].all fun u => !Tryd.prog.wantsStandIn u) = true := by kernel_rfl
  exact (show Tryd.prog.wantsStandIn t = false by simpa using List.all_eq_true.1 hall t hm)
/-- the statement: the card -/
theorem proved : Rows.FnToursCardSaid :=
  Claim7.holds_tied_plain_at .later [] _ _ _ _ said (fun _ h => by cases h) (by kernel_rfl) (fun _ h => by cases h) fnTours_row_tie rfl ⟨rfl, rfl⟩ (by kernel_rfl) rfl plain (by kernel_rfl)
end FnTours
end Go.Proofs.YtbpjnopnhmoigaaDoor
