/- FnExactHorizontalVector returns true for every input: the program's HorizontalVector and the reference's give the same answer. -/
import Derived.Test.YtbgjmahamhppfaaDoorHorS
import Derived.Test.YtbgjmahamhppfaaDoorLawA
import Derived.Test.YtbgjmahamhppfaaDoorOpen
import Derived.Test.YtbgjmahamhppfaaDoorTied
namespace Go.Proofs.YtbgjmahamhppfaaDoor
set_option linter.unusedVariables false
set_option linter.unusedSimpArgs false
open Go.RowKit
theorem eqVector_same (a b c : Int) (w : World) : Calls Tryd.prog 23 #[.agg #[.int .i64 a, .int .i64 b, .int .i64 c], .agg #[.int .i64 a, .int .i64 b, .int .i64 c]] w fun e w' => e = .returned (.bool true) ∧ Below w.heap.size w w' := by
  go_enter Tryd.func23, Tryd.ntmps23
  go_wp2
  go_ret
  exact ⟨rfl, (by repeat (first | exact Below.refl _ _ | refine below_alloc ?_ _ | refine below_drewN0 ?_ _ | refine below_drew0 ?_ | refine below_step ?_ (by assumption) | refine below_later ?_ _ | refine below_setCell0 ?_ (by first | exact Nat.le_refl _ | (simp; done) | omega | (simp; omega)) _))⟩
set_option maxHeartbeats 2000000 in
theorem FnExactHorizontalVector_walk (n : ByteArray) (lo la : Int) (s : Int) (r : Int) (d : Int) (w : World) (hs : StrOk n) (_ : I64 lo) (_ : I64 la) (_ : I64 s) (_ : I64 r) (_ : I64 d) (hS : SinOk w) :
    Calls Tryd.prog 4 #[.agg #[.string n, .int .i64 lo, .int .i64 la], .int .i64 s, .int .i64 r, .int .i64 d] w fun e w' => e = .returned (.bool true) ∧ Below w.heap.size w w' := by
  rcases szL_cases 1048576 n.size with ⟨h1, h2⟩ | ⟨h1, h2⟩
  · go_enter Tryd.func4, Tryd.ntmps4
    go_wp2_with (fail)
    (refine later_intro ?_; intro y)
    go_wp2_with ((go_at_call 19; refine (later_below (szSite_any n lo la _ _ hs (by omega) (by omega))).mono ?_; rintro e w' ⟨rfl, y, rfl⟩))
    go_ret
    exact ⟨rfl, (by repeat (first | exact Below.refl _ _ | refine below_alloc ?_ _ | refine below_drewN0 ?_ _ | refine below_drew0 ?_ | refine below_step ?_ (by assumption) | refine below_later ?_ _ | refine below_setCell0 ?_ (by first | exact Nat.le_refl _ | (simp; done) | omega | (simp; omega)) _))⟩
  · obtain ⟨o0, ho0⟩ : ∃ o, hvO n.data.toList lo la s r d = o := ⟨_, rfl⟩
    have C1 : Hid (∀ W, Calls Tryd.prog 20 #[.agg #[.string n, .int .i64 lo, .int .i64 la], .int .i64 s, .int .i64 r, .int .i64 d] W fun e w' => e = .returned (.tuple #[.agg #[.int .i64 o0.1, .int .i64 o0.2.1, .int .i64 o0.2.2.1], .int .i64 o0.2.2.2]) ∧ Below W.heap.size W w') := fun W => by
      have := sHorizontalVector_any n lo la s r d W
      rwa [ho0] at this
    have C2 : Hid (∀ W, SinOk W → Calls Tryd.prog 22 #[.agg #[.string n, .int .i64 lo, .int .i64 la], .int .i64 s, .int .i64 r, .int .i64 d] W fun e w' => e = .returned (.tuple #[.agg #[.int .i64 o0.1, .int .i64 o0.2.1, .int .i64 o0.2.2.1], .int .i64 o0.2.2.2]) ∧ Below W.heap.size W w') := fun W hW => by
      have := HorizontalVector_any n lo la s r d W hW
      rwa [ho0] at this
    clear ho0
    obtain ⟨x, v, z, k⟩ := o0
    dsimp only at C1 C2
    go_enter Tryd.func4, Tryd.ntmps4
    go_wp2_with (fail)
    refine calls_named ?_
    intro W1 hW1
    have hbW : Below w.heap.size w W1 := by rw [hW1]; exact (by repeat (first | exact Below.refl _ _ | refine below_alloc ?_ _ | refine below_drewN0 ?_ _ | refine below_drew0 ?_ | refine below_step ?_ (by assumption) | refine below_later ?_ _ | refine below_setCell0 ?_ (by first | exact Nat.le_refl _ | (simp; done) | omega | (simp; omega)) _))
    have hlt0 : w.heap.size < W1.heap.size := by rw [hW1]; simp
    have c0 : W1.cell? ⟨w.heap.size, 0, none⟩ = some (.string n) := by rw [hW1]; simp
    have c1 : W1.cell? ⟨w.heap.size, 1, none⟩ = some (.int .i64 lo) := by rw [hW1]; simp
    have c2 : W1.cell? ⟨w.heap.size, 2, none⟩ = some (.int .i64 la) := by rw [hW1]; simp
    have hS1 : SinOk W1 := by rw [hW1]; exact hS.alloc _
    clear hW1
    (refine later_intro ?_; intro y)
    (go_at_call 19; refine (later_below (szSite_any n lo la _ _ hs (by omega) (by omega))).mono ?_; rintro e w' ⟨rfl, y, rfl⟩)
    go_wp2_with (fail)
    (go_at_call 21; refine (later_below (toSite_any _ _ _ _)).mono ?_; rintro e w' ⟨rfl, y, rfl⟩)
    go_wp2_with (fail)
    (go_at_call 20; refine (later_below (C1.out _)).mono ?_; rintro e w' ⟨rfl, y, rfl⟩)
    rename Later W1 => y1
    have hl1 : w.heap.size < y1.w.heap.size := Nat.lt_of_lt_of_le hlt0 (below_size y1.below)
    have c0' := (Later.cell y1 hlt0).trans c0
    have c1' := (Later.cell y1 hlt0).trans c1
    have c2' := (Later.cell y1 hlt0).trans c2
    go_wp2_with (fail)
    refine calls_named ?_
    intro W2 hW2
    have hbW2 : Below w.heap.size w W2 := by rw [hW2]; exact below_alloc (below_later hbW _) _
    have d0 : W2.cell? ⟨w.heap.size, 0, none⟩ = some (.string n) := by rw [hW2]; exact held_alloc _ (Later.held _ c0)
    have d1 : W2.cell? ⟨w.heap.size, 1, none⟩ = some (.int .i64 lo) := by rw [hW2]; exact held_alloc _ (Later.held _ c1)
    have d2 : W2.cell? ⟨w.heap.size, 2, none⟩ = some (.int .i64 la) := by rw [hW2]; exact held_alloc _ (Later.held _ c2)
    have hlt1 : w.heap.size < W2.heap.size := World.block_lt_of_cell? W2 _ d0
    have hlt2 : y1.w.heap.size < W2.heap.size := by rw [hW2]; simp
    have a0 : W2.cell? ⟨y1.w.heap.size, 0, none⟩ = some (.int .i64 x) := by rw [hW2]; simp
    have a1 : W2.cell? ⟨y1.w.heap.size, 1, none⟩ = some (.int .i64 v) := by rw [hW2]; simp
    have a2 : W2.cell? ⟨y1.w.heap.size, 2, none⟩ = some (.int .i64 z) := by rw [hW2]; simp
    have hS2 : SinOk W2 := by rw [hW2]; exact (SinOk.later hS1 _).alloc _
    clear hW2 c0 c1 c2 c0' c1' c2'
    (refine later_intro ?_; intro y)
    (go_at_call 21; refine (later_below (toSite_any _ _ _ _)).mono ?_; rintro e w' ⟨rfl, y, rfl⟩)
    go_wp2_with (fail)
    (go_at_call 22; refine (later_below (C2.out _ (SinOk.later hS2 _))).mono ?_; rintro e w' ⟨rfl, y, rfl⟩)
    rename Later W2 => y2
    have a0' := (Later.cell y2 hlt2).trans a0
    have a1' := (Later.cell y2 hlt2).trans a1
    have a2' := (Later.cell y2 hlt2).trans a2
    have hlt3 : y1.w.heap.size < y2.w.heap.size := Nat.lt_of_lt_of_le hlt2 (below_size y2.below)
    have hlt4 : ¬ y1.w.heap.size = y2.w.heap.size := by omega
    go_wp2_with (refine (eqVector_same x v z _).mono ?_; rintro e w9 ⟨rfl, hb9⟩)
    go_ret
    exact ⟨rfl, below_step (below_alloc (below_later hbW2 _) _) hb9⟩
namespace FnExactHorizontalVector
open Go.ChangeShapes Go.WideShapes Go.ChangeAt Go.RowKit Go.Joins
open Go.ChangeMaps (open_string shut_string)
theorem own : ownKnob Tryd.prog.godebug = none := by kernel_rfl
theorem laidOut : laidOutB Tryd.prog = true := by kernel_rfl
theorem gTab : Tryd.prog.globalNamed "loop.example/g00955/impl.sines" = some 0 := by kernel_rfl
theorem gTabType : (Tryd.prog.globals[0]?).map (·.type) = some 85 := by kernel_rfl
theorem cellsT : Tryd.prog.cellsOf 85 = 91 := by kernel_rfl
theorem cells1 : Tryd.prog.cellsOf 2 = 1 := by kernel_rfl
theorem table {W : World} (h : laidMetH Tryd.prog Rows.fnExactHorizontalVectorRow.laid W) : Lib.TabIs Tryd.prog W "loop.example/g00955/impl.sines" .i64 sinTab :=
  Lib.tabIs_of_head (rest := []) gTab gTabType Tryd.underlying85 Tryd.underlying2 cells1 cellsT h
theorem sinOk {W : World} (h : laidMetH Tryd.prog Rows.fnExactHorizontalVectorRow.laid W) : SinOk W :=
  ⟨lt_of_cell ((table h).cell gTab 0 (by show 0 < 91; omega)), fun k hk => (table h).cell gTab k (by show k < 91; exact hk)⟩
noncomputable def laidWorld (os : Os) : World :=
  { World.holding Tryd.prog os ⟨#[], #[], []⟩ with heap := (World.holding Tryd.prog os ⟨#[], #[], []⟩).heap.modify 0 fun
      | .cells _ t frozen => .cells (sinTab.map (Value.int .i64)).toArray t frozen
      | o => o }
theorem laid_met (os : Os) : laidMet Tryd.prog Rows.fnExactHorizontalVectorRow.laid ((laidWorld os).forCall (fun _ _ => 0) ⟨#[], #[.agg #[.string ⟨#[]⟩, .int .i64 0, .int .i64 0], .int .i64 0, .int .i64 0, .int .i64 0], []⟩).memory :=
  laidMet_of_run' 8 (by kernel_rfl) (by kernel_rfl)
theorem reads (os : Os) {H : Type} (enc : TypeId × Value → H) : ∃ places, DataW.whole enc Tryd.prog ((laidWorld os).forCall (fun _ _ => 0) ⟨#[], #[.agg #[.string ⟨#[]⟩, .int .i64 0, .int .i64 0], .int .i64 0, .int .i64 0, .int .i64 0], []⟩).memory Tryd.f4.params.toList Rows.fnExactHorizontalVectorSpec.vars false (#[.agg #[.string ⟨#[]⟩, .int .i64 0, .int .i64 0], .int .i64 0, .int .i64 0, .int .i64 0] : Array Value).toList 8 = some ([.agg [.lit (.string []), .lit (.int .i64 0), .lit (.int .i64 0)], .lit (.int .i64 0), .lit (.int .i64 0), .lit (.int .i64 0)], [Rows.laid_loop_example_g00955_impl_sines], places) :=
  ⟨((DataW.whole enc Tryd.prog ((laidWorld os).forCall (fun _ _ => 0) ⟨#[], #[.agg #[.string ⟨#[]⟩, .int .i64 0, .int .i64 0], .int .i64 0, .int .i64 0, .int .i64 0], []⟩).memory Tryd.f4.params.toList Rows.fnExactHorizontalVectorSpec.vars false (#[.agg #[.string ⟨#[]⟩, .int .i64 0, .int .i64 0], .int .i64 0, .int .i64 0, .int .i64 0] : Array Value).toList 8).map (fun x => x.2.2)).getD [], by kernel_rfl⟩
set_option maxRecDepth 100000 in
set_option maxHeartbeats 2000000 in
theorem lifted (os : Os) (started : os.Started) (H : Type) (enc : TypeId × Value → H) (F : Stop.Interp) :
    ReturnsInHanded {} Tryd.checked os 4 .any ((OpenSpec.ofChange Rows.fnExactHorizontalVectorSpec).preRow enc Tryd.prog Tryd.f4 Rows.fnExactHorizontalVectorRow.domain false Rows.fnExactHorizontalVectorRow.laid) (((OpenSpec.ofChange Rows.fnExactHorizontalVectorSpec).at F).post enc Tryd.prog Tryd.f4 false true false false) := by
  obtain ⟨places, hx⟩ := reads os enc
  refine returnsInHanded_of_row (C := Tryd.checked) (s := OpenSpec.ofChange Rows.fnExactHorizontalVectorSpec) own started (by kernel_rfl) Tryd.func4
    (witness_row_at (enc := enc) (C := Tryd.checked) false (laidWorld os) #[.agg #[.string ⟨#[]⟩, .int .i64 0, .int .i64 0], .int .i64 0, .int .i64 0, .int .i64 0] rfl (by kernel_rfl) (by kernel_rfl) (by kernel_rfl)
      (OpenSpec.preRow_of_cond 8 hx (by kernel_rfl) (fun k hk => by cases hk) (by kernel_rfl) (laid_met os))) ?_
  intro W base args ds gs before hval0 hW _ _ _ hL _ _
  have hval : ∀ (j : Nat) t v, Tryd.f4.params[j]? = some t → args[j]? = some v → Value.okWide Tryd.prog W .any base t v := hval0
  have hW' := hW
  obtain ⟨p, q, hA0, hV, rfl, hfz, hnd⟩ := hW
  have hA : DataW.TrodAll enc Tryd.prog W 0 (fun _ => true) true Tryd.f4.params.toList args.toList ds p := hA0
  rw [Tryd.params4] at hA hval
  obtain ⟨v0, vs0, d0, ds0, p0, q0, hargs, rfl, rfl, h0, r0⟩ := trodAll_cons hA
  obtain ⟨v1, vs1, d1, ds1, p1, q1, rfl, rfl, rfl, h1, r1⟩ := trodAll_cons r0
  obtain ⟨v2, vs2, d2, ds2, p2, q2, rfl, rfl, rfl, h2, r2⟩ := trodAll_cons r1
  obtain ⟨v3, vs3, d3, ds3, p3, q3, rfl, rfl, rfl, h3, r3⟩ := trodAll_cons r2
  obtain ⟨rfl, rfl, rfl⟩ := trodAll_nil r3
  obtain rfl : args = #[v0, v1, v2, v3] := by cases args; simp_all
  have hVk := hV
  obtain ⟨_, _, _, _, dg, _, rfl, _, _, _, _, _⟩ := trodVars_one hV
  have k0 := h0
  have lt0 : ∀ x ∈ p0, x.block < W.heap.size := by obtain ⟨m, hm⟩ := k0; exact DataW.trod_lt m _ _ _ hm
  have k1 := h1
  have lt1 : ∀ x ∈ p1, x.block < W.heap.size := by obtain ⟨m, hm⟩ := k1; exact DataW.trod_lt m _ _ _ hm
  have k2 := h2
  have lt2 : ∀ x ∈ p2, x.block < W.heap.size := by obtain ⟨m, hm⟩ := k2; exact DataW.trod_lt m _ _ _ hm
  have k3 := h3
  have lt3 : ∀ x ∈ p3, x.block < W.heap.size := by obtain ⟨m, hm⟩ := k3; exact DataW.trod_lt m _ _ _ hm
  obtain ⟨c0_0, c0_1, c0_2, y0_0, y0_1, y0_2, m0, rfl, rfl, rfl, t0_0, t0_1, t0_2⟩ := open_agg3 Tryd.underlying35 (by kernel_rfl) (by kernel_rfl) (hval 0 35 v0 rfl rfl) h0
  obtain ⟨a0_0, rfl, g0_0⟩ := cell_string Tryd.underlying9 t0_0
  obtain ⟨a0_1, rfl, g0_1⟩ := cell_int Tryd.underlying2 t0_1
  obtain ⟨a0_2, rfl, g0_2⟩ := cell_int Tryd.underlying2 t0_2
  obtain ⟨a1, rfl, rfl, rfl, g1⟩ := open_int Tryd.underlying2 (hval 1 2 v1 rfl rfl) h1
  obtain ⟨a2, rfl, rfl, rfl, g2⟩ := open_int Tryd.underlying2 (hval 2 2 v2 rfl rfl) h2
  obtain ⟨a3, rfl, rfl, rfl, g3⟩ := open_int Tryd.underlying2 (hval 3 2 v3 rfl rfl) h3
  clear hA0 hval0
  refine (FnExactHorizontalVector_walk a0_0 a0_1 a0_2 a1 a2 a3 W g0_0 g0_1 g0_2 (i64_of_wf g1) (i64_of_wf g2) (i64_of_wf g3) (sinOk hL)).mono fun e W' ⟨he, bel⟩ => ?_
  subst he
  exact ⟨_, rfl, _, _, _, [], _, _, hW', trodAll_mk1 (shut_bool Tryd.underlying4 _), (trodAll_cons_mk (Below.trod laidOut (by kernel_rfl) (of_decide_eq_true (by kernel_rfl)) k0 bel lt0) (trodAll_cons_mk (Below.trod laidOut (by kernel_rfl) (of_decide_eq_true (by kernel_rfl)) k1 bel lt1) (trodAll_cons_mk (Below.trod laidOut (by kernel_rfl) (of_decide_eq_true (by kernel_rfl)) k2 bel lt2) (trodAll_cons_mk (Below.trod laidOut (by kernel_rfl) (of_decide_eq_true (by kernel_rfl)) k3 bel lt3) trodAll_mk0)))), Below.trodVars laidOut bel (by kernel_rfl) hVk, bel.frame _, fun h => by cases h⟩
theorem said : Rows.FnExactHorizontalVectorSaid :=
  OpenClaim.holds_of_cond 4 Tryd.f4 rfl rfl rfl rfl rfl rfl rfl ⟨rfl, rfl, rfl, rfl, rfl⟩ rfl rfl rfl rfl rfl (by kernel_rfl) Tryd.func4 (by kernel_rfl)
    (of_decide_eq_true (by kernel_rfl)) (by unfold Func.isWrapper; first | (rw [if_pos (by decide +kernel)]; kernel_rfl) | (rw [if_neg (by decide +kernel)]; exact ⟨rfl, rfl⟩))
    (fun os started H enc _ F => by rw [OpenClaim.pre_eq_preRow]; exact lifted os started H enc F)
theorem plain (f : FuncId) (fn : Func) (hf : Tryd.pinned.checked.prog.funcNamed "loop.example/g00955/laws.FnExactHorizontalVector" = some f) (hfn : Tryd.pinned.checked.prog.funcs[f]? = some fn) :
    false = Tryd.pinned.checked.prog.looks [] ∧ ∀ (j : Nat) t, fn.params[j]? = some t → Tryd.pinned.checked.prog.wantsStandIn t = false := by
  obtain rfl : f = 4 := Option.some.inj ((show Tryd.prog.funcNamed "loop.example/g00955/laws.FnExactHorizontalVector" = some 4 by kernel_rfl).symm.trans hf) |>.symm
  obtain rfl : fn = Tryd.f4 := (Option.some.inj (Tryd.func4.symm.trans hfn)).symm
  refine ⟨by kernel_rfl, fun j t ht => ?_⟩
  rw [Tryd.params4] at ht
  have hm : t ∈ [35, 2, 2, 2] := by simpa using Array.mem_of_getElem? ht
  have hall : ([35, 2, 2, 2].all fun u => !Tryd.prog.wantsStandIn u) = true := by kernel_rfl
  exact (show Tryd.prog.wantsStandIn t = false by simpa using List.all_eq_true.1 hall t hm)
/-- the statement: the card -/
theorem proved : Rows.FnExactHorizontalVectorCardSaid :=
  Claim7.holds_tied_plain_at .later [] _ _ _ _ said (fun _ h => by cases h) (by kernel_rfl) (fun _ h => by cases h) fnExactHorizontalVector_row_tie rfl ⟨rfl, rfl⟩ (by kernel_rfl) rfl plain (by kernel_rfl)
end FnExactHorizontalVector
end Go.Proofs.YtbgjmahamhppfaaDoor
