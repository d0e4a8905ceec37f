/- The program's ReadPlanet returns what the reference's returns, for all arguments. No condition. -/
import Derived.Test.YtngkdolohokcoaaDoorReadPl
import Derived.Test.YtngkdolohokcoaaDoorLaidR
import Derived.Test.YtngkdolohokcoaaDoorChecked
import Derived.RowKit
namespace Go.Proofs.YtngkdolohokcoaaDoor
set_option linter.unusedVariables false
set_option linter.unusedSimpArgs false
open Go.RowKit
set_option maxHeartbeats 400000 in
theorem eqPlan_same (i : ByteArray) (a b d : Int) (w : World) :
    Calls Tryd.prog 36 #[.agg #[.string i, .int .i64 a, .int .i64 b, .int .i64 d], .agg #[.string i, .int .i64 a, .int .i64 b, .int .i64 d]] w fun e w' => e = .returned (.bool true) ∧ Below w.heap.size w w' := by
  go_enter Tryd.func36, Tryd.ntmps36
  go_wp2
  go_ret
  exact ⟨rfl, (by repeat (first | exact Below.refl _ _ | refine below_alloc ?_ _ | refine below_drewN0 ?_ _ | refine below_drew0 ?_ | refine below_step ?_ (by assumption) | refine below_later ?_ _ | refine below_setCell0 ?_ (by first | exact Nat.le_refl _ | (simp; done) | omega | (simp; omega)) _))⟩
set_option maxRecDepth 100000 in
set_option maxHeartbeats 2000000 in
theorem FnExactReadPlanet_walk (s : ByteArray) (w : World) (hs : StrOk s) (hT : TxtOk w) :
    Calls Tryd.prog 9 #[.string s] w fun e w' => e = .returned (.bool true) ∧ Below w.heap.size w w' := by
  unfold StrOk at hs
  by_cases hl : 1048576 < s.size
  · go_enter Tryd.func9, Tryd.ntmps9
    go_wp2_with (fail)
    go_ret
    exact ⟨rfl, Below.refl _ _⟩
  · have HT := Lib.hid hT
    clear hT
    have CI : Hid (∀ W, Below w.heap.size w W → Calls Tryd.prog 35 #[.string s] W (PlanRet (readPlanR s.data.toList) W)) := Lib.hid (fun W hb => ReadPlanet_any s W (by omega) (HT.out.below hb))
    have CS : Hid (∀ W, Calls Tryd.prog 34 #[.string s] W (PlanRet (readPlanR s.data.toList) W)) := Lib.hid (fun W => sReadPlanet_any s W (by omega))
    have HS : Hid (∃ (i : ByteArray) (a b d : Int), planOf (readPlanR s.data.toList) = .agg #[.string i, .int .i64 a, .int .i64 b, .int .i64 d]) := Lib.hid (by
      unfold planOf
      split
      · exact ⟨_, _, _, _, rfl⟩
      · exact ⟨_, _, _, _, rfl⟩)
    obtain ⟨i, a, b, d, he⟩ := HS.out
    have HE := Lib.hid he
    clear he HS
    unfold PlanRet at CI CS
    rw [HE.out] at CI CS
    generalize (readPlanR s.data.toList).isSome = ok at *
    go_enter Tryd.func9, Tryd.ntmps9
    go_wp2_with (fail)
    refine (CS.out _).mono ?_
    rintro e w1 ⟨rfl, hb1⟩
    go_wp2_with (fail)
    refine calls_named ?_
    intro W2 e2
    have hb2 : Below w.heap.size w W2 := by rw [e2]; exact below_alloc hb1 _
    have hX : Blk W2 w1.heap.size 40 [.string i, .int .i64 a, .int .i64 b, .int .i64 d] := by rw [e2]; exact Blk.new w1 _ _
    clear e2 hb1
    generalize w1.heap.size = q1 at *
    refine (CI.out _ hb2).mono ?_
    rintro e w3 ⟨rfl, hb3⟩
    replace hX := hX.keep hb3
    replace hb2 := below_step hb2 hb3
    have hgx := hX.lt
    have x0 : w3.cell? ⟨q1, 0, none⟩ = some (.string i) := by rw [hX.cell]; rfl
    have x1 : w3.cell? ⟨q1, 1, none⟩ = some (.int .i64 a) := by rw [hX.cell]; rfl
    have x2 : w3.cell? ⟨q1, 2, none⟩ = some (.int .i64 b) := by rw [hX.cell]; rfl
    have x3 : w3.cell? ⟨q1, 3, none⟩ = some (.int .i64 d) := by rw [hX.cell]; rfl
    clear hX hb3
    go_wp2_with (fail)
    refine (eqPlan_same i a b d _).mono ?_
    rintro e w4 ⟨rfl, hb4⟩
    replace hb2 := below_step (below_alloc hb2 _) hb4
    clear x0 x1 x2 x3
    go_wp2_with (fail)
    go_ret
    exact ⟨rfl, hb2⟩
namespace FnExactReadPlanet
open Go.ChangeShapes Go.WideShapes Go.ChangeAt Go.RowKit Go.Joins
open Go.ChangeMaps (open_string shut_string)
theorem own : ownKnob Tryd.prog.godebug = none := by kernel_rfl
theorem laidOut : laidOutB Tryd.prog = true := by kernel_rfl
noncomputable def laidWorld (os : Os) : World :=
  { World.doorLaid Tryd.prog 400 os with heap := (World.doorLaid Tryd.prog 400 os).heap.modify 6 fun
      | .cells _ t frozen => .cells (Go.Pinned.utf8FirstZ.map fun (n : Nat) => Value.int .u8 (n : Int)).toArray t frozen
      | o => o }
theorem laid_met (os : Os) : laidMet Tryd.prog Rows.fnExactReadPlanetRow.laid ((laidWorld os).forCall (fun _ _ => 0) ⟨#[], #[.string ⟨#[]⟩], []⟩).memory :=
  laidMet_of_run' 8 (by kernel_rfl) (by kernel_rfl)
theorem reads (os : Os) {H : Type} (enc : TypeId × Value → H) : ∃ places, DataW.whole enc Tryd.prog ((laidWorld os).forCall (fun _ _ => 0) ⟨#[], #[.string ⟨#[]⟩], []⟩).memory Tryd.f9.params.toList Rows.fnExactReadPlanetSpec.vars false (#[.string ⟨#[]⟩] : Array Value).toList 8 = some ([.lit (.string [])], [], places) :=
  ⟨((DataW.whole enc Tryd.prog ((laidWorld os).forCall (fun _ _ => 0) ⟨#[], #[.string ⟨#[]⟩], []⟩).memory Tryd.f9.params.toList Rows.fnExactReadPlanetSpec.vars false (#[.string ⟨#[]⟩] : Array Value).toList 8).map (fun x => x.2.2)).getD [], by kernel_rfl⟩
set_option maxRecDepth 100000 in
set_option maxHeartbeats 2000000 in
theorem lifted (os : Os) (started : os.Started) (H : Type) (enc : TypeId × Value → H) (F : Stop.Interp) :
    ReturnsInHanded {} Tryd.checked os 9 .any ((OpenSpec.ofChange Rows.fnExactReadPlanetSpec).preRow enc Tryd.prog Tryd.f9 Rows.fnExactReadPlanetRow.domain false Rows.fnExactReadPlanetRow.laid) (((OpenSpec.ofChange Rows.fnExactReadPlanetSpec).at F).post enc Tryd.prog Tryd.f9 false true false false) := by
  obtain ⟨places, hx⟩ := reads os enc
  refine returnsInHanded_of_row (C := Tryd.checked) (s := OpenSpec.ofChange Rows.fnExactReadPlanetSpec) own started (by kernel_rfl) Tryd.func9
    (witness_row_atRef (enc := enc) (C := Tryd.checked) false (laidWorld os) #[.string ⟨#[]⟩] rfl (by kernel_rfl) (by kernel_rfl) (by kernel_rfl)
      (OpenSpec.preRow_of_cond 8 hx (by kernel_rfl) (fun k hk => by cases hk) (by kernel_rfl) (laid_met os))) ?_
  intro W base args ds gs before hval0 hW _ _ _ hL hsh _
  have hval : ∀ (j : Nat) t v, Tryd.f9.params[j]? = some t → args[j]? = some v → Value.okWide Tryd.prog W .any base t v := hval0
  have hW' := hW
  obtain ⟨p, q, hA0, hV, rfl, hfz, hnd⟩ := hW
  have hA : DataW.TrodAll enc Tryd.prog W 0 (fun _ => true) true Tryd.f9.params.toList args.toList ds p := hA0
  rw [Tryd.params9] at hA hval
  obtain ⟨v0, vs0, d0, ds0, p0, q0, hargs, rfl, rfl, h0, r0⟩ := trodAll_cons hA
  obtain ⟨rfl, rfl, rfl⟩ := trodAll_nil r0
  obtain rfl : args = #[v0] := by cases args; simp_all
  obtain ⟨rfl, rfl⟩ := trodVars_none hV
  have k0 := h0
  have lt0 : ∀ x ∈ p0, x.block < W.heap.size := by obtain ⟨m, hm⟩ := k0; exact DataW.trod_lt m _ _ _ hm
  obtain ⟨a0, rfl, rfl, rfl, g0⟩ := open_string Tryd.underlying9 (hval 0 9 v0 rfl rfl) h0
  clear hA0 hval0
  refine (FnExactReadPlanet_walk a0 W g0 (txtOk_of hL hsh)).mono fun e W' ⟨he, bel⟩ => ?_
  subst he
  exact ⟨_, rfl, _, _, _, [], _, [], hW', trodAll_mk1 (shut_bool Tryd.underlying4 _), (trodAll_cons_mk (Below.trod laidOut (by kernel_rfl) (of_decide_eq_true (by kernel_rfl)) k0 bel lt0) trodAll_mk0), rfl, bel.frame _, fun h => by cases h⟩
theorem said : Rows.FnExactReadPlanetSaid :=
  OpenClaim.holds_of_cond 9 Tryd.f9 rfl rfl rfl rfl rfl rfl rfl ⟨rfl, rfl, rfl, rfl, rfl⟩ rfl rfl rfl rfl rfl (by kernel_rfl) Tryd.func9 (by kernel_rfl)
    (of_decide_eq_true (by kernel_rfl)) (by unfold Func.isWrapper; first | (rw [if_pos (by decide +kernel)]; kernel_rfl) | (rw [if_neg (by decide +kernel)]; exact ⟨rfl, rfl⟩))
    (fun os started H enc _ F => by rw [OpenClaim.pre_eq_preRow]; exact lifted os started H enc F)
theorem plain (f : FuncId) (fn : Func) (hf : Tryd.pinned.checked.prog.funcNamed "loop.example/g00955/laws.FnExactReadPlanet" = some f) (hfn : Tryd.pinned.checked.prog.funcs[f]? = some fn) :
    true = Tryd.pinned.checked.prog.looks [] ∧ ∀ (j : Nat) t, fn.params[j]? = some t → Tryd.pinned.checked.prog.wantsStandIn t = false := by
  obtain rfl : f = 9 := Option.some.inj ((show Tryd.prog.funcNamed "loop.example/g00955/laws.FnExactReadPlanet" = some 9 by kernel_rfl).symm.trans hf) |>.symm
  obtain rfl : fn = Tryd.f9 := (Option.some.inj (Tryd.func9.symm.trans hfn)).symm
  refine ⟨by kernel_rfl, fun j t ht => ?_⟩
  rw [Tryd.params9] at ht
  have hm : t ∈ [9] := by simpa using Array.mem_of_getElem? ht
  have hall : ([9].all fun u => !Tryd.prog.wantsStandIn u) = true := by kernel_rfl
  exact (show Tryd.prog.wantsStandIn t = false by simpa using List.all_eq_true.1 hall t hm)
/-- the statement: the card -/
theorem proved : Rows.FnExactReadPlanetCardSaid :=
  Claim7.holds_tied_plain_at .later [] _ _ _ _ said (fun _ h => by cases h) (by kernel_rfl) (fun _ h => by cases h) fnExactReadPlanet_row_tie rfl ⟨rfl, rfl⟩ (by kernel_rfl) rfl plain (by kernel_rfl)
end FnExactReadPlanet
end Go.Proofs.YtngkdolohokcoaaDoor
