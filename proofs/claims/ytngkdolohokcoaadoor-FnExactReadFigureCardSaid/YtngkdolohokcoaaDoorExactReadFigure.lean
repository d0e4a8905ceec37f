/- The program's ReadFigure returns what the reference's returns, for all arguments, in blocks of its own. No condition. -/
import Derived.Test.YtngkdolohokcoaaDoorReadF
import Derived.Test.YtngkdolohokcoaaDoorGrpFigs
import Derived.Test.YtngkdolohokcoaaDoorLaidR
import Derived.Test.YtngkdolohokcoaaDoorChecked
import Derived.RowKit
namespace Go.Proofs.YtngkdolohokcoaaDoor
set_option linter.unusedVariables false
set_option linter.unusedSimpArgs false
open Go.RowKit
set_option maxHeartbeats 1000000 in
theorem markFig_lines (nm : ByteArray) (base hi : Nat) (A : Option Addr) (c n : Nat) (L : List (List Int)) (qs : List Nat) (j : Int) (w : World) (hl : L.length = n) (hn : n ≤ 1000) (h : LinesIn w base (.slice A n c) L qs) (hhi : ∀ q ∈ qs, q < hi) (h0 : 0 ≤ j) (h1 : j ≤ 1000000) :
    Calls Tryd.prog 39 #[.agg #[.string nm, .slice A n c], .int .i64 j] w fun e w' => e = .returned (.int .i64 (j + 2 * (n : Int))) ∧ LinesIn w' base (.slice A n c) (marksL j n) qs ∧ Within base hi w w' := by
  have hb0 : Below w.heap.size w (w.alloc (.cells #[.string nm, .slice A n c] 48)) := below_alloc (Below.refl _ _) _
  have C := Lib.hid (markLines_any base hi _ L qs j _ (by omega) (h.below hb0) hhi h0 h1)
  rw [hl] at C
  clear h
  go_enter Tryd.func39, Tryd.ntmps39
  go_wp2_with (refine C.out.mono ?_; rintro e w1 ⟨rfl, hL, hW⟩)
  go_ret
  exact ⟨rfl, hL, (Within.of_below hb0).trans hW⟩
set_option maxHeartbeats 1000000 in
theorem heldFig_lines (nm : ByteArray) (A : Option Addr) (c n : Nat) (j : Int) (w : World) (hn : n ≤ 1000) (h : Lists w A (marksL j n)) (h0 : 0 ≤ j) (h1 : j ≤ 1000000) :
    Calls Tryd.prog 40 #[.agg #[.string nm, .slice A n c], .int .i64 j] w fun e w' => e = .returned (.int .i64 (j + 2 * (n : Int))) ∧ Below w.heap.size w w' := by
  have hb0 : Below w.heap.size w (w.alloc (.cells #[.string nm, .slice A n c] 48)) := below_alloc (Below.refl _ _) _
  have C := Lib.hid (heldLines_any A n c j _ hn (h.below hb0) h0 h1)
  clear h
  have hp : ¬ (j + 2 * (n : Int) < 0) := by omega
  go_enter Tryd.func40, Tryd.ntmps40
  go_wp2_with (refine C.out.mono ?_; rintro e w1 ⟨rfl, rfl⟩)
  go_ret
  exact ⟨rfl, hb0⟩
theorem LinesIn.lists2 {w : World} {base n c : Nat} {A : Option Addr} {L : List (List Int)} {qs : List Nat} (h : LinesIn w base (.slice A n c) L qs) : Lists w A L := by
  obtain ⟨A', c', e, hL, _⟩ := h.lists
  injection e with e1 e2 e3
  subst e1; exact hL
theorem LinesIn.at_len {w : World} {base : Nat} {v : Value} {L : List (List Int)} {qs : List Nat} (h : LinesIn w base v L qs) {n : Nat} (hn : L.length = n) : ∃ A c, v = .slice A n c := by
  obtain ⟨A', c', e, hL, _⟩ := h.lists
  exact ⟨A', c', by rw [e, hn]⟩
set_option maxRecDepth 100000 in
set_option maxHeartbeats 2000000 in
theorem FnExactReadFigure_walk (s : ByteArray) (w : World) (hs : StrOk s) (hT : TxtOk w) :
    Calls Tryd.prog 10 #[.string s] w fun e w' => e = .returned (.bool true) ∧ Below w.heap.size w w' := by
  unfold StrOk at hs
  by_cases hl : 1048576 < s.size
  · go_enter Tryd.func10, Tryd.ntmps10
    go_wp2_with (fail)
    go_ret
    exact ⟨rfl, Below.refl _ _⟩
  · have HT := Lib.hid hT
    clear hT
    have CI : Hid (∀ W, Below w.heap.size w W → Calls Tryd.prog 38 #[.string s] W (FigRet (readFigR s.data.toList) W)) := Lib.hid (fun W hb => ReadFigure_any s W (by omega) (HT.out.below hb))
    have CS : Hid (∀ W, Calls Tryd.prog 37 #[.string s] W (FigRet (readFigR s.data.toList) W)) := Lib.hid (fun W => sReadFigure_any s W (by omega))
    unfold FigRet at CI CS
    have h16 := figLn_16 s.data.toList
    generalize (readFigR s.data.toList).isSome = ok at *
    generalize tx (figNm (readFigR s.data.toList)) = nm at *
    generalize figLn (readFigR s.data.toList) = L at *
    obtain ⟨n, hn⟩ : ∃ n, L.length = n := ⟨_, rfl⟩
    rw [hn] at h16
    have HN := Lib.hid hn
    clear hn
    have hjn : ¬ ((1 : Int) + 2 * (n : Int) < 0) := by omega
    go_enter Tryd.func10, Tryd.ntmps10
    go_wp2_with (fail)
    refine (CS.out _).mono ?_
    rintro e w1 ⟨v1, rfl, ⟨qs1, hL1⟩, hb1⟩
    obtain ⟨A1, c1, rfl⟩ := hL1.at_len HN.out
    go_wp2_with (fail)
    refine calls_named ?_
    intro W2 e2
    have hb2 : Below w.heap.size w W2 := by rw [e2]; exact below_alloc hb1 _
    have hX : Blk W2 w1.heap.size 48 [.string nm, .slice A1 n c1] := by rw [e2]; exact Blk.new w1 _ _
    have H1 := hL1.below (w' := W2) (by rw [e2]; exact below_alloc (Below.refl _ _) _)
    clear e2 hb1 hL1
    generalize w1.heap.size = q1 at *
    have hX2 := hX.lt
    have H12 := Lib.hid H1
    have hbw := hb2.size
    refine (CI.out _ hb2).mono ?_
    rintro e w3 ⟨v2, rfl, ⟨qs2, hL2⟩, hb3⟩
    obtain ⟨A2, c2, rfl⟩ := hL2.at_len HN.out
    have hW2 := hb3.size
    have hhi : ∀ q ∈ qs2, q < w3.heap.size := fun q hq => (hL2.qlt hq).2
    replace hX := hX.keep hb3
    replace H1 := H1.below hb3
    replace hb2 := below_step hb2 hb3
    have hB2 := hb3
    have HY := Lib.hid (Blk.new w3 48 [.string nm, .slice A2 n c2])
    have hb4 : Below w3.heap.size w3 (w3.alloc (.cells #[.string nm, .slice A2 n c2] 48)) := below_alloc (Below.refl _ _) _
    obtain ⟨⟨x0, x1⟩, _, _⟩ := hX.two
    have hgx := hX.lt
    have CE : Hid (Calls Tryd.prog 27 #[.agg #[.string nm, .slice A2 n c2], .agg #[.string nm, .slice A1 n c1]] (w3.alloc (.cells #[.string nm, .slice A2 n c2] 48)) fun e w' => e = .returned (.bool true) ∧ Below (w3.alloc (.cells #[.string nm, .slice A2 n c2] 48)).heap.size (w3.alloc (.cells #[.string nm, .slice A2 n c2] 48)) w') := Lib.hid (eqFigure_same nm A2 A1 n c2 c1 L _ HN.out (by omega) (hL2.below hb4).lists2 (H1.below hb4).lists2)
    clear hb3
    go_wp2_with (fail)
    refine CE.out.mono ?_
    rintro e w5 ⟨rfl, hb5⟩
    have hY : Blk (w3.alloc (.cells #[.string nm, .slice A2 n c2] 48)) w3.heap.size 48 [.string nm, .slice A2 n c2] := HY.out
    have hY5 := hY.keep hb5
    have hb45 := below_step hb4 hb5
    replace hX := hX.keep hb45
    replace hB2 := below_step hB2 hb45
    replace hL2 := hL2.below hb45
    replace hb2 := below_step hb2 hb45
    clear hb4 hb5 hb45 CE HY hY x0 x1 hgx
    generalize w3.heap.size = q3 at *
    obtain ⟨⟨y0, y1⟩, _, _⟩ := hY5.two
    have hgy := hY5.lt
    have hL2l := hL2.vlt
    go_wp2_with (fail)
    refine (markFig_lines nm W2.heap.size q3 A2 c2 n L qs2 1 w5 HN.out (by omega) hL2 hhi (by omega) (by omega)).mono ?_
    rintro e w6 ⟨rfl, hM, hWi⟩
    have hWW : Within W2.heap.size q3 W2 w6 := (Within.of_below hB2).trans hWi
    have H16 := Lib.hid (H12.out.within hWW (Nat.le_refl _))
    replace hX := hX.within hWi (.inl hX2)
    have hY6 := hY5.within hWi (.inr (Nat.le_refl _))
    replace hb2 := below_of_within hb2 hWi hb2.size hbw
    clear hY5 y0 y1 hgy H1 hL2 hL2l hWi hWW hB2 H12
    obtain ⟨⟨y0, y1⟩, _, _⟩ := hY6.two
    have hgy := hY6.lt
    have HM6 := Lib.hid hM
    go_wp2_with (fail)
    refine (heldFig_lines nm A2 c2 n 1 w6 (by omega) hM.lists2 (by omega) (by omega)).mono ?_
    rintro e w7 ⟨rfl, hb7⟩
    replace hb2 := below_step hb2 hb7
    replace hX := hX.keep hb7
    have hY7 := hY6.keep hb7
    have H17 := Lib.hid (H16.out.below hb7)
    have HM7 := Lib.hid (HM6.out.below hb7)
    clear hY6 y0 y1 hgy H16 HM6 hM hb7
    go_wp2_with (fail)
    refine (CI.out _ hb2).mono ?_
    rintro e w8 ⟨v3, rfl, ⟨qs3, hL3⟩, hb8⟩
    obtain ⟨A3, c3, rfl⟩ := hL3.at_len HN.out
    have hb9 : Below w8.heap.size w8 (w8.alloc (.cells #[.string nm, .slice A3 n c3] 48)) := below_alloc (Below.refl _ _) _
    have hb89 := below_step hb8 hb9
    have CE : Hid (Calls Tryd.prog 27 #[.agg #[.string nm, .slice A3 n c3], .agg #[.string nm, .slice A1 n c1]] (w8.alloc (.cells #[.string nm, .slice A3 n c3] 48)) fun e w' => e = .returned (.bool true) ∧ Below (w8.alloc (.cells #[.string nm, .slice A3 n c3] 48)).heap.size (w8.alloc (.cells #[.string nm, .slice A3 n c3] 48)) w') := Lib.hid (eqFigure_same nm A3 A1 n c3 c1 L _ HN.out (by omega) (hL3.below hb9).lists2 (H17.out.below hb89).lists2)
    replace hX := hX.keep hb8
    obtain ⟨⟨x0, x1⟩, _, _⟩ := hX.two
    have hgx := hX.lt
    have hY8 := Lib.hid (hY7.keep hb89)
    have HM8 := Lib.hid (HM7.out.below hb89)
    replace hb2 := below_step hb2 hb89
    clear hY7 HM7 H17 hL3
    go_wp2_with (fail)
    refine CE.out.mono ?_
    rintro e w10 ⟨rfl, hb10⟩
    replace hb2 := below_step hb2 hb10
    have hY10 := hY8.out.keep hb10
    have HM10 := Lib.hid (HM8.out.below hb10)
    clear hb10 hY8 HM8 x0 x1 hgx CE hX hb8 hb9 hb89
    obtain ⟨⟨y0, y1⟩, _, _⟩ := hY10.two
    have hgy := hY10.lt
    go_wp2_with (fail)
    refine (heldFig_lines nm A2 c2 n 1 w10 (by omega) HM10.out.lists2 (by omega) (by omega)).mono ?_
    rintro e w11 ⟨rfl, hb11⟩
    replace hb2 := below_step hb2 hb11
    clear hb11 hY10 y0 y1 hgy
    go_wp2_with (fail)
    go_ret
    exact ⟨rfl, hb2⟩
namespace FnExactReadFigure
open Go.ChangeShapes Go.WideShapes Go.ChangeAt Go.RowKit Go.Joins
open Go.ChangeMaps (open_string shut_string)
theorem own : ownKnob Tryd.prog.godebug = none := by kernel_rfl
theorem laidOut : laidOutB Tryd.prog = true := by kernel_rfl
noncomputable def laidWorld (os : Os) : World :=
  { World.doorLaid Tryd.prog 400 os with heap := (World.doorLaid Tryd.prog 400 os).heap.modify 6 fun
      | .cells _ t frozen => .cells (Go.Pinned.utf8FirstZ.map fun (n : Nat) => Value.int .u8 (n : Int)).toArray t frozen
      | o => o }
theorem laid_met (os : Os) : laidMet Tryd.prog Rows.fnExactReadFigureRow.laid ((laidWorld os).forCall (fun _ _ => 0) ⟨#[], #[.string ⟨#[]⟩], []⟩).memory :=
  laidMet_of_run' 8 (by kernel_rfl) (by kernel_rfl)
theorem reads (os : Os) {H : Type} (enc : TypeId × Value → H) : ∃ places, DataW.whole enc Tryd.prog ((laidWorld os).forCall (fun _ _ => 0) ⟨#[], #[.string ⟨#[]⟩], []⟩).memory Tryd.f10.params.toList Rows.fnExactReadFigureSpec.vars false (#[.string ⟨#[]⟩] : Array Value).toList 8 = some ([.lit (.string [])], [], places) :=
  ⟨((DataW.whole enc Tryd.prog ((laidWorld os).forCall (fun _ _ => 0) ⟨#[], #[.string ⟨#[]⟩], []⟩).memory Tryd.f10.params.toList Rows.fnExactReadFigureSpec.vars false (#[.string ⟨#[]⟩] : Array Value).toList 8).map (fun x => x.2.2)).getD [], by kernel_rfl⟩
set_option maxRecDepth 100000 in
set_option maxHeartbeats 2000000 in
theorem lifted (os : Os) (started : os.Started) (H : Type) (enc : TypeId × Value → H) (F : Stop.Interp) :
    ReturnsInHanded {} Tryd.checked os 10 .any ((OpenSpec.ofChange Rows.fnExactReadFigureSpec).preRow enc Tryd.prog Tryd.f10 Rows.fnExactReadFigureRow.domain false Rows.fnExactReadFigureRow.laid) (((OpenSpec.ofChange Rows.fnExactReadFigureSpec).at F).post enc Tryd.prog Tryd.f10 false true false false) := by
  obtain ⟨places, hx⟩ := reads os enc
  refine returnsInHanded_of_row (C := Tryd.checked) (s := OpenSpec.ofChange Rows.fnExactReadFigureSpec) own started (by kernel_rfl) Tryd.func10
    (witness_row_atRef (enc := enc) (C := Tryd.checked) false (laidWorld os) #[.string ⟨#[]⟩] rfl (by kernel_rfl) (by kernel_rfl) (by kernel_rfl)
      (OpenSpec.preRow_of_cond 8 hx (by kernel_rfl) (fun k hk => by cases hk) (by kernel_rfl) (laid_met os))) ?_
  intro W base args ds gs before hval0 hW _ _ _ hL hsh _
  have hval : ∀ (j : Nat) t v, Tryd.f10.params[j]? = some t → args[j]? = some v → Value.okWide Tryd.prog W .any base t v := hval0
  have hW' := hW
  obtain ⟨p, q, hA0, hV, rfl, hfz, hnd⟩ := hW
  have hA : DataW.TrodAll enc Tryd.prog W 0 (fun _ => true) true Tryd.f10.params.toList args.toList ds p := hA0
  rw [Tryd.params10] at hA hval
  obtain ⟨v0, vs0, d0, ds0, p0, q0, hargs, rfl, rfl, h0, r0⟩ := trodAll_cons hA
  obtain ⟨rfl, rfl, rfl⟩ := trodAll_nil r0
  obtain rfl : args = #[v0] := by cases args; simp_all
  obtain ⟨rfl, rfl⟩ := trodVars_none hV
  have k0 := h0
  have lt0 : ∀ x ∈ p0, x.block < W.heap.size := by obtain ⟨m, hm⟩ := k0; exact DataW.trod_lt m _ _ _ hm
  obtain ⟨a0, rfl, rfl, rfl, g0⟩ := open_string Tryd.underlying9 (hval 0 9 v0 rfl rfl) h0
  clear hA0 hval0
  refine (FnExactReadFigure_walk a0 W g0 (txtOk_of hL hsh)).mono fun e W' ⟨he, bel⟩ => ?_
  subst he
  exact ⟨_, rfl, _, _, _, [], _, [], hW', trodAll_mk1 (shut_bool Tryd.underlying4 _), (trodAll_cons_mk (Below.trod laidOut (by kernel_rfl) (of_decide_eq_true (by kernel_rfl)) k0 bel lt0) trodAll_mk0), rfl, bel.frame _, fun h => by cases h⟩
theorem said : Rows.FnExactReadFigureSaid :=
  OpenClaim.holds_of_cond 10 Tryd.f10 rfl rfl rfl rfl rfl rfl rfl ⟨rfl, rfl, rfl, rfl, rfl⟩ rfl rfl rfl rfl rfl (by kernel_rfl) Tryd.func10 (by kernel_rfl)
    (of_decide_eq_true (by kernel_rfl)) (by unfold Func.isWrapper; first | (rw [if_pos (by decide +kernel)]; kernel_rfl) | (rw [if_neg (by decide +kernel)]; exact ⟨rfl, rfl⟩))
    (fun os started H enc _ F => by rw [OpenClaim.pre_eq_preRow]; exact lifted os started H enc F)
theorem plain (f : FuncId) (fn : Func) (hf : Tryd.pinned.checked.prog.funcNamed "loop.example/g00955/laws.FnExactReadFigure" = some f) (hfn : Tryd.pinned.checked.prog.funcs[f]? = some fn) :
    true = Tryd.pinned.checked.prog.looks [] ∧ ∀ (j : Nat) t, fn.params[j]? = some t → Tryd.pinned.checked.prog.wantsStandIn t = false := by
  obtain rfl : f = 10 := Option.some.inj ((show Tryd.prog.funcNamed "loop.example/g00955/laws.FnExactReadFigure" = some 10 by kernel_rfl).symm.trans hf) |>.symm
  obtain rfl : fn = Tryd.f10 := (Option.some.inj (Tryd.func10.symm.trans hfn)).symm
  refine ⟨by kernel_rfl, fun j t ht => ?_⟩
  rw [Tryd.params10] at ht
  have hm : t ∈ [9] := by simpa using Array.mem_of_getElem? ht
  have hall : ([9].all fun u => !Tryd.prog.wantsStandIn u) = true := by kernel_rfl
  exact (show Tryd.prog.wantsStandIn t = false by simpa using List.all_eq_true.1 hall t hm)
/-- the statement: the card -/
theorem proved : Rows.FnExactReadFigureCardSaid :=
  Claim7.holds_tied_plain_at .later [] _ _ _ _ said (fun _ h => by cases h) (by kernel_rfl) (fun _ h => by cases h) fnExactReadFigure_row_tie rfl ⟨rfl, rfl⟩ (by kernel_rfl) rfl plain (by kernel_rfl)
end FnExactReadFigure
end Go.Proofs.YtngkdolohokcoaaDoor
