/- Going to the horizon and back leads to the same direction nearly, no star stands higher than at its culmination or lower than at its lowest, and a site is read back from its text: for all arguments. No condition. -/
import Derived.Test.YtpnfhienffekoaaDoorPlainHzO
import Derived.Test.YtpnfhienffekoaaDoorDrawH
import Derived.Test.YtpnfhienffekoaaDoorDirOf
import Derived.Test.YtpnfhienffekoaaDoorBten
import Derived.Test.YtpnfhienffekoaaDoorGrpHor
import Derived.Test.YtpnfhienffekoaaDoorGrpNum
import Derived.Test.YtpnfhienffekoaaDoorReadP
import Derived.Test.YtpnfhienffekoaaDoorLaidR
import Derived.Test.YtpnfhienffekoaaDoorTied
import Derived.Test.YtpnfhienffekoaaDoorChecked
import Derived.Test.YtpnfhienffekoaaDoorRows
import Derived.OpenVars
import Derived.RowKit
namespace Go.Proofs.YtpnfhienffekoaaDoor
set_option linter.unusedVariables false
set_option linter.unusedSimpArgs false
open Go.RowKit
theorem siteO_len {l : List UInt8} {lo la : Int} (h : vSite l lo la = true) : (siteO l lo la).length ≤ 1048576 := by
  obtain ⟨h0, h1, h2⟩ := vSite_parts h
  have a := isName_len l h0
  have b := angT_len (a := lo) (by omega) (by omega)
  have c := angT_len (a := la) (by omega) (by omega)
  rw [siteO_yes h]
  simp only [List.length_append, List.length_cons]
  omega
theorem site_back {l : List UInt8} {lo la : Int} (h : vSite l lo la = true) : readSiteR (siteO l lo la) = some (l, lo, la) := by
  rw [siteO, if_pos h]
  exact (readSiteR_iff _ (l, lo, la)).2 ⟨h, rfl⟩
theorem run_eql_site (s : ByteArray) (lo la : Int) (W : World) : (binOp .eql 25 (.agg #[.string s, .int .i64 lo, .int .i64 la]) (.agg #[.string s, .int .i64 lo, .int .i64 la])).run Tryd.prog W = .ok (.bool true) W := by
  rw [run_eql_struct, run_equalIn_agg _ _ _ _ _ (by kernel_rfl) (by kernel_rfl)]
  have hf : (Tryd.prog.fieldsOf 25).toList.map (fun f => (f.name, f.type, f.offset)) = [("Name", 9, 0), ("Longitude", 2, 1), ("Latitude", 2, 2)] := by kernel_rfl
  have a0 : ∀ W, (isAgg 9).run Tryd.prog W = .ok false W := fun _ => by kernel_rfl
  have a1 : ∀ W, (isAgg 2).run Tryd.prog W = .ok false W := fun _ => by kernel_rfl
  generalize (Tryd.prog.fieldsOf 25).toList = fs at hf
  have hlen : fs.length = 3 := by have := congrArg List.length hf; simpa using this
  match fs, hlen, hf with
  | [f0, f1, f2], _, hf =>
    simp only [List.map_cons, List.map_nil, List.cons.injEq, Prod.mk.injEq, and_true] at hf
    obtain ⟨⟨n0, t0, o0⟩, ⟨n1, t1, o1⟩, ⟨n2, t2, o2⟩⟩ := hf
    simp only [Op.eqFields, n0, n1, n2, t0, t1, t2, o0, o1, o2, part, a0, a1, Sem.run_bind, Result.andThen_ok, Sem.run_ite]
    simp [run_equalIn_int _ _ _ _ _ _ _ Tryd.underlying2, run_equalIn_string _ _ _ _ _ Tryd.underlying9]
set_option maxRecDepth 100000 in
set_option maxHeartbeats 4000000 in
theorem FnHorizon_walk (A0 : Option Addr) (n0 c0 : Nat) (l0 : List Int) (w : World) (hl0 : l0.length = n0) (hn0 : n0 ≤ 9223372036854775807) (hS0 : Bytes w A0 l0) (hi0 : ∀ x ∈ l0, ByteOk x) (hSin : SinOk w) (hTxt : TxtOk w) :
    Calls Tryd.prog 3 #[.slice A0 n0 c0] w fun e w' => e = .returned (.bool true) ∧ Below w.heap.size w w' := by
  have HI0 := Lib.hid hi0
  clear hi0
  have CL := Lib.hid (b10Long_at A0 n0 c0 w)
  by_cases hlong : 1048576 < n0
  · rw [decide_eq_true hlong] at CL
    clear hlong
    go_enter Tryd.func3, Tryd.ntmps3
    go_wp2_with (refine CL.out.mono ?_; rintro e w1 ⟨rfl, rfl⟩)
    go_ret
    exact ⟨rfl, Below.refl _ _⟩
  rw [decide_eq_false hlong] at CL
  go_enter Tryd.func3, Tryd.ntmps3
  go_wp2_with (fail)
  refine CL.out.mono ?_
  rintro e w1 ⟨rfl, rfl⟩
  go_wp2_with (fail)
  refine (DrawHorizontal_any A0 n0 c0 l0 w hl0 (by omega) hS0 HI0.out).mono ?_
  rintro e w1 ⟨s, lo, la, x, r, d, rfl, hd, hx, hr, hb1⟩
  have HNO := Lib.hid (fun h => hz_no (n := s.data.toList) (lo := lo) (la := la) (s := x) (r := r) (d := d) h)
  have HYE := Lib.hid (fun h => hz_yes (n := s.data.toList) (lo := lo) (la := la) (s := x) (r := r) (d := d) h)
  have CH := Lib.hid (fun W hW => Horizontal_any s lo la x r d W hW)
  have CC := Lib.hid (fun W => CulminationAltitude_any s lo la d W)
  have CW := Lib.hid (fun W => LowestAltitude_any s lo la d W)
  have HSin := Lib.hid hSin
  have HTxt := Lib.hid hTxt
  clear CL hS0 hl0 hSin hTxt
  go_wp2_with (fail)
  refine calls_named ?_
  intro W2 e2
  have hX : Blk W2 w1.heap.size 25 [.string s, .int .i64 lo, .int .i64 la] := by rw [e2]; exact Blk.new w1 _ _
  have hbW : Below w.heap.size w W2 := by rw [e2]; exact below_alloc hb1 _
  clear e2 hb1
  generalize w1.heap.size = q at *
  by_cases hk : (horO s.data.toList lo la x r d).2.2 = 0
  · obtain ⟨az, al, hi, lw, a2, d2, sp, e1, e3, e4, h1, h2, h3, h4, h5, e5, h6, h7, e6, h8, hv, hrr, hdd⟩ := HYE.out hk
    have CE := Lib.hid (fun W hW => EquatorialOf_any s lo la x az al W hW)
    have CD1 := Lib.hid (fun W hW => DirectionOf_any a2 d2 W hW (by omega) h7)
    have CD2 := Lib.hid (fun W hW => DirectionOf_any r d W hW (by omega) hdd)
    have CS := Lib.hid (fun W hW => Separation_any (dirV a2 d2) (dirV r d) W hW (dirV_sm _ _) (dirV_sm _ _))
    have CT := Lib.hid (fun W hW => SiteText_any s lo la W (by have := vSite_bd hv; exact ⟨by omega, by omega⟩) (by have := vSite_bd hv; exact ⟨by omega, by omega⟩) hW)
    have CR := Lib.hid (fun W hW => ReadSite_any (tx (siteO s.data.toList lo la)) W (by rw [tx_size]; exact siteO_len hv) hW)
    rw [tx_data, site_back hv] at CR
    rw [e1] at CH
    rw [e3] at CC
    rw [e4] at CW
    rw [e5] at CE
    rw [e6] at CS
    dsimp only at CH CC CW CE CS
    have hE := run_eql_site s lo la
    have hw1 : IntKind.i64.wrap (hi + 60) = hi + 60 := wrap_in' (by omega) (by omega)
    have hw2 : IntKind.i64.wrap (lw - 60) = lw - 60 := wrap_in' (by omega) (by omega)
    clear HNO HYE hk e1 e3 e4 e5 e6 hv h6 h7 hrr hdd hd hx hr
    generalize dirV a2 d2 = v1 at *
    generalize dirV r d = v2 at *
    generalize tx (siteO s.data.toList lo la) = txt at *
    refine (CH.out _ (HSin.out.of_below hbW)).mono ?_
    rintro e w3 ⟨rfl, hb3⟩
    replace hX := hX.keep hb3
    replace hbW := below_step hbW hb3
    clear hb3
    obtain ⟨x0, x1, x2⟩ := hX.three
    have hgl := hX.lt
    go_wp2_with (fail)
    refine (CC.out _).mono ?_
    rintro e w4 ⟨rfl, hb4⟩
    replace hX := hX.keep hb4
    replace hbW := below_step hbW hb4
    clear hb4 x0 x1 x2 hgl
    obtain ⟨x0, x1, x2⟩ := hX.three
    have hgl := hX.lt
    go_wp2_with (fail)
    refine (CW.out _).mono ?_
    rintro e w5 ⟨rfl, hb5⟩
    replace hX := hX.keep hb5
    replace hbW := below_step hbW hb5
    clear hb5 x0 x1 x2 hgl
    obtain ⟨x0, x1, x2⟩ := hX.three
    have hgl := hX.lt
    go_wp2_with (fail)
    refine (CE.out _ (HSin.out.of_below hbW)).mono ?_
    rintro e w6 ⟨rfl, hb6⟩
    replace hX := hX.keep hb6
    replace hbW := below_step hbW hb6
    clear hb6 x0 x1 x2 hgl CH CC CW CE h1 h2 h3 h4 h5 hw1 hw2
    go_wp2_with (fail)
    refine (CD1.out _ (HSin.out.of_below hbW)).mono ?_
    rintro e w7 ⟨rfl, hb7⟩
    replace hX := hX.keep hb7
    replace hbW := below_step hbW hb7
    clear hb7
    go_wp2_with (fail)
    refine calls_named ?_
    intro W8 e8
    have hb8 : Below w7.heap.size w7 W8 := by rw [e8]; exact below_alloc (Below.refl _ _) _
    have hV1 : Blk W8 w7.heap.size 33 [.int .i64 v1.x, .int .i64 v1.y, .int .i64 v1.z] := by rw [e8]; exact Blk.new w7 _ _
    replace hX := hX.keep hb8
    replace hbW := below_step hbW hb8
    clear e8 hb8
    generalize w7.heap.size = p1 at *
    refine (CD2.out _ (HSin.out.of_below hbW)).mono ?_
    rintro e w9 ⟨rfl, hb9⟩
    replace hX := hX.keep hb9
    replace hV1 := hV1.keep hb9
    replace hbW := below_step hbW hb9
    clear hb9
    go_upto_region 14 with (fail)
    refine wp_named ?_
    intro W10 e10
    have hb10 : Below w9.heap.size w9 W10 := by rw [e10]; exact below_alloc (Below.refl _ _) _
    have hV2 : Blk W10 w9.heap.size 33 [.int .i64 v2.x, .int .i64 v2.y, .int .i64 v2.z] := by rw [e10]; exact Blk.new w9 _ _
    replace hX := hX.keep hb10
    replace hV1 := hV1.keep hb10
    replace hbW := below_step hbW hb10
    clear e10 hb10
    generalize w9.heap.size = p2 at *
    obtain ⟨y0, y1, y2⟩ := hV1.three
    obtain ⟨z0, z1, z2⟩ := hV2.three
    have hyl := hV1.lt
    have hzl := hV2.lt
    go_wp2_with (fail)
    refine (CS.out _ (HSin.out.of_below hbW)).mono ?_
    rintro e w11 ⟨rfl, hb11⟩
    replace hX := hX.keep hb11
    replace hbW := below_step hbW hb11
    clear hb11 y0 y1 y2 z0 z1 z2 hyl hzl hV1 hV2
    obtain ⟨x0, x1, x2⟩ := hX.three
    have hgl := hX.lt
    go_wp2_with (fail)
    refine (CT.out _ (HTxt.out.pow.below hbW)).mono ?_
    rintro e w12 ⟨rfl, hb12⟩
    replace hX := hX.keep hb12
    replace hbW := below_step hbW hb12
    clear hb12 x0 x1 x2 hgl
    go_wp2_with (fail)
    refine (CR.out _ (HTxt.out.below hbW)).mono ?_
    rintro e w13 ⟨rfl, hb13⟩
    replace hX := hX.keep hb13
    replace hbW := below_step hbW hb13
    clear hb13
    unfold siteOf
    dsimp only
    rw [tx_self]
    go_upto_region 16 with (fail)
    refine wp_named ?_
    intro W14 e14
    have hb14 : Below w13.heap.size w13 W14 := by rw [e14]; exact below_alloc (Below.refl _ _) _
    have hZ : Blk W14 w13.heap.size 25 [.string s, .int .i64 lo, .int .i64 la] := by rw [e14]; exact Blk.new w13 _ _
    replace hX := hX.keep hb14
    replace hbW := below_step hbW hb14
    clear e14 hb14
    generalize w13.heap.size = p3 at *
    obtain ⟨x0, x1, x2⟩ := hX.three
    obtain ⟨z0, z1, z2⟩ := hZ.three
    have hgl := hX.lt
    have hzl := hZ.lt
    go_wp2_with (fail)
    go_ret
    exact ⟨rfl, hbW⟩
  · obtain ⟨z1, z2⟩ := HNO.out hk
    rw [z1, z2] at CH
    generalize (horO s.data.toList lo la x r d).2.2 = code at *
    generalize (culmO s.data.toList lo la d).1 = k1 at *
    generalize (culmO s.data.toList lo la d).2 = k2 at *
    generalize (lowO s.data.toList lo la d).1 = k3 at *
    generalize (lowO s.data.toList lo la d).2 = k4 at *
    have hc1 : (code == 0) = false := by rw [beq_eq_false_iff_ne]; exact hk
    have hc2 : (code != 0) = true := by rw [bne_iff_ne]; exact hk
    clear HNO HYE z1 z2 hk
    refine (CH.out _ (HSin.out.of_below hbW)).mono ?_
    rintro e w3 ⟨rfl, hb3⟩
    replace hX := hX.keep hb3
    replace hbW := below_step hbW hb3
    clear hb3
    obtain ⟨x0, x1, x2⟩ := hX.three
    have hgl := hX.lt
    go_wp2_with (fail)
    refine (CC.out _).mono ?_
    rintro e w4 ⟨rfl, hb4⟩
    replace hX := hX.keep hb4
    replace hbW := below_step hbW hb4
    clear hb4 x0 x1 x2 hgl
    obtain ⟨x0, x1, x2⟩ := hX.three
    have hgl := hX.lt
    go_wp2_with (fail)
    refine (CW.out _).mono ?_
    rintro e w5 ⟨rfl, hb5⟩
    replace hbW := below_step hbW hb5
    clear hb5 x0 x1 x2 hgl hX
    go_wp2_with (fail)
    go_ret
    exact ⟨rfl, hbW⟩
namespace FnHorizon
open Go.ChangeShapes Go.WideShapes Go.ChangeAt Go.RowKit Go.Joins
open Go.ChangeMaps (open_string shut_string)
theorem own : ownKnob Tryd.prog.godebug = none := by kernel_rfl
theorem laidOut : laidOutB Tryd.prog = true := by kernel_rfl
theorem gTab : Tryd.prog.globalNamed "loop.example/g00955/impl.sines" = some 0 := by kernel_rfl
theorem gTabType : (Tryd.prog.globals[0]?).map (·.type) = some 82 := by kernel_rfl
theorem cellsT : Tryd.prog.cellsOf 82 = 91 := by kernel_rfl
theorem cells1 : Tryd.prog.cellsOf 2 = 1 := by kernel_rfl
theorem table {W : World} {a b c d e f : String × DataW Unit} {r : List (String × DataW Unit)} (h : laidMet Tryd.prog (a :: b :: c :: d :: e :: f :: ("loop.example/g00955/impl.sines", Lib.tabData .i64 sinTab) :: r) W) : Lib.TabIs Tryd.prog W "loop.example/g00955/impl.sines" .i64 sinTab :=
  Lib.tabIs_of_head gTab gTabType Tryd.underlying82 Tryd.underlying2 cells1 cellsT h.tail.tail.tail.tail.tail.tail
theorem sinOk {W : World} {a b c d e f : String × DataW Unit} {r : List (String × DataW Unit)} (h : laidMet Tryd.prog (a :: b :: c :: d :: e :: f :: ("loop.example/g00955/impl.sines", Lib.tabData .i64 sinTab) :: r) W) : SinOk W :=
  ⟨lt_of_cell ((table h).cell gTab 0 (by show 0 < 91; omega)), fun k hk => (table h).cell gTab k (by show k < 91; exact hk)⟩
noncomputable def laidWorld (os : Os) : World :=
  { World.doorLaid Tryd.prog 400 os with heap := (((World.doorLaid Tryd.prog 400 os).heap.modify 6 fun
      | .cells _ t frozen => .cells (Go.Pinned.utf8FirstZ.map fun (n : Nat) => Value.int .u8 (n : Int)).toArray t frozen
      | o => o).modify 0 fun
      | .cells _ t frozen => .cells (sinTab.map (Value.int .i64)).toArray t frozen
      | o => o) }
theorem laid_met (os : Os) : laidMet Tryd.prog Rows.fnHorizonRow.laid ((laidWorld os).forCall (fun _ _ => 0) ⟨#[], #[.slice none 0 0], []⟩).memory :=
  laidMet_of_run' 8 (by kernel_rfl) (by kernel_rfl)
theorem reads (os : Os) {H : Type} (enc : TypeId × Value → H) : ∃ places, DataW.whole enc Tryd.prog ((laidWorld os).forCall (fun _ _ => 0) ⟨#[], #[.slice none 0 0], []⟩).memory Tryd.f3.params.toList Rows.fnHorizonSpec.vars false (#[.slice none 0 0] : Array Value).toList 8 = some ([.nil], [Rows.laid_loop_example_g00955_impl_sines], places) :=
  ⟨((DataW.whole enc Tryd.prog ((laidWorld os).forCall (fun _ _ => 0) ⟨#[], #[.slice none 0 0], []⟩).memory Tryd.f3.params.toList Rows.fnHorizonSpec.vars false (#[.slice none 0 0] : Array Value).toList 8).map (fun x => x.2.2)).getD [], by kernel_rfl⟩
set_option maxRecDepth 100000 in
set_option maxHeartbeats 2000000 in
theorem lifted (os : Os) (started : os.Started) (H : Type) (enc : TypeId × Value → H) (F : Stop.Interp) :
    ReturnsInHanded {} Tryd.checked os 3 .any ((OpenSpec.ofChange Rows.fnHorizonSpec).preRow enc Tryd.prog Tryd.f3 Rows.fnHorizonRow.domain false Rows.fnHorizonRow.laid) (((OpenSpec.ofChange Rows.fnHorizonSpec).at F).post enc Tryd.prog Tryd.f3 false true false false) := by
  obtain ⟨places, hx⟩ := reads os enc
  refine returnsInHanded_of_row (C := Tryd.checked) (s := OpenSpec.ofChange Rows.fnHorizonSpec) own started (by kernel_rfl) Tryd.func3
    (witness_row_atRef (enc := enc) (C := Tryd.checked) false (laidWorld os) #[.slice none 0 0] rfl (by kernel_rfl) (by kernel_rfl) (by kernel_rfl)
      (OpenSpec.preRow_of_cond 8 hx (by kernel_rfl) (fun k hk => by cases hk) (by kernel_rfl) (laid_met os))) ?_
  intro W base args ds gs before hval0 hW _ _ _ hL hsh _
  have hval : ∀ (j : Nat) t v, Tryd.f3.params[j]? = some t → args[j]? = some v → Value.okWide Tryd.prog W .any base t v := hval0
  have hW' := hW
  obtain ⟨p, q, hA0, hV, rfl, hfz, hnd⟩ := hW
  have hA : DataW.TrodAll enc Tryd.prog W 0 (fun _ => true) true Tryd.f3.params.toList args.toList ds p := hA0
  rw [Tryd.params3] at hA hval
  obtain ⟨v0, vs0, d0, ds0, p0, q0, hargs, rfl, rfl, h0, r0⟩ := trodAll_cons hA
  obtain ⟨rfl, rfl, rfl⟩ := trodAll_nil r0
  obtain rfl : args = #[v0] := by cases args; simp_all
  have hVk := hV
  obtain ⟨_, _, _, _, dg, _, rfl, _, _, _, _, _⟩ := trodVars_one hV
  have k0 := h0
  have lt0 : ∀ x ∈ p0, x.block < W.heap.size := by obtain ⟨m, hm⟩ := k0; exact DataW.trod_lt m _ _ _ hm
  obtain ⟨A0, n0, c0, l0, rfl, hl0, hn0, hc0, hx0, hS0, hi0⟩ := open_bytes Tryd.underlying22 Tryd.underlying5 (by kernel_rfl) (hval 0 22 v0 rfl rfl) h0
  clear hA0 hval0
  refine (FnHorizon_walk A0 n0 c0 l0 W hl0 hn0 hS0 hi0 (sinOk hL) (txtOk_of hL hsh)).mono fun e W' ⟨he, bel⟩ => ?_
  subst he
  exact ⟨_, rfl, _, _, _, [], _, _, hW', trodAll_mk1 (shut_bool Tryd.underlying4 _), (trodAll_cons_mk (Below.trod laidOut (by kernel_rfl) (of_decide_eq_true (by kernel_rfl)) k0 bel lt0) trodAll_mk0), Below.trodVars laidOut bel (by kernel_rfl) hVk, bel.frame _, fun h => by cases h⟩
theorem said : Rows.FnHorizonSaid :=
  OpenClaim.holds_of_cond 3 Tryd.f3 rfl rfl rfl rfl rfl rfl rfl ⟨rfl, rfl, rfl, rfl, rfl⟩ rfl rfl rfl rfl rfl (by kernel_rfl) Tryd.func3 (by kernel_rfl)
    (of_decide_eq_true (by kernel_rfl)) (by unfold Func.isWrapper; first | (rw [if_pos (by decide +kernel)]; kernel_rfl) | (rw [if_neg (by decide +kernel)]; exact ⟨rfl, rfl⟩))
    (fun os started H enc _ F => by rw [OpenClaim.pre_eq_preRow]; exact lifted os started H enc F)
theorem plain (f : FuncId) (fn : Func) (hf : Tryd.pinned.checked.prog.funcNamed "loop.example/g00955/laws.FnHorizon" = some f) (hfn : Tryd.pinned.checked.prog.funcs[f]? = some fn) :
    true = Tryd.pinned.checked.prog.looks [] ∧ ∀ (j : Nat) t, fn.params[j]? = some t → Tryd.pinned.checked.prog.wantsStandIn t = false := by
  obtain rfl : f = 3 := Option.some.inj ((show Tryd.prog.funcNamed "loop.example/g00955/laws.FnHorizon" = some 3 by kernel_rfl).symm.trans hf) |>.symm
  obtain rfl : fn = Tryd.f3 := (Option.some.inj (Tryd.func3.symm.trans hfn)).symm
  refine ⟨by kernel_rfl, fun j t ht => ?_⟩
  rw [Tryd.params3] at ht
  have hm : t ∈ [22] := by simpa using Array.mem_of_getElem? ht
  have hall : ([22].all fun u => !Tryd.prog.wantsStandIn u) = true := by kernel_rfl
  exact (show Tryd.prog.wantsStandIn t = false by simpa using List.all_eq_true.1 hall t hm)
/-- the statement: the card -/
theorem proved : Rows.FnHorizonCardSaid :=
  Claim7.holds_tied_plain_at .later [] _ _ _ _ said (fun _ h => by cases h) (by kernel_rfl) (fun _ h => by cases h) fnHorizon_row_tie rfl ⟨rfl, rfl⟩ (by kernel_rfl) rfl plain (by kernel_rfl)
end FnHorizon
end Go.Proofs.YtpnfhienffekoaaDoor
