/- Contracts of the functions on a figure's visible lines: the program's. -/
import Derived.Test.YtpnfhienffekoaaGreatDoorMgC
import Derived.Test.YtpnfhienffekoaaGreatDoorGrpFig
namespace Go.Proofs.YtpnfhienffekoaaGreatDoor
set_option linter.unusedVariables false
set_option linter.unusedSimpArgs false
open Go.RowKit
set_option maxRecDepth 100000 in
set_option maxHeartbeats 8000000 in
theorem VisibleLines_any (nm : ByteArray) (B : Option Addr) (p q : Nat) (L : List (List Int)) (A : Option Addr) (n c : Nat) (l : List Sta) (tn : ByteArray) (lo la s : Int) (w : World) (hSin : SinOk w) (hp : L.length = p) (hp2 : p ≤ 9223372036854775807) (hB : Lists w B L) (hl : l.length = n) (hn : n ≤ 9223372036854775807) (hS : Stars w A l) :
    Calls Tryz.prog 40 #[.agg #[.string nm, .slice B p q], .slice A n c, .agg #[.string tn, .int .i64 lo, .int .i64 la], .int .i64 s] w fun e w' => ∃ v : Value, e = .returned (.tuple #[v, .int .i64 (visO nm L l tn.data.toList lo la s).2]) ∧ OwnI w' w.heap.size v (visO nm L l tn.data.toList lo la s).1 ∧ Below w.heap.size w w' := by
  have hb0 : Below w.heap.size w ((w.alloc (.cells #[.string nm, .slice B p q] 63)).alloc (.cells #[.string tn, .int .i64 lo, .int .i64 la] 71)) := below_alloc (below_alloc (Below.refl _ _) _) _
  have hX0 : Blk ((w.alloc (.cells #[.string nm, .slice B p q] 63)).alloc (.cells #[.string tn, .int .i64 lo, .int .i64 la] 71)) w.heap.size 63 (figCells nm B p q) := (Blk.new _ _ _).alloc _
  have hT0 : Blk ((w.alloc (.cells #[.string nm, .slice B p q] 63)).alloc (.cells #[.string tn, .int .i64 lo, .int .i64 la] 71)) (w.heap.size + 1) 71 (siteCells tn lo la) := by
    have := Blk.new (w.alloc (.cells #[.string nm, .slice B p q] 63)) 71 (siteCells tn lo la)
    simpa [siteCells] using this
  have C := Lib.hid (ValidFigure_any nm B p q L A n c l _ hp hp2 (hB.below hb0) hl hn (hS.below hb0))
  have HP := Lib.hid hp; clear hp
  have HL := Lib.hid hl; clear hl
  cases hv : vFig nm L l with
  | false =>
    have HO := Lib.hid (visO_no (tn := tn.data.toList) (lo := lo) (la := la) (s := s) hv)
    rw [hv] at C
    clear hv hB
    go_enter Tryz.func40, Tryz.ntmps40
    go_wp2_with (refine C.out.mono ?_; rintro e w1 ⟨rfl, hb1⟩)
    go_ret2
    exact ⟨.slice none 0 0, by rw [HO.out]; rfl, by rw [HO.out]; exact OwnI.nil _ _, below_step hb0 hb1⟩
  | true =>
    have HVF := Lib.hid hv
    rw [hv] at C
    clear hv
    have CS := Lib.hid (fun W => ValidSite_any tn lo la W)
    have CW := Lib.hid (fun W => within_any s 0 359999 W)
    cases hvs : vSite tn.data.toList lo la with
    | false =>
      have HO := Lib.hid (visO_no2 (nm := nm) (L := L) (l := l) (s := s) hvs)
      rw [hvs] at CS
      clear hvs hB CW
      go_enter Tryz.func40, Tryz.ntmps40
      go_wp2_with (first | (go_at_call 84; refine C.out.mono ?_; rintro e w1 ⟨rfl, hb1⟩; obtain ⟨y0, y1, y2⟩ := (hT0.keep hb1).site) | (go_at_call 93; refine (CS.out _).mono ?_; rintro e w2 ⟨rfl, hb2⟩))
      go_ret2
      exact ⟨.slice none 0 0, by rw [HO.out]; rfl, by rw [HO.out]; exact OwnI.nil _ _, below_step (below_step hb0 hb1) hb2⟩
    | true =>
      have HVT := Lib.hid hvs
      rw [hvs] at CS
      clear hvs
      cases hw : inB s 0 359999 with
      | false =>
        have HO := Lib.hid (visO_turn HVF.out HVT.out hw)
        rw [hw] at CW
        clear hw hB
        go_enter Tryz.func40, Tryz.ntmps40
        go_wp2_with (first | (go_at_call 84; refine C.out.mono ?_; rintro e w1 ⟨rfl, hb1⟩; obtain ⟨y0, y1, y2⟩ := (hT0.keep hb1).site) | (go_at_call 93; refine (CS.out _).mono ?_; rintro e w2 ⟨rfl, hb2⟩) | (go_at_call 79; refine (CW.out _).mono ?_; rintro e w3 ⟨rfl, rfl⟩))
        go_ret2
        exact ⟨.slice none 0 0, by rw [HO.out]; rfl, by rw [HO.out]; exact OwnI.nil _ _, below_step (below_step hb0 hb1) hb2⟩
      | true =>
        have HO := Lib.hid (visO_yes HVF.out HVT.out hw)
        rw [HP.out] at HO
        have HW := Lib.hid hw
        rw [hw] at CW
        clear hw
        have HV := Lib.hid (vFig_lines HVF.out)
        have HVS := Lib.hid (vFig_stars HVF.out)
        have h24 : n ≤ 24 := by have := vStars_len HVS.out; have := HL.out; omega
        have h16 : p ≤ 16 := by have := vLines_len HV.out; have := HP.out; omega
        go_enter Tryz.func40, Tryz.ntmps40
        go_wp2_with (first | (go_at_call 84; refine C.out.mono ?_; rintro e w1 ⟨rfl, hb1⟩; obtain ⟨y0, y1, y2⟩ := (hT0.keep hb1).site) | (go_at_call 93; refine (CS.out _).mono ?_; rintro e w2 ⟨rfl, hb2⟩; obtain ⟨x0, x1⟩ := (hX0.keep (below_step hb1 hb2)).fig) | (go_at_call 79; refine (CW.out _).mono ?_; rintro e w3 ⟨rfl, rfl⟩))
        have hT2 := hT0.keep (below_step hb1 hb2)
        have hbb := below_step (below_step hb0 hb1) hb2
        clear hb0 hX0 hT0 hb1 hb2 C CS CW x0 x1 y0 y1 y2
        go_loopw [10, 11, 12, 13, 34] (fun s10 _ _ _ s' wr => ∃ (k : Nat) (v : Value), k ≤ p ∧ s' = .int .i64 (k : Int) ∧ v = s10 ∧ OwnI wr w2.heap.size v (visL l la s L k) ∧ Below w2.heap.size w2 wr) (fun _ _ _ _ s' _ => p - (intOf s').toNat)
        case atStart => exact ⟨0, _, by omega, rfl, rfl, OwnI.nil _ _, Below.refl _ _⟩
        case round =>
          obtain ⟨k, v, hk, rfl, rfl, hO, hb⟩ := hrel
          by_cases hlt : k < p
          · obtain ⟨x, hx⟩ := at_lt (l := L) (k := k) (by have := HP.out; omega)
            obtain ⟨u1, u2, rfl, hu0, huv, hvn⟩ := lineOk_two (vLines_ok HV.out hx)
            rw [HL.out] at hvn
            have HX := Lib.hid (visL_at (l := l) (la := la) (s := s) hx)
            have HU : Hid (∀ (j : Nat) (e : Int), [u1, u2][j]? = some e → 0 ≤ e ∧ e < n) := Lib.hid (fun j e he => by
              rcases j with _ | _ | j
              · simp at he; omega
              · simp at he; omega
              · simp at he)
            obtain ⟨b, o, rfl, hc⟩ := (hB.below hbb).below hb (by have := HP.out; omega)
            obtain ⟨A1, c1, e0, e1, _, _, e4⟩ := hc k _ hx
            simp only [List.length_cons, List.length_nil, Nat.zero_add, Nat.reduceAdd] at e0 e1
            generalize hln : [u1, u2] = ln at *
            have HLn : Hid (ln.length = 2) := Lib.hid (by rw [← hln]; rfl)
            clear hc hx hln
            go_wp2_with (fail)
            clear e0 e1
            go_loopw [13, 15, 16, 17, 18, 41] (fun s13 _ _ _ _ s' wz => ∃ (j : Nat) (bb : Bool), j ≤ 2 ∧ s' = .int .i64 (j : Int) ∧ s13 = .bool bb ∧ bb = seenTo l la s ln j ∧ Below wr.heap.size wr wz) (fun _ _ _ _ _ s' _ => 2 - (intOf s').toNat)
            case atStart => exact ⟨0, true, by omega, rfl, rfl, rfl, Below.refl _ _⟩
            case round =>
              obtain ⟨j, bb, hj, rfl, rfl, hbj, hb1⟩ := hrel
              have hbq := below_step hb hb1
              have hln2 := HLn.out
              by_cases hlj : j < 2
              · obtain ⟨e, he⟩ := at_lt (l := ln) (k := j) (by omega)
                obtain ⟨g0, g1⟩ := HU.out j e he
                obtain ⟨e, rfl⟩ : ∃ e' : Nat, e = e' := ⟨e.toNat, by omega⟩
                obtain ⟨x, hx⟩ := at_lt (l := l) (k := e) (by have := HL.out; omega)
                have hok := vStars_ok HVS.out hx
                have HSE : Hid (seenTo l la s ln (j + 1) = (bb && decide (0 ≤ altI la s x))) := Lib.hid (by rw [seenTo, ← hbj, List.getD_eq_getElem?_getD, he, Option.getD_some, altAt_at hx])
                obtain ⟨sb, so, rfl, hcs⟩ := ((hS.below hbb).below hbq) (by have := HL.out; omega)
                obtain ⟨_, s1, s2, _, _⟩ := hcs e x hx
                have sl := World.block_lt_of_cell? wr _ s1
                obtain ⟨b1, o1, rfl, hc1⟩ := (e4.below hb1) (by omega)
                have c0 := hc1 j _ he
                obtain ⟨y0, y1, y2⟩ := (hT2.keep hbq).site
                have hyl := (hT2.keep hbq).lt
                have hSr := (hSin.of_below hbb).of_below hbq
                have CH : Hid (∀ W : Later wr, Calls Tryz.prog 94 #[.agg #[.string tn, .int .i64 lo, .int .i64 la], .int .i64 s, .int .i64 x.ri, .int .i64 x.de] W.w fun e w' => e = .returned (.tuple #[.int .i64 (lonI (hvV la s x.ri x.de)), .int .i64 (altI la s x), .int .i64 0]) ∧ Below W.w.heap.size W.w w') := Lib.hid (fun W => Horizontal_alt tn lo la s x W.w (hSr.later W) HVT.out HW.out hok)
                dsimp only at sl
                clear hcs hc1 he hx hok hSr hbj hln2 e4 hS hB hO
                generalize altI la s x = alt at *
                generalize lonI (hvV la s x.ri x.de) = lon at *
                go_wp2_with (fail)
                (refine later_intro_wp ?_; intro y)
                (refine wp_region_later (by kernel_rfl) (by kernel_rfl) ?_; (repeat (first | go_big_quiet_step ((go_at_call 94; exact later_below (CH.out _))) | quiet_step ((go_at_call 94; exact later_below (CH.out _))))); refine wpQuiet_nil ?_; rintro _ ⟨y, rfl⟩)
                clear CH y0 y1 y2 s1 s2 c0
                cases bb with
                | false =>
                  go_wp2_with (fail)
                  go_roundw
                  case rel => exact ⟨j + 1, false, by omega, by go_num, rfl, by rw [HSE.out]; rfl, below_later hb1 _⟩
                  case measure => simp [intOf]; omega
                | true =>
                  by_cases ha : 0 ≤ alt
                  · go_wp2_with (fail)
                    go_roundw
                    case rel => exact ⟨j + 1, true, by omega, by go_num, rfl, by rw [HSE.out]; simp [ha], below_later hb1 _⟩
                    case measure => simp [intOf]; omega
                  · go_wp2_with (fail)
                    go_roundw
                    case rel => exact ⟨j + 1, false, by omega, by go_num, rfl, by rw [HSE.out]; simp [ha], below_later hb1 _⟩
                    case measure => simp [intOf]; omega
              · obtain rfl : j = 2 := by omega
                have hO1 := hO.below hb1
                have hlen := visL_len l la s L k
                generalize visL l la s L k = V at *
                cases bb with
                | false =>
                  have HX2 := HX.out
                  rw [← hbj, if_neg (by simp)] at HX2
                  have HX3 := Lib.hid HX2
                  clear HX2 hbj
                  go_wp2_with (fail)
                  go_roundw
                  case rel => exact ⟨k + 1, v, by omega, by go_num, rfl, by rw [HX3.out]; exact hO1, hbq⟩
                  case measure => simp [intOf]; omega
                | true =>
                  have HX2 := HX.out
                  rw [← hbj, if_pos rfl] at HX2
                  have HX3 := Lib.hid HX2
                  have hsz : w2.heap.size ≤ wr.heap.size := hbq.size
                  have HLN : Hid (V.length ≤ 1099511627776) := Lib.hid (by omega)
                  clear HX2 hbj
                  go_wp2_with (at_builtin; refine wpList_app_int rfl (.tmp 73) (.tmp 75) rfl w2.heap.size v V (k : Int) wr.heap.size 1 rfl rfl (hO1.alloc _) (by simp) HLN.out (by simp; omega) ?_; intro v4 w4 hO4 hg4; have hb4 : Below w2.heap.size w2 w4 := below_of_grown (below_alloc hbq _) hg4 (below_alloc hbq _).size (fun q hq => (hO1.lt q hq).1))
                  go_roundw
                  case rel => exact ⟨k + 1, v4, by omega, by go_num, rfl, by rw [HX3.out]; exact hO4, hb4⟩
                  case measure => simp [intOf]; omega
          · obtain rfl : k = p := by omega
            go_wp2_with (fail)
            go_ret2
            exact ⟨v, by rw [HO.out]; rfl, by rw [HO.out]; exact hO.base_le hbb.size, below_step hbb hb⟩
end Go.Proofs.YtpnfhienffekoaaGreatDoor
