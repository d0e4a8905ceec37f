/- Contracts of the functions on a figure's visible lines: the reference's. -/
import Derived.Test.YtbpjnopnhmoigaaDoorVis
import Derived.Test.YtbpjnopnhmoigaaDoorGrpNum
namespace Go.Proofs.YtbpjnopnhmoigaaDoor
set_option linter.unusedVariables false
set_option linter.unusedSimpArgs false
open Go.RowKit
theorem seenTo_two {l : List Sta} {la s : Int} {u v : Nat} {x y : Sta} (hx : l[u]? = some x) (hy : l[v]? = some y) : seenTo l la s [(u : Int), (v : Int)] 2 = (decide (0 ≤ altI la s x) && decide (0 ≤ altI la s y)) := by
  simp [seenTo, altAt_at hx, altAt_at hy]
set_option maxRecDepth 100000 in
set_option maxHeartbeats 8000000 in
theorem sVisibleLines_any (nm : ByteArray) (B : Option Addr) (p q : Nat) (L : List (List Int)) (A : Option Addr) (n c : Nat) (l : List Sta) (tn : ByteArray) (lo la s : Int) (w : World) (hp : L.length = p) (hp2 : p ≤ 9223372036854775807) (hB : Lists w B L) (hl : l.length = n) (hn : n ≤ 9223372036854775807) (hS : Stars w A l) :
    Calls Tryd.prog 26 #[.agg #[.string nm, .slice B p q], .slice A n c, .agg #[.string tn, .int .i64 lo, .int .i64 la], .int .i64 s] w fun e w' => ∃ v : Value, e = .returned (.tuple #[v, .int .i64 (visO nm L l tn.data.toList lo la s).2]) ∧ OwnI w' w.heap.size v (visO nm L l tn.data.toList lo la s).1 ∧ Below w.heap.size w w' := by
  have hb0 : Below w.heap.size w ((w.alloc (.cells #[.string nm, .slice B p q] 40)).alloc (.cells #[.string tn, .int .i64 lo, .int .i64 la] 49)) := below_alloc (below_alloc (Below.refl _ _) _) _
  have hX0 : Blk ((w.alloc (.cells #[.string nm, .slice B p q] 40)).alloc (.cells #[.string tn, .int .i64 lo, .int .i64 la] 49)) w.heap.size 40 (figCells nm B p q) := (Blk.new _ _ _).alloc _
  have hT0 : Blk ((w.alloc (.cells #[.string nm, .slice B p q] 40)).alloc (.cells #[.string tn, .int .i64 lo, .int .i64 la] 49)) (w.heap.size + 1) 49 (siteCells tn lo la) := by
    have := Blk.new (w.alloc (.cells #[.string nm, .slice B p q] 40)) 49 (siteCells tn lo la)
    simpa [siteCells] using this
  obtain ⟨x0, x1⟩ := hX0.fig
  have C := Lib.hid (l08Ok_any w.heap.size nm B p q L A n c l _ x0 x1 hp hp2 (hB.below hb0) hl hn (hS.below hb0))
  have HP := Lib.hid hp; clear hp x0 x1
  have HL := Lib.hid hl; clear hl
  cases hv : vFig nm L l with
  | false =>
    have HO := Lib.hid (visO_no (tn := tn.data.toList) (lo := lo) (la := la) (s := s) hv)
    rw [hv] at C
    clear hv hB
    go_enter Tryd.func26, Tryd.ntmps26
    go_wp2_with (refine C.out.mono ?_; rintro e w1 ⟨rfl, hb1⟩)
    go_ret2
    exact ⟨.slice none 0 0, by rw [HO.out]; rfl, by rw [HO.out]; exact OwnI.nil _ _, below_step hb0 hb1⟩
  | true =>
    have HVF := Lib.hid hv
    rw [hv] at C
    clear hv
    cases hvs : vSite tn.data.toList lo la with
    | false =>
      have HO := Lib.hid (visO_no2 (nm := nm) (L := L) (l := l) (s := s) hvs)
      have CS := Lib.hid (fun W h0 h1 h2 => l06Ok_any (w.heap.size + 1) tn lo la W h0 h1 h2)
      rw [hvs] at CS
      clear hvs hB
      go_enter Tryd.func26, Tryd.ntmps26
      go_wp2_with (first | (go_at_call 64; refine C.out.mono ?_; rintro e w1 ⟨rfl, hb1⟩; obtain ⟨y0, y1, y2⟩ := (hT0.keep hb1).site) | (go_at_call 69; refine (CS.out _ y0 y1 y2).mono ?_; rintro e w2 ⟨rfl, rfl⟩))
      go_ret2
      exact ⟨.slice none 0 0, by rw [HO.out]; rfl, by rw [HO.out]; exact OwnI.nil _ _, below_step hb0 hb1⟩
    | true =>
      have HVT := Lib.hid hvs
      have CS := Lib.hid (fun W h0 h1 h2 => l06Ok_any (w.heap.size + 1) tn lo la W h0 h1 h2)
      have CW := Lib.hid (fun W => l06Turn_any s W)
      rw [hvs] at CS
      clear hvs
      cases hw : inB s 0 359999 with
      | false =>
        have HO := Lib.hid (visO_turn HVF.out HVT.out hw)
        rw [hw] at CW
        clear hw hB
        go_enter Tryd.func26, Tryd.ntmps26
        go_wp2_with (first | (go_at_call 64; refine C.out.mono ?_; rintro e w1 ⟨rfl, hb1⟩; obtain ⟨y0, y1, y2⟩ := (hT0.keep hb1).site) | (go_at_call 69; refine (CS.out _ y0 y1 y2).mono ?_; rintro e w2 ⟨rfl, rfl⟩) | (go_at_call 70; refine (CW.out _).mono ?_; rintro e w3 ⟨rfl, rfl⟩))
        go_ret2
        exact ⟨.slice none 0 0, by rw [HO.out]; rfl, by rw [HO.out]; exact OwnI.nil _ _, below_step hb0 hb1⟩
      | true =>
        have HO := Lib.hid (visO_yes HVF.out HVT.out hw)
        rw [HP.out] at HO
        have HW := Lib.hid hw
        rw [hw] at CW
        clear hw
        have HV := Lib.hid (vFig_lines HVF.out)
        have HVS := Lib.hid (vFig_stars HVF.out)
        have h24 : n ≤ 24 := by have := vStars_len HVS.out; have := HL.out; omega
        have h16 : p ≤ 16 := by have := vLines_len HV.out; have := HP.out; omega
        obtain ⟨_, _, l1, l2⟩ := vSite_bd HVT.out
        obtain ⟨s1, s2⟩ := (inB_iff _ _ _).1 HW.out
        go_enter Tryd.func26, Tryd.ntmps26
        go_wp2_with (first | (go_at_call 64; refine C.out.mono ?_; rintro e w1 ⟨rfl, hb1⟩; obtain ⟨y0, y1, y2⟩ := (hT0.keep hb1).site) | (go_at_call 69; refine (CS.out _ y0 y1 y2).mono ?_; rintro e w2 ⟨rfl, rfl⟩) | (go_at_call 70; refine (CW.out _).mono ?_; rintro e w3 ⟨rfl, rfl⟩))
        have hT2 := hT0.keep hb1
        have hX2 := hX0.keep hb1
        have hbb := below_step hb0 hb1
        have hE := OwnI.empty w1 w1.heap.size (Nat.le_refl _)
        have hbe : Below w1.heap.size w1 (w1.alloc (.cells #[] 2)) := below_alloc (Below.refl _ _) _
        clear hb0 hX0 hT0 hb1 C CS CW y0 y1 y2
        go_loopw [10, 11, 12, 13] (fun s10 s' _ _ wr => ∃ (k : Nat) (v : Value), k ≤ p ∧ s' = .int .i64 (k : Int) ∧ v = s10 ∧ OwnI wr w1.heap.size v (visL l la s L k) ∧ Below w1.heap.size w1 wr) (fun _ s' _ _ _ => p - (intOf s').toNat)
        case atStart => exact ⟨0, _, by omega, rfl, rfl, hE, hbe⟩
        case round =>
          clear hE hbe
          obtain ⟨k, v, hk, rfl, rfl, hO, hb⟩ := hrel
          obtain ⟨x0, x1⟩ := (hX2.keep hb).fig
          have hxl := (hX2.keep hb).lt
          by_cases hlt : k < p
          · obtain ⟨x, hx⟩ := at_lt (l := L) (k := k) (by have := HP.out; omega)
            obtain ⟨u1, u2, rfl, hu0, huv, hvn⟩ := lineOk_two (vLines_ok HV.out hx)
            rw [HL.out] at hvn
            obtain ⟨u1, rfl⟩ : ∃ u' : Nat, u1 = u' := ⟨u1.toNat, by omega⟩
            obtain ⟨u2, rfl⟩ : ∃ u' : Nat, u2 = u' := ⟨u2.toNat, by omega⟩
            have HX := Lib.hid (visL_at (l := l) (la := la) (s := s) hx)
            obtain ⟨sx, hsx⟩ := at_lt (l := l) (k := u1) (by have := HL.out; omega)
            obtain ⟨sy, hsy⟩ := at_lt (l := l) (k := u2) (by have := HL.out; omega)
            have okx := vStars_ok HVS.out hsx
            have oky := vStars_ok HVS.out hsy
            have HSE := Lib.hid (seenTo_two (la := la) (s := s) hsx hsy)
            obtain ⟨b, o, rfl, hc⟩ := ((hB.below hbb).below hb) (by have := HP.out; omega)
            obtain ⟨A1, c1, e0, e1, _, _, e4⟩ := hc k _ hx
            obtain ⟨b1, o1, rfl, q0, q1⟩ := ints_two e4
            simp only [List.length_cons, List.length_nil, Nat.zero_add, Nat.reduceAdd] at e0 e1
            obtain ⟨sb, so, rfl, hcs⟩ := ((hS.below hbb).below hb) (by have := HL.out; omega)
            have t1 := hcs u1 sx hsx
            have t2 := hcs u2 sy hsy
            have CA : Hid (∀ W : Later wr, Calls Tryd.prog 71 #[.int .i64 la, .int .i64 s, .pointer (some ⟨sb, so + u1 * 5, none⟩)] W.w fun e w' => e = .returned (.int .i64 (altI la s sx)) ∧ Below W.w.heap.size W.w w') := Lib.hid (fun W => l06Altitude_any la s sb _ sx W.w ⟨l1, l2⟩ ⟨s1, s2⟩ (t1.below W.below) okx)
            have CB : Hid (∀ W : Later wr, Calls Tryd.prog 71 #[.int .i64 la, .int .i64 s, .pointer (some ⟨sb, so + u2 * 5, none⟩)] W.w fun e w' => e = .returned (.int .i64 (altI la s sy)) ∧ Below W.w.heap.size W.w w') := Lib.hid (fun W => l06Altitude_any la s sb _ sy W.w ⟨l1, l2⟩ ⟨s1, s2⟩ (t2.below W.below) oky)
            obtain ⟨y0, y1, y2⟩ := (hT2.keep hb).site
            have hyl := (hT2.keep hb).lt
            have l0 := World.block_lt_of_cell? wr _ e0
            have l1' := World.block_lt_of_cell? wr _ q0
            have hu1 : (u1 : Int) < (n : Int) := by omega
            have hu2 : (u2 : Int) < (n : Int) := by omega
            dsimp only at l0 l1'
            have hlen := visL_len l la s L k
            clear hc hx e4 hcs t1 t2 okx oky hsx hsy huv hvn hu0
            generalize altI la s sx = ax at *
            generalize altI la s sy = ay at *
            generalize visL l la s L k = V at *
            go_wp2_with (fail)
            (refine later_intro_wp ?_; intro y)
            (refine wp_region_later (by kernel_rfl) (by kernel_rfl) ?_; (repeat (first | go_big_quiet_step ((go_at_call 71; exact later_below (CA.out _))) | quiet_step ((go_at_call 71; exact later_below (CA.out _))))); refine wpQuiet_nil ?_; rintro _ ⟨y, rfl⟩)
            go_wp2_with (fail)
            (refine wp_region_later (by kernel_rfl) (by kernel_rfl) ?_; (repeat (first | go_big_quiet_step ((go_at_call 71; exact later_below (CB.out _))) | quiet_step ((go_at_call 71; exact later_below (CB.out _))))); refine wpQuiet_nil ?_; rintro _ ⟨y, rfl⟩)
            have hb7 := below_later hb y
            have hO7 : OwnI y.w w1.heap.size v V := hO.below y.below
            clear CA CB y0 y1 y2 x0 x1 e0 q0 q1
            by_cases ha : 0 ≤ ax
            · by_cases ha2 : 0 ≤ ay
              · have HX3 := HX.out
                rw [HSE.out, if_pos (by simp [ha, ha2])] at HX3
                have HX4 := Lib.hid HX3
                have HLN : Hid (V.length ≤ 1099511627776) := Lib.hid (by omega)
                have hsz : w1.heap.size ≤ y.w.heap.size := hb7.size
                clear HX3
                generalize y.w = W7 at *
                go_wp2_with (at_builtin; refine wpList_app_int rfl (.tmp 64) (.tmp 66) rfl w1.heap.size v V (k : Int) W7.heap.size 1 rfl rfl (hO7.alloc _) (by simp) HLN.out (by simp; omega) ?_; intro v4 w4 hO4 hg4; have hb4 : Below w1.heap.size w1 w4 := below_of_grown (below_alloc hb7 _) hg4 (below_alloc hb7 _).size (fun q hq => (hO7.lt q hq).1))
                go_roundw
                case rel => exact ⟨k + 1, v4, by omega, by go_num, rfl, by rw [HX4.out]; exact hO4, hb4⟩
                case measure => simp [intOf]; omega
              · have HX3 := HX.out
                rw [HSE.out, if_neg (by simp [ha2])] at HX3
                have HX4 := Lib.hid HX3
                clear HX3
                go_wp2_with (fail)
                go_roundw
                case rel => exact ⟨k + 1, v, by omega, by go_num, rfl, by rw [HX4.out]; exact hO7, hb7⟩
                case measure => simp [intOf]; omega
            · have HX3 := HX.out
              rw [HSE.out, if_neg (by simp [ha])] at HX3
              have HX4 := Lib.hid HX3
              clear HX3
              go_wp2_with (fail)
              go_roundw
              case rel => exact ⟨k + 1, v, by omega, by go_num, rfl, by rw [HX4.out]; exact hO7, hb7⟩
              case measure => simp [intOf]; omega
          · obtain rfl : k = p := by omega
            go_wp2_with (fail)
            go_ret2
            exact ⟨v, by rw [HO.out]; rfl, by rw [HO.out]; exact hO.base_le hbb.size, below_step hbb hb⟩
end Go.Proofs.YtbpjnopnhmoigaaDoor
