/- FigLen, FigSpan, in one text. -/
import Derived.Test.YtpnfhienffekoaaGreatDoorGrpFig
import Derived.Test.YtpnfhienffekoaaGreatDoorMgG
import Derived.Test.YtpnfhienffekoaaGreatDoorGrpList
import Derived.Test.YtpnfhienffekoaaGreatDoorMgE
namespace Go.Proofs.YtpnfhienffekoaaGreatDoor
set_option linter.unusedVariables false
set_option linter.unusedSimpArgs false
open Go.RowKit
/-- the distance of the stars at two places of a list -/
def gapL (l : List Sta) (i k : Nat) : Int := match l[i]?, l[k]? with
  | some x, some y => farI x y
  | _, _ => 0
theorem gapL_at {l : List Sta} {i k : Nat} {x y : Sta} (hx : l[i]? = some x) (hy : l[k]? = some y) : gapL l i k = farI x y := by simp [gapL, hx, hy]
theorem gapL_bd (l : List Sta) (i k : Nat) : 0 ≤ gapL l i k ∧ gapL l i k < 360000 := by
  unfold gapL
  split
  · exact farI_bd _ _
  · omega
/-- the length of the first m lines -/
def lenSum (l : List Sta) (L : List (List Int)) : Nat → Int
  | 0 => 0
  | m + 1 => lenSum l L m + gapL l ((L.getD m []).getD 0 0).toNat ((L.getD m []).getD 1 0).toNat
theorem lenSum_bd (l : List Sta) (L : List (List Int)) (m : Nat) : 0 ≤ lenSum l L m ∧ lenSum l L m ≤ 360000 * m := by
  induction m with
  | zero => simp [lenSum]
  | succ m ih => have := gapL_bd l ((L.getD m []).getD 0 0).toNat ((L.getD m []).getD 1 0).toNat; rw [lenSum]; omega
theorem lenSum_at {l : List Sta} {L : List (List Int)} {m u v : Nat} {x y : Sta} (h : L[m]? = some [(u : Int), (v : Int)]) (hx : l[u]? = some x) (hy : l[v]? = some y) : lenSum l L (m + 1) = lenSum l L m + farI x y := by
  have e : L.getD m [] = [(u : Int), (v : Int)] := by rw [List.getD_eq_getElem?_getD, h]; rfl
  rw [lenSum, e]
  simp [gapL_at hx hy]
/-- what FigureLength answers -/
def flenO (nm : ByteArray) (L : List (List Int)) (l : List Sta) : Int × Int := if vFig nm L l then (lenSum l L L.length, 0) else (0, 1)
theorem flenO_no {nm : ByteArray} {L : List (List Int)} {l : List Sta} (h : vFig nm L l = false) : flenO nm L l = (0, 1) := by simp [flenO, h]
theorem flenO_yes {nm : ByteArray} {L : List (List Int)} {l : List Sta} (h : vFig nm L l = true) : flenO nm L l = (lenSum l L L.length, 0) := by simp [flenO, h]
set_option maxRecDepth 100000 in
set_option maxHeartbeats 4000000 in
theorem FigureLength_any (nm : ByteArray) (B : Option Addr) (p q : Nat) (L : List (List Int)) (A : Option Addr) (n c : Nat) (l : List Sta) (w : World) (hSin : SinOk w) (hp : L.length = p) (hp2 : p ≤ 9223372036854775807) (hB : Lists w B L) (hl : l.length = n) (hn : n ≤ 9223372036854775807) (hS : Stars w A l) :
    Calls Tryz.prog 33 #[.agg #[.string nm, .slice B p q], .slice A n c] w fun e w' => e = .returned (.tuple #[.int .i64 (flenO nm L l).1, .int .i64 (flenO nm L l).2]) ∧ Below w.heap.size w w' := by
  have hb0 : Below w.heap.size w (w.alloc (.cells #[.string nm, .slice B p q] 63)) := below_alloc (Below.refl _ _) _
  have hX0 : Blk (w.alloc (.cells #[.string nm, .slice B p q] 63)) w.heap.size 63 (figCells nm B p q) := Blk.new _ _ _
  have C := Lib.hid (ValidFigure_any nm B p q L A n c l _ hp hp2 (hB.below hb0) hl hn (hS.below hb0))
  have HP := Lib.hid hp; clear hp
  have HL := Lib.hid hl; clear hl
  cases hv : vFig nm L l with
  | false =>
    have HO := Lib.hid (flenO_no hv)
    rw [hv] at C
    clear hv hB
    go_enter Tryz.func33, Tryz.ntmps33
    go_wp2_with (refine C.out.mono ?_; rintro e w1 ⟨rfl, hb1⟩)
    go_ret2
    exact ⟨by rw [HO.out]; rfl, below_step hb0 hb1⟩
  | true =>
    have HO := Lib.hid (flenO_yes hv)
    rw [HP.out] at HO
    have HV := Lib.hid (vFig_lines hv)
    have HVS := Lib.hid (vFig_stars hv)
    have h24 : n ≤ 24 := by have := vStars_len HVS.out; have := HL.out; omega
    have h16 : p ≤ 16 := by have := vLines_len HV.out; have := HP.out; omega
    rw [hv] at C
    clear hv
    go_enter Tryz.func33, Tryz.ntmps33
    go_wp2_with (refine C.out.mono ?_; rintro e w1 ⟨rfl, hb1⟩; have hX1 := hX0.keep hb1; obtain ⟨x0, x1⟩ := hX1.fig)
    have hbb := below_step hb0 hb1
    clear hb0 hX0 hb1 C hX1 x0 x1
    go_loopw [6, 8, 16] (fun s6 _ s wr => ∃ (k : Nat) (z : Int), k ≤ p ∧ s = .int .i64 (k : Int) ∧ s6 = .int .i64 z ∧ z = lenSum l L k ∧ Below w.heap.size w wr) (fun _ _ s _ => p - (intOf s).toNat)
    case atStart => exact ⟨0, 0, by omega, rfl, rfl, rfl, hbb⟩
    case round =>
      clear hbb
      obtain ⟨k, z, hk, rfl, rfl, hz, hb⟩ := hrel
      obtain ⟨z0, z1⟩ := lenSum_bd l L k
      rw [← hz] at z0 z1
      have HZ := Lib.hid hz; clear hz
      by_cases hlt : k < p
      · obtain ⟨x, hx⟩ := at_lt (l := L) (k := k) (by have := HP.out; omega)
        obtain ⟨u, v, rfl, hu0, huv, hvn⟩ := lineOk_two (vLines_ok HV.out hx)
        rw [HL.out] at hvn
        obtain ⟨u, rfl⟩ : ∃ u' : Nat, u = u' := ⟨u.toNat, by omega⟩
        obtain ⟨v, rfl⟩ : ∃ v' : Nat, v = v' := ⟨v.toNat, by omega⟩
        obtain ⟨sx, hsx⟩ := at_lt (l := l) (k := u) (by have := HL.out; omega)
        obtain ⟨sy, hsy⟩ := at_lt (l := l) (k := v) (by have := HL.out; omega)
        have HX := Lib.hid (lenSum_at hx hsx hsy)
        have ax := ok_ang (vStars_ok HVS.out hsx)
        have ay := ok_ang (vStars_ok HVS.out hsy)
        obtain ⟨b, o, rfl, hc⟩ := hB.below hb (by have := HP.out; omega)
        obtain ⟨A1, c1, e0, e1, _, _, e4⟩ := hc k _ hx
        obtain ⟨b1, o1, rfl, q0, q1⟩ := ints_two e4
        simp only [List.length_cons, List.length_nil, Nat.zero_add, Nat.reduceAdd] at e0 e1
        have l0 := World.block_lt_of_cell? wr _ e0
        have l1 := World.block_lt_of_cell? wr _ q0
        dsimp only at l0 l1
        have hA2 := hS.below hb
        have hSr := hSin.of_below hb
        have C : Hid (∀ W : Later wr, Calls Tryz.prog 85 #[.slice A n c, .int .i64 u, .int .i64 v] W.w fun e w' => e = .returned (.int .i64 (farI sx sy)) ∧ Below W.w.heap.size W.w w') := fun W => starGap_any A n c l u v sx sy _ (hSr.later W) HL.out (by omega) (hA2.later W) hsx hsy ax ay
        obtain ⟨f0, f1⟩ := farI_bd sx sy
        have ws : IntKind.i64.wrap (z + farI sx sy) = z + farI sx sy := IntWalk.i64_in _ (by omega)
        clear hc hx e4 hsx hsy ax ay hA2 hSr
        generalize farI sx sy = far at *
        go_wp2_with (fail)
        (refine later_intro_wp ?_; intro y)
        (refine wp_region_later (by kernel_rfl) (by kernel_rfl) ?_; (repeat (first | go_big_quiet_step ((go_at_call 85; exact later_below (C.out _))) | quiet_step ((go_at_call 85; exact later_below (C.out _))))); refine wpQuiet_nil ?_; rintro _ ⟨y, rfl⟩)
        clear ws
        go_wp2_with (fail)
        go_roundw
        case rel => exact ⟨k + 1, z + far, by omega, by go_num, rfl, by rw [HX.out, HZ.out], below_later hb _⟩
        case measure => simp [intOf]; omega
      · obtain rfl : k = p := by omega
        go_wp2_with (fail)
        go_ret2
        exact ⟨by rw [HO.out, ← HZ.out]; rfl, hb⟩
end Go.Proofs.YtpnfhienffekoaaGreatDoor
namespace Go.Proofs.YtpnfhienffekoaaGreatDoor
set_option linter.unusedVariables false
set_option linter.unusedSimpArgs false
open Go.RowKit
/-- the greatest of m and the distances of the end at place i from those at the first k places -/
def spanIn (l : List Sta) (E : List Int) (i : Nat) : Nat → Int → Int
  | 0, m => m
  | k + 1, m => maxI (spanIn l E i k m) (gapL l (gt E i).toNat (gt E k).toNat)
def spanUp (l : List Sta) (E : List Int) : Nat → Int
  | 0 => 0
  | i + 1 => spanIn l E i i (spanUp l E i)
theorem spanIn_at {l : List Sta} {E : List Int} {i k u v : Nat} {m : Int} {x y : Sta} (hi : E[i]? = some (u : Int)) (hk : E[k]? = some (v : Int)) (hx : l[u]? = some x) (hy : l[v]? = some y) : spanIn l E i (k + 1) m = maxI (spanIn l E i k m) (farI x y) := by
  rw [spanIn, gt_at hi, gt_at hk, Int.toNat_natCast, Int.toNat_natCast, gapL_at hx hy]
/-- what FigureSpan answers -/
def spanO (nm : ByteArray) (L : List (List Int)) (l : List Sta) : Int × Int := if vFig nm L l then (spanUp l (setI (endsL L)) (setI (endsL L)).length, 0) else (0, 1)
theorem spanO_no {nm : ByteArray} {L : List (List Int)} {l : List Sta} (h : vFig nm L l = false) : spanO nm L l = (0, 1) := by simp [spanO, h]
theorem spanO_yes {nm : ByteArray} {L : List (List Int)} {l : List Sta} (h : vFig nm L l = true) : spanO nm L l = (spanUp l (setI (endsL L)) (setI (endsL L)).length, 0) := by simp [spanO, h]
/-- the ends of valid lines are indices -/
theorem ends_at2 {m : Int} {L : List (List Int)} (h : vLines m L = true) {k : Nat} {x : Int} (hx : (setI (endsL L))[k]? = some x) : 0 ≤ x ∧ x < m := endsL_bd h ((setI_mem _ _).1 (List.mem_of_getElem? hx))
set_option maxRecDepth 100000 in
set_option maxHeartbeats 4000000 in
theorem FigureSpan_any (nm : ByteArray) (B : Option Addr) (p q : Nat) (L : List (List Int)) (A : Option Addr) (n c : Nat) (l : List Sta) (w : World) (hSin : SinOk w) (hp : L.length = p) (hp2 : p ≤ 9223372036854775807) (hB : Lists w B L) (hl : l.length = n) (hn : n ≤ 9223372036854775807) (hS : Stars w A l) :
    Calls Tryz.prog 36 #[.agg #[.string nm, .slice B p q], .slice A n c] w fun e w' => e = .returned (.tuple #[.int .i64 (spanO nm L l).1, .int .i64 (spanO nm L l).2]) ∧ Below w.heap.size w w' := by
  have hb0 : Below w.heap.size w (w.alloc (.cells #[.string nm, .slice B p q] 63)) := below_alloc (Below.refl _ _) _
  have hX0 : Blk (w.alloc (.cells #[.string nm, .slice B p q] 63)) w.heap.size 63 (figCells nm B p q) := Blk.new _ _ _
  have C := Lib.hid (ValidFigure_any nm B p q L A n c l _ hp hp2 (hB.below hb0) hl hn (hS.below hb0))
  have HP := Lib.hid hp; clear hp
  have HL := Lib.hid hl; clear hl
  cases hv : vFig nm L l with
  | false =>
    have HO := Lib.hid (spanO_no hv)
    rw [hv] at C
    clear hv hB
    go_enter Tryz.func36, Tryz.ntmps36
    go_wp2_with (refine C.out.mono ?_; rintro e w1 ⟨rfl, hb1⟩)
    go_ret2
    exact ⟨by rw [HO.out]; rfl, below_step hb0 hb1⟩
  | true =>
    have HO := Lib.hid (spanO_yes hv)
    have HV := Lib.hid (vFig_lines hv)
    have HVS := Lib.hid (vFig_stars hv)
    have h24 : n ≤ 24 := by have := vStars_len HVS.out; have := HL.out; omega
    rw [hv] at C
    clear hv
    go_enter Tryz.func36, Tryz.ntmps36
    go_wp2_with (first | (go_at_call 84; refine C.out.mono ?_; rintro e w1 ⟨rfl, hb1⟩; have hX1 := (hX0.keep hb1).fig; obtain ⟨x0, x1⟩ := hX1; have hB1 := (hB.below hb0).below hb1) | (go_at_call 86; refine (endsOf_any _ nm B p q L _ HP.out HV.out hB1).mono ?_; rintro e w2 ⟨v2, rfl, hO2, hb2⟩; have hlen := ends_len HV.out; obtain ⟨A2, c2, rfl, hI2, _, _, _, _⟩ := hO2.form2))
    have hbb := below_step (below_step hb0 hb1) hb2
    have HEA : Hid (∀ (k2 : Nat) (x : Int), (setI (endsL L))[k2]? = some x → 0 ≤ x ∧ x < (n : Int)) := Lib.hid (fun k2 x hx => by rw [← HL.out]; exact ends_at2 HV.out hx)
    clear hb0 hX0 hb1 hb2 C x0 x1 hB1 hO2 hB
    generalize setI (endsL L) = E at *
    generalize hnE : E.length = ne at *
    have HNE := Lib.hid hnE
    clear hnE
    go_loopw [7, 8, 9, 18] (fun s7 _ _ s wr => ∃ (i : Nat) (z : Int), i ≤ ne ∧ s = .int .i64 (i : Int) ∧ s7 = .int .i64 z ∧ z = spanUp l E i ∧ Below w2.heap.size w2 wr) (fun _ _ _ s _ => ne - (intOf s).toNat)
    case atStart => exact ⟨0, 0, by omega, rfl, rfl, rfl, Below.refl _ _⟩
    case round =>
      obtain ⟨i, z, hi, rfl, rfl, hz, hb⟩ := hrel
      have HZ := Lib.hid hz; clear hz
      by_cases hlt : i < ne
      · obtain ⟨u, hu⟩ := at_lt (l := E) (k := i) (by have := HNE.out; omega)
        obtain ⟨hu0, hu1⟩ := HEA.out i u hu
        obtain ⟨u, rfl⟩ : ∃ u' : Nat, u = u' := ⟨u.toNat, by omega⟩
        obtain ⟨sx, hsx⟩ := at_lt (l := l) (k := u) (by have := HL.out; omega)
        have ax := ok_ang (vStars_ok HVS.out hsx)
        go_wp2_with (fail)
        go_loopw [7, 9, 22] (fun s7 _ s wz => ∃ (k : Nat) (yy : Int), k ≤ i ∧ s = .int .i64 (k : Int) ∧ s7 = .int .i64 yy ∧ yy = spanIn l E i k z ∧ Below w2.heap.size w2 wz) (fun _ _ s _ => i - (intOf s).toNat)
        case atStart => exact ⟨0, z, by omega, rfl, rfl, rfl, hb⟩
        case round =>
          clear hb
          obtain ⟨k, yy, hk, rfl, rfl, hy, hb⟩ := hrel
          have HY := Lib.hid hy; clear hy
          by_cases hlk : k < i
          · obtain ⟨v, hv⟩ := at_lt (l := E) (k := k) (by have := HNE.out; omega)
            obtain ⟨hv0, hv1⟩ := HEA.out k v hv
            obtain ⟨v, rfl⟩ : ∃ v' : Nat, v = v' := ⟨v.toNat, by omega⟩
            obtain ⟨sy, hsy⟩ := at_lt (l := l) (k := v) (by have := HL.out; omega)
            have ay := ok_ang (vStars_ok HVS.out hsy)
            have HX := Lib.hid (spanIn_at (m := z) hu hv hsx hsy)
            obtain ⟨b, o, rfl, hc⟩ := (hI2.below hb) (by have := HNE.out; omega)
            have c0 := hc i _ hu
            have c1 := hc k _ hv
            have l0 := World.block_lt_of_cell? wr _ c0
            dsimp only at l0
            have hA2 := (hS.below hbb).below hb
            have hSr := (hSin.of_below hbb).of_below hb
            have CG : Hid (∀ W : Later wr, Calls Tryz.prog 85 #[.slice A n c, .int .i64 u, .int .i64 v] W.w fun e w' => e = .returned (.int .i64 (farI sx sy)) ∧ Below W.w.heap.size W.w w') := fun W => starGap_any A n c l u v sx sy _ (hSr.later W) HL.out (by omega) (hA2.later W) hsx hsy ax ay
            obtain ⟨f0, f1⟩ := farI_bd sx sy
            have HM : Hid (max yy (farI sx sy) = maxI yy (farI sx sy)) := Lib.hid (by unfold maxI; split <;> omega)
            clear hc hv hsy ay hA2 hSr
            generalize farI sx sy = far at *
            have H3 := Lib.hid hu
            have H4 := Lib.hid hsx
            clear hu hsx
            go_wp2_with (fail)
            (refine later_intro_wp ?_; intro y)
            (refine wp_region_later (by kernel_rfl) (by kernel_rfl) ?_; (repeat (first | go_big_quiet_step ((go_at_call 85; exact later_below (CG.out _))) | quiet_step ((go_at_call 85; exact later_below (CG.out _))))); refine wpQuiet_nil ?_; rintro _ ⟨y, rfl⟩)
            go_wp2_with (fail)
            go_roundw
            case rel => exact ⟨k + 1, maxI yy far, by omega, by go_num, (by simp only [maxI, Value.int.injEq, true_and]; rw [Int.max_def]; split <;> split <;> omega), by rw [HX.out, HY.out], below_later hb _⟩
            case measure => simp [intOf]; omega
          · obtain rfl : k = i := by omega
            go_wp2_with (fail)
            go_roundw
            case rel => exact ⟨k + 1, yy, by omega, by go_num, rfl, by rw [spanUp, ← HZ.out, HY.out], hb⟩
            case measure => simp [intOf]; omega
      · obtain rfl : i = ne := by omega
        go_wp2_with (fail)
        go_ret2
        exact ⟨by rw [HO.out, ← HZ.out]; rfl, below_step hbb hb⟩
end Go.Proofs.YtpnfhienffekoaaGreatDoor
