/- Contracts of the functions on a figure's length, of both. -/
import Derived.Test.YtbpjnopnhmoigaaDoorGrpFig
import Derived.Test.YtbpjnopnhmoigaaDoorFar
namespace Go.Proofs.YtbpjnopnhmoigaaDoor
set_option linter.unusedVariables false
set_option linter.unusedSimpArgs false
open Go.RowKit
/-- the distance of the stars at two places of a list -/
def gapL (l : List Sta) (i k : Nat) : Int := match l[i]?, l[k]? with
  | some x, some y => farI x y
  | _, _ => 0
theorem gapL_at {l : List Sta} {i k : Nat} {x y : Sta} (hx : l[i]? = some x) (hy : l[k]? = some y) : gapL l i k = farI x y := by simp [gapL, hx, hy]
theorem gapL_bd (l : List Sta) (i k : Nat) : 0 ≤ gapL l i k ∧ gapL l i k < 360000 := by
  unfold gapL
  split
  · exact farI_bd _ _
  · omega
/-- the length of the first m lines -/
def lenSum (l : List Sta) (L : List (List Int)) : Nat → Int
  | 0 => 0
  | m + 1 => lenSum l L m + gapL l ((L.getD m []).getD 0 0).toNat ((L.getD m []).getD 1 0).toNat
theorem lenSum_bd (l : List Sta) (L : List (List Int)) (m : Nat) : 0 ≤ lenSum l L m ∧ lenSum l L m ≤ 360000 * m := by
  induction m with
  | zero => simp [lenSum]
  | succ m ih => have := gapL_bd l ((L.getD m []).getD 0 0).toNat ((L.getD m []).getD 1 0).toNat; rw [lenSum]; omega
theorem lenSum_at {l : List Sta} {L : List (List Int)} {m u v : Nat} {x y : Sta} (h : L[m]? = some [(u : Int), (v : Int)]) (hx : l[u]? = some x) (hy : l[v]? = some y) : lenSum l L (m + 1) = lenSum l L m + farI x y := by
  have e : L.getD m [] = [(u : Int), (v : Int)] := by rw [List.getD_eq_getElem?_getD, h]; rfl
  rw [lenSum, e]
  simp [gapL_at hx hy]
/-- what FigureLength answers -/
def flenO (nm : ByteArray) (L : List (List Int)) (l : List Sta) : Int × Int := if vFig nm L l then (lenSum l L L.length, 0) else (0, 1)
theorem flenO_no {nm : ByteArray} {L : List (List Int)} {l : List Sta} (h : vFig nm L l = false) : flenO nm L l = (0, 1) := by simp [flenO, h]
theorem flenO_yes {nm : ByteArray} {L : List (List Int)} {l : List Sta} (h : vFig nm L l = true) : flenO nm L l = (lenSum l L L.length, 0) := by simp [flenO, h]
set_option maxRecDepth 100000 in
set_option maxHeartbeats 4000000 in
theorem FigureLength_any (nm : ByteArray) (B : Option Addr) (p q : Nat) (L : List (List Int)) (A : Option Addr) (n c : Nat) (l : List Sta) (w : World) (hSin : SinOk w) (hp : L.length = p) (hp2 : p ≤ 9223372036854775807) (hB : Lists w B L) (hl : l.length = n) (hn : n ≤ 9223372036854775807) (hS : Stars w A l) :
    Calls Tryd.prog 23 #[.agg #[.string nm, .slice B p q], .slice A n c] w fun e w' => e = .returned (.tuple #[.int .i64 (flenO nm L l).1, .int .i64 (flenO nm L l).2]) ∧ Below w.heap.size w w' := by
  have hb0 : Below w.heap.size w (w.alloc (.cells #[.string nm, .slice B p q] 40)) := below_alloc (Below.refl _ _) _
  have hX0 : Blk (w.alloc (.cells #[.string nm, .slice B p q] 40)) w.heap.size 40 (figCells nm B p q) := Blk.new _ _ _
  have C := Lib.hid (ValidFigure_any nm B p q L A n c l _ hp hp2 (hB.below hb0) hl hn (hS.below hb0))
  have HP := Lib.hid hp; clear hp
  have HL := Lib.hid hl; clear hl
  cases hv : vFig nm L l with
  | false =>
    have HO := Lib.hid (flenO_no hv)
    rw [hv] at C
    clear hv hB
    go_enter Tryd.func23, Tryd.ntmps23
    go_wp2_with (refine C.out.mono ?_; rintro e w1 ⟨rfl, hb1⟩)
    go_ret2
    exact ⟨by rw [HO.out]; rfl, below_step hb0 hb1⟩
  | true =>
    have HO := Lib.hid (flenO_yes hv)
    rw [HP.out] at HO
    have HV := Lib.hid (vFig_lines hv)
    have HVS := Lib.hid (vFig_stars hv)
    have h24 : n ≤ 24 := by have := vStars_len HVS.out; have := HL.out; omega
    have h16 : p ≤ 16 := by have := vLines_len HV.out; have := HP.out; omega
    rw [hv] at C
    clear hv
    go_enter Tryd.func23, Tryd.ntmps23
    go_wp2_with (refine C.out.mono ?_; rintro e w1 ⟨rfl, hb1⟩; have hX1 := hX0.keep hb1; obtain ⟨x0, x1⟩ := hX1.fig)
    have hbb := below_step hb0 hb1
    clear hb0 hX0 hb1 C hX1 x0 x1
    go_loopw [6, 8, 16] (fun s6 _ s wr => ∃ (k : Nat) (z : Int), k ≤ p ∧ s = .int .i64 (k : Int) ∧ s6 = .int .i64 z ∧ z = lenSum l L k ∧ Below w.heap.size w wr) (fun _ _ s _ => p - (intOf s).toNat)
    case atStart => exact ⟨0, 0, by omega, rfl, rfl, rfl, hbb⟩
    case round =>
      clear hbb
      obtain ⟨k, z, hk, rfl, rfl, hz, hb⟩ := hrel
      obtain ⟨z0, z1⟩ := lenSum_bd l L k
      rw [← hz] at z0 z1
      have HZ := Lib.hid hz; clear hz
      by_cases hlt : k < p
      · obtain ⟨x, hx⟩ := at_lt (l := L) (k := k) (by have := HP.out; omega)
        obtain ⟨u, v, rfl, hu0, huv, hvn⟩ := lineOk_two (vLines_ok HV.out hx)
        rw [HL.out] at hvn
        obtain ⟨u, rfl⟩ : ∃ u' : Nat, u = u' := ⟨u.toNat, by omega⟩
        obtain ⟨v, rfl⟩ : ∃ v' : Nat, v = v' := ⟨v.toNat, by omega⟩
        obtain ⟨sx, hsx⟩ := at_lt (l := l) (k := u) (by have := HL.out; omega)
        obtain ⟨sy, hsy⟩ := at_lt (l := l) (k := v) (by have := HL.out; omega)
        have HX := Lib.hid (lenSum_at hx hsx hsy)
        have ax := ok_ang (vStars_ok HVS.out hsx)
        have ay := ok_ang (vStars_ok HVS.out hsy)
        obtain ⟨b, o, rfl, hc⟩ := hB.below hb (by have := HP.out; omega)
        obtain ⟨A1, c1, e0, e1, _, _, e4⟩ := hc k _ hx
        obtain ⟨b1, o1, rfl, q0, q1⟩ := ints_two e4
        simp only [List.length_cons, List.length_nil, Nat.zero_add, Nat.reduceAdd] at e0 e1
        have l0 := World.block_lt_of_cell? wr _ e0
        have l1 := World.block_lt_of_cell? wr _ q0
        dsimp only at l0 l1
        have hA2 := hS.below hb
        have hSr := hSin.of_below hb
        have C : Hid (∀ W : Later wr, Calls Tryd.prog 67 #[.slice A n c, .int .i64 u, .int .i64 v] W.w fun e w' => e = .returned (.int .i64 (farI sx sy)) ∧ Below W.w.heap.size W.w w') := fun W => starGap_any A n c l u v sx sy _ (hSr.later W) HL.out (by omega) (hA2.later W) hsx hsy ax ay
        obtain ⟨f0, f1⟩ := farI_bd sx sy
        have ws : IntKind.i64.wrap (z + farI sx sy) = z + farI sx sy := IntWalk.i64_in _ (by omega)
        clear hc hx e4 hsx hsy ax ay hA2 hSr
        generalize farI sx sy = far at *
        go_wp2_with (fail)
        (refine later_intro_wp ?_; intro y)
        (refine wp_region_later (by kernel_rfl) (by kernel_rfl) ?_; (repeat (first | go_big_quiet_step ((go_at_call 67; exact later_below (C.out _))) | quiet_step ((go_at_call 67; exact later_below (C.out _))))); refine wpQuiet_nil ?_; rintro _ ⟨y, rfl⟩)
        clear ws
        go_wp2_with (fail)
        go_roundw
        case rel => exact ⟨k + 1, z + far, by omega, by go_num, rfl, by rw [HX.out, HZ.out], below_later hb _⟩
        case measure => simp [intOf]; omega
      · obtain rfl : k = p := by omega
        go_wp2_with (fail)
        go_ret2
        exact ⟨by rw [HO.out, ← HZ.out]; rfl, hb⟩
set_option maxRecDepth 100000 in
set_option maxHeartbeats 4000000 in
theorem sFigureLength_any (nm : ByteArray) (B : Option Addr) (p q : Nat) (L : List (List Int)) (A : Option Addr) (n c : Nat) (l : List Sta) (w : World) (hp : L.length = p) (hp2 : p ≤ 9223372036854775807) (hB : Lists w B L) (hl : l.length = n) (hn : n ≤ 9223372036854775807) (hS : Stars w A l) :
    Calls Tryd.prog 21 #[.agg #[.string nm, .slice B p q], .slice A n c] w fun e w' => e = .returned (.tuple #[.int .i64 (flenO nm L l).1, .int .i64 (flenO nm L l).2]) ∧ Below w.heap.size w w' := by
  have hb0 : Below w.heap.size w (w.alloc (.cells #[.string nm, .slice B p q] 40)) := below_alloc (Below.refl _ _) _
  have hX0 : Blk (w.alloc (.cells #[.string nm, .slice B p q] 40)) w.heap.size 40 (figCells nm B p q) := Blk.new _ _ _
  obtain ⟨x0, x1⟩ := hX0.fig
  have C := Lib.hid (l08Ok_any w.heap.size nm B p q L A n c l _ x0 x1 hp hp2 (hB.below hb0) hl hn (hS.below hb0))
  have HP := Lib.hid hp; clear hp x0 x1
  have HL := Lib.hid hl; clear hl
  cases hv : vFig nm L l with
  | false =>
    have HO := Lib.hid (flenO_no hv)
    rw [hv] at C
    clear hv hB
    go_enter Tryd.func21, Tryd.ntmps21
    go_wp2_with (refine C.out.mono ?_; rintro e w1 ⟨rfl, hb1⟩)
    go_ret2
    exact ⟨by rw [HO.out]; rfl, below_step hb0 hb1⟩
  | true =>
    have HO := Lib.hid (flenO_yes hv)
    rw [HP.out] at HO
    have HV := Lib.hid (vFig_lines hv)
    have HVS := Lib.hid (vFig_stars hv)
    have h24 : n ≤ 24 := by have := vStars_len HVS.out; have := HL.out; omega
    have h16 : p ≤ 16 := by have := vLines_len HV.out; have := HP.out; omega
    rw [hv] at C
    clear hv
    go_enter Tryd.func21, Tryd.ntmps21
    go_wp2_with (refine C.out.mono ?_; rintro e w1 ⟨rfl, hb1⟩)
    have hX1 := hX0.keep hb1
    have hbb := below_step hb0 hb1
    have hXl := hX1.lt
    clear hb0 hX0 hb1 C
    go_loopw [6, 7] (fun s6 s wr => ∃ (k : Nat) (z : Int), k ≤ p ∧ s = .int .i64 (k : Int) ∧ s6 = .int .i64 z ∧ z = lenSum l L k ∧ Below w1.heap.size w1 wr) (fun _ s _ => p - (intOf s).toNat)
    case atStart => exact ⟨0, 0, by omega, rfl, rfl, rfl, Below.refl _ _⟩
    case round =>
      obtain ⟨k, z, hk, rfl, rfl, hz, hb1⟩ := hrel
      have hb := below_step hbb hb1
      obtain ⟨z0, z1⟩ := lenSum_bd l L k
      rw [← hz] at z0 z1
      have HZ := Lib.hid hz; clear hz
      obtain ⟨x0, x1⟩ := (hX1.keep hb1).fig
      have lX : w.heap.size < wr.heap.size := (hX1.keep hb1).lt
      by_cases hlt : k < p
      · obtain ⟨x, hx⟩ := at_lt (l := L) (k := k) (by have := HP.out; omega)
        obtain ⟨u, v, rfl, hu0, huv, hvn⟩ := lineOk_two (vLines_ok HV.out hx)
        rw [HL.out] at hvn
        obtain ⟨u, rfl⟩ : ∃ u' : Nat, u = u' := ⟨u.toNat, by omega⟩
        obtain ⟨v, rfl⟩ : ∃ v' : Nat, v = v' := ⟨v.toNat, by omega⟩
        obtain ⟨sx, hsx⟩ := at_lt (l := l) (k := u) (by have := HL.out; omega)
        obtain ⟨sy, hsy⟩ := at_lt (l := l) (k := v) (by have := HL.out; omega)
        have HX := Lib.hid (lenSum_at hx hsx hsy)
        have ax := ok_ang (vStars_ok HVS.out hsx)
        have ay := ok_ang (vStars_ok HVS.out hsy)
        obtain ⟨b, o, rfl, hc⟩ := hB.below hb (by have := HP.out; omega)
        obtain ⟨A1, c1, e0, e1, _, _, e4⟩ := hc k _ hx
        obtain ⟨b1, o1, rfl, q0, q1⟩ := ints_two e4
        simp only [List.length_cons, List.length_nil, Nat.zero_add, Nat.reduceAdd] at e0 e1
        have l0 := World.block_lt_of_cell? wr _ e0
        have l1 := World.block_lt_of_cell? wr _ q0
        dsimp only at l0 l1
        obtain ⟨sb, so, rfl, hcs⟩ := hS.below hb (by have := HL.out; omega)
        have s1 := hcs u sx hsx
        have s2 := hcs v sy hsy
        have C : Hid (∀ W : Later wr, Calls Tryd.prog 55 #[.pointer (some ⟨sb, so + u * 5, none⟩), .pointer (some ⟨sb, so + v * 5, none⟩)] W.w fun e w' => e = .returned (.int .i64 (farI sx sy)) ∧ Below W.w.heap.size W.w w') := fun W => l08Far_any sb _ sb _ sx sy _ (s1.below W.below) (s2.below W.below) ax ay
        have huI : (u : Int) < (n : Int) := by omega
        have hvI : (v : Int) < (n : Int) := by omega
        obtain ⟨f0, f1⟩ := farI_bd sx sy
        have ws : IntKind.i64.wrap (z + farI sx sy) = z + farI sx sy := IntWalk.i64_in _ (by omega)
        clear hc hx e4 hsx hsy ax ay hcs s1 s2
        generalize farI sx sy = far at *
        go_wp2_with (fail)
        (refine later_intro_wp ?_; intro y)
        (refine wp_region_later (by kernel_rfl) (by kernel_rfl) ?_; (repeat (first | go_big_quiet_step ((go_at_call 55; exact later_below (C.out _))) | quiet_step ((go_at_call 55; exact later_below (C.out _))))); refine wpQuiet_nil ?_; rintro _ ⟨y, rfl⟩)
        clear ws
        go_wp2_with (fail)
        go_roundw
        case rel => exact ⟨k + 1, z + far, by omega, by go_num, rfl, by rw [HX.out, HZ.out], below_later hb1 _⟩
        case measure => simp [intOf]; omega
      · obtain rfl : k = p := by omega
        go_wp2_with (fail)
        go_ret2
        exact ⟨by rw [HO.out, ← HZ.out]; rfl, hb⟩
end Go.Proofs.YtbpjnopnhmoigaaDoor
