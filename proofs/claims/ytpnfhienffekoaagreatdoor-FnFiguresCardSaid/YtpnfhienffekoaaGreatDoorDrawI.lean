/- Contracts of the functions that draw a figure, and a figure and a site, from bytes. -/
import Derived.Test.YtpnfhienffekoaaGreatDoorDrawG
import Derived.Test.YtpnfhienffekoaaGreatDoorGrpNum
import Derived.Deep.RegionHeld3
namespace Go.Proofs.YtpnfhienffekoaaGreatDoor
set_option linter.unusedVariables false
set_option linter.unusedSimpArgs false
open Go.RowKit
/-- what drawing a figure from bytes leaves -/
def FigOut (w : World) (e : Ending) (w' : World) : Prop := ∃ (nm : ByteArray) (A : Option Addr) (c : Nat) (L : List (List Int)) (v : Value) (l : List Sta), e = .returned (.tuple #[.agg #[.string nm, .slice A L.length c], v]) ∧ RowsIn w' w.heap.size A L ∧ L.length ≤ 17 ∧ OwnS w' w.heap.size v l ∧ l.length ≤ 30 ∧ Below w.heap.size w w'
/-- a figure stored in the block handed back -/
theorem fig_store {w W : World} {b q r : Nat} {u0 u1 v : Value} {nm : ByteArray} {A : Option Addr} {c : Nat} {L : List (List Int)} {l : List Sta} (hR : Blk W r 63 [u0, u1]) (hrow : RowsIn W b A L) (hO : OwnS W b v l) (hB : Below q w W) (hr : r < b) (hq : q ≤ r) :
    ∃ WF, WF = ((W.setCell ⟨r, 0, none⟩ (.string nm)).setCell ⟨r, 1, none⟩ (.slice A L.length c)) ∧ WF.cell? ⟨r, 0, none⟩ = some (.string nm) ∧ WF.cell? ⟨r, 1, none⟩ = some (.slice A L.length c) ∧ RowsIn WF q A L ∧ OwnS WF q v l ∧ Below q w WF := by
  have hne : ∀ p, v.ownBlock = some p → p ≠ r := fun p hp => by have := (hO.lt p hp).1; omega
  have hF : Blk _ r 63 [.string nm, .slice A L.length c] := (hR.set_ 0 (.string nm)).set_ 1 (.slice A L.length c)
  exact ⟨_, rfl, hF.twoG.1, hF.twoG.2, ((hrow.far (p := ⟨r, 0, none⟩) (by show r < b; omega) _).far (p := ⟨r, 1, none⟩) (by show r < b; omega) _).base_le (by omega), ((hO.setNe hne).setNe hne).base_le (by omega), (hB.setCell hq _).setCell hq _⟩
set_option maxRecDepth 100000 in
set_option maxHeartbeats 4000000 in
theorem DrawFigureLength_any (A : Option Addr) (n c : Nat) (bs : List Int) (w : World) (hl : bs.length = n) (hn : n ≤ 1048576) (hA : Bytes w A bs) (hok : ∀ x ∈ bs, ByteOk x) :
    Calls Tryz.prog 32 #[.slice A n c] w (FigOut w) := by
  go_enter Tryz.func32, Tryz.ntmps32
  go_wp2_with (fail)
  refine calls_named ?_
  intro W1 e1
  have hb1 : Below w.heap.size w W1 := by rw [e1]; exact below_alloc (Below.refl _ _) _
  have hR1 : Blk W1 w.heap.size 63 [.string ⟨#[]⟩, .slice none 0 0] := by rw [e1]; exact Blk.new w _ _
  clear e1
  refine (l00From_any A n c bs W1 hl hn (hA.below hb1) hok).mono ?_
  rintro e w2 ⟨rfl, hS2, hb2⟩
  have hR2 := hR1.keep hb2
  have hbW := below_step hb1 hb2
  have hgl := hS2.lt
  have hrg : w.heap.size < W1.heap.size := hR1.lt
  clear hR1 hb1 hb2
  generalize W1.heap.size = g at *
  go_wp2_with (fail)
  refine (l08Draw_any g 0 (g + 1) w2 hS2 (by omega) hgl).mono ?_
  rintro e w3 ⟨nm, A3, c3, L, v, l, rfl, hrow, hL17, hO, hl30, hS3, hg3⟩
  have hR3 := hR2.grown hg3 (fun p hp => by injection hp with hp; omega)
  have hbW3 := below_of_grown hbW hg3 hbW.size (fun p hp => by injection hp with hp; omega)
  obtain ⟨r0, r1⟩ := hR3.twoG
  have f0 := hR3.frozen 0
  have f1 := hR3.frozen 1
  have hrl := hR3.lt
  have HROW := Lib.hid hrow
  have HO := Lib.hid hO
  have HR3 := Lib.hid hR3
  have HB3 := Lib.hid hbW3
  clear hR2 hbW hg3 hrow hO hR3 hbW3 hS3 hS2
  go_wp2_with (fail)
  obtain ⟨WF, hWF, d0, d1, d2, d3, d4⟩ := fig_store (nm := nm) (c := c3) HR3.out HROW.out HO.out HB3.out (by omega) (Nat.le_refl _)
  rw [← hWF]
  clear hWF r0 r1 f0 f1
  exact bodyPost_ret (v := .tuple #[.agg #[.string nm, .slice A3 L.length c3], v]) (by simp [results, Tryz.results32, go_sem, d0, d1]) rfl ⟨nm, A3, c3, L, v, l, rfl, d2, hL17, d3, hl30, d4⟩
/-- a figure and a site stored in the blocks handed back -/
theorem lines_store {w W : World} {b q r s : Nat} {u0 u1 u2 u3 u4 v : Value} {nm sn : ByteArray} {lo la : Int} {A : Option Addr} {c : Nat} {L : List (List Int)} {l : List Sta} (hR : Blk W r 63 [u0, u1]) (hT : Blk W s 71 [u2, u3, u4]) (hrow : RowsIn W b A L) (hO : OwnS W b v l) (hB : Below q w W) (hr : r < b) (hs : s < b) (hq : q ≤ r) (hq2 : q ≤ s) (hrs : r ≠ s) :
    (∃ WF, WF = (((((W.setCell ⟨r, 0, none⟩ (.string nm)).setCell ⟨r, 1, none⟩ (.slice A L.length c)).setCell ⟨s, 0, none⟩ (.string sn)).setCell ⟨s, 1, none⟩ (.int .i64 lo)).setCell ⟨s, 2, none⟩ (.int .i64 la)) ∧ WF.cell? ⟨r, 0, none⟩ = some (.string nm) ∧ WF.cell? ⟨r, 1, none⟩ = some (.slice A L.length c) ∧ (WF.cell? ⟨s, 0, none⟩ = some (.string sn) ∧ WF.cell? ⟨s, 1, none⟩ = some (.int .i64 lo) ∧ WF.cell? ⟨s, 2, none⟩ = some (.int .i64 la)) ∧ RowsIn WF q A L ∧ OwnS WF q v l ∧ Below q w WF) ∧
    (∃ WF, WF = (((((W.setCell ⟨s, 0, none⟩ (.string sn)).setCell ⟨s, 1, none⟩ (.int .i64 lo)).setCell ⟨s, 2, none⟩ (.int .i64 la)).setCell ⟨r, 0, none⟩ (.string nm)).setCell ⟨r, 1, none⟩ (.slice A L.length c)) ∧ WF.cell? ⟨r, 0, none⟩ = some (.string nm) ∧ WF.cell? ⟨r, 1, none⟩ = some (.slice A L.length c) ∧ (WF.cell? ⟨s, 0, none⟩ = some (.string sn) ∧ WF.cell? ⟨s, 1, none⟩ = some (.int .i64 lo) ∧ WF.cell? ⟨s, 2, none⟩ = some (.int .i64 la)) ∧ RowsIn WF q A L ∧ OwnS WF q v l ∧ Below q w WF) := by
  have hne : ∀ p, v.ownBlock = some p → p ≠ r := fun p hp => by have := (hO.lt p hp).1; omega
  have hne2 : ∀ p, v.ownBlock = some p → p ≠ s := fun p hp => by have := (hO.lt p hp).1; omega
  constructor
  · have hF : Blk _ r 63 [.string nm, .slice A L.length c] := (((((hR.set_ 0 (.string nm)).set_ 1 (.slice A L.length c)).far (p := ⟨s, 0, none⟩) hrs (.string sn)).far (p := ⟨s, 1, none⟩) hrs (.int .i64 lo)).far (p := ⟨s, 2, none⟩) hrs (.int .i64 la))
    have hX : Blk _ s 71 [.string sn, .int .i64 lo, .int .i64 la] := (((((hT.far (p := ⟨r, 0, none⟩) (Ne.symm hrs) (.string nm)).far (p := ⟨r, 1, none⟩) (Ne.symm hrs) (.slice A L.length c)).set_ 0 (.string sn)).set_ 1 (.int .i64 lo)).set_ 2 (.int .i64 la))
    exact ⟨_, rfl, hF.twoG.1, hF.twoG.2, hX.three, (((((hrow.far (p := ⟨r, 0, none⟩) hr _).far (p := ⟨r, 1, none⟩) hr _).far (p := ⟨s, 0, none⟩) hs _).far (p := ⟨s, 1, none⟩) hs _).far (p := ⟨s, 2, none⟩) hs _).base_le (by omega), (((((hO.setNe hne).setNe hne).setNe hne2).setNe hne2).setNe hne2).base_le (by omega), ((((hB.setCell hq _).setCell hq _).setCell hq2 _).setCell hq2 _).setCell hq2 _⟩
  · have hF : Blk _ r 63 [.string nm, .slice A L.length c] := (((((hR.far (p := ⟨s, 0, none⟩) hrs (.string sn)).far (p := ⟨s, 1, none⟩) hrs (.int .i64 lo)).far (p := ⟨s, 2, none⟩) hrs (.int .i64 la)).set_ 0 (.string nm)).set_ 1 (.slice A L.length c))
    have hX : Blk _ s 71 [.string sn, .int .i64 lo, .int .i64 la] := (((((hT.set_ 0 (.string sn)).set_ 1 (.int .i64 lo)).set_ 2 (.int .i64 la)).far (p := ⟨r, 0, none⟩) (Ne.symm hrs) (.string nm)).far (p := ⟨r, 1, none⟩) (Ne.symm hrs) (.slice A L.length c))
    exact ⟨_, rfl, hF.twoG.1, hF.twoG.2, hX.three, (((((hrow.far (p := ⟨s, 0, none⟩) hs _).far (p := ⟨s, 1, none⟩) hs _).far (p := ⟨s, 2, none⟩) hs _).far (p := ⟨r, 0, none⟩) hr _).far (p := ⟨r, 1, none⟩) hr _).base_le (by omega), (((((hO.setNe hne2).setNe hne2).setNe hne2).setNe hne).setNe hne).base_le (by omega), ((((hB.setCell hq2 _).setCell hq2 _).setCell hq2 _).setCell hq _).setCell hq _⟩
/-- what drawing a figure and a site from bytes leaves -/
def LinesOut (w : World) (e : Ending) (w' : World) : Prop := ∃ (nm : ByteArray) (A : Option Addr) (c : Nat) (L : List (List Int)) (v : Value) (l : List Sta) (s : ByteArray) (lo la sid : Int), e = .returned (.tuple #[.agg #[.string nm, .slice A L.length c], v, .agg #[.string s, .int .i64 lo, .int .i64 la], .int .i64 sid]) ∧ RowsIn w' w.heap.size A L ∧ L.length ≤ 17 ∧ OwnS w' w.heap.size v l ∧ l.length ≤ 30 ∧ Below w.heap.size w w'
set_option maxRecDepth 100000 in
set_option maxHeartbeats 4000000 in
theorem DrawVisibleLines_any (A : Option Addr) (n c : Nat) (bs : List Int) (w : World) (hl : bs.length = n) (hn : n ≤ 1048576) (hA : Bytes w A bs) (hok : ∀ x ∈ bs, ByteOk x) :
    Calls Tryz.prog 39 #[.slice A n c] w (LinesOut w) := by
  go_enter Tryz.func39, Tryz.ntmps39
  go_wp2_with (fail)
  refine calls_named ?_
  intro W1 e1
  have hb0 : Below w.heap.size w (w.alloc (.cells #[.string ⟨#[]⟩, .slice none 0 0] 63)) := below_alloc (Below.refl _ _) _
  have hb1 : Below w.heap.size w W1 := by rw [e1]; exact below_alloc hb0 _
  have hR1 : Blk W1 w.heap.size 63 [.string ⟨#[]⟩, .slice none 0 0] := by rw [e1]; exact (Blk.new w _ _).alloc _
  have hT1 : Blk W1 (w.heap.size + 1) 71 [.string ⟨#[]⟩, .int .i64 0, .int .i64 0] := by
    rw [e1]
    have := Blk.new (w.alloc (.cells #[.string ⟨#[]⟩, .slice none 0 0] 63)) 71 [.string ⟨#[]⟩, .int .i64 0, .int .i64 0]
    rw [World.size_alloc] at this; exact this
  clear e1 hb0
  refine (l00From_any A n c bs W1 hl hn (hA.below hb1) hok).mono ?_
  rintro e w2 ⟨rfl, hS2, hb2⟩
  have hR2 := hR1.keep hb2
  have hT2 := hT1.keep hb2
  have hbW := below_step hb1 hb2
  have hgl := hS2.lt
  have hrg : w.heap.size + 1 < W1.heap.size := hT1.lt
  clear hR1 hT1 hb1 hb2
  generalize W1.heap.size = g at *
  go_wp2_with (fail)
  refine (l08Draw_any g 0 (g + 1) w2 hS2 (by omega) hgl).mono ?_
  rintro e w3 ⟨nm, A3, c3, L, v, l, rfl, hrow, hL17, hO, hl30, hS3, hg3⟩
  have hrow := hrow.base_le (show g + 1 ≤ w2.heap.size from hgl)
  have hO := hO.base_le (show g + 1 ≤ w2.heap.size from hgl)
  have hR3 := hR2.grown hg3 (fun p hp => by injection hp with hp; omega)
  have hT3 := hT2.grown hg3 (fun p hp => by injection hp with hp; omega)
  have hbW3 := below_of_grown hbW hg3 hbW.size (fun p hp => by injection hp with hp; omega)
  have hz3 := hg3.size
  clear hR2 hT2 hbW hg3 hS2
  go_wp2_with (fail)
  refine calls_named ?_
  intro W4 e4
  have hb4 : Below w3.heap.size w3 W4 := by rw [e4]; exact below_alloc (Below.refl _ _) _
  have hF4 : Blk W4 w3.heap.size 63 [.string nm, .slice A3 L.length c3] := by rw [e4]; exact Blk.new w3 _ _
  have hvo4 : ∀ p, v.ownBlock = some p → p < w3.heap.size := fun p hp => (hO.lt p hp).2
  have hR4 := hR3.keep hb4
  have hT4 := hT3.keep hb4
  have hS4 := hS3.keep hb4
  have hO4 := hO.below hb4
  have hrow4 := hrow.below hb4
  have hbW4 := below_step hbW3 hb4
  have hgl3 := hS3.lt
  clear e4 hR3 hT3 hS3 hO hrow hbW3 hb4
  generalize w3.heap.size = q at *
  have hq4 := hF4.lt
  refine (l06Draw_any g (0 + 3000) (g + 1) W4 hS4 (by omega) (by omega)).mono ?_
  rintro e w5 ⟨s, lo, la, rfl, hS5, hg5⟩
  have hR5 := hR4.grown hg5 (fun p hp => by injection hp with hp; omega)
  have hT5 := hT4.grown hg5 (fun p hp => by injection hp with hp; omega)
  have hF5 := hF4.grown hg5 (fun p hp => by injection hp with hp; omega)
  have hO5 := hO4.only hg5 (fun p hp hq => by have := hO4.lt p hp; injection hq with hq; omega)
  have hrow5 := hrow4.grown hg5 (fun p hp => by injection hp with hp; omega)
  have hbW5 := below_of_grown hbW4 hg5 hbW4.size (fun p hp => by injection hp with hp; omega)
  have hq5 := hF5.lt
  clear hR4 hT4 hF4 hS4 hO4 hrow4 hbW4 hg5
  go_wp2_with (fail)
  refine wp_named ?_
  intro W6 e6
  have hb6 : Below w5.heap.size w5 W6 := by rw [e6]; exact below_alloc (Below.refl _ _) _
  have hX6 : Blk W6 w5.heap.size 71 [.string s, .int .i64 lo, .int .i64 la] := by rw [e6]; exact Blk.new w5 _ _
  have hR6 := hR5.keep hb6
  have hT6 := hT5.keep hb6
  have hF6 := hF5.keep hb6
  have hS6 := hS5.keep hb6
  have hO6 := hO5.below hb6
  have hrow6 := hrow5.below hb6
  have hbW6 := below_step hbW5 hb6
  have hgl5 := hS5.lt
  clear e6 hR5 hT5 hF5 hS5 hO5 hrow5 hbW5 hb6
  generalize w5.heap.size = x at *
  obtain ⟨x0, x1, x2⟩ := hX6.three
  obtain ⟨y0, y1⟩ := hF6.twoG
  have hxl := hX6.lt
  have hql := hF6.lt
  have hn1 : w.heap.size ≠ q := by omega
  have hn2 : w.heap.size ≠ x := by omega
  have hn3 : w.heap.size + 1 ≠ q := by omega
  have hn4 : w.heap.size + 1 ≠ x := by omega
  have HR6 := Lib.hid hR6
  have HT6 := Lib.hid hT6
  have HF6 := Lib.hid hF6
  have HX6 := Lib.hid hX6
  have HS6 := Lib.hid hS6
  have HO6 := Lib.hid hO6
  have HROW6 := Lib.hid hrow6
  have HBW6 := Lib.hid hbW6
  clear hR6 hT6 hF6 hX6 hS6 hO6 hrow6 hbW6
  go_wp2_with (fail)
  go_region_held3 (fun w' => w'.cell? ⟨x, 0, none⟩ = some (.string s) ∧ w'.cell? ⟨x, 1, none⟩ = some (.int .i64 lo) ∧ w'.cell? ⟨x, 2, none⟩ = some (.int .i64 la) ∧ w'.cell? ⟨q, 0, none⟩ = some (.string nm) ∧ w'.cell? ⟨q, 1, none⟩ = some (.slice A3 L.length c3))
    ((refine ⟨?_, ?_, ?_, ?_, ?_⟩ <;> ((with_reducible (repeat (first | assumption | refine heldV_alloc _ ?_ | refine heldV_drew ?_ | refine heldV_set (by assumption) ?_)); done))))
    (first
      | (go_at_call 92; refine (l06DrawTurn_any g (0 + 3000 + 14) (g + 1) _ (HS6.out.keep (by first | exact Below.refl _ _ | exact below_drew0 (Below.refl _ _))) (by omega)).mono ?_; rintro e w7 ⟨sid, rfl, hd, hS7, hg7⟩; have hg67 : W6.grownBy w7 (some g) := grown_trans0 (grown_of_below (by first | exact Below.refl _ _ | exact below_drew0 (Below.refl _ _)) (some g)) hg7; obtain ⟨z0, z1, z2⟩ := (HX6.out.grown hg67 (fun p hp => by injection hp with hp; omega)).three; obtain ⟨u0, u1⟩ := (HF6.out.grown hg67 (fun p hp => by injection hp with hp; omega)).twoG; have hR7 := HR6.out.grown hg67 (fun p hp => by injection hp with hp; omega); have hT7 := HT6.out.grown hg67 (fun p hp => by injection hp with hp; omega); obtain ⟨r0, r1⟩ := hR7.twoG; obtain ⟨t0, t1, t2⟩ := hT7.three; have f0 := hR7.frozen 0; have f1 := hR7.frozen 1; have g0 := hT7.frozen 0; have g1 := hT7.frozen 1; have g2 := hT7.frozen 2; have hrl7 := hR7.lt; have htl7 := hT7.lt; have HG67 := Lib.hid hg67; have HR7 := Lib.hid hR7; have HT7 := Lib.hid hT7; clear hS7 hg7 hd hg67 hR7 hT7))
  all_goals
    have hO7 := HO6.out.only HG67.out (fun p hp hq => by have := HO6.out.lt p hp; injection hq with hq; omega)
    have hrow7 := HROW6.out.grown HG67.out (fun p hp => by injection hp with hp; omega)
    have hb7 := below_of_grown HBW6.out HG67.out HBW6.out.size (fun p hp => by injection hp with hp; omega)
    obtain ⟨hst1, hst2⟩ := lines_store (nm := nm) (sn := s) (lo := lo) (la := la) (c := c3) HR7.out HT7.out hrow7 hO7 hb7 (by omega) (by omega) (Nat.le_refl _) (by omega) (by omega)
    have HST1 := Lib.hid hst1
    have HST2 := Lib.hid hst2
    clear hst1 hst2 hO7 hrow7 hb7
    go_wp2_with (fail)
    first
    | (
        obtain ⟨WF, hWF, d0, d1, ⟨d2, d3, d4⟩, d5, d6, d7⟩ := HST1.out
        rw [← hWF]
        clear hWF r0 r1 f0 f1 t0 t1 t2 g0 g1 g2 x0 x1 x2 y0 y1 z0 z1 z2 u0 u1
        exact bodyPost_ret (v := .tuple #[.agg #[.string nm, .slice A3 L.length c3], v, .agg #[.string s, .int .i64 lo, .int .i64 la], .int .i64 sid]) (by simp [results, Tryz.results39, go_sem, d0, d1, d2, d3, d4]) rfl ⟨nm, A3, c3, L, v, l, s, lo, la, sid, rfl, d5, hL17, d6, hl30, d7⟩)
    | (
        obtain ⟨WF, hWF, d0, d1, ⟨d2, d3, d4⟩, d5, d6, d7⟩ := HST2.out
        rw [← hWF]
        clear hWF r0 r1 f0 f1 t0 t1 t2 g0 g1 g2 x0 x1 x2 y0 y1 z0 z1 z2 u0 u1
        exact bodyPost_ret (v := .tuple #[.agg #[.string nm, .slice A3 L.length c3], v, .agg #[.string s, .int .i64 lo, .int .i64 la], .int .i64 sid]) (by simp [results, Tryz.results39, go_sem, d0, d1, d2, d3, d4]) rfl ⟨nm, A3, c3, L, v, l, s, lo, la, sid, rfl, d5, hL17, d6, hl30, d7⟩)
end Go.Proofs.YtpnfhienffekoaaGreatDoor
