/- Contracts of the functions that draw a site and three angles. -/
import Derived.Test.YtpnfhienffekoaaDoorDrawL
import Derived.Test.YtpnfhienffekoaaDoorGrpNum
import Derived.Deep.RegionHeld3
namespace Go.Proofs.YtpnfhienffekoaaDoor
set_option linter.unusedVariables false
set_option linter.unusedSimpArgs false
open Go.RowKit
/-- a site and three angles -/
def FourDrawn (g a B : Nat) (w : World) (e : Ending) (w' : World) : Prop := ∃ (s : ByteArray) (lo la x y d : Int), e = .returned (.tuple #[.agg #[.string s, .int .i64 lo, .int .i64 la], .int .i64 x, .int .i64 y, .int .i64 d]) ∧ (-90001 ≤ d ∧ d ≤ 90001) ∧ (-1 ≤ x ∧ x ≤ 360000) ∧ (-1 ≤ y ∧ y ≤ 360000) ∧ Src w' g a B ∧ w.grownBy w' (some g)
theorem turn_small {y : Int} (h : y ∈ ([-1, 0, 359999, 360000] : List Int) ∨ (0 ≤ y ∧ y < 360000)) : -1 ≤ y ∧ y ≤ 360000 := by
  rcases h with h | h
  · simp only [List.mem_cons, List.not_mem_nil, or_false] at h; omega
  · omega
set_option maxRecDepth 100000 in
set_option maxHeartbeats 4000000 in
theorem l06DrawFour_any (g a B : Nat) (w : World) (h : Src w g a B) (ha : a ≤ 999999000) (hB : B ≤ w.heap.size) :
    Calls Tryd.prog 15 #[.pointer (some ⟨g, 0, none⟩)] w (FourDrawn g (a + 50) B w) := by
  have hgl := h.lt
  go_enter Tryd.func15, Tryd.ntmps15
  go_wp2_with (fail)
  refine calls_named ?_
  intro W1 e1
  have hb1 : Below w.heap.size w W1 := by rw [e1]; exact below_alloc (Below.refl _ _) _
  have hR1 : Blk W1 w.heap.size 25 [.string ⟨#[]⟩, .int .i64 0, .int .i64 0] := by rw [e1]; exact Blk.new w _ _
  clear e1
  have hS1 := h.keep hb1
  have hG1 := grown_of_below hb1 (some g)
  have hz1 := hb1.size
  clear hb1
  refine (l06Draw_any g a B W1 hS1 (by omega) (by omega)).mono ?_
  rintro e w3 ⟨s, lo, la, rfl, hS3, hg3⟩
  have hR3 := hR1.grown hg3 (fun p hp => by injection hp with hp; omega)
  have hG3 := grown_trans0 hG1 hg3
  have hrl := hR3.lt
  clear hR1 hG1 hg3 hS1
  go_wp2_with (fail)
  refine calls_named ?_
  intro W4 e4
  have hb4 : Below w3.heap.size w3 W4 := by rw [e4]; exact below_alloc (Below.refl _ _) _
  have hX4 : Blk W4 w3.heap.size 25 [.string s, .int .i64 lo, .int .i64 la] := by rw [e4]; exact Blk.new w3 _ _
  have hR4 := hR3.keep hb4
  have hS4 := hS3.keep hb4
  have hG4 := grown_trans0 hG3 (grown_of_below hb4 (some g))
  have hgl3 := hS3.lt
  clear e4 hR3 hS3 hG3 hb4
  generalize w3.heap.size = q at *
  refine (l06DrawTurn_any g (a + 14) B W4 hS4 (by omega)).mono ?_
  rintro e w5 ⟨y, rfl, hy, hS5, hg5⟩
  have HY := Lib.hid (turn_small hy)
  have hX5 := hX4.grown hg5 (fun p hp => by injection hp with hp; omega)
  have hR5 := hR4.grown hg5 (fun p hp => by injection hp with hp; omega)
  have hG5 := grown_trans0 hG4 hg5
  clear hX4 hR4 hS4 hG4 hg5 hy
  go_wp2_with (fail)
  refine (l06DrawTurn_any g (a + 14 + 6) B w5 hS5 (by omega)).mono ?_
  rintro e w6 ⟨z, rfl, hz, hS6, hg6⟩
  have HZ := Lib.hid (turn_small hz)
  have hX6 := hX5.grown hg6 (fun p hp => by injection hp with hp; omega)
  have hR6 := hR5.grown hg6 (fun p hp => by injection hp with hp; omega)
  have hG6 := grown_trans0 hG5 hg6
  clear hX5 hR5 hS5 hG5 hg6 hz
  obtain ⟨x0, x1, x2⟩ := hX6.three
  have hql := hX6.lt
  have hne : w.heap.size ≠ q := by omega
  go_wp2_with (fail)
  go_region_held3 (fun w' => w'.cell? ⟨q, 0, none⟩ = some (.string s) ∧ w'.cell? ⟨q, 1, none⟩ = some (.int .i64 lo) ∧ w'.cell? ⟨q, 2, none⟩ = some (.int .i64 la))
    ((refine ⟨?_, ?_, ?_⟩ <;> ((with_reducible (repeat (first | assumption | refine heldV_alloc _ ?_ | refine heldV_drew ?_ | refine heldV_set (by assumption) ?_)); done))))
    (first
      | (go_at_call 35; refine (l04DrawLatitude_any g (a + 14 + 6 + 6) B _ (hS6.keep (by first | exact Below.refl _ _ | exact below_drew0 (Below.refl _ _))) (by omega)).mono ?_; rintro e w7 ⟨d, rfl, hd, hS7, hg7⟩; have hg67 : w6.grownBy w7 (some g) := grown_trans0 (grown_of_below (by first | exact Below.refl _ _ | exact below_drew0 (Below.refl _ _)) (some g)) hg7; have hX7 := hX6.grown hg67 (fun p hp => by injection hp with hp; omega); obtain ⟨y0, y1, y2⟩ := hX7.three; have hR7 := hR6.grown hg67 (fun p hp => by injection hp with hp; omega); obtain ⟨r0, r1, r2⟩ := hR7.three; have f0 := hR7.frozen 0; have f1 := hR7.frozen 1; have f2 := hR7.frozen 2; have hql7 := hX7.lt; have hrl7 := hR7.lt))
  have hG7 := grown_trans0 hG6 hg67
  have HD : Hid (-90001 ≤ d ∧ d ≤ 90001) := Lib.hid (by
    rcases hd with hd | hd
    · simp only [List.mem_cons, List.not_mem_nil, or_false] at hd; omega
    · omega)
  go_wp2_with (fail)
  obtain ⟨WF, hWF, hSF, hGF, z0, z1, z2⟩ := draw_fin3 hR7 hS7 hG7 hB (Nat.le_refl _) (.string s) (.int .i64 lo) (.int .i64 la)
  rw [← hWF] at *
  clear hWF
  refine bodyPost_ret (v := .tuple #[.agg #[.string s, .int .i64 lo, .int .i64 la], .int .i64 y, .int .i64 z, .int .i64 d]) (by simp [results, Tryd.results15, go_sem, z0, z1, z2]) rfl ⟨s, lo, la, y, z, d, rfl, HD.out, HY.out, HZ.out, hSF.mono (by omega), hGF⟩
/-- what drawing from bytes leaves -/
def FourPost (w : World) (e : Ending) (w' : World) : Prop := ∃ (s : ByteArray) (lo la x y d : Int), e = .returned (.tuple #[.agg #[.string s, .int .i64 lo, .int .i64 la], .int .i64 x, .int .i64 y, .int .i64 d]) ∧ (-90001 ≤ d ∧ d ≤ 90001) ∧ (-1 ≤ x ∧ x ≤ 360000) ∧ (-1 ≤ y ∧ y ≤ 360000) ∧ Below w.heap.size w w'
set_option maxRecDepth 100000 in
set_option maxHeartbeats 4000000 in
theorem DrawHorizontal_any (A : Option Addr) (n c : Nat) (bs : List Int) (w : World) (hl : bs.length = n) (hn : n ≤ 1048576) (hA : Bytes w A bs) (hok : ∀ x ∈ bs, ByteOk x) :
    Calls Tryd.prog 5 #[.slice A n c] w (FourPost w) := by
  go_enter Tryd.func5, Tryd.ntmps5
  go_wp2_with (fail)
  refine calls_named ?_
  intro W1 e1
  have hb1 : Below w.heap.size w W1 := by rw [e1]; exact below_alloc (Below.refl _ _) _
  have hR1 : Blk W1 w.heap.size 25 [.string ⟨#[]⟩, .int .i64 0, .int .i64 0] := by rw [e1]; exact Blk.new w _ _
  clear e1
  refine (l00From_any A n c bs W1 hl hn (hA.below hb1) hok).mono ?_
  rintro e w2 ⟨rfl, hS2, hb2⟩
  have hR2 := hR1.keep hb2
  have hbW := below_step hb1 hb2
  have hgl := hS2.lt
  have hrg : w.heap.size < W1.heap.size := hR1.lt
  clear hR1 hb1 hb2
  generalize W1.heap.size = g at *
  go_wp2_with (fail)
  refine (l06DrawFour_any g 0 (g + 1) w2 hS2 (by omega) hgl).mono ?_
  rintro e w3 ⟨s, lo, la, x, y, d, rfl, hd, hx, hy, hS3, hg3⟩
  have hR3 := hR2.grown hg3 (fun p hp => by injection hp with hp; omega)
  have hbW3 := below_of_grown hbW hg3 hbW.size (fun p hp => by injection hp with hp; omega)
  obtain ⟨r0, r1, r2⟩ := hR3.three
  have f0 := hR3.frozen 0
  have f1 := hR3.frozen 1
  have f2 := hR3.frozen 2
  have hrl := hR3.lt
  have HD := Lib.hid (And.intro hd (And.intro hx hy))
  clear hR2 hbW hg3 hd hx hy
  go_wp2_with (fail)
  have hbF : Below w.heap.size w (((w3.setCell ⟨w.heap.size, 0, none⟩ (.string s)).setCell ⟨w.heap.size, 1, none⟩ (.int .i64 lo)).setCell ⟨w.heap.size, 2, none⟩ (.int .i64 la)) := below_setCell0 (below_setCell0 (below_setCell0 hbW3 (Nat.le_refl _) _) (Nat.le_refl _) _) (Nat.le_refl _) _
  have hBF : Blk (((w3.setCell ⟨w.heap.size, 0, none⟩ (.string s)).setCell ⟨w.heap.size, 1, none⟩ (.int .i64 lo)).setCell ⟨w.heap.size, 2, none⟩ (.int .i64 la)) w.heap.size 25 [.string s, .int .i64 lo, .int .i64 la] := ((hR3.set_ 0 (.string s)).set_ 1 (.int .i64 lo)).set_ 2 (.int .i64 la)
  generalize (((w3.setCell ⟨w.heap.size, 0, none⟩ (.string s)).setCell ⟨w.heap.size, 1, none⟩ (.int .i64 lo)).setCell ⟨w.heap.size, 2, none⟩ (.int .i64 la)) = WF at *
  obtain ⟨y0, y1, y2⟩ := hBF.three
  refine bodyPost_ret (v := .tuple #[.agg #[.string s, .int .i64 lo, .int .i64 la], .int .i64 x, .int .i64 y, .int .i64 d]) (by simp [results, Tryd.results5, go_sem, y0, y1, y2]) rfl ⟨s, lo, la, x, y, d, rfl, HD.out.1, HD.out.2.1, HD.out.2.2, hbF⟩
end Go.Proofs.YtpnfhienffekoaaDoor
