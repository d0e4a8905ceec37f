/- Contracts of the functions that draw bent stars, starts of tours and budgets. -/
import Derived.Test.YtpnfhienffekoaaGreatDoorMgJ
import Derived.Test.YtpnfhienffekoaaGreatDoorDrawS
import Derived.Test.YtpnfhienffekoaaGreatDoorMgM
namespace Go.Proofs.YtpnfhienffekoaaGreatDoor
set_option linter.unusedVariables false
set_option linter.unusedSimpArgs false
open Go.RowKit
theorem Blk.five {w : World} {g : Nat} {t : TypeId} {v0 v1 v2 v3 v4 : Value} (h : Blk w g t [v0, v1, v2, v3, v4]) : w.cell? ⟨g, 0, none⟩ = some v0 ∧ w.cell? ⟨g, 1, none⟩ = some v1 ∧ w.cell? ⟨g, 2, none⟩ = some v2 ∧ w.cell? ⟨g, 3, none⟩ = some v3 ∧ w.cell? ⟨g, 4, none⟩ = some v4 :=
  ⟨by rw [h.cell]; rfl, by rw [h.cell]; rfl, by rw [h.cell]; rfl, by rw [h.cell]; rfl, by rw [h.cell]; rfl⟩
theorem draw_fin {w W : World} {g a B r : Nat} {t : TypeId} {u0 u1 u2 u3 u4 : Value} (hR : Blk W r t [u0, u1, u2, u3, u4]) (hS : Src W g a B) (hG : w.grownBy W (some g)) (hB : B ≤ r) (hr : w.heap.size ≤ r) (v0 v1 v2 v3 v4 : Value) :
    ∃ WF, WF = (((((W.setCell ⟨r, 0, none⟩ v0).setCell ⟨r, 1, none⟩ v1).setCell ⟨r, 2, none⟩ v2).setCell ⟨r, 3, none⟩ v3).setCell ⟨r, 4, none⟩ v4) ∧ Src WF g a B ∧ w.grownBy WF (some g) ∧ WF.cell? ⟨r, 0, none⟩ = some v0 ∧ WF.cell? ⟨r, 1, none⟩ = some v1 ∧ WF.cell? ⟨r, 2, none⟩ = some v2 ∧ WF.cell? ⟨r, 3, none⟩ = some v3 ∧ WF.cell? ⟨r, 4, none⟩ = some v4 := by
  have h : Blk _ r t [v0, v1, v2, v3, v4] := ((((hR.set_ 0 v0).set_ 1 v1).set_ 2 v2).set_ 3 v3).set_ 4 v4
  exact ⟨_, rfl, ((((hS.set hB 0 v0).set hB 1 v1).set hB 2 v2).set hB 3 v3).set hB 4 v4, grown_far (grown_far (grown_far (grown_far (grown_far hG hr 0 v0) hr 1 v1) hr 2 v2) hr 3 v3) hr 4 v4, h.five⟩
set_option maxRecDepth 100000 in
set_option maxHeartbeats 4000000 in
theorem l05BentOne_any (g a B : Nat) (w : World) (h : Src w g a B) (ha : a ≤ 999999800) (hB : B ≤ w.heap.size) :
    Calls Tryz.prog 151 #[.pointer (some ⟨g, 0, none⟩)] w fun e w' => ∃ x : Sta, e = .returned (.agg #[.string x.id, .int .i64 x.ri, .int .i64 x.de, .int .i64 x.ma, .int .i64 x.co]) ∧ Src w' g (a + 16) B ∧ w.grownBy w' (some g) := by
  have hgl := h.lt
  go_enter Tryz.func151, Tryz.ntmps151
  go_wp2_with (fail)
  refine calls_named ?_
  intro W1 e1
  have hb1 : Below w.heap.size w W1 := by rw [e1]; exact below_alloc (Below.refl _ _) _
  have hR1 : Blk W1 w.heap.size 46 [.string ⟨#[]⟩, .int .i64 0, .int .i64 0, .int .i64 0, .int .i64 0] := by rw [e1]; exact Blk.new w _ _
  clear e1
  have hbs := hb1.size
  refine (l05DrawOne_any g a B W1 (h.keep hb1) (by omega) (by omega)).mono ?_
  rintro e w2 ⟨⟨s, x1, x2, x3, x4⟩, rfl, hok, _, hS2, hg2⟩
  dsimp only
  have hR2 := hR1.grown hg2 (fun p hp => by injection hp with hp; omega)
  have hG2 := grown_trans0 (grown_of_below hb1 (some g)) hg2
  have hgl2 := hR2.lt
  clear hok hR1 hg2 hb1
  go_wp2_with (fail)
  refine calls_named ?_
  intro W3 e3
  have hb3 : Below w2.heap.size w2 W3 := by rw [e3]; exact below_alloc (Below.refl _ _) _
  have hX3 : Blk W3 w2.heap.size 46 [.string s, .int .i64 x1, .int .i64 x2, .int .i64 x3, .int .i64 x4] := by rw [e3]; exact Blk.new w2 _ _
  have hR3 := hR2.keep hb3
  have hS3 := hS2.keep hb3
  have hG3 := grown_trans0 hG2 (grown_of_below hb3 (some g))
  clear e3 hb3 hR2 hS2 hG2
  generalize w2.heap.size = q at *
  refine (pick_any g (a + 10) B 20 W3 hS3 (by omega) (by omega)).mono ?_
  rintro e w4 ⟨k, rfl, hk, hS4, hg4⟩
  have hX4 := hX3.grown hg4 (fun p hp => by injection hp with hp; omega)
  have hR4 := hR3.grown hg4 (fun p hp => by injection hp with hp; omega)
  have hG4 := grown_trans0 hG3 hg4
  have hq4 := hX4.lt
  clear hX3 hR3 hG3 hS3 hg4
  by_cases k0 : k = 0
  · subst k0
    go_wp2_with (fail)
    refine calls_named ?_
    intro W5 e5
    have hbA : Below w4.heap.size w4 W5 := by rw [e5]; exact below_alloc (Below.refl _ _) _
    have hN : Blk W5 w4.heap.size 2 (numCells [-1, 0, 359999, 360000]) := by rw [e5]; exact Blk.new w4 _ _
    have hX5 := hX4.keep hbA
    have hR5 := hR4.keep hbA
    have hS5 := hS4.keep hbA
    have hG5 := grown_trans0 hG4 (grown_of_below hbA (some g))
    have hgl4 := hS4.lt
    clear e5 hbA hX4 hR4 hS4 hG4
    refine (among_any g (a + 12) B w4.heap.size 4 4 [-1, 0, 359999, 360000] W5 hS5 (by omega) rfl (by omega) (by omega) (by omega) hN).mono ?_
    rintro e w6 ⟨y, rfl, _, hS6, hg6⟩
    have hX6 := hX5.grown hg6 (fun p hp => by injection hp with hp; omega)
    have hR6 := hR5.grown hg6 (fun p hp => by injection hp with hp; omega)
    have hG6 := grown_trans0 hG5 hg6
    have ff := hX6.frozen 1
    have dd : w6.cell? ⟨q, 1, none⟩ = some (.int .i64 x1) := by rw [hX6.cell]; rfl
    have hql := hX6.lt
    clear hX5 hR5 hG5 hS5 hg6 hN
    go_upto_region 11 with (fail)
    refine wp_named ?_
    intro V e
    have hX : Blk V q 46 [.string s, .int .i64 y, .int .i64 x2, .int .i64 x3, .int .i64 x4] := by rw [e]; exact hX6.set_ 1 _
    have hR := hR6.far (p := ⟨q, 1, none⟩) (by show w.heap.size ≠ q; omega) (.int .i64 y)
    have hS := hS6.set (q := q) (by omega) 1 (.int .i64 y)
    have hG := grown_far hG6 (q := q) (by omega) 1 (.int .i64 y)
    rw [← e] at hR hS hG
    clear e hX6 hR6 hS6 hG6 ff dd hql
    obtain ⟨c0, c1, c2, c3, c4⟩ := hX.five
    obtain ⟨r0, r1, r2, r3, r4⟩ := hR.five
    have f0 := hR.frozen 0; have f1 := hR.frozen 1; have f2 := hR.frozen 2; have f3 := hR.frozen 3; have f4 := hR.frozen 4
    clear hX
    go_wp2_with (fail)
    obtain ⟨WF, hWF, hSF, hGF, z0, z1, z2, z3, z4⟩ := draw_fin hR hS hG hB (Nat.le_refl _) (.string s) (.int .i64 y) (.int .i64 x2) (.int .i64 x3) (.int .i64 x4)
    rw [← hWF]
    clear hWF hR hS hG r0 r1 r2 r3 r4 c0 c1 c2 c3 c4 f0 f1 f2 f3 f4
    refine bodyPost_ret (v := .agg #[.string s, .int .i64 y, .int .i64 x2, .int .i64 x3, .int .i64 x4]) (by simp [results, Tryz.results151, go_sem, *]) rfl ⟨⟨s, y, x2, x3, x4⟩, rfl, hSF.mono (by omega), hGF⟩
  by_cases k1 : k = 1
  · subst k1
    go_wp2_with (fail)
    refine calls_named ?_
    intro W5 e5
    have hbA : Below w4.heap.size w4 W5 := by rw [e5]; exact below_alloc (Below.refl _ _) _
    have hN : Blk W5 w4.heap.size 2 (numCells [-90001, -90000, 90000, 90001]) := by rw [e5]; exact Blk.new w4 _ _
    have hX5 := hX4.keep hbA
    have hR5 := hR4.keep hbA
    have hS5 := hS4.keep hbA
    have hG5 := grown_trans0 hG4 (grown_of_below hbA (some g))
    have hgl4 := hS4.lt
    clear e5 hbA hX4 hR4 hS4 hG4
    refine (among_any g (a + 12) B w4.heap.size 4 4 [-90001, -90000, 90000, 90001] W5 hS5 (by omega) rfl (by omega) (by omega) (by omega) hN).mono ?_
    rintro e w6 ⟨y, rfl, _, hS6, hg6⟩
    have hX6 := hX5.grown hg6 (fun p hp => by injection hp with hp; omega)
    have hR6 := hR5.grown hg6 (fun p hp => by injection hp with hp; omega)
    have hG6 := grown_trans0 hG5 hg6
    have ff := hX6.frozen 2
    have dd : w6.cell? ⟨q, 2, none⟩ = some (.int .i64 x2) := by rw [hX6.cell]; rfl
    have hql := hX6.lt
    clear hX5 hR5 hG5 hS5 hg6 hN
    go_upto_region 11 with (fail)
    refine wp_named ?_
    intro V e
    have hX : Blk V q 46 [.string s, .int .i64 x1, .int .i64 y, .int .i64 x3, .int .i64 x4] := by rw [e]; exact hX6.set_ 2 _
    have hR := hR6.far (p := ⟨q, 2, none⟩) (by show w.heap.size ≠ q; omega) (.int .i64 y)
    have hS := hS6.set (q := q) (by omega) 2 (.int .i64 y)
    have hG := grown_far hG6 (q := q) (by omega) 2 (.int .i64 y)
    rw [← e] at hR hS hG
    clear e hX6 hR6 hS6 hG6 ff dd hql
    obtain ⟨c0, c1, c2, c3, c4⟩ := hX.five
    obtain ⟨r0, r1, r2, r3, r4⟩ := hR.five
    have f0 := hR.frozen 0; have f1 := hR.frozen 1; have f2 := hR.frozen 2; have f3 := hR.frozen 3; have f4 := hR.frozen 4
    clear hX
    go_wp2_with (fail)
    obtain ⟨WF, hWF, hSF, hGF, z0, z1, z2, z3, z4⟩ := draw_fin hR hS hG hB (Nat.le_refl _) (.string s) (.int .i64 x1) (.int .i64 y) (.int .i64 x3) (.int .i64 x4)
    rw [← hWF]
    clear hWF hR hS hG r0 r1 r2 r3 r4 c0 c1 c2 c3 c4 f0 f1 f2 f3 f4
    refine bodyPost_ret (v := .agg #[.string s, .int .i64 x1, .int .i64 y, .int .i64 x3, .int .i64 x4]) (by simp [results, Tryz.results151, go_sem, *]) rfl ⟨⟨s, x1, y, x3, x4⟩, rfl, hSF.mono (by omega), hGF⟩
  by_cases k2 : k = 2
  · subst k2
    go_wp2_with (fail)
    refine calls_named ?_
    intro W5 e5
    have hbA : Below w4.heap.size w4 W5 := by rw [e5]; exact below_alloc (Below.refl _ _) _
    have hN : Blk W5 w4.heap.size 2 (numCells [-201, -200, 800, 801]) := by rw [e5]; exact Blk.new w4 _ _
    have hX5 := hX4.keep hbA
    have hR5 := hR4.keep hbA
    have hS5 := hS4.keep hbA
    have hG5 := grown_trans0 hG4 (grown_of_below hbA (some g))
    have hgl4 := hS4.lt
    clear e5 hbA hX4 hR4 hS4 hG4
    refine (among_any g (a + 12) B w4.heap.size 4 4 [-201, -200, 800, 801] W5 hS5 (by omega) rfl (by omega) (by omega) (by omega) hN).mono ?_
    rintro e w6 ⟨y, rfl, _, hS6, hg6⟩
    have hX6 := hX5.grown hg6 (fun p hp => by injection hp with hp; omega)
    have hR6 := hR5.grown hg6 (fun p hp => by injection hp with hp; omega)
    have hG6 := grown_trans0 hG5 hg6
    have ff := hX6.frozen 3
    have dd : w6.cell? ⟨q, 3, none⟩ = some (.int .i64 x3) := by rw [hX6.cell]; rfl
    have hql := hX6.lt
    clear hX5 hR5 hG5 hS5 hg6 hN
    go_upto_region 11 with (fail)
    refine wp_named ?_
    intro V e
    have hX : Blk V q 46 [.string s, .int .i64 x1, .int .i64 x2, .int .i64 y, .int .i64 x4] := by rw [e]; exact hX6.set_ 3 _
    have hR := hR6.far (p := ⟨q, 3, none⟩) (by show w.heap.size ≠ q; omega) (.int .i64 y)
    have hS := hS6.set (q := q) (by omega) 3 (.int .i64 y)
    have hG := grown_far hG6 (q := q) (by omega) 3 (.int .i64 y)
    rw [← e] at hR hS hG
    clear e hX6 hR6 hS6 hG6 ff dd hql
    obtain ⟨c0, c1, c2, c3, c4⟩ := hX.five
    obtain ⟨r0, r1, r2, r3, r4⟩ := hR.five
    have f0 := hR.frozen 0; have f1 := hR.frozen 1; have f2 := hR.frozen 2; have f3 := hR.frozen 3; have f4 := hR.frozen 4
    clear hX
    go_wp2_with (fail)
    obtain ⟨WF, hWF, hSF, hGF, z0, z1, z2, z3, z4⟩ := draw_fin hR hS hG hB (Nat.le_refl _) (.string s) (.int .i64 x1) (.int .i64 x2) (.int .i64 y) (.int .i64 x4)
    rw [← hWF]
    clear hWF hR hS hG r0 r1 r2 r3 r4 c0 c1 c2 c3 c4 f0 f1 f2 f3 f4
    refine bodyPost_ret (v := .agg #[.string s, .int .i64 x1, .int .i64 x2, .int .i64 y, .int .i64 x4]) (by simp [results, Tryz.results151, go_sem, *]) rfl ⟨⟨s, x1, x2, y, x4⟩, rfl, hSF.mono (by omega), hGF⟩
  by_cases k3 : k = 3
  · subst k3
    go_wp2_with (fail)
    refine calls_named ?_
    intro W5 e5
    have hbA : Below w4.heap.size w4 W5 := by rw [e5]; exact below_alloc (Below.refl _ _) _
    have hN : Blk W5 w4.heap.size 2 (numCells [-51, -50, 250, 251]) := by rw [e5]; exact Blk.new w4 _ _
    have hX5 := hX4.keep hbA
    have hR5 := hR4.keep hbA
    have hS5 := hS4.keep hbA
    have hG5 := grown_trans0 hG4 (grown_of_below hbA (some g))
    have hgl4 := hS4.lt
    clear e5 hbA hX4 hR4 hS4 hG4
    refine (among_any g (a + 12) B w4.heap.size 4 4 [-51, -50, 250, 251] W5 hS5 (by omega) rfl (by omega) (by omega) (by omega) hN).mono ?_
    rintro e w6 ⟨y, rfl, _, hS6, hg6⟩
    have hX6 := hX5.grown hg6 (fun p hp => by injection hp with hp; omega)
    have hR6 := hR5.grown hg6 (fun p hp => by injection hp with hp; omega)
    have hG6 := grown_trans0 hG5 hg6
    have ff := hX6.frozen 4
    have dd : w6.cell? ⟨q, 4, none⟩ = some (.int .i64 x4) := by rw [hX6.cell]; rfl
    have hql := hX6.lt
    clear hX5 hR5 hG5 hS5 hg6 hN
    go_upto_region 11 with (fail)
    refine wp_named ?_
    intro V e
    have hX : Blk V q 46 [.string s, .int .i64 x1, .int .i64 x2, .int .i64 x3, .int .i64 y] := by rw [e]; exact hX6.set_ 4 _
    have hR := hR6.far (p := ⟨q, 4, none⟩) (by show w.heap.size ≠ q; omega) (.int .i64 y)
    have hS := hS6.set (q := q) (by omega) 4 (.int .i64 y)
    have hG := grown_far hG6 (q := q) (by omega) 4 (.int .i64 y)
    rw [← e] at hR hS hG
    clear e hX6 hR6 hS6 hG6 ff dd hql
    obtain ⟨c0, c1, c2, c3, c4⟩ := hX.five
    obtain ⟨r0, r1, r2, r3, r4⟩ := hR.five
    have f0 := hR.frozen 0; have f1 := hR.frozen 1; have f2 := hR.frozen 2; have f3 := hR.frozen 3; have f4 := hR.frozen 4
    clear hX
    go_wp2_with (fail)
    obtain ⟨WF, hWF, hSF, hGF, z0, z1, z2, z3, z4⟩ := draw_fin hR hS hG hB (Nat.le_refl _) (.string s) (.int .i64 x1) (.int .i64 x2) (.int .i64 x3) (.int .i64 y)
    rw [← hWF]
    clear hWF hR hS hG r0 r1 r2 r3 r4 c0 c1 c2 c3 c4 f0 f1 f2 f3 f4
    refine bodyPost_ret (v := .agg #[.string s, .int .i64 x1, .int .i64 x2, .int .i64 x3, .int .i64 y]) (by simp [results, Tryz.results151, go_sem, *]) rfl ⟨⟨s, x1, x2, x3, y⟩, rfl, hSF.mono (by omega), hGF⟩
  have n0 : ((k : Int) == 0) = false := by rw [beq_eq_false_iff_ne]; omega
  have n1 : ((k : Int) == 1) = false := by rw [beq_eq_false_iff_ne]; omega
  have n2 : ((k : Int) == 2) = false := by rw [beq_eq_false_iff_ne]; omega
  have n3 : ((k : Int) == 3) = false := by rw [beq_eq_false_iff_ne]; omega
  have hX := hX4
  have hR := hR4
  have hS := hS4
  have hG := hG4
  clear hX4 hR4 hS4 hG4
  obtain ⟨c0, c1, c2, c3, c4⟩ := hX.five
  obtain ⟨r0, r1, r2, r3, r4⟩ := hR.five
  have f0 := hR.frozen 0; have f1 := hR.frozen 1; have f2 := hR.frozen 2; have f3 := hR.frozen 3; have f4 := hR.frozen 4
  clear hX
  go_wp2_with (fail)
  obtain ⟨WF, hWF, hSF, hGF, z0, z1, z2, z3, z4⟩ := draw_fin hR hS hG hB (Nat.le_refl _) (.string s) (.int .i64 x1) (.int .i64 x2) (.int .i64 x3) (.int .i64 x4)
  rw [← hWF]
  clear hWF hR hS hG r0 r1 r2 r3 r4 c0 c1 c2 c3 c4 f0 f1 f2 f3 f4
  refine bodyPost_ret (v := .agg #[.string s, .int .i64 x1, .int .i64 x2, .int .i64 x3, .int .i64 x4]) (by simp [results, Tryz.results151, go_sem, *]) rfl ⟨⟨s, x1, x2, x3, x4⟩, rfl, hSF.mono (by omega), hGF⟩
/-- what drawing bent stars leaves -/
def BentS (g a B : Nat) (w : World) (e : Ending) (w' : World) : Prop := ∃ (v : Value) (l : List Sta), e = .returned v ∧ OwnS w' w.heap.size v l ∧ l.length ≤ 30 ∧ Src w' g a B ∧ w.grownBy w' (some g)
set_option maxRecDepth 100000 in
set_option maxHeartbeats 4000000 in
theorem l05Bent_any (g a B : Nat) (w : World) (h : Src w g a B) (ha : a ≤ 999998000) (hB : B ≤ w.heap.size) :
    Calls Tryz.prog 120 #[.pointer (some ⟨g, 0, none⟩)] w (BentS g (a + 200) B w) := by
  go_enter Tryz.func120, Tryz.ntmps120
  go_wp2_with (fail)
  refine (l05Draw_any g a B w h (by omega) hB).mono ?_
  rintro e w2 ⟨v, l, rfl, hO2, _, hl6, _, hS2, hG2⟩
  have hs2 := hG2.size
  have hgl := hS2.lt
  go_wp2_with (fail)
  refine (pick_any g (a + 100) B 20 w2 hS2 (by omega) (by omega)).mono ?_
  rintro e w4 ⟨k, rfl, hk, hS4, hg4⟩
  have hO4 := hO2.only hg4 (fun p hp hq => by have := hO2.lt p hp; injection hq with hq; have := h.lt; omega)
  have hG4 := grown_trans0 hG2 hg4
  have hs4 := hG4.size
  clear hO2 hS2 hG2 hg4
  by_cases k0 : k = 0
  · subst k0
    go_wp2_with (fail)
    refine (l05BentOne_any g (a + 102) B w4 hS4 (by omega) (by omega)).mono ?_
    rintro e w5 ⟨⟨s, x1, x2, x3, x4⟩, rfl, hS5, hg5⟩
    dsimp only
    have hO5 := hO4.only hg5 (fun p hp hq => by have := hO4.lt p hp; injection hq with hq; have := h.lt; omega)
    have hG5 := grown_trans0 hG4 hg5
    have hs5 := hG5.size
    have hvo := fun p hp => (hO5.lt p hp).1
    have HN := Lib.hid (show Blk (w5.alloc (.cells #[.string s, .int .i64 x1, .int .i64 x2, .int .i64 x3, .int .i64 x4] 46)) w5.heap.size 46 (staCells [⟨s, x1, x2, x3, x4⟩]) from Blk.new _ _ _)
    have hbA : Below w5.heap.size w5 (w5.alloc (.cells #[.string s, .int .i64 x1, .int .i64 x2, .int .i64 x3, .int .i64 x4] 46)) := below_alloc (Below.refl _ _) _
    have hS6 := hS5.keep hbA
    have hG6 := grown_trans0 hG5 (grown_of_below hbA (some g))
    have HL1 : Hid (l.length + 1 ≤ 1099511627776) := Lib.hid (by omega)
    clear hO4 hS4 hG4 hg5 hS5 hG5 hbA
    go_wp2_with (at_builtin; refine wpList_app_stars rfl (.tmp 12) (.tmp 15) rfl w.heap.size v l [⟨s, x1, x2, x3, x4⟩] (some ⟨w5.heap.size, 0, none⟩) 1 1 rfl rfl (hO5.alloc _) rfl HN.out.stars (fun h => by cases h) HL1.out (by simp; omega) ?_; intro v7 w7 hO7 hg7)
    go_ret
    exact ⟨v7, _, rfl, hO7, by simp; omega, (hS6.grown hg7 (fun p hp => by have := hvo p hp; omega)).mono (by omega), grown_own hG6 hg7 hvo⟩
  by_cases k1 : k = 1
  · subst k1
    go_wp2_with (fail)
    refine (pick_any g (a + 102) B 3 w4 hS4 (by omega) (by omega)).mono ?_
    rintro e w5 ⟨m, rfl, hm, hS5, hg5⟩
    have hm3 : m < 3 := by omega
    have hG5 := grown_trans0 hG4 hg5
    have hs5 := hG5.size
    clear hO4 hS4 hG4 hg5 hm
    have HE := Lib.hid (OwnS.empty w5 w.heap.size hs5)
    have hbA : Below w5.heap.size w5 (w5.alloc (.cells #[] 46)) := below_alloc (Below.refl _ _) _
    have hS6 := hS5.keep hbA
    have hG6 := grown_trans0 hG5 (grown_of_below hbA (some g))
    have HS6 := Lib.hid hS6
    have HG6 := Lib.hid hG6
    clear hS5 hG5 hbA hS6 hG6
    go_wp2_with (fail)
    go_loopw [3, 5] (fun s3 s5 wr => ∃ (k : Nat) (v : Value) (l : List Sta), k ≤ 23 + m ∧ s5 = .int .i64 (k : Int) ∧ v = s3 ∧ OwnS wr w.heap.size v l ∧ l.length = k ∧ Src wr g (a + 104) B ∧ w.grownBy wr (some g)) (fun _ s5 _ => 23 + m - (intOf s5).toNat)
    case atStart => exact ⟨0, _, [], by omega, rfl, rfl, HE.out, rfl, HS6.out, HG6.out⟩
    case round =>
      obtain ⟨k, v, l, hk, rfl, rfl, hO, hlk, hS, hG⟩ := hrel
      by_cases hlt : k < 23 + m
      · have hvo := fun p hp => (hO.lt p hp).1
        have hsG := hG.size
        have hcv := run_byte_string wr (97 + (k : Int))
        obtain ⟨letter, hlet⟩ : ∃ s : ByteArray, s = ⟨#[UInt8.ofNat (97 + (k : Int)).toNat]⟩ := ⟨_, rfl⟩
        rw [← hlet] at hcv
        have hls : letter.size = 1 := by rw [hlet]; rfl
        clear hlet
        have HCELL := Lib.hid (show Below wr.heap.size wr ((wr.alloc (.cells #[.int .u8 (97 + (k : Int))] 5)).alloc (.cells #[.string (⟨#[115]⟩ ++ letter), .int .i64 (9000 * (k : Int)), .int .i64 0, .int .i64 (20 * (k : Int)), .int .i64 0] 46)) from below_alloc (below_alloc (Below.refl _ _) _) _)
        have HN := Lib.hid (show Blk ((wr.alloc (.cells #[.int .u8 (97 + (k : Int))] 5)).alloc (.cells #[.string (⟨#[115]⟩ ++ letter), .int .i64 (9000 * (k : Int)), .int .i64 0, .int .i64 (20 * (k : Int)), .int .i64 0] 46)) (wr.heap.size + 1) 46 (staCells [⟨⟨#[115]⟩ ++ letter, 9000 * (k : Int), 0, 20 * (k : Int), 0⟩]) from by
          have := Blk.new (wr.alloc (.cells #[.int .u8 (97 + (k : Int))] 5)) 46 (staCells [⟨⟨#[115]⟩ ++ letter, 9000 * (k : Int), 0, 20 * (k : Int), 0⟩])
          rw [World.size_alloc] at this; exact this)
        have HLK := Lib.hid (by omega : l.length + 1 ≤ 1099511627776)
        have HO := Lib.hid hO
        have HS := Lib.hid hS
        have HG := Lib.hid hG
        clear hO hS hG
        go_wp2_with (at_builtin; refine wpList_app_stars rfl (.tmp 28) (.tmp 40) rfl w.heap.size v l [⟨⟨#[115]⟩ ++ letter, 9000 * (k : Int), 0, 20 * (k : Int), 0⟩] (some ⟨wr.heap.size + 1, 0, none⟩) 1 1 rfl rfl (HO.out.below HCELL.out) rfl HN.out.stars (fun h => by cases h) HLK.out (by simp; omega) ?_; intro v7 w7 hO7 hg7)
        have hS7 := (HS.out.keep HCELL.out).grown hg7 (fun p hp => by have := hvo p hp; omega)
        have hG7 := grown_own (grown_trans0 HG.out (grown_of_below HCELL.out (some g))) hg7 hvo
        go_roundw
        case rel => exact ⟨k + 1, v7, _, by omega, by go_num, rfl, hO7, by rw [List.length_append, hlk]; rfl, hS7, hG7⟩
        case measure => simp [intOf]; omega
      · obtain rfl : k = 23 + m := by omega
        go_wp2_with (fail)
        go_ret
        exact ⟨v, l, rfl, hO, by omega, hS.mono (by omega), hG⟩
  have n0 : ((k : Int) == 0) = false := by rw [beq_eq_false_iff_ne]; omega
  have n1 : ((k : Int) == 1) = false := by rw [beq_eq_false_iff_ne]; omega
  go_wp2_with (fail)
  go_ret
  exact ⟨v, l, rfl, hO4, by omega, hS4.mono (by omega), hG4⟩
end Go.Proofs.YtpnfhienffekoaaGreatDoor
