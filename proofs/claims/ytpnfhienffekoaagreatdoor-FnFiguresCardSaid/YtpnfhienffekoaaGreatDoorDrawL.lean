/- Contracts of the functions that draw sites and angles. -/
import Derived.Test.YtpnfhienffekoaaGreatDoorMgJ
import Derived.Test.YtpnfhienffekoaaGreatDoorGrpNum
namespace Go.Proofs.YtpnfhienffekoaaGreatDoor
set_option linter.unusedVariables false
set_option linter.unusedSimpArgs false
open Go.RowKit
theorem Blk.three {w : World} {g : Nat} {t : TypeId} {v0 v1 v2 : Value} (h : Blk w g t [v0, v1, v2]) : w.cell? ⟨g, 0, none⟩ = some v0 ∧ w.cell? ⟨g, 1, none⟩ = some v1 ∧ w.cell? ⟨g, 2, none⟩ = some v2 :=
  ⟨by rw [h.cell]; rfl, by rw [h.cell]; rfl, by rw [h.cell]; rfl⟩
theorem draw_fin3 {w W : World} {g a B r : Nat} {t : TypeId} {u0 u1 u2 : Value} (hR : Blk W r t [u0, u1, u2]) (hS : Src W g a B) (hG : w.grownBy W (some g)) (hB : B ≤ r) (hr : w.heap.size ≤ r) (v0 v1 v2 : Value) :
    ∃ WF, WF = (((W.setCell ⟨r, 0, none⟩ v0).setCell ⟨r, 1, none⟩ v1).setCell ⟨r, 2, none⟩ v2) ∧ Src WF g a B ∧ w.grownBy WF (some g) ∧ WF.cell? ⟨r, 0, none⟩ = some v0 ∧ WF.cell? ⟨r, 1, none⟩ = some v1 ∧ WF.cell? ⟨r, 2, none⟩ = some v2 := by
  have h : Blk _ r t [v0, v1, v2] := ((hR.set_ 0 v0).set_ 1 v1).set_ 2 v2
  exact ⟨_, rfl, ((hS.set hB 0 v0).set hB 1 v1).set hB 2 v2, grown_far (grown_far (grown_far hG hr 0 v0) hr 1 v1) hr 2 v2, h.three⟩
def siteNames : List ByteArray := [⟨#[106, 101, 110, 97]⟩, ⟨#[113, 117, 105, 116, 111]⟩, ⟨#[112, 111, 108, 101]⟩]
theorem siteNames_ok {s : ByteArray} (h : s ∈ siteNames) : isName s.data.toList = true := by
  have : ∀ s ∈ siteNames, isName s.data.toList = true := by decide +kernel
  exact this s h
/-- a drawn site that is valid, but that its longitude may be half a turn -/
def SiteOk (s : ByteArray) (lo la : Int) : Prop := s ∈ siteNames ∧ -180000 ≤ lo ∧ lo ≤ 180000 ∧ -90000 ≤ la ∧ la ≤ 90000
set_option maxHeartbeats 1000000 in
theorem l02Draw_any (g a B : Nat) (w : World) (h : Src w g a B) (ha : a ≤ 999999900) :
    Calls Tryz.prog 127 #[.pointer (some ⟨g, 0, none⟩)] w fun e w' => ∃ y : Int, e = .returned (.int .i64 y) ∧ (0 ≤ y ∧ y < 360000) ∧ Src w' g (a + 4) B ∧ w.grownBy w' (some g) := by
  go_enter Tryz.func127, Tryz.ntmps127
  go_wp2_with (fail)
  refine (pick_any g a B 4 w h (by omega) (by omega)).mono ?_
  rintro e w2 ⟨k, rfl, hk, hS2, hg2⟩
  by_cases k0 : k = 0
  · subst k0
    go_wp2_with (fail)
    refine (pick_any g (a + 2) B 24 w2 hS2 (by omega) (by omega)).mono ?_
    rintro e w3 ⟨x, rfl, hx, hS3, hg3⟩
    go_wp2_with (fail)
    go_ret
    exact ⟨_, rfl, by omega, hS3, grown_trans0 hg2 hg3⟩
  by_cases k1 : k = 1
  · subst k1
    go_wp2_with (fail)
    refine (pick_any g (a + 2) B 360 w2 hS2 (by omega) (by omega)).mono ?_
    rintro e w3 ⟨x, rfl, hx, hS3, hg3⟩
    go_wp2_with (fail)
    go_ret
    exact ⟨_, rfl, by omega, hS3, grown_trans0 hg2 hg3⟩
  have n0 : ((k : Int) == 0) = false := by rw [beq_eq_false_iff_ne]; omega
  have n1 : ((k : Int) == 1) = false := by rw [beq_eq_false_iff_ne]; omega
  go_wp2_with (fail)
  refine (pick_any g (a + 2) B 360000 w2 hS2 (by omega) (by omega)).mono ?_
  rintro e w3 ⟨x, rfl, hx, hS3, hg3⟩
  go_wp2_with (fail)
  go_ret
  exact ⟨_, rfl, by omega, hS3, grown_trans0 hg2 hg3⟩
set_option maxHeartbeats 1000000 in
theorem l06DrawTurn_any (g a B : Nat) (w : World) (h : Src w g a B) (ha : a ≤ 999999800) :
    Calls Tryz.prog 92 #[.pointer (some ⟨g, 0, none⟩)] w fun e w' => ∃ y : Int, e = .returned (.int .i64 y) ∧ (y ∈ ([-1, 0, 359999, 360000] : List Int) ∨ (0 ≤ y ∧ y < 360000)) ∧ Src w' g (a + 6) B ∧ w.grownBy w' (some g) := by
  go_enter Tryz.func92, Tryz.ntmps92
  go_wp2_with (fail)
  refine (one_any g a B 14 w h (by omega) (by omega)).mono ?_
  rintro e w2 ⟨b, rfl, hS2, hg2⟩
  have hgl := hS2.lt
  cases b with
  | true =>
    go_wp2_with (fail)
    refine calls_named ?_
    intro W3 e3
    have hb3 : Below w2.heap.size w2 W3 := by rw [e3]; exact below_alloc (Below.refl _ _) _
    have hN : Blk W3 w2.heap.size 2 (numCells [-1, 0, 359999, 360000]) := by rw [e3]; exact Blk.new w2 _ _
    have hG3 := grown_trans0 hg2 (grown_of_below hb3 (some g))
    clear e3
    refine (among_any g (a + 2) B w2.heap.size 4 4 [-1, 0, 359999, 360000] W3 (hS2.keep hb3) (by omega) rfl (by omega) (by omega) (by omega) hN).mono ?_
    rintro e w4 ⟨y, rfl, hy, hS4, hg4⟩
    go_wp2_with (fail)
    go_ret
    exact ⟨y, rfl, .inl hy, hS4.mono (by omega), grown_trans0 hG3 hg4⟩
  | false =>
    go_wp2_with (fail)
    refine (l02Draw_any g (a + 2) B w2 hS2 (by omega)).mono ?_
    rintro e w4 ⟨y, rfl, hy, hS4, hg4⟩
    go_wp2_with (fail)
    go_ret
    exact ⟨_, rfl, .inr (by omega), hS4.mono (by omega), grown_trans0 hg2 hg4⟩
set_option maxRecDepth 100000 in
set_option maxHeartbeats 4000000 in
theorem l06DrawOk_any (g a B : Nat) (w : World) (h : Src w g a B) (ha : a ≤ 999999800) (hB : B ≤ w.heap.size) :
    Calls Tryz.prog 126 #[.pointer (some ⟨g, 0, none⟩)] w fun e w' => ∃ (s : ByteArray) (lo la : Int), e = .returned (.agg #[.string s, .int .i64 lo, .int .i64 la]) ∧ SiteOk s lo la ∧ Src w' g (a + 10) B ∧ w.grownBy w' (some g) := by
  have hgl := h.lt
  go_enter Tryz.func126, Tryz.ntmps126
  go_wp2_with (fail)
  refine calls_named ?_
  intro W2 e2
  have hbA : Below w.heap.size w W2 := by rw [e2]; exact below_alloc (below_alloc (Below.refl _ _) _) _
  have hR2 : Blk W2 w.heap.size 71 [.string ⟨#[]⟩, .int .i64 0, .int .i64 0] := by rw [e2]; exact (Blk.new w _ _).alloc _
  have hN : Blk W2 (w.heap.size + 1) 9 (siteNames.map Value.string) := by
    rw [e2]
    have := Blk.new (w.alloc (.cells #[.string ⟨#[]⟩, .int .i64 0, .int .i64 0] 71)) 9 (siteNames.map Value.string)
    simpa [siteNames] using this
  have hS2 := h.keep hbA
  have hG2 := grown_of_below hbA (some g)
  clear e2 hbA
  refine (text_any g a B (w.heap.size + 1) 3 3 siteNames W2 hS2 (by omega) rfl (by omega) (by omega) (by omega) (fun k s hs => by rw [hN.cell, List.getElem?_map, hs]; rfl)).mono ?_
  rintro e w3 ⟨s, rfl, hs, hS3, hg3⟩
  have hR3 := hR2.grown hg3 (fun q hq => by injection hq with hq; omega)
  have hG3 := grown_trans0 hG2 hg3
  clear hS2 hG2 hR2 hN hg3
  have hq3 : w.heap.size < w3.heap.size := hR3.lt
  go_wp2_with (fail)
  refine calls_named ?_
  intro W e
  have hX : Blk W w3.heap.size 71 [.string s, .int .i64 0, .int .i64 0] := by rw [e]; exact Blk.new _ _ _
  have hb := below_alloc (Below.refl w3.heap.size w3) (.cells #[.string s, .int .i64 0, .int .i64 0] 71)
  rw [← e] at hb
  have hR := hR3.keep hb
  have hS := hS3.keep hb
  have hG := grown_trans0 hG3 (grown_of_below hb (some g))
  clear e hb hR3 hS3 hG3
  generalize w3.heap.size = q at *
  refine (pick_any g (a + 2) B 360001 W hS (by omega) (by omega)).mono ?_
  rintro e w6 ⟨x1, rfl, hx1, hS6, hg6⟩
  have hX6 := hX.grown hg6 (fun p hp => by injection hp with hp; omega)
  have hR6 := hR.grown hg6 (fun p hp => by injection hp with hp; omega)
  have hG6 := grown_trans0 hG hg6
  clear hX hR hG hS hg6
  have ff := hX6.frozen 1
  have dd : w6.cell? ⟨q, 1, none⟩ = some (.int .i64 0) := by rw [hX6.cell]; rfl
  have hql := hX6.lt
  go_wp2_with (fail)
  refine calls_named ?_
  intro V e
  have hX : Blk V q 71 [.string s, .int .i64 ((x1 : Int) - 180000), .int .i64 0] := by rw [e]; exact hX6.set_ 1 _
  have hR := hR6.far (p := ⟨q, 1, none⟩) (by show w.heap.size ≠ q; omega) (.int .i64 ((x1 : Int) - 180000))
  have hS := hS6.set (q := q) (by omega) 1 (.int .i64 ((x1 : Int) - 180000))
  have hG := grown_far hG6 (q := q) (by omega) 1 (.int .i64 ((x1 : Int) - 180000))
  rw [← e] at hR hS hG
  clear e hX6 hR6 hS6 hG6 ff dd hql
  refine (pick_any g (a + 4) B 180001 V hS (by omega) (by omega)).mono ?_
  rintro e w6 ⟨x2, rfl, hx2, hS6, hg6⟩
  have hX6 := hX.grown hg6 (fun p hp => by injection hp with hp; omega)
  have hR6 := hR.grown hg6 (fun p hp => by injection hp with hp; omega)
  have hG6 := grown_trans0 hG hg6
  clear hX hR hG hS hg6
  have ff := hX6.frozen 2
  have dd : w6.cell? ⟨q, 2, none⟩ = some (.int .i64 0) := by rw [hX6.cell]; rfl
  have hql := hX6.lt
  go_wp2_with (fail)
  refine calls_named ?_
  intro V e
  have hX : Blk V q 71 [.string s, .int .i64 ((x1 : Int) - 180000), .int .i64 ((x2 : Int) - 90000)] := by rw [e]; exact hX6.set_ 2 _
  have hR := hR6.far (p := ⟨q, 2, none⟩) (by show w.heap.size ≠ q; omega) (.int .i64 ((x2 : Int) - 90000))
  have hS := hS6.set (q := q) (by omega) 2 (.int .i64 ((x2 : Int) - 90000))
  have hG := grown_far hG6 (q := q) (by omega) 2 (.int .i64 ((x2 : Int) - 90000))
  rw [← e] at hR hS hG
  clear e hX6 hR6 hS6 hG6 ff dd hql
  refine (one_any g (a + 6) B 5 V hS (by omega) (by omega)).mono ?_
  rintro e w4 ⟨b, rfl, hS4, hg4⟩
  have hX4 := hX.grown hg4 (fun p hp => by injection hp with hp; omega)
  have hR4 := hR.grown hg4 (fun p hp => by injection hp with hp; omega)
  have hG4 := grown_trans0 hG hg4
  have hq4 := hX4.lt
  clear hX hR hG hS hg4
  cases b with
  | true =>
    go_wp2_with (fail)
    refine calls_named ?_
    intro W5 e5
    have hbA : Below w4.heap.size w4 W5 := by rw [e5]; exact below_alloc (Below.refl _ _) _
    have hN : Blk W5 w4.heap.size 2 (numCells [0, 90000, -90000, 51000]) := by rw [e5]; exact Blk.new w4 _ _
    have hX5 := hX4.keep hbA
    have hR5 := hR4.keep hbA
    have hS5 := hS4.keep hbA
    have hG5 := grown_trans0 hG4 (grown_of_below hbA (some g))
    have hgl4 := hS4.lt
    clear e5 hbA hX4 hR4 hS4 hG4
    refine (among_any g (a + 8) B w4.heap.size 4 4 [0, 90000, -90000, 51000] W5 hS5 (by omega) rfl (by omega) (by omega) (by omega) hN).mono ?_
    rintro e w6 ⟨y, rfl, hy, hS6, hg6⟩
    have hX6 := hX5.grown hg6 (fun p hp => by injection hp with hp; omega)
    have hR6 := hR5.grown hg6 (fun p hp => by injection hp with hp; omega)
    have hG6 := grown_trans0 hG5 hg6
    clear hX5 hR5 hG5 hS5 hg6 hN
    have ff := hX6.frozen 2
    have dd : w6.cell? ⟨q, 2, none⟩ = some (.int .i64 ((x2 : Int) - 90000)) := by rw [hX6.cell]; rfl
    have hql := hX6.lt
    go_upto_region 6 with (fail)
    refine wp_named ?_
    intro V e
    have hX : Blk V q 71 [.string s, .int .i64 ((x1 : Int) - 180000), .int .i64 y] := by rw [e]; exact hX6.set_ 2 _
    have hR := hR6.far (p := ⟨q, 2, none⟩) (by show w.heap.size ≠ q; omega) (.int .i64 y)
    have hS := hS6.set (q := q) (by omega) 2 (.int .i64 y)
    have hG := grown_far hG6 (q := q) (by omega) 2 (.int .i64 y)
    rw [← e] at hR hS hG
    clear e hX6 hR6 hS6 hG6 ff dd hql
    obtain ⟨c0, c1, c2⟩ := hX.three
    obtain ⟨r0, r1, r2⟩ := hR.three
    have f0 := hR.frozen 0; have f1 := hR.frozen 1; have f2 := hR.frozen 2
    clear hX
    go_wp2_with (fail)
    obtain ⟨WF, hWF, hSF, hGF, z0, z1, z2⟩ := draw_fin3 hR hS hG hB (Nat.le_refl _) (.string s) (.int .i64 ((x1 : Int) - 180000)) (.int .i64 y)
    rw [← hWF]
    clear hWF hR hS hG r0 r1 r2 c0 c1 c2 f0 f1 f2
    refine bodyPost_ret (v := .agg #[.string s, .int .i64 ((x1 : Int) - 180000), .int .i64 y]) (by simp [results, Tryz.results126, go_sem, *]) rfl ⟨s, _, y, rfl, ⟨hs, by omega, by omega, by
      simp only [List.mem_cons, List.not_mem_nil, or_false] at hy; omega⟩, hSF, hGF⟩
  | false =>
    have hX := hX4
    have hR := hR4
    have hS := hS4.mono (show a + 6 + 2 ≤ a + 10 by omega)
    have hG := hG4
    clear hX4 hR4 hS4 hG4
    obtain ⟨c0, c1, c2⟩ := hX.three
    obtain ⟨r0, r1, r2⟩ := hR.three
    have f0 := hR.frozen 0; have f1 := hR.frozen 1; have f2 := hR.frozen 2
    clear hX
    go_wp2_with (fail)
    obtain ⟨WF, hWF, hSF, hGF, z0, z1, z2⟩ := draw_fin3 hR hS hG hB (Nat.le_refl _) (.string s) (.int .i64 ((x1 : Int) - 180000)) (.int .i64 ((x2 : Int) - 90000))
    rw [← hWF]
    clear hWF hR hS hG r0 r1 r2 c0 c1 c2 f0 f1 f2
    refine bodyPost_ret (v := .agg #[.string s, .int .i64 ((x1 : Int) - 180000), .int .i64 ((x2 : Int) - 90000)]) (by simp [results, Tryz.results126, go_sem, *]) rfl ⟨s, _, _, rfl, ⟨hs, by omega, by omega, by omega⟩, hSF, hGF⟩
set_option maxRecDepth 100000 in
set_option maxHeartbeats 4000000 in
theorem l06Draw_any (g a B : Nat) (w : World) (h : Src w g a B) (ha : a ≤ 999999800) (hB : B ≤ w.heap.size) :
    Calls Tryz.prog 91 #[.pointer (some ⟨g, 0, none⟩)] w fun e w' => ∃ (s : ByteArray) (lo la : Int), e = .returned (.agg #[.string s, .int .i64 lo, .int .i64 la]) ∧ Src w' g (a + 14) B ∧ w.grownBy w' (some g) := by
  have hgl := h.lt
  go_enter Tryz.func91, Tryz.ntmps91
  go_wp2_with (fail)
  refine calls_named ?_
  intro W1 e1
  have hb1 : Below w.heap.size w W1 := by rw [e1]; exact below_alloc (Below.refl _ _) _
  have hR1 : Blk W1 w.heap.size 71 [.string ⟨#[]⟩, .int .i64 0, .int .i64 0] := by rw [e1]; exact Blk.new w _ _
  clear e1
  have hbs := hb1.size
  refine (l06DrawOk_any g a B W1 (h.keep hb1) (by omega) (by omega)).mono ?_
  rintro e w2 ⟨s, lo, la, rfl, hok, hS2, hg2⟩
  have hR2 := hR1.grown hg2 (fun p hp => by injection hp with hp; omega)
  have hG2 := grown_trans0 (grown_of_below hb1 (some g)) hg2
  have hgl2 := hR2.lt
  clear hok hR1 hg2 hb1
  go_wp2_with (fail)
  refine calls_named ?_
  intro W3 e3
  have hb3 : Below w2.heap.size w2 W3 := by rw [e3]; exact below_alloc (Below.refl _ _) _
  have hX3 : Blk W3 w2.heap.size 71 [.string s, .int .i64 lo, .int .i64 la] := by rw [e3]; exact Blk.new w2 _ _
  have hR3 := hR2.keep hb3
  have hS3 := hS2.keep hb3
  have hG3 := grown_trans0 hG2 (grown_of_below hb3 (some g))
  clear e3 hb3 hR2 hS2 hG2
  generalize w2.heap.size = q at *
  refine (pick_any g (a + 10) B 24 W3 hS3 (by omega) (by omega)).mono ?_
  rintro e w4 ⟨k, rfl, hk, hS4, hg4⟩
  have hX4 := hX3.grown hg4 (fun p hp => by injection hp with hp; omega)
  have hR4 := hR3.grown hg4 (fun p hp => by injection hp with hp; omega)
  have hG4 := grown_trans0 hG3 hg4
  have hq4 := hX4.lt
  clear hX3 hR3 hG3 hS3 hg4
  by_cases k0 : k = 0
  · subst k0
    go_wp2_with (fail)
    refine calls_named ?_
    intro W5 e5
    have hbA : Below w4.heap.size w4 W5 := by rw [e5]; exact below_alloc (Below.refl _ _) _
    have hN : Blk W5 w4.heap.size 2 (numCells [-180001, 180000, 180001]) := by rw [e5]; exact Blk.new w4 _ _
    have hX5 := hX4.keep hbA
    have hR5 := hR4.keep hbA
    have hS5 := hS4.keep hbA
    have hG5 := grown_trans0 hG4 (grown_of_below hbA (some g))
    have hgl4 := hS4.lt
    clear e5 hbA hX4 hR4 hS4 hG4
    refine (among_any g (a + 12) B w4.heap.size 3 3 [-180001, 180000, 180001] W5 hS5 (by omega) rfl (by omega) (by omega) (by omega) hN).mono ?_
    rintro e w6 ⟨y, rfl, hy, hS6, hg6⟩
    have hX6 := hX5.grown hg6 (fun p hp => by injection hp with hp; omega)
    have hR6 := hR5.grown hg6 (fun p hp => by injection hp with hp; omega)
    have hG6 := grown_trans0 hG5 hg6
    clear hX5 hR5 hG5 hS5 hg6 hN
    have ff := hX6.frozen 1
    have dd : w6.cell? ⟨q, 1, none⟩ = some (.int .i64 lo) := by rw [hX6.cell]; rfl
    have hql := hX6.lt
    go_upto_region 9 with (fail)
    refine wp_named ?_
    intro V e
    have hX : Blk V q 71 [.string s, .int .i64 y, .int .i64 la] := by rw [e]; exact hX6.set_ 1 _
    have hR := hR6.far (p := ⟨q, 1, none⟩) (by show w.heap.size ≠ q; omega) (.int .i64 y)
    have hS := hS6.set (q := q) (by omega) 1 (.int .i64 y)
    have hG := grown_far hG6 (q := q) (by omega) 1 (.int .i64 y)
    rw [← e] at hR hS hG
    clear e hX6 hR6 hS6 hG6 ff dd hql
    obtain ⟨c0, c1, c2⟩ := hX.three
    obtain ⟨r0, r1, r2⟩ := hR.three
    have f0 := hR.frozen 0; have f1 := hR.frozen 1; have f2 := hR.frozen 2
    clear hX
    go_wp2_with (fail)
    obtain ⟨WF, hWF, hSF, hGF, z0, z1, z2⟩ := draw_fin3 hR hS hG hB (Nat.le_refl _) (.string s) (.int .i64 y) (.int .i64 la)
    rw [← hWF]
    clear hWF hR hS hG r0 r1 r2 c0 c1 c2 f0 f1 f2
    refine bodyPost_ret (v := .agg #[.string s, .int .i64 y, .int .i64 la]) (by simp [results, Tryz.results91, go_sem, *]) rfl ⟨s, y, la, rfl, hSF, hGF⟩
  by_cases k1 : k = 1
  · subst k1
    go_wp2_with (fail)
    refine calls_named ?_
    intro W5 e5
    have hbA : Below w4.heap.size w4 W5 := by rw [e5]; exact below_alloc (Below.refl _ _) _
    have hN : Blk W5 w4.heap.size 2 (numCells [-90001, 90001]) := by rw [e5]; exact Blk.new w4 _ _
    have hX5 := hX4.keep hbA
    have hR5 := hR4.keep hbA
    have hS5 := hS4.keep hbA
    have hG5 := grown_trans0 hG4 (grown_of_below hbA (some g))
    have hgl4 := hS4.lt
    clear e5 hbA hX4 hR4 hS4 hG4
    refine (among_any g (a + 12) B w4.heap.size 2 2 [-90001, 90001] W5 hS5 (by omega) rfl (by omega) (by omega) (by omega) hN).mono ?_
    rintro e w6 ⟨y, rfl, hy, hS6, hg6⟩
    have hX6 := hX5.grown hg6 (fun p hp => by injection hp with hp; omega)
    have hR6 := hR5.grown hg6 (fun p hp => by injection hp with hp; omega)
    have hG6 := grown_trans0 hG5 hg6
    clear hX5 hR5 hG5 hS5 hg6 hN
    have ff := hX6.frozen 2
    have dd : w6.cell? ⟨q, 2, none⟩ = some (.int .i64 la) := by rw [hX6.cell]; rfl
    have hql := hX6.lt
    go_upto_region 9 with (fail)
    refine wp_named ?_
    intro V e
    have hX : Blk V q 71 [.string s, .int .i64 lo, .int .i64 y] := by rw [e]; exact hX6.set_ 2 _
    have hR := hR6.far (p := ⟨q, 2, none⟩) (by show w.heap.size ≠ q; omega) (.int .i64 y)
    have hS := hS6.set (q := q) (by omega) 2 (.int .i64 y)
    have hG := grown_far hG6 (q := q) (by omega) 2 (.int .i64 y)
    rw [← e] at hR hS hG
    clear e hX6 hR6 hS6 hG6 ff dd hql
    obtain ⟨c0, c1, c2⟩ := hX.three
    obtain ⟨r0, r1, r2⟩ := hR.three
    have f0 := hR.frozen 0; have f1 := hR.frozen 1; have f2 := hR.frozen 2
    clear hX
    go_wp2_with (fail)
    obtain ⟨WF, hWF, hSF, hGF, z0, z1, z2⟩ := draw_fin3 hR hS hG hB (Nat.le_refl _) (.string s) (.int .i64 lo) (.int .i64 y)
    rw [← hWF]
    clear hWF hR hS hG r0 r1 r2 c0 c1 c2 f0 f1 f2
    refine bodyPost_ret (v := .agg #[.string s, .int .i64 lo, .int .i64 y]) (by simp [results, Tryz.results91, go_sem, *]) rfl ⟨s, lo, y, rfl, hSF, hGF⟩
  by_cases k2 : k = 2
  · subst k2
    go_wp2_with (fail)
    refine calls_named ?_
    intro W5 e5
    have hbA : Below w4.heap.size w4 W5 := by rw [e5]; exact below_alloc (Below.refl _ _) _
    have hN : Blk W5 w4.heap.size 9 (([⟨#[]⟩, ⟨#[74]⟩] : List ByteArray).map Value.string) := by rw [e5]; exact Blk.new w4 _ _
    have hX5 := hX4.keep hbA
    have hR5 := hR4.keep hbA
    have hS5 := hS4.keep hbA
    have hG5 := grown_trans0 hG4 (grown_of_below hbA (some g))
    have hgl4 := hS4.lt
    clear e5 hbA hX4 hR4 hS4 hG4
    refine (text_any g (a + 12) B w4.heap.size 2 2 [⟨#[]⟩, ⟨#[74]⟩] W5 hS5 (by omega) rfl (by omega) (by omega) (by omega) (fun k s hs => by rw [hN.cell, List.getElem?_map, hs]; rfl)).mono ?_
    rintro e w6 ⟨y, rfl, hy, hS6, hg6⟩
    have hX6 := hX5.grown hg6 (fun p hp => by injection hp with hp; omega)
    have hR6 := hR5.grown hg6 (fun p hp => by injection hp with hp; omega)
    have hG6 := grown_trans0 hG5 hg6
    clear hX5 hR5 hG5 hS5 hg6 hN
    have ff := hX6.frozen 0
    have dd : w6.cell? ⟨q, 0, none⟩ = some (.string s) := by rw [hX6.cell]; rfl
    have hql := hX6.lt
    go_upto_region 9 with (fail)
    refine wp_named ?_
    intro V e
    have hX : Blk V q 71 [.string y, .int .i64 lo, .int .i64 la] := by rw [e]; exact hX6.set_ 0 _
    have hR := hR6.far (p := ⟨q, 0, none⟩) (by show w.heap.size ≠ q; omega) (.string y)
    have hS := hS6.set (q := q) (by omega) 0 (.string y)
    have hG := grown_far hG6 (q := q) (by omega) 0 (.string y)
    rw [← e] at hR hS hG
    clear e hX6 hR6 hS6 hG6 ff dd hql
    obtain ⟨c0, c1, c2⟩ := hX.three
    obtain ⟨r0, r1, r2⟩ := hR.three
    have f0 := hR.frozen 0; have f1 := hR.frozen 1; have f2 := hR.frozen 2
    clear hX
    go_wp2_with (fail)
    obtain ⟨WF, hWF, hSF, hGF, z0, z1, z2⟩ := draw_fin3 hR hS hG hB (Nat.le_refl _) (.string y) (.int .i64 lo) (.int .i64 la)
    rw [← hWF]
    clear hWF hR hS hG r0 r1 r2 c0 c1 c2 f0 f1 f2
    refine bodyPost_ret (v := .agg #[.string y, .int .i64 lo, .int .i64 la]) (by simp [results, Tryz.results91, go_sem, *]) rfl ⟨y, lo, la, rfl, hSF, hGF⟩
  have n0 : ((k : Int) == 0) = false := by rw [beq_eq_false_iff_ne]; omega
  have n1 : ((k : Int) == 1) = false := by rw [beq_eq_false_iff_ne]; omega
  have n2 : ((k : Int) == 2) = false := by rw [beq_eq_false_iff_ne]; omega
  have hX := hX4
  have hR := hR4
  have hS := hS4.mono (show a + 10 + 2 ≤ a + 14 by omega)
  have hG := hG4
  clear hX4 hR4 hS4 hG4
  obtain ⟨c0, c1, c2⟩ := hX.three
  obtain ⟨r0, r1, r2⟩ := hR.three
  have f0 := hR.frozen 0; have f1 := hR.frozen 1; have f2 := hR.frozen 2
  clear hX
  go_wp2_with (fail)
  obtain ⟨WF, hWF, hSF, hGF, z0, z1, z2⟩ := draw_fin3 hR hS hG hB (Nat.le_refl _) (.string s) (.int .i64 lo) (.int .i64 la)
  rw [← hWF]
  clear hWF hR hS hG r0 r1 r2 c0 c1 c2 f0 f1 f2
  refine bodyPost_ret (v := .agg #[.string s, .int .i64 lo, .int .i64 la]) (by simp [results, Tryz.results91, go_sem, *]) rfl ⟨s, lo, la, rfl, hSF, hGF⟩
end Go.Proofs.YtpnfhienffekoaaGreatDoor
