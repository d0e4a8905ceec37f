/- Contracts of the functions that draw planets and moments. -/
import Derived.Test.YtpnfhienffekoaaGreatDoorAmong
import Derived.Test.YtpnfhienffekoaaGreatDoorPlainPlan
import Derived.Test.YtpnfhienffekoaaGreatDoorGrpNum
namespace Go.Proofs.YtpnfhienffekoaaGreatDoor
set_option linter.unusedVariables false
set_option linter.unusedSimpArgs false
open Go.RowKit
def planNames : List ByteArray := [⟨#[118, 101, 110, 117, 115]⟩, ⟨#[101, 97, 114, 116, 104]⟩, ⟨#[109, 97, 114, 115]⟩, ⟨#[109, 111, 111, 110]⟩]
theorem planNames_ok {s : ByteArray} (h : s ∈ planNames) : isName s.data.toList = true := by
  have : ∀ s ∈ planNames, isName s.data.toList = true := by decide +kernel
  exact this s h
theorem Blk.fourP {w : World} {g : Nat} {t : TypeId} {v0 v1 v2 v3 : Value} (h : Blk w g t [v0, v1, v2, v3]) : w.cell? ⟨g, 0, none⟩ = some v0 ∧ w.cell? ⟨g, 1, none⟩ = some v1 ∧ w.cell? ⟨g, 2, none⟩ = some v2 ∧ w.cell? ⟨g, 3, none⟩ = some v3 :=
  ⟨by rw [h.cell]; rfl, by rw [h.cell]; rfl, by rw [h.cell]; rfl, by rw [h.cell]; rfl⟩
theorem Blk.twoP {w : World} {g : Nat} {t : TypeId} {v0 v1 : Value} (h : Blk w g t [v0, v1]) : w.cell? ⟨g, 0, none⟩ = some v0 ∧ w.cell? ⟨g, 1, none⟩ = some v1 :=
  ⟨by rw [h.cell]; rfl, by rw [h.cell]; rfl⟩
theorem draw_fin4 {w W : World} {g a B r : Nat} {t : TypeId} {u0 u1 u2 u3 : Value} (hR : Blk W r t [u0, u1, u2, u3]) (hS : Src W g a B) (hG : w.grownBy W (some g)) (hB : B ≤ r) (hr : w.heap.size ≤ r) (v0 v1 v2 v3 : Value) :
    ∃ WF, WF = ((((W.setCell ⟨r, 0, none⟩ v0).setCell ⟨r, 1, none⟩ v1).setCell ⟨r, 2, none⟩ v2).setCell ⟨r, 3, none⟩ v3) ∧ Src WF g a B ∧ w.grownBy WF (some g) ∧ WF.cell? ⟨r, 0, none⟩ = some v0 ∧ WF.cell? ⟨r, 1, none⟩ = some v1 ∧ WF.cell? ⟨r, 2, none⟩ = some v2 ∧ WF.cell? ⟨r, 3, none⟩ = some v3 := by
  have h : Blk _ r t [v0, v1, v2, v3] := (((hR.set_ 0 v0).set_ 1 v1).set_ 2 v2).set_ 3 v3
  exact ⟨_, rfl, (((hS.set hB 0 v0).set hB 1 v1).set hB 2 v2).set hB 3 v3, grown_far (grown_far (grown_far (grown_far hG hr 0 v0) hr 1 v1) hr 2 v2) hr 3 v3, h.fourP⟩
theorem draw_fin2 {w W : World} {g a B r : Nat} {t : TypeId} {u0 u1 : Value} (hR : Blk W r t [u0, u1]) (hS : Src W g a B) (hG : w.grownBy W (some g)) (hB : B ≤ r) (hr : w.heap.size ≤ r) (v0 v1 : Value) :
    ∃ WF, WF = ((W.setCell ⟨r, 0, none⟩ v0).setCell ⟨r, 1, none⟩ v1) ∧ Src WF g a B ∧ w.grownBy WF (some g) ∧ WF.cell? ⟨r, 0, none⟩ = some v0 ∧ WF.cell? ⟨r, 1, none⟩ = some v1 := by
  have h : Blk _ r t [v0, v1] := (hR.set_ 0 v0).set_ 1 v1
  exact ⟨_, rfl, (hS.set hB 0 v0).set hB 1 v1, grown_far (grown_far hG hr 0 v0) hr 1 v1, h.twoP⟩
set_option maxRecDepth 100000 in
set_option maxHeartbeats 4000000 in
theorem l07Draw_any (g a B : Nat) (w : World) (h : Src w g a B) (ha : a ≤ 999999800) (hB : B ≤ w.heap.size) :
    Calls Tryz.prog 45 #[.pointer (some ⟨g, 0, none⟩)] w fun e w' => ∃ P : PlB, e = .returned (.agg #[.string P.n, .int .i64 P.p, .int .i64 P.r, .int .i64 P.u]) ∧ vP P = true ∧ Src w' g (a + 10) B ∧ w.grownBy w' (some g) := by
  have hgl := h.lt
  go_enter Tryz.func45, Tryz.ntmps45
  go_wp2_with (fail)
  refine calls_named ?_
  intro W2 e2
  have hbA : Below w.heap.size w W2 := by rw [e2]; exact below_alloc (below_alloc (Below.refl _ _) _) _
  have hR2 : Blk W2 w.heap.size 25 [.string ⟨#[]⟩, .int .i64 0, .int .i64 0, .int .i64 0] := by rw [e2]; exact (Blk.new w _ _).alloc _
  have hN : Blk W2 (w.heap.size + 1) 9 (planNames.map Value.string) := by
    rw [e2]
    have := Blk.new (w.alloc (.cells #[.string ⟨#[]⟩, .int .i64 0, .int .i64 0, .int .i64 0] 25)) 9 (planNames.map Value.string)
    simpa [planNames] using this
  have hS2 := h.keep hbA
  have hG2 := grown_of_below hbA (some g)
  clear e2 hbA
  refine (text_any g a B (w.heap.size + 1) 4 4 planNames W2 hS2 (by omega) rfl (by omega) (by omega) (by omega) (fun k s hs => by rw [hN.cell, List.getElem?_map, hs]; rfl)).mono ?_
  rintro e w3 ⟨s, rfl, hs, hS3, hg3⟩
  have hR3 := hR2.grown hg3 (fun q hq => by injection hq with hq; omega)
  have hG3 := grown_trans0 hG2 hg3
  have hgl3 := hS3.lt
  clear hS2 hG2 hR2 hN hg3
  go_wp2_with (fail)
  refine calls_named ?_
  intro W4 e4
  have hb4 : Below w3.heap.size w3 W4 := by rw [e4]; exact below_alloc (Below.refl _ _) _
  have hN : Blk W4 w3.heap.size 2 (numCells [224701, 365256, 686980, 87969, 4332589]) := by rw [e4]; exact Blk.new w3 _ _
  have hS4 := hS3.keep hb4
  have hG4 := grown_trans0 hG3 (grown_of_below hb4 (some g))
  have hR4 := hR3.keep hb4
  clear e4 hb4 hR3 hG3 hS3
  refine (among_any g (a + 2) B w3.heap.size 5 5 [224701, 365256, 686980, 87969, 4332589] W4 hS4 (by omega) rfl (by omega) (by omega) (by omega) hN).mono ?_
  rintro e w5 ⟨p, rfl, hp, hS5, hg5⟩
  have hR5 := hR4.grown hg5 (fun q hq => by injection hq with hq; omega)
  have hG5 := grown_trans0 hG4 hg5
  have HP : Hid (1000 ≤ p ∧ p ≤ 100000000) := Lib.hid (by simp only [List.mem_cons, List.not_mem_nil, or_false] at hp; omega)
  have hgl5 := hS5.lt
  clear hN hS4 hG4 hR4 hg5 hp
  go_wp2_with (fail)
  refine calls_named ?_
  intro W6 e6
  have hb6 : Below w5.heap.size w5 W6 := by rw [e6]; exact below_alloc (below_alloc (Below.refl _ _) _) _
  have hX6 : Blk W6 w5.heap.size 25 [.string s, .int .i64 p, .int .i64 0, .int .i64 0] := by rw [e6]; exact (Blk.new w5 _ _).alloc _
  have hN : Blk W6 (w5.heap.size + 1) 2 (numCells [723, 1000, 1524, 387, 5203]) := by
    rw [e6]
    have := Blk.new (w5.alloc (.cells #[.string s, .int .i64 p, .int .i64 0, .int .i64 0] 25)) 2 (numCells [723, 1000, 1524, 387, 5203])
    simpa [numCells] using this
  have hS6 := hS5.keep hb6
  have hG6 := grown_trans0 hG5 (grown_of_below hb6 (some g))
  have hR6 := hR5.keep hb6
  have hrq := hR5.lt
  clear e6 hb6 hR5 hG5 hS5
  generalize w5.heap.size = q at *
  refine (among_any g (a + 2 + 2) B (q + 1) 5 5 [723, 1000, 1524, 387, 5203] W6 hS6 (by omega) rfl (by omega) (by omega) (by omega) hN).mono ?_
  rintro e w7 ⟨r, rfl, hr, hS7, hg7⟩
  have hX7 := hX6.grown hg7 (fun p hp => by injection hp with hp; omega)
  have hR7 := hR6.grown hg7 (fun p hp => by injection hp with hp; omega)
  have hG7 := grown_trans0 hG6 hg7
  have HR : Hid (1 ≤ r ∧ r ≤ 50000) := Lib.hid (by simp only [List.mem_cons, List.not_mem_nil, or_false] at hr; omega)
  have f2 := hX7.frozen 2
  have d2 : w7.cell? ⟨q, 2, none⟩ = some (.int .i64 0) := by rw [hX7.cell]; rfl
  have hql := hX7.lt
  clear hN hX6 hR6 hG6 hS6 hg7 hr
  go_wp2_with (fail)
  refine calls_named ?_
  intro W8 e8
  have hX8 : Blk W8 q 25 [.string s, .int .i64 p, .int .i64 r, .int .i64 0] := by rw [e8]; exact hX7.set_ 2 _
  have hR8 := hR7.far (p := ⟨q, 2, none⟩) (by show w.heap.size ≠ q; omega) (.int .i64 r)
  have hS8 := hS7.set (q := q) (by omega) 2 (.int .i64 r)
  have hG8 := grown_far hG7 (q := q) (by omega) 2 (.int .i64 r)
  rw [← e8] at hR8 hS8 hG8
  clear e8 hX7 hR7 hS7 hG7 f2 d2 hql
  refine (pick_any g (a + 2 + 2 + 2) B 60000 W8 hS8 (by omega) (by omega)).mono ?_
  rintro e w9 ⟨u, rfl, hu, hS9, hg9⟩
  have hX9 := hX8.grown hg9 (fun p hp => by injection hp with hp; omega)
  have hR9 := hR8.grown hg9 (fun p hp => by injection hp with hp; omega)
  have hG9 := grown_trans0 hG8 hg9
  have hu' : u < 60000 := by omega
  have f3 := hX9.frozen 3
  have d3 : w9.cell? ⟨q, 3, none⟩ = some (.int .i64 0) := by rw [hX9.cell]; rfl
  have hql := hX9.lt
  clear hX8 hR8 hG8 hS8 hg9 hu
  go_upto_region 4 with (fail)
  refine wp_named ?_
  intro V e
  have hX : Blk V q 25 [.string s, .int .i64 p, .int .i64 r, .int .i64 (6 * (u : Int))] := by rw [e]; exact hX9.set_ 3 _
  have hR := hR9.far (p := ⟨q, 3, none⟩) (by show w.heap.size ≠ q; omega) (.int .i64 (6 * (u : Int)))
  have hS := hS9.set (q := q) (by omega) 3 (.int .i64 (6 * (u : Int)))
  have hG := grown_far hG9 (q := q) (by omega) 3 (.int .i64 (6 * (u : Int)))
  rw [← e] at hR hS hG
  clear e hX9 hR9 hS9 hG9 f3 d3 hql
  obtain ⟨c0, c1, c2, c3⟩ := hX.fourP
  obtain ⟨r0, r1, r2, r3⟩ := hR.fourP
  have f0 := hR.frozen 0; have f1 := hR.frozen 1; have f2 := hR.frozen 2; have f3 := hR.frozen 3
  have hql := hX.lt
  have hrl := hR.lt
  clear hX
  go_wp2_with (fail)
  obtain ⟨WF, hWF, hSF, hGF, z0, z1, z2, z3⟩ := draw_fin4 hR hS hG hB (Nat.le_refl _) (.string s) (.int .i64 p) (.int .i64 r) (.int .i64 (6 * (u : Int)))
  rw [← hWF]
  clear hWF hR hS hG r0 r1 r2 r3 c0 c1 c2 c3 f0 f1 f2 f3
  have hv : vP ⟨s, p, r, 6 * (u : Int)⟩ = true := by
    have := HP.out
    have := HR.out
    simp [vP, vPlanet, planNames_ok hs, inB]; omega
  refine bodyPost_ret (v := .agg #[.string s, .int .i64 p, .int .i64 r, .int .i64 (6 * (u : Int))]) (by simp [results, Tryz.results45, go_sem, z0, z1, z2, z3]) rfl ⟨⟨s, p, r, _⟩, rfl, hv, hSF.mono (by omega), hGF⟩
set_option maxRecDepth 100000 in
set_option maxHeartbeats 4000000 in
theorem l03Draw_any (g a B : Nat) (w : World) (h : Src w g a B) (ha : a ≤ 999999800) (hB : B ≤ w.heap.size) :
    Calls Tryz.prog 46 #[.pointer (some ⟨g, 0, none⟩)] w fun e w' => ∃ d m : Int, e = .returned (.agg #[.int .i64 d, .int .i64 m]) ∧ vMoment d m = true ∧ Src w' g (a + 10) B ∧ w.grownBy w' (some g) := by
  have hgl := h.lt
  go_enter Tryz.func46, Tryz.ntmps46
  go_wp2_with (fail)
  refine calls_named ?_
  intro W2 e2
  have hbA : Below w.heap.size w W2 := by rw [e2]; exact below_alloc (Below.refl _ _) _
  have hR2 : Blk W2 w.heap.size 28 [.int .i64 0, .int .i64 0] := by rw [e2]; exact Blk.new w _ _
  have hS2 := h.keep hbA
  have hG2 := grown_of_below hbA (some g)
  clear e2 hbA
  refine (pick_any g a B 12000 W2 hS2 (by omega) (by omega)).mono ?_
  rintro e w3 ⟨d, rfl, hd, hS3, hg3⟩
  have hR3 := hR2.grown hg3 (fun q hq => by injection hq with hq; omega)
  have hG3 := grown_trans0 hG2 hg3
  have hd' : d < 12000 := by omega
  have hgl3 := hS3.lt
  have hrl3 := hR3.lt
  clear hS2 hG2 hR2 hg3 hd
  go_wp2_with (fail)
  refine calls_named ?_
  intro W4 e4
  have hb4 : Below w3.heap.size w3 W4 := by rw [e4]; exact below_alloc (Below.refl _ _) _
  have hX4 : Blk W4 w3.heap.size 28 [.int .i64 (d : Int), .int .i64 0] := by rw [e4]; exact Blk.new w3 _ _
  have hS4 := hS3.keep hb4
  have hG4 := grown_trans0 hG3 (grown_of_below hb4 (some g))
  have hR4 := hR3.keep hb4
  clear e4 hb4 hR3 hG3 hS3
  generalize w3.heap.size = q at *
  refine (pick_any g (a + 2) B 43200 W4 hS4 (by omega) (by omega)).mono ?_
  rintro e w5 ⟨x1, rfl, hx1, hS5, hg5⟩
  have hx1' : x1 < 43200 := by omega
  have hX5 := hX4.grown hg5 (fun p hp => by injection hp with hp; omega)
  have hR5 := hR4.grown hg5 (fun p hp => by injection hp with hp; omega)
  have hG5 := grown_trans0 hG4 hg5
  clear hX4 hR4 hG4 hS4 hg5 hx1
  go_wp2_with (fail)
  refine (pick_any g (a + 2 + 2) B 40000000 w5 hS5 (by omega) (by omega)).mono ?_
  rintro e w6 ⟨x2, rfl, hx2, hS6, hg6⟩
  have hx2' : x2 < 40000000 := by omega
  have hX6 := hX5.grown hg6 (fun p hp => by injection hp with hp; omega)
  have hR6 := hR5.grown hg6 (fun p hp => by injection hp with hp; omega)
  have hG6 := grown_trans0 hG5 hg6
  have f1 := hX6.frozen 1
  have d1 : w6.cell? ⟨q, 1, none⟩ = some (.int .i64 0) := by rw [hX6.cell]; rfl
  have hql := hX6.lt
  clear hX5 hR5 hG5 hS5 hg6 hx2
  go_wp2_with (fail)
  refine calls_named ?_
  intro W7 e7
  have hX7 : Blk W7 q 28 [.int .i64 (d : Int), .int .i64 (1000 * (x1 : Int) + (x2 : Int))] := by rw [e7]; exact hX6.set_ 1 _
  have hR7 := hR6.far (p := ⟨q, 1, none⟩) (by show w.heap.size ≠ q; omega) (.int .i64 (1000 * (x1 : Int) + (x2 : Int)))
  have hS7 := hS6.set (q := q) (by omega) 1 (.int .i64 (1000 * (x1 : Int) + (x2 : Int)))
  have hG7 := grown_far hG6 (q := q) (by omega) 1 (.int .i64 (1000 * (x1 : Int) + (x2 : Int)))
  rw [← e7] at hR7 hS7 hG7
  clear e7 hX6 hR6 hS6 hG6 f1 d1 hql
  refine (one_any g (a + 2 + 2 + 2) B 8 W7 hS7 (by omega) (by omega)).mono ?_
  rintro e w8 ⟨b, rfl, hS8, hg8⟩
  have hX8 := hX7.grown hg8 (fun p hp => by injection hp with hp; omega)
  have hR8 := hR7.grown hg8 (fun p hp => by injection hp with hp; omega)
  have hG8 := grown_trans0 hG7 hg8
  have hgl8 := hS8.lt
  have hql8 := hX8.lt
  have hrl8 := hR8.lt
  clear hX7 hR7 hG7 hS7 hg8
  cases b with
  | true =>
    go_wp2_with (fail)
    refine calls_named ?_
    intro W9 e9
    have hb9 : Below w8.heap.size w8 W9 := by rw [e9]; exact below_alloc (Below.refl _ _) _
    have hN : Blk W9 w8.heap.size 2 (numCells [0, 59, 60, 99999]) := by rw [e9]; exact Blk.new w8 _ _
    have hG9 := grown_trans0 hG8 (grown_of_below hb9 (some g))
    have hX9 := hX8.keep hb9
    have hR9 := hR8.keep hb9
    have hS9 := hS8.keep hb9
    clear e9 hb9 hX8 hR8 hG8 hS8
    refine (among_any g (a + 2 + 2 + 2 + 2) B w8.heap.size 4 4 [0, 59, 60, 99999] W9 hS9 (by omega) rfl (by omega) (by omega) (by omega) hN).mono ?_
    rintro e w10 ⟨y, rfl, hy, hS10, hg10⟩
    have hX10 := hX9.grown hg10 (fun p hp => by injection hp with hp; omega)
    have hR10 := hR9.grown hg10 (fun p hp => by injection hp with hp; omega)
    have hG10 := grown_trans0 hG9 hg10
    have HY : Hid (0 ≤ y ∧ y ≤ 99999) := Lib.hid (by simp only [List.mem_cons, List.not_mem_nil, or_false] at hy; omega)
    have f0 := hX10.frozen 0
    have d0 : w10.cell? ⟨q, 0, none⟩ = some (.int .i64 (d : Int)) := by rw [hX10.cell]; rfl
    have hql := hX10.lt
    clear hX9 hR9 hG9 hS9 hg10 hN hy
    go_upto_region 5 with (fail)
    refine wp_named ?_
    intro V e
    have hX : Blk V q 28 [.int .i64 y, .int .i64 (1000 * (x1 : Int) + (x2 : Int))] := by rw [e]; exact hX10.set_ 0 _
    have hR := hR10.far (p := ⟨q, 0, none⟩) (by show w.heap.size ≠ q; omega) (.int .i64 y)
    have hS := hS10.set (q := q) (by omega) 0 (.int .i64 y)
    have hG := grown_far hG10 (q := q) (by omega) 0 (.int .i64 y)
    rw [← e] at hR hS hG
    clear e hX10 hR10 hS10 hG10 f0 d0 hql
    obtain ⟨c0, c1⟩ := hX.twoP
    obtain ⟨r0, r1⟩ := hR.twoP
    have f0 := hR.frozen 0; have f1 := hR.frozen 1
    have hql := hX.lt
    have hrl := hR.lt
    clear hX
    go_wp2_with (fail)
    obtain ⟨WF, hWF, hSF, hGF, z0, z1⟩ := draw_fin2 hR hS hG hB (Nat.le_refl _) (.int .i64 y) (.int .i64 (1000 * (x1 : Int) + (x2 : Int)))
    rw [← hWF]
    clear hWF hR hS hG r0 r1 c0 c1 f0 f1
    have hv : vMoment y (1000 * (x1 : Int) + (x2 : Int)) = true := by
      have := HY.out
      simp [vMoment, inB]; omega
    refine bodyPost_ret (v := .agg #[.int .i64 y, .int .i64 (1000 * (x1 : Int) + (x2 : Int))]) (by simp [results, Tryz.results46, go_sem, z0, z1]) rfl ⟨y, _, rfl, hv, hSF.mono (by omega), hGF⟩
  | false =>
    obtain ⟨c0, c1⟩ := hX8.twoP
    obtain ⟨r0, r1⟩ := hR8.twoP
    have f0 := hR8.frozen 0; have f1 := hR8.frozen 1
    clear hX8
    go_wp2_with (fail)
    obtain ⟨WF, hWF, hSF, hGF, z0, z1⟩ := draw_fin2 hR8 hS8 hG8 hB (Nat.le_refl _) (.int .i64 (d : Int)) (.int .i64 (1000 * (x1 : Int) + (x2 : Int)))
    rw [← hWF]
    clear hWF hR8 hS8 hG8 r0 r1 c0 c1 f0 f1
    have hv : vMoment (d : Int) (1000 * (x1 : Int) + (x2 : Int)) = true := by simp [vMoment, inB]; omega
    refine bodyPost_ret (v := .agg #[.int .i64 (d : Int), .int .i64 (1000 * (x1 : Int) + (x2 : Int))]) (by simp [results, Tryz.results46, go_sem, z0, z1]) rfl ⟨_, _, rfl, hv, hSF.mono (by omega), hGF⟩
set_option maxRecDepth 100000 in
set_option maxHeartbeats 2000000 in
theorem R8Planet_any (A : Option Addr) (n c : Nat) (bs : List Int) (w : World) (hl : bs.length = n) (hn : n ≤ 1048576) (hA : Bytes w A bs) (hok : ∀ x ∈ bs, ByteOk x) :
    Calls Tryz.prog 7 #[.slice A n c] w fun e w' => ∃ P : PlB, e = .returned (.agg #[.string P.n, .int .i64 P.p, .int .i64 P.r, .int .i64 P.u]) ∧ vP P = true ∧ Below w.heap.size w w' := by
  go_enter Tryz.func7, Tryz.ntmps7
  go_wp2_with (fail)
  refine calls_named ?_
  intro W1 e1
  have hb1 : Below w.heap.size w W1 := by rw [e1]; exact below_alloc (Below.refl _ _) _
  have hR1 : Blk W1 w.heap.size 25 [.string ⟨#[]⟩, .int .i64 0, .int .i64 0, .int .i64 0] := by rw [e1]; exact Blk.new w _ _
  clear e1
  refine (l00From_any A n c bs W1 hl hn (hA.below hb1) hok).mono ?_
  rintro e w2 ⟨rfl, hS2, hb2⟩
  have hR2 := hR1.keep hb2
  have hbW := below_step hb1 hb2
  have hgl := hS2.lt
  have hrg : w.heap.size < W1.heap.size := hR1.lt
  clear hR1 hb1 hb2
  generalize W1.heap.size = g at *
  go_wp2_with (fail)
  refine (l07Draw_any g 0 (g + 1) w2 hS2 (by omega) hgl).mono ?_
  rintro e w3 ⟨⟨s, p, r, u⟩, rfl, hv, hS3, hg3⟩
  dsimp only
  have hR3 := hR2.grown hg3 (fun p hp => by injection hp with hp; omega)
  have hbW3 := below_of_grown hbW hg3 hbW.size (fun p hp => by injection hp with hp; omega)
  obtain ⟨r0, r1, r2, r3⟩ := hR3.fourP
  have f0 := hR3.frozen 0; have f1 := hR3.frozen 1; have f2 := hR3.frozen 2; have f3 := hR3.frozen 3
  have hrl := hR3.lt
  have HV := Lib.hid hv
  clear hR2 hbW hg3 hv
  go_wp2_with (fail)
  have hbF : Below w.heap.size w ((((w3.setCell ⟨w.heap.size, 0, none⟩ (.string s)).setCell ⟨w.heap.size, 1, none⟩ (.int .i64 p)).setCell ⟨w.heap.size, 2, none⟩ (.int .i64 r)).setCell ⟨w.heap.size, 3, none⟩ (.int .i64 u)) := below_setCell0 (below_setCell0 (below_setCell0 (below_setCell0 hbW3 (Nat.le_refl _) _) (Nat.le_refl _) _) (Nat.le_refl _) _) (Nat.le_refl _) _
  have hBF : Blk ((((w3.setCell ⟨w.heap.size, 0, none⟩ (.string s)).setCell ⟨w.heap.size, 1, none⟩ (.int .i64 p)).setCell ⟨w.heap.size, 2, none⟩ (.int .i64 r)).setCell ⟨w.heap.size, 3, none⟩ (.int .i64 u)) w.heap.size 25 [.string s, .int .i64 p, .int .i64 r, .int .i64 u] := (((hR3.set_ 0 (.string s)).set_ 1 (.int .i64 p)).set_ 2 (.int .i64 r)).set_ 3 (.int .i64 u)
  generalize ((((w3.setCell ⟨w.heap.size, 0, none⟩ (.string s)).setCell ⟨w.heap.size, 1, none⟩ (.int .i64 p)).setCell ⟨w.heap.size, 2, none⟩ (.int .i64 r)).setCell ⟨w.heap.size, 3, none⟩ (.int .i64 u)) = WF at *
  obtain ⟨y0, y1, y2, y3⟩ := hBF.fourP
  refine bodyPost_ret (v := .agg #[.string s, .int .i64 p, .int .i64 r, .int .i64 u]) (by simp [results, Tryz.results7, go_sem, y0, y1, y2, y3]) rfl ⟨⟨s, p, r, u⟩, rfl, HV.out, hbF⟩
set_option maxRecDepth 100000 in
set_option maxHeartbeats 2000000 in
theorem R8Moment_any (A : Option Addr) (n c : Nat) (bs : List Int) (w : World) (hl : bs.length = n) (hn : n ≤ 1048576) (hA : Bytes w A bs) (hok : ∀ x ∈ bs, ByteOk x) :
    Calls Tryz.prog 8 #[.slice A n c] w fun e w' => ∃ d m : Int, e = .returned (.agg #[.int .i64 d, .int .i64 m]) ∧ vMoment d m = true ∧ Below w.heap.size w w' := by
  go_enter Tryz.func8, Tryz.ntmps8
  go_wp2_with (fail)
  refine calls_named ?_
  intro W1 e1
  have hb1 : Below w.heap.size w W1 := by rw [e1]; exact below_alloc (Below.refl _ _) _
  have hR1 : Blk W1 w.heap.size 28 [.int .i64 0, .int .i64 0] := by rw [e1]; exact Blk.new w _ _
  clear e1
  refine (l00From_any A n c bs W1 hl hn (hA.below hb1) hok).mono ?_
  rintro e w2 ⟨rfl, hS2, hb2⟩
  have hR2 := hR1.keep hb2
  have hbW := below_step hb1 hb2
  have hgl := hS2.lt
  have hrg : w.heap.size < W1.heap.size := hR1.lt
  clear hR1 hb1 hb2
  generalize W1.heap.size = g at *
  go_wp2_with (fail)
  refine (l03Draw_any g 0 (g + 1) w2 hS2 (by omega) hgl).mono ?_
  rintro e w3 ⟨d, m, rfl, hv, hS3, hg3⟩
  have hR3 := hR2.grown hg3 (fun p hp => by injection hp with hp; omega)
  have hbW3 := below_of_grown hbW hg3 hbW.size (fun p hp => by injection hp with hp; omega)
  obtain ⟨r0, r1⟩ := hR3.twoP
  have f0 := hR3.frozen 0; have f1 := hR3.frozen 1
  have hrl := hR3.lt
  have HV := Lib.hid hv
  clear hR2 hbW hg3 hv
  go_wp2_with (fail)
  have hbF : Below w.heap.size w ((w3.setCell ⟨w.heap.size, 0, none⟩ (.int .i64 d)).setCell ⟨w.heap.size, 1, none⟩ (.int .i64 m)) := below_setCell0 (below_setCell0 hbW3 (Nat.le_refl _) _) (Nat.le_refl _) _
  have hBF : Blk ((w3.setCell ⟨w.heap.size, 0, none⟩ (.int .i64 d)).setCell ⟨w.heap.size, 1, none⟩ (.int .i64 m)) w.heap.size 28 [.int .i64 d, .int .i64 m] := (hR3.set_ 0 (.int .i64 d)).set_ 1 (.int .i64 m)
  generalize ((w3.setCell ⟨w.heap.size, 0, none⟩ (.int .i64 d)).setCell ⟨w.heap.size, 1, none⟩ (.int .i64 m)) = WF at *
  obtain ⟨y0, y1⟩ := hBF.twoP
  refine bodyPost_ret (v := .agg #[.int .i64 d, .int .i64 m]) (by simp [results, Tryz.results8, go_sem, y0, y1]) rfl ⟨d, m, rfl, HV.out, hbF⟩
end Go.Proofs.YtpnfhienffekoaaGreatDoor
