/- Contracts of the functions that draw stars. -/
import Derived.Test.YtpnfhienffekoaaGreatDoorMgJ
import Derived.Test.YtpnfhienffekoaaGreatDoorAddS
import Derived.Deep.DeepCutAuto
namespace Go.Proofs.YtpnfhienffekoaaGreatDoor
set_option linter.unusedVariables false
set_option linter.unusedSimpArgs false
open Go.RowKit
/-- the names that are drawn -/
def drawNames : List ByteArray := [⟨#[97, 108, 112, 104, 97]⟩, ⟨#[98, 101, 116, 97]⟩, ⟨#[103, 97, 109, 109, 97]⟩, ⟨#[100, 101, 108, 116, 97]⟩, ⟨#[118, 101, 103, 97]⟩, ⟨#[114, 105, 103, 101, 108]⟩, ⟨#[109, 105, 114, 97]⟩, ⟨#[112, 111, 108, 97, 114, 105, 115]⟩]
theorem drawNames_ok {s : ByteArray} (h : s ∈ drawNames) : isName s.data.toList = true := by
  have : ∀ s ∈ drawNames, isName s.data.toList = true := by decide +kernel
  exact this s h
set_option maxHeartbeats 1000000 in
theorem l05DrawOne_any (g a B : Nat) (w : World) (h : Src w g a B) (ha : a ≤ 999999900) (hB : B ≤ w.heap.size) :
    Calls Tryz.prog 111 #[.pointer (some ⟨g, 0, none⟩)] w fun e w' => ∃ x : Sta, e = .returned (.agg #[.string x.id, .int .i64 x.ri, .int .i64 x.de, .int .i64 x.ma, .int .i64 x.co]) ∧ x.ok = true ∧ x.id ∈ drawNames ∧ Src w' g (a + 10) B ∧ w.grownBy w' (some g) := by
  go_enter Tryz.func111, Tryz.ntmps111
  go_wp2_with (fail)
  have hb1 : Below w.heap.size w ((w.alloc (.cells #[.string ⟨#[]⟩, .int .i64 0, .int .i64 0, .int .i64 0, .int .i64 0] 46)).alloc (.cells #[.string ⟨#[97, 108, 112, 104, 97]⟩, .string ⟨#[98, 101, 116, 97]⟩, .string ⟨#[103, 97, 109, 109, 97]⟩, .string ⟨#[100, 101, 108, 116, 97]⟩, .string ⟨#[118, 101, 103, 97]⟩, .string ⟨#[114, 105, 103, 101, 108]⟩, .string ⟨#[109, 105, 114, 97]⟩, .string ⟨#[112, 111, 108, 97, 114, 105, 115]⟩] 9)) := below_alloc (below_alloc (Below.refl _ _) _) _
  have hR : Blk ((w.alloc (.cells #[.string ⟨#[]⟩, .int .i64 0, .int .i64 0, .int .i64 0, .int .i64 0] 46)).alloc (.cells #[.string ⟨#[97, 108, 112, 104, 97]⟩, .string ⟨#[98, 101, 116, 97]⟩, .string ⟨#[103, 97, 109, 109, 97]⟩, .string ⟨#[100, 101, 108, 116, 97]⟩, .string ⟨#[118, 101, 103, 97]⟩, .string ⟨#[114, 105, 103, 101, 108]⟩, .string ⟨#[109, 105, 114, 97]⟩, .string ⟨#[112, 111, 108, 97, 114, 105, 115]⟩] 9)) w.heap.size 46 [.string ⟨#[]⟩, .int .i64 0, .int .i64 0, .int .i64 0, .int .i64 0] := (Blk.new w _ _).alloc _
  have hN : Blk ((w.alloc (.cells #[.string ⟨#[]⟩, .int .i64 0, .int .i64 0, .int .i64 0, .int .i64 0] 46)).alloc (.cells #[.string ⟨#[97, 108, 112, 104, 97]⟩, .string ⟨#[98, 101, 116, 97]⟩, .string ⟨#[103, 97, 109, 109, 97]⟩, .string ⟨#[100, 101, 108, 116, 97]⟩, .string ⟨#[118, 101, 103, 97]⟩, .string ⟨#[114, 105, 103, 101, 108]⟩, .string ⟨#[109, 105, 114, 97]⟩, .string ⟨#[112, 111, 108, 97, 114, 105, 115]⟩] 9)) (w.heap.size + 1) 9 (drawNames.map Value.string) := by
    have := Blk.new (w.alloc (.cells #[.string ⟨#[]⟩, .int .i64 0, .int .i64 0, .int .i64 0, .int .i64 0] 46)) 9 (drawNames.map Value.string)
    simpa [drawNames] using this
  generalize (w.alloc (.cells #[.string ⟨#[]⟩, .int .i64 0, .int .i64 0, .int .i64 0, .int .i64 0] 46)).alloc _ = W2 at *
  have hgl := h.lt
  have hS1 := h.keep hb1
  have hG1 := grown_of_below hb1 (some g)
  refine (text_any g a B (w.heap.size + 1) 8 8 drawNames W2 hS1 (by omega) rfl (by omega) (by omega) (by omega) (fun k s hs => by rw [hN.cell, List.getElem?_map, hs]; rfl)).mono ?_
  rintro e w3 ⟨s, rfl, hs, hS3, hg3⟩
  have hR3 := hR.grown hg3 (fun q hq => by injection hq with hq; omega)
  have hG3 := grown_trans0 hG1 hg3
  clear hS1 hG1 hR hN hg3 hb1
  go_wp2_with (fail)
  have hq3 : w.heap.size < w3.heap.size := hR3.lt
  refine calls_named ?_
  intro W e
  have hX : Blk W w3.heap.size 46 [.string s, .int .i64 0, .int .i64 0, .int .i64 0, .int .i64 0] := by rw [e]; exact Blk.new _ _ _
  have hR := hR3.alloc (.cells #[.string s, .int .i64 0, .int .i64 0, .int .i64 0, .int .i64 0] 46)
  have hb := below_alloc (Below.refl w3.heap.size w3) (.cells #[.string s, .int .i64 0, .int .i64 0, .int .i64 0, .int .i64 0] 46)
  have hS := hS3.keep hb
  have hG := grown_trans0 hG3 (grown_of_below hb (some g))
  rw [← e] at hR hS hG
  clear e hb hR3 hS3 hG3
  generalize w3.heap.size = q at *
  refine (pick_any g (a + 2) B 60000 W hS (by omega) (by omega)).mono ?_
  rintro e U1 ⟨x1, rfl, hx1, hSn, hgn⟩
  have hXn := hX.grown hgn (fun p hp => by injection hp with hp; omega)
  have hRn := hR.grown hgn (fun p hp => by injection hp with hp; omega)
  have hGn := grown_trans0 hG hgn
  have f1 := hXn.frozen 1
  have d1 : U1.cell? ⟨q, 1, none⟩ = some (.int .i64 0) := by rw [hXn.cell]; rfl
  clear hX hR hG hS hgn
  go_wp2_with (fail)
  refine calls_named ?_
  intro V1 e
  have hX : Blk V1 q 46 [.string s, .int .i64 (6 * (x1 : Int)), .int .i64 0, .int .i64 0, .int .i64 0] := by rw [e]; exact hXn.set_ 1 _
  have hR := hRn.far (p := ⟨q, 1, none⟩) (by show w.heap.size ≠ q; omega) (.int .i64 (6 * (x1 : Int)))
  have hS := hSn.set (q := q) (by omega) 1 (.int .i64 (6 * (x1 : Int)))
  have hG := grown_far hGn (q := q) (by omega) 1 (.int .i64 (6 * (x1 : Int)))
  rw [← e] at hR hS hG
  clear e hXn hRn hSn hGn f1 d1
  refine (pick_any g (a + 4) B 60000 V1 hS (by omega) (by omega)).mono ?_
  rintro e U2 ⟨x2, rfl, hx2, hSn, hgn⟩
  have hXn := hX.grown hgn (fun p hp => by injection hp with hp; omega)
  have hRn := hR.grown hgn (fun p hp => by injection hp with hp; omega)
  have hGn := grown_trans0 hG hgn
  have f2 := hXn.frozen 2
  have d2 : U2.cell? ⟨q, 2, none⟩ = some (.int .i64 0) := by rw [hXn.cell]; rfl
  clear hX hR hG hS hgn
  go_wp2_with (fail)
  refine calls_named ?_
  intro V2 e
  have hX : Blk V2 q 46 [.string s, .int .i64 (6 * (x1 : Int)), .int .i64 (3 * (x2 : Int) - 90000), .int .i64 0, .int .i64 0] := by rw [e]; exact hXn.set_ 2 _
  have hR := hRn.far (p := ⟨q, 2, none⟩) (by show w.heap.size ≠ q; omega) (.int .i64 (3 * (x2 : Int) - 90000))
  have hS := hSn.set (q := q) (by omega) 2 (.int .i64 (3 * (x2 : Int) - 90000))
  have hG := grown_far hGn (q := q) (by omega) 2 (.int .i64 (3 * (x2 : Int) - 90000))
  rw [← e] at hR hS hG
  clear e hXn hRn hSn hGn f2 d2
  refine (pick_any g (a + 6) B 700 V2 hS (by omega) (by omega)).mono ?_
  rintro e U3 ⟨x3, rfl, hx3, hSn, hgn⟩
  have hXn := hX.grown hgn (fun p hp => by injection hp with hp; omega)
  have hRn := hR.grown hgn (fun p hp => by injection hp with hp; omega)
  have hGn := grown_trans0 hG hgn
  have f3 := hXn.frozen 3
  have d3 : U3.cell? ⟨q, 3, none⟩ = some (.int .i64 0) := by rw [hXn.cell]; rfl
  clear hX hR hG hS hgn
  go_wp2_with (fail)
  refine calls_named ?_
  intro V3 e
  have hX : Blk V3 q 46 [.string s, .int .i64 (6 * (x1 : Int)), .int .i64 (3 * (x2 : Int) - 90000), .int .i64 ((x3 : Int) - 100), .int .i64 0] := by rw [e]; exact hXn.set_ 3 _
  have hR := hRn.far (p := ⟨q, 3, none⟩) (by show w.heap.size ≠ q; omega) (.int .i64 ((x3 : Int) - 100))
  have hS := hSn.set (q := q) (by omega) 3 (.int .i64 ((x3 : Int) - 100))
  have hG := grown_far hGn (q := q) (by omega) 3 (.int .i64 ((x3 : Int) - 100))
  rw [← e] at hR hS hG
  clear e hXn hRn hSn hGn f3 d3
  refine (pick_any g (a + 8) B 220 V3 hS (by omega) (by omega)).mono ?_
  rintro e U4 ⟨x4, rfl, hx4, hSn, hgn⟩
  have hXn := hX.grown hgn (fun p hp => by injection hp with hp; omega)
  have hRn := hR.grown hgn (fun p hp => by injection hp with hp; omega)
  have hGn := grown_trans0 hG hgn
  have f4 := hXn.frozen 4
  have d4 : U4.cell? ⟨q, 4, none⟩ = some (.int .i64 0) := by rw [hXn.cell]; rfl
  clear hX hR hG hS hgn
  go_upto_region 6 with (fail)
  refine wp_named ?_
  intro V4 e
  have hX : Blk V4 q 46 (staCells [⟨s, 6 * (x1 : Int), 3 * (x2 : Int) - 90000, (x3 : Int) - 100, (x4 : Int) - 40⟩]) := by rw [e]; exact hXn.set_ 4 _
  have hR := hRn.far (p := ⟨q, 4, none⟩) (by show w.heap.size ≠ q; omega) (.int .i64 ((x4 : Int) - 40))
  have hS := hSn.set (q := q) (by omega) 4 (.int .i64 ((x4 : Int) - 40))
  have hG := grown_far hGn (q := q) (by omega) 4 (.int .i64 ((x4 : Int) - 40))
  rw [← e] at hR hS hG
  clear e hXn hRn hSn hGn f4 d4
  obtain ⟨c0, c1, c2, c3, c4⟩ := hX.star
  dsimp only at c0 c1 c2 c3 c4
  have r0 : V4.cell? ⟨w.heap.size, 0, none⟩ = some (.string ⟨#[]⟩) := by rw [hR.cell]; rfl
  have r1 : V4.cell? ⟨w.heap.size, 1, none⟩ = some (.int .i64 0) := by rw [hR.cell]; rfl
  have r2 : V4.cell? ⟨w.heap.size, 2, none⟩ = some (.int .i64 0) := by rw [hR.cell]; rfl
  have r3 : V4.cell? ⟨w.heap.size, 3, none⟩ = some (.int .i64 0) := by rw [hR.cell]; rfl
  have r4 : V4.cell? ⟨w.heap.size, 4, none⟩ = some (.int .i64 0) := by rw [hR.cell]; rfl
  have f0 := hR.frozen 0
  have f1 := hR.frozen 1
  have f2 := hR.frozen 2
  have f3 := hR.frozen 3
  have f4 := hR.frozen 4
  clear hX
  go_wp2_with (fail)
  have hSF := (((((hS.set hB 0 (.string s)).set hB 1 (.int .i64 (6 * (x1 : Int)))).set hB 2 (.int .i64 (3 * (x2 : Int) - 90000))).set hB 3 (.int .i64 ((x3 : Int) - 100))).set hB 4 (.int .i64 ((x4 : Int) - 40)))
  have hGF := grown_far (grown_far (grown_far (grown_far (grown_far hG (Nat.le_refl _) 0 (.string s)) (Nat.le_refl _) 1 (.int .i64 (6 * (x1 : Int)))) (Nat.le_refl _) 2 (.int .i64 (3 * (x2 : Int) - 90000))) (Nat.le_refl _) 3 (.int .i64 ((x3 : Int) - 100))) (Nat.le_refl _) 4 (.int .i64 ((x4 : Int) - 40))
  have hRF : Blk _ w.heap.size 46 (staCells [⟨s, 6 * (x1 : Int), 3 * (x2 : Int) - 90000, (x3 : Int) - 100, (x4 : Int) - 40⟩]) := (((((hR.set_ 0 (.string s)).set_ 1 (.int .i64 (6 * (x1 : Int)))).set_ 2 (.int .i64 (3 * (x2 : Int) - 90000))).set_ 3 (.int .i64 ((x3 : Int) - 100))).set_ 4 (.int .i64 ((x4 : Int) - 40)))
  generalize ((((V4.setCell ⟨w.heap.size, 0, none⟩ (.string s)).setCell ⟨w.heap.size, 1, none⟩ (.int .i64 (6 * (x1 : Int)))).setCell ⟨w.heap.size, 2, none⟩ (.int .i64 (3 * (x2 : Int) - 90000))).setCell ⟨w.heap.size, 3, none⟩ (.int .i64 ((x3 : Int) - 100))).setCell ⟨w.heap.size, 4, none⟩ (.int .i64 ((x4 : Int) - 40)) = WF at *
  obtain ⟨z0, z1, z2, z3, z4⟩ := hRF.star
  dsimp only at z0 z1 z2 z3 z4
  refine bodyPost_ret (v := .agg #[.string s, .int .i64 (6 * (x1 : Int)), .int .i64 (3 * (x2 : Int) - 90000), .int .i64 ((x3 : Int) - 100), .int .i64 ((x4 : Int) - 40)]) (by simp [results, Tryz.results111, go_sem, *]) rfl ?_
  refine ⟨⟨s, 6 * (x1 : Int), 3 * (x2 : Int) - 90000, (x3 : Int) - 100, (x4 : Int) - 40⟩, rfl, ?_, hs, hSF, hGF⟩
  simp [Sta.ok, vStar, drawNames_ok hs, vDir, inB]
  omega
end Go.Proofs.YtpnfhienffekoaaGreatDoor
