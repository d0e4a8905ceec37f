/- Contracts of the functions that draw what is seen from a site. -/
import Derived.Test.YtbpjnopnhmoigaaDoorDrawL
import Derived.Test.YtbpjnopnhmoigaaDoorGrpNum
import Derived.Deep.RegionHeld3
namespace Go.Proofs.YtbpjnopnhmoigaaDoor
set_option linter.unusedVariables false
set_option linter.unusedSimpArgs false
open Go.RowKit
def six : List ByteArray := [⟨#[97]⟩, ⟨#[98]⟩, ⟨#[99]⟩, ⟨#[100]⟩, ⟨#[101]⟩, ⟨#[102]⟩]
theorem heldV_drew {a : World} {b o : Nat} {v : Value} (h : a.cell? ⟨b, o, none⟩ = some v) : a.drew.cell? ⟨b, o, none⟩ = some v := h
theorem heldV_alloc {a : World} (o' : Obj) {b o : Nat} {v : Value} (h : a.cell? ⟨b, o, none⟩ = some v) : (a.alloc o').cell? ⟨b, o, none⟩ = some v := (World.cell?_alloc_lt _ _ _ (World.block_lt_of_cell? a _ h)).trans h
theorem heldV_set {a : World} {q i : Nat} {u : Value} {b o : Nat} {v : Value} (hne : q ≠ b) (h : a.cell? ⟨b, o, none⟩ = some v) : (a.setCell ⟨q, i, none⟩ u).cell? ⟨b, o, none⟩ = some v := (World.cell?_setCell_far a ⟨q, i, none⟩ ⟨b, o, none⟩ u hne).trans h
theorem Blk.at_str {w : World} {g : Nat} {t : TypeId} {l : List ByteArray} (h : Blk w g t (l.map Value.string)) {k : Nat} {s : ByteArray} (hs : l[k]? = some s) : w.cell? ⟨g, k, none⟩ = some (.string s) := by
  rw [h.cell, List.getElem?_map, hs]; rfl
set_option maxRecDepth 100000 in
set_option maxHeartbeats 4000000 in
theorem l06DrawStars_any (g a B : Nat) (w : World) (h : Src w g a B) (ha : a ≤ 999998000) (hB : B ≤ w.heap.size) :
    Calls Tryd.prog 106 #[.pointer (some ⟨g, 0, none⟩)] w (BentS g (a + 200) B w) := by
  have hgl := h.lt
  go_enter Tryd.func106, Tryd.ntmps106
  have HN0 := Lib.hid (show Blk ((w.alloc (.cells #[.string ⟨#[97]⟩, .string ⟨#[98]⟩, .string ⟨#[99]⟩, .string ⟨#[100]⟩, .string ⟨#[101]⟩, .string ⟨#[102]⟩] 9)).alloc (.cells #[] 78)) w.heap.size 9 (six.map Value.string) from (Blk.new w 9 (six.map Value.string)).alloc _)
  have HE0 := Lib.hid (show OwnS ((w.alloc (.cells #[.string ⟨#[97]⟩, .string ⟨#[98]⟩, .string ⟨#[99]⟩, .string ⟨#[100]⟩, .string ⟨#[101]⟩, .string ⟨#[102]⟩] 9)).alloc (.cells #[] 78)) (w.heap.size + 1) (.slice (some ⟨w.heap.size + 1, 0, none⟩) 0 0) [] from by
    have := OwnS.empty (w.alloc (.cells #[.string ⟨#[97]⟩, .string ⟨#[98]⟩, .string ⟨#[99]⟩, .string ⟨#[100]⟩, .string ⟨#[101]⟩, .string ⟨#[102]⟩] 9)) (w.heap.size + 1) (by simp)
    rw [World.size_alloc] at this; exact this)
  have HB0 := Lib.hid (show Below w.heap.size w ((w.alloc (.cells #[.string ⟨#[97]⟩, .string ⟨#[98]⟩, .string ⟨#[99]⟩, .string ⟨#[100]⟩, .string ⟨#[101]⟩, .string ⟨#[102]⟩] 9)).alloc (.cells #[] 78)) from below_alloc (below_alloc (Below.refl _ _) _) _)
  go_wp2_with (fail)
  have hN0 := HN0.out
  have hE0 := HE0.out
  have hB0 := HB0.out
  have hS0 := h.keep hB0
  clear HN0 HE0 HB0
  generalize (w.alloc (.cells #[.string ⟨#[97]⟩, .string ⟨#[98]⟩, .string ⟨#[99]⟩, .string ⟨#[100]⟩, .string ⟨#[101]⟩, .string ⟨#[102]⟩] 9)).alloc (.cells #[] 78) = W0 at *
  go_loopw [4, 5, 6] (fun s4 s5 _ wr => ∃ (k : Nat) (v : Value) (l : List Sta), k ≤ 6 ∧ s5 = .int .i64 (k : Int) ∧ v = s4 ∧ OwnS wr (w.heap.size + 1) v l ∧ l.length ≤ k ∧ Src wr g (a + 12 * k) B ∧ w.grownBy wr (some g) ∧ Blk wr w.heap.size 9 (six.map Value.string)) (fun _ s5 _ _ => 6 - (intOf s5).toNat)
  case atStart => exact ⟨0, _, [], by omega, rfl, rfl, hE0, by simp, hS0.mono (by omega), grown_of_below hB0 _, hN0⟩
  case round =>
    clear hN0 hE0 hB0 hS0
    obtain ⟨k, v, l, hk, rfl, rfl, hO, hlk, hS, hG, hN⟩ := hrel
    by_cases hlt : k < 6
    · obtain ⟨nm, hnm⟩ := at_lt (l := six) (k := k) hlt
      have hsG := hG.size
      have hgr := hS.lt
      have hbn := hN.lt
      go_wp2_with (fail)
      refine (one_any g (a + 12 * k) B 4 wr hS (by omega) (by omega)).mono ?_
      rintro e w2 ⟨b, rfl, hS2, hg2⟩
      cases b with
      | true =>
        have hO2 := hO.only hg2 (fun p hp hq => by have := hO.lt p hp; injection hq with hq; omega)
        have hN2 := hN.grown hg2 (fun p hp => by injection hp with hp; omega)
        have hG2 := grown_trans0 hG hg2
        go_wp2_with (fail)
        go_roundw
        case rel => exact ⟨k + 1, v, l, by omega, by go_num, rfl, hO2, by omega, hS2.mono (by omega), hG2, hN2⟩
        case measure => simp [intOf]; omega
      | false =>
        have hN2 := hN.grown hg2 (fun p hp => by injection hp with hp; omega)
        have cN := hN2.at_str hnm
        have hs2 := hg2.size
        have hqne : w2.heap.size ≠ w.heap.size := by omega
        go_wp2_with (fail)
        go_region_held3 (fun w' => w'.cell? ⟨w.heap.size, k, none⟩ = some (.string nm)) ((with_reducible (repeat (first | assumption | refine heldV_alloc _ ?_ | refine heldV_drew ?_ | refine heldV_set (by assumption) ?_)); done))
          (first
            | (go_at_call 142; refine (l02Draw_any g (a + 12 * k + 2) B _ (hS2.keep (by first | exact below_drew0 (Below.refl _ _) | exact below_drew0 (below_alloc (Below.refl _ _) _))) (by omega)).mono ?_; rintro e w5 ⟨y, rfl, hy, hS5, hg5⟩; have hg25 : w2.grownBy w5 (some g) := grown_trans0 (grown_of_below (by first | exact below_drew0 (Below.refl _ _) | exact below_drew0 (below_alloc (Below.refl _ _) _)) (some g)) hg5; have c5 : w5.cell? ⟨w.heap.size, k, none⟩ = some (.string nm) := (hN2.grown hg25 (fun p hp => by injection hp with hp; omega)).at_str hnm; try (have hX5 : Blk w5 w2.heap.size 78 [.string ⟨#[]⟩, .int .i64 0, .int .i64 0, .int .i64 0, .int .i64 0] := Blk.grown (show Blk _ w2.heap.size 78 [.string ⟨#[]⟩, .int .i64 0, .int .i64 0, .int .i64 0, .int .i64 0] from by exact (Blk.new w2 78 [.string ⟨#[]⟩, .int .i64 0, .int .i64 0, .int .i64 0, .int .i64 0]).keep (by exact below_drew0 (Below.refl _ _))) hg5 (fun p hp => by injection hp with hp; omega); obtain ⟨x0, x1, x2, x3, x4⟩ := hX5.five; have f0 := hX5.frozen 0; have f1 := hX5.frozen 1; have f2 := hX5.frozen 2; have f3 := hX5.frozen 3; have f4 := hX5.frozen 4; have hql := hX5.lt)))
        all_goals
          first
          | (
              have hXX := hX5
              clear hXX
              go_wp2_with (fail)
              refine calls_named ?_
              intro W3 e3
              have hX : Blk W3 w2.heap.size 78 [.string nm, .int .i64 y, .int .i64 0, .int .i64 0, .int .i64 0] := by rw [e3]; exact ((((hX5.set_ 0 _).set_ 1 _).set_ 2 _).set_ 3 _).set_ 4 _
              have hgX : w2.grownBy W3 (some g) := by rw [e3]; exact grown_far (grown_far (grown_far (grown_far (grown_far hg25 (Nat.le_refl _) 0 _) (Nat.le_refl _) 1 _) (Nat.le_refl _) 2 _) (Nat.le_refl _) 3 _) (Nat.le_refl _) 4 _
              have hBq : B ≤ w2.heap.size := by omega
              have hS3 : Src W3 g (a + 12 * k + 6) B := by rw [e3]; exact (((((hS5.set hBq 0 _).set hBq 1 _).set hBq 2 _).set hBq 3 _).set hBq 4 _).mono (by omega)
              clear e3 hX5 x0 x1 x2 x3 x4 f0 f1 f2 f3 f4 hql hBq
              obtain ⟨q, hqe⟩ : ∃ q, q = w2.heap.size := ⟨_, rfl⟩
              have hqw : w2.heap.size ≤ q := by omega
              rw [← hqe] at hX ⊢
              clear hqe hS5 hg5 hg25 c5)
          | (
              go_wp2_with (fail)
              refine calls_named ?_
              intro W3 e3
              have hX : Blk W3 w5.heap.size 78 [.string nm, .int .i64 y, .int .i64 0, .int .i64 0, .int .i64 0] := by rw [e3]; exact Blk.new w5 _ _
              have hgX : w2.grownBy W3 (some g) := by rw [e3]; exact grown_trans0 hg25 (grown_of_below (below_alloc (Below.refl _ _) _) _)
              have hS3 : Src W3 g (a + 12 * k + 6) B := by rw [e3]; exact (hS5.keep (below_alloc (Below.refl _ _) _)).mono (by omega)
              obtain ⟨q, hqe⟩ : ∃ q, q = w5.heap.size := ⟨_, rfl⟩
              have hqw : w2.heap.size ≤ q := by have := hg25.size; omega
              rw [← hqe] at hX ⊢
              clear e3 hqe hS5 hg5 hg25 c5)
        all_goals
          have hBq : B ≤ q := by omega
          refine (pick_any g (a + 12 * k + 6) B 180001 W3 hS3 (by omega) (by omega)).mono ?_
          rintro e U1 ⟨x1, rfl, hx1, hSn, hgn⟩
          have hXn := hX.grown hgn (fun p hp => by injection hp with hp; omega)
          have hgn1 := grown_trans0 hgX hgn
          have f2 := hXn.frozen 2
          have d2 : U1.cell? ⟨q, 2, none⟩ = some (.int .i64 0) := by rw [hXn.cell]; rfl
          have hql := hXn.lt
          clear hX hgX hS3 hgn
          go_wp2_with (fail)
          refine calls_named ?_
          intro V1 e1
          have hX : Blk V1 q 78 [.string nm, .int .i64 y, .int .i64 ((x1 : Int) - 90000), .int .i64 0, .int .i64 0] := by rw [e1]; exact hXn.set_ 2 _
          have hS3 : Src V1 g (a + 12 * k + 8) B := by rw [e1]; exact hSn.set hBq 2 _
          have hgX : w2.grownBy V1 (some g) := by rw [e1]; exact grown_far hgn1 hqw 2 _
          clear e1 hXn hSn hgn1 f2 d2 hql
          refine (pick_any g (a + 12 * k + 8) B 600 V1 hS3 (by omega) (by omega)).mono ?_
          rintro e U2 ⟨x2, rfl, hx2, hSn, hgn⟩
          have hXn := hX.grown hgn (fun p hp => by injection hp with hp; omega)
          have hgn1 := grown_trans0 hgX hgn
          have f3 := hXn.frozen 3
          have d3 : U2.cell? ⟨q, 3, none⟩ = some (.int .i64 0) := by rw [hXn.cell]; rfl
          have hql := hXn.lt
          clear hX hgX hS3 hgn
          go_upto_region 10 with (fail)
          refine wp_named ?_
          intro V2 e2
          have hX : Blk V2 q 78 [.string nm, .int .i64 y, .int .i64 ((x1 : Int) - 90000), .int .i64 (x2 : Int), .int .i64 0] := by rw [e2]; exact hXn.set_ 3 _
          have hS3 : Src V2 g (a + 12 * k + 12) B := by rw [e2]; exact (hSn.set hBq 3 _).mono (by omega)
          have hgX : wr.grownBy V2 (some g) := by rw [e2]; exact grown_trans0 hg2 (grown_far hgn1 hqw 3 _)
          clear e2 hXn hSn hgn1 f3 d3 hql
          obtain ⟨c0, c1, c2, c3, c4⟩ := hX.five
          have hql := hX.lt
          have hO2 := hO.only hgX (fun p hp hq => by have := hO.lt p hp; injection hq with hq; omega)
          have HN := Lib.hid (show Blk (V2.alloc (.cells #[.string nm, .int .i64 y, .int .i64 ((x1 : Int) - 90000), .int .i64 (x2 : Int), .int .i64 0] 78)) V2.heap.size 78 (staCells [⟨nm, y, (x1 : Int) - 90000, (x2 : Int), 0⟩]) from Blk.new _ _ _)
          have hbA : Below V2.heap.size V2 (V2.alloc (.cells #[.string nm, .int .i64 y, .int .i64 ((x1 : Int) - 90000), .int .i64 (x2 : Int), .int .i64 0] 78)) := below_alloc (Below.refl _ _) _
          have HS6 := Lib.hid (hS3.keep hbA)
          have HG6 := Lib.hid (grown_trans0 (grown_trans0 hG hgX) (grown_of_below hbA (some g)))
          have HN6 := Lib.hid ((hN.grown hgX (fun p hp => by injection hp with hp; omega)).keep hbA)
          have HO2 := Lib.hid (hO2.alloc (.cells #[.string nm, .int .i64 y, .int .i64 ((x1 : Int) - 90000), .int .i64 (x2 : Int), .int .i64 0] 78))
          have hvo := fun p hp => (hO2.lt p hp).1
          have HL1 : Hid (l.length + 1 ≤ 1099511627776) := Lib.hid (by omega)
          have hsV := hgX.size
          clear hX hS3 hgX hO hO2 hbA hS hN hN2 hg2 hS2 hG cN
          go_wp2_with (at_builtin; refine wpList_app_stars rfl (.tmp 33) (.tmp 35) rfl (w.heap.size + 1) v l [⟨nm, y, (x1 : Int) - 90000, (x2 : Int), 0⟩] (some ⟨V2.heap.size, 0, none⟩) 1 1 rfl rfl HO2.out rfl HN.out.stars (fun h => by cases h) HL1.out (by simp; omega) ?_; intro v7 w7 hO7 hg7)
          have hS7 := HS6.out.grown hg7 (fun p hp => by have := hvo p hp; omega)
          have hG7 := grown_own HG6.out hg7 (fun p hp => by have := hvo p hp; omega)
          have hN7 := HN6.out.grown hg7 (fun p hp => by have := hvo p hp; omega)
          go_roundw
          case rel => exact ⟨k + 1, v7, _, by omega, by go_num, rfl, hO7, by simp; omega, hS7.mono (by omega), hG7, hN7⟩
          case measure => simp [intOf]; omega
    · obtain rfl : k = 6 := by omega
      have hsG := hG.size
      have hO0 := hO.base_le (show w.heap.size ≤ w.heap.size + 1 by omega)
      go_wp2_with (fail)
      refine (pick_any g (a + 12 * 6) B 24 wr hS (by omega) (by omega)).mono ?_
      rintro e w4 ⟨k, rfl, hk, hS4, hg4⟩
      have hO4 := hO0.only hg4 (fun p hp hq => by have := hO0.lt p hp; injection hq with hq; omega)
      have hG4 := grown_trans0 hG hg4
      have hs4 := hG4.size
      clear hO hS hG hg4 hN hO0
      by_cases k0 : k = 0
      · subst k0
        go_wp2_with (fail)
        refine calls_named ?_
        intro W5 e5
        have hbA : Below w4.heap.size w4 W5 := by rw [e5]; exact below_alloc (Below.refl _ _) _
        have hN : Blk W5 w4.heap.size 2 (numCells [-1, 360000, 5]) := by rw [e5]; exact Blk.new w4 _ _
        clear e5
        refine (among_any g (a + 12 * 6 + 2) B w4.heap.size 3 3 [-1, 360000, 5] W5 (hS4.keep hbA) (by omega) rfl (by omega) (by omega) (by omega) hN).mono ?_
        rintro e w5 ⟨y, rfl, _, hS5, hg5⟩
        have hO5 := (hO4.below hbA).only hg5 (fun p hp hq => by have := hO4.lt p hp; injection hq with hq; omega)
        have hG5 := grown_trans0 (grown_trans0 hG4 (grown_of_below hbA (some g))) hg5
        have hs5 := hG5.size
        have hvo := fun p hp => (hO5.lt p hp).1
        have HN := Lib.hid (show Blk (w5.alloc (.cells #[.string ⟨#[122]⟩, .int .i64 y, .int .i64 0, .int .i64 0, .int .i64 0] 78)) w5.heap.size 78 (staCells [⟨⟨#[122]⟩, y, 0, 0, 0⟩]) from Blk.new _ _ _)
        have hbA2 : Below w5.heap.size w5 (w5.alloc (.cells #[.string ⟨#[122]⟩, .int .i64 y, .int .i64 0, .int .i64 0, .int .i64 0] 78)) := below_alloc (Below.refl _ _) _
        have hS6 := hS5.keep hbA2
        have hG6 := grown_trans0 hG5 (grown_of_below hbA2 (some g))
        have HL1 : Hid (l.length + 1 ≤ 1099511627776) := Lib.hid (by omega)
        clear hO4 hS4 hG4 hg5 hS5 hG5 hbA hbA2 hN
        go_wp2_with (at_builtin; refine wpList_app_stars rfl (.tmp 41) (.tmp 46) rfl w.heap.size v l [⟨⟨#[122]⟩, y, 0, 0, 0⟩] (some ⟨w5.heap.size, 0, none⟩) 1 1 rfl rfl (hO5.alloc _) rfl HN.out.stars (fun h => by cases h) HL1.out (by simp; omega) ?_; intro v7 w7 hO7 hg7)
        go_ret
        exact ⟨v7, _, rfl, hO7, by simp; omega, (hS6.grown hg7 (fun p hp => by have := hvo p hp; omega)).mono (by omega), grown_own hG6 hg7 hvo⟩
      by_cases k1 : k = 1
      · subst k1
        go_wp2_with (fail)
        refine (pick_any g (a + 12 * 6 + 2) B 2 w4 hS4 (by omega) (by omega)).mono ?_
        rintro e w5 ⟨m, rfl, hm, hS5, hg5⟩
        have hm3 : m < 2 := by omega
        have hG5 := grown_trans0 hG4 hg5
        have hs5 := hG5.size
        clear hO4 hS4 hG4 hg5 hm
        have HE := Lib.hid (OwnS.empty w5 w.heap.size hs5)
        have hbA : Below w5.heap.size w5 (w5.alloc (.cells #[] 78)) := below_alloc (Below.refl _ _) _
        have HS6 := Lib.hid (hS5.keep hbA)
        have HG6 := Lib.hid (grown_trans0 hG5 (grown_of_below hbA (some g)))
        clear hS5 hG5 hbA
        go_wp2_with (fail)
        go_loopw [4, 8] (fun s4 s8 wr => ∃ (k : Nat) (v : Value) (l : List Sta), k ≤ 24 + m ∧ s8 = .int .i64 (k : Int) ∧ v = s4 ∧ OwnS wr w.heap.size v l ∧ l.length = k ∧ Src wr g (a + 12 * 6 + 4) B ∧ w.grownBy wr (some g)) (fun _ s8 _ => 24 + m - (intOf s8).toNat)
        case atStart => exact ⟨0, _, [], by omega, rfl, rfl, HE.out, rfl, HS6.out, HG6.out⟩
        case round =>
          obtain ⟨k, v, l, hk, rfl, rfl, hO, hlk, hS, hG⟩ := hrel
          by_cases hlt : k < 24 + m
          · have hvo := fun p hp => (hO.lt p hp).1
            have hsG := hG.size
            have hcv := run_byte_string wr (97 + (k : Int))
            obtain ⟨letter, hlet⟩ : ∃ s : ByteArray, s = ⟨#[UInt8.ofNat (97 + (k : Int)).toNat]⟩ := ⟨_, rfl⟩
            rw [← hlet] at hcv
            have hls : letter.size = 1 := by rw [hlet]; rfl
            clear hlet
            have HCELL := Lib.hid (show Below wr.heap.size wr ((wr.alloc (.cells #[.int .u8 (97 + (k : Int))] 5)).alloc (.cells #[.string (⟨#[110]⟩ ++ letter), .int .i64 (1000 * (k : Int)), .int .i64 0, .int .i64 0, .int .i64 0] 78)) from below_alloc (below_alloc (Below.refl _ _) _) _)
            have HN := Lib.hid (show Blk ((wr.alloc (.cells #[.int .u8 (97 + (k : Int))] 5)).alloc (.cells #[.string (⟨#[110]⟩ ++ letter), .int .i64 (1000 * (k : Int)), .int .i64 0, .int .i64 0, .int .i64 0] 78)) (wr.heap.size + 1) 78 (staCells [⟨⟨#[110]⟩ ++ letter, 1000 * (k : Int), 0, 0, 0⟩]) from by
              have := Blk.new (wr.alloc (.cells #[.int .u8 (97 + (k : Int))] 5)) 78 (staCells [⟨⟨#[110]⟩ ++ letter, 1000 * (k : Int), 0, 0, 0⟩])
              rw [World.size_alloc] at this; exact this)
            have HLK := Lib.hid (by omega : l.length + 1 ≤ 1099511627776)
            have HO := Lib.hid hO
            have HS := Lib.hid hS
            have HG := Lib.hid hG
            clear hO hS hG
            go_wp2_with (at_builtin; refine wpList_app_stars rfl (.tmp 59) (.tmp 69) rfl w.heap.size v l [⟨⟨#[110]⟩ ++ letter, 1000 * (k : Int), 0, 0, 0⟩] (some ⟨wr.heap.size + 1, 0, none⟩) 1 1 rfl rfl (HO.out.below HCELL.out) rfl HN.out.stars (fun h => by cases h) HLK.out (by simp; omega) ?_; intro v7 w7 hO7 hg7)
            have hS7 := (HS.out.keep HCELL.out).grown hg7 (fun p hp => by have := hvo p hp; omega)
            have hG7 := grown_own (grown_trans0 HG.out (grown_of_below HCELL.out (some g))) hg7 hvo
            go_roundw
            case rel => exact ⟨k + 1, v7, _, by omega, by go_num, rfl, hO7, by rw [List.length_append, hlk]; rfl, hS7, hG7⟩
            case measure => simp [intOf]; omega
          · obtain rfl : k = 24 + m := by omega
            go_wp2_with (fail)
            go_ret
            exact ⟨v, l, rfl, hO, by omega, hS.mono (by omega), hG⟩
      have n0 : ((k : Int) == 0) = false := by rw [beq_eq_false_iff_ne]; omega
      have n1 : ((k : Int) == 1) = false := by rw [beq_eq_false_iff_ne]; omega
      go_wp2_with (fail)
      go_ret
      exact ⟨v, l, rfl, hO4, by omega, hS4.mono (by omega), hG4⟩
theorem seen_end {W w : World} {r : Nat} {t : TypeId} {u0 u1 u2 : Value} (hR : Blk W r t [u0, u1, u2]) (hb : Below w.heap.size w W) (hr : w.heap.size ≤ r) (v0 v1 v2 : Value) :
    ∃ WF, WF = (((W.setCell ⟨r, 0, none⟩ v0).setCell ⟨r, 1, none⟩ v1).setCell ⟨r, 2, none⟩ v2) ∧ Below w.heap.size w WF ∧ (∀ base v l, OwnS W base v l → r < base → OwnS WF base v l) ∧ WF.cell? ⟨r, 0, none⟩ = some v0 ∧ WF.cell? ⟨r, 1, none⟩ = some v1 ∧ WF.cell? ⟨r, 2, none⟩ = some v2 := by
  have h : Blk _ r t [v0, v1, v2] := ((hR.set_ 0 v0).set_ 1 v1).set_ 2 v2
  have far : ∀ (W : World) (i : Nat) (u : Value) base v l, OwnS W base v l → r < base → OwnS (W.setCell ⟨r, i, none⟩ u) base v l := by
    intro W i u base v l h hp
    obtain ⟨h0, hv | ⟨g, cap, cur, hv, hb, hh, h1, h2, h3, h4⟩⟩ := h
    · exact ⟨h0, .inl hv⟩
    · exact ⟨h0, .inr ⟨g, cap, cur, hv, hb, (Below.heap_setCell W ⟨r, i, none⟩ u g (by show g ≠ r; omega)).trans hh, h1, h2, h3, h4⟩⟩
  exact ⟨_, rfl, below_setCell0 (below_setCell0 (below_setCell0 hb hr _) hr _) hr _, fun base v l hO hp => far _ _ _ _ _ _ (far _ _ _ _ _ _ (far _ _ _ _ _ _ hO hp) hp) hp, h.three⟩
/-- what drawing a rising leaves -/
def RiseDrawn (w : World) (e : Ending) (w' : World) : Prop := ∃ (s : ByteArray) (lo la r d : Int), e = .returned (.tuple #[.agg #[.string s, .int .i64 lo, .int .i64 la], .int .i64 r, .int .i64 d]) ∧ (-90001 ≤ d ∧ d ≤ 90001) ∧ Below w.heap.size w w'
set_option maxRecDepth 100000 in
set_option maxHeartbeats 4000000 in
theorem DrawRisingOf_any (A : Option Addr) (n c : Nat) (bs : List Int) (w : World) (hl : bs.length = n) (hn : n ≤ 1048576) (hA : Bytes w A bs) (hok : ∀ x ∈ bs, ByteOk x) :
    Calls Tryd.prog 40 #[.slice A n c] w (RiseDrawn w) := by
  go_enter Tryd.func40, Tryd.ntmps40
  go_wp2_with (fail)
  refine calls_named ?_
  intro W1 e1
  have hb1 : Below w.heap.size w W1 := by rw [e1]; exact below_alloc (Below.refl _ _) _
  have hR1 : Blk W1 w.heap.size 49 [.string ⟨#[]⟩, .int .i64 0, .int .i64 0] := by rw [e1]; exact Blk.new w _ _
  clear e1
  refine (l00From_any A n c bs W1 hl hn (hA.below hb1) hok).mono ?_
  rintro e w2 ⟨rfl, hS2, hb2⟩
  have hR2 := hR1.keep hb2
  have hbW := below_step hb1 hb2
  have hgl := hS2.lt
  have hrg : w.heap.size < W1.heap.size := hR1.lt
  clear hR1 hb1 hb2
  generalize W1.heap.size = g at *
  go_wp2_with (fail)
  refine (l06Draw_any g 0 (g + 1) w2 hS2 (by omega) hgl).mono ?_
  rintro e w3 ⟨s, lo, la, rfl, hS3, hg3⟩
  have hR3 := hR2.grown hg3 (fun p hp => by injection hp with hp; omega)
  have hbW3 := below_of_grown hbW hg3 hbW.size (fun p hp => by injection hp with hp; omega)
  have hrl := hR3.lt
  clear hR2 hbW hg3
  go_wp2_with (fail)
  refine calls_named ?_
  intro W4 e4
  have hb4 : Below w3.heap.size w3 W4 := by rw [e4]; exact below_alloc (Below.refl _ _) _
  have hX4 : Blk W4 w3.heap.size 49 [.string s, .int .i64 lo, .int .i64 la] := by rw [e4]; exact Blk.new w3 _ _
  have hR4 := hR3.keep hb4
  have hS4 := hS3.keep hb4
  have hbW4 := below_step hbW3 hb4
  have hgl3 := hS3.lt
  clear e4 hR3 hS3 hbW3 hb4
  generalize w3.heap.size = q at *
  refine (l06DrawTurn_any g (0 + 14) (g + 1) W4 hS4 (by omega)).mono ?_
  rintro e w5 ⟨y, rfl, _, hS5, hg5⟩
  have hX5 := hX4.grown hg5 (fun p hp => by injection hp with hp; omega)
  have hR5 := hR4.grown hg5 (fun p hp => by injection hp with hp; omega)
  have hbW5 := below_of_grown hbW4 hg5 hbW4.size (fun p hp => by injection hp with hp; omega)
  clear hX4 hR4 hS4 hbW4 hg5
  obtain ⟨x0, x1, x2⟩ := hX5.three
  have hql := hX5.lt
  have hne : w.heap.size ≠ q := by omega
  go_wp2_with (fail)
  go_region_held3 (fun w' => w'.cell? ⟨q, 0, none⟩ = some (.string s) ∧ w'.cell? ⟨q, 1, none⟩ = some (.int .i64 lo) ∧ w'.cell? ⟨q, 2, none⟩ = some (.int .i64 la))
    ((refine ⟨?_, ?_, ?_⟩ <;> ((with_reducible (repeat (first | assumption | refine heldV_alloc _ ?_ | refine heldV_drew ?_ | refine heldV_set (by assumption) ?_)); done))))
    (first
      | (go_at_call 100; refine (l04DrawLatitude_any g (0 + 14 + 6) (g + 1) _ (hS5.keep (by first | exact Below.refl _ _ | exact below_drew0 (Below.refl _ _))) (by omega)).mono ?_; rintro e w6 ⟨d, rfl, hd, hS6, hg6⟩; have hg56 : w5.grownBy w6 (some g) := grown_trans0 (grown_of_below (by first | exact Below.refl _ _ | exact below_drew0 (Below.refl _ _)) (some g)) hg6; have hX6 := hX5.grown hg56 (fun p hp => by injection hp with hp; omega); obtain ⟨y0, y1, y2⟩ := hX6.three; have hR6 := hR5.grown hg56 (fun p hp => by injection hp with hp; omega); obtain ⟨r0, r1, r2⟩ := hR6.three; have f0 := hR6.frozen 0; have f1 := hR6.frozen 1; have f2 := hR6.frozen 2; have hql6 := hX6.lt; have hrl6 := hR6.lt))
  have hb6 := below_of_grown hbW5 hg56 hbW5.size (fun p hp => by injection hp with hp; omega)
  have HD : Hid (-90001 ≤ d ∧ d ≤ 90001) := Lib.hid (by
    rcases hd with hd | hd
    · simp only [List.mem_cons, List.not_mem_nil, or_false] at hd; omega
    · omega)
  go_wp2_with (fail)
  obtain ⟨WF, hWF, hbF, _, z0, z1, z2⟩ := seen_end hR6 hb6 (Nat.le_refl _) (.string s) (.int .i64 lo) (.int .i64 la)
  rw [← hWF] at *
  clear hWF hR6 hR5 hX5 hX6 r0 r1 r2 f0 f1 f2 y0 y1 y2 x0 x1 x2 hg56 hg6 hS6 hS5 hS2 hb6 hbW5
  refine bodyPost_ret (v := .tuple #[.agg #[.string s, .int .i64 lo, .int .i64 la], .int .i64 y, .int .i64 d]) (by simp [results, Tryd.results40, go_sem, z0, z1, z2]) rfl ⟨s, lo, la, y, d, rfl, HD.out, hbF⟩
/-- what drawing stars that are seen leaves -/
def SeenDrawn (w : World) (e : Ending) (w' : World) : Prop := ∃ (s : ByteArray) (lo la sid : Int) (v : Value) (l : List Sta) (least : Int), e = .returned (.tuple #[.agg #[.string s, .int .i64 lo, .int .i64 la], .int .i64 sid, v, .int .i64 least]) ∧ OwnS w' w.heap.size v l ∧ l.length ≤ 30 ∧ Below w.heap.size w w'
set_option maxRecDepth 100000 in
set_option maxHeartbeats 4000000 in
theorem DrawVisibleStars_any (A : Option Addr) (n c : Nat) (bs : List Int) (w : World) (hl : bs.length = n) (hn : n ≤ 1048576) (hA : Bytes w A bs) (hok : ∀ x ∈ bs, ByteOk x) :
    Calls Tryd.prog 49 #[.slice A n c] w (SeenDrawn w) := by
  go_enter Tryd.func49, Tryd.ntmps49
  go_wp2_with (fail)
  refine calls_named ?_
  intro W1 e1
  have hb1 : Below w.heap.size w W1 := by rw [e1]; exact below_alloc (Below.refl _ _) _
  have hR1 : Blk W1 w.heap.size 49 [.string ⟨#[]⟩, .int .i64 0, .int .i64 0] := by rw [e1]; exact Blk.new w _ _
  clear e1
  refine (l00From_any A n c bs W1 hl hn (hA.below hb1) hok).mono ?_
  rintro e w2 ⟨rfl, hS2, hb2⟩
  have hR2 := hR1.keep hb2
  have hbW := below_step hb1 hb2
  have hgl := hS2.lt
  have hrg : w.heap.size < W1.heap.size := hR1.lt
  clear hR1 hb1 hb2
  generalize W1.heap.size = g at *
  go_wp2_with (fail)
  refine (l06Draw_any g 0 (g + 1) w2 hS2 (by omega) hgl).mono ?_
  rintro e w3 ⟨s, lo, la, rfl, hS3, hg3⟩
  have hR3 := hR2.grown hg3 (fun p hp => by injection hp with hp; omega)
  have hbW3 := below_of_grown hbW hg3 hbW.size (fun p hp => by injection hp with hp; omega)
  have hrl := hR3.lt
  clear hR2 hbW hg3
  go_wp2_with (fail)
  refine calls_named ?_
  intro W4 e4
  have hb4 : Below w3.heap.size w3 W4 := by rw [e4]; exact below_alloc (Below.refl _ _) _
  have hX4 : Blk W4 w3.heap.size 49 [.string s, .int .i64 lo, .int .i64 la] := by rw [e4]; exact Blk.new w3 _ _
  have hR4 := hR3.keep hb4
  have hS4 := hS3.keep hb4
  have hbW4 := below_step hbW3 hb4
  have hgl3 := hS3.lt
  clear e4 hR3 hS3 hbW3 hb4
  generalize w3.heap.size = q at *
  refine (l06DrawTurn_any g (0 + 14) (g + 1) W4 hS4 (by omega)).mono ?_
  rintro e w5 ⟨sid, rfl, _, hS5, hg5⟩
  have hX5 := hX4.grown hg5 (fun p hp => by injection hp with hp; omega)
  have hR5 := hR4.grown hg5 (fun p hp => by injection hp with hp; omega)
  have hbW5 := below_of_grown hbW4 hg5 hbW4.size (fun p hp => by injection hp with hp; omega)
  have hql5 := hX5.lt
  clear hX4 hR4 hS4 hbW4 hg5
  go_wp2_with (fail)
  refine (l06DrawStars_any g (0 + 14 + 6) (g + 1) w5 hS5 (by omega) (by omega)).mono ?_
  rintro e w6 ⟨v, l, rfl, hO6, hl6, hS6, hg6⟩
  have hX6 := hX5.grown hg6 (fun p hp => by injection hp with hp; omega)
  have hR6 := hR5.grown hg6 (fun p hp => by injection hp with hp; omega)
  have hbW6 := below_of_grown hbW5 hg6 hbW5.size (fun p hp => by injection hp with hp; omega)
  clear hX5 hR5 hS5 hbW5 hg6
  generalize w5.heap.size = base at *
  go_wp2_with (fail)
  refine (one_any g (0 + 14 + 6 + 200) (g + 1) 8 w6 hS6 (by omega) (by omega)).mono ?_
  rintro e w7 ⟨b, rfl, hS7, hg7⟩
  have hX7 := hX6.grown hg7 (fun p hp => by injection hp with hp; omega)
  have hR7 := hR6.grown hg7 (fun p hp => by injection hp with hp; omega)
  have hbW7 := below_of_grown hbW6 hg7 hbW6.size (fun p hp => by injection hp with hp; omega)
  have hO7 := hO6.only hg7 (fun p hp hq => by have := hO6.lt p hp; injection hq with hq; omega)
  clear hX6 hR6 hS6 hbW6 hg7 hO6
  obtain ⟨x0, x1, x2⟩ := hX7.three
  have hql := hX7.lt
  have hgl7 := hS7.lt
  have hne : w.heap.size ≠ q := by omega
  cases b with
  | true =>
    go_wp2_with (fail)
    go_region_held3 (fun w' => w'.cell? ⟨q, 0, none⟩ = some (.string s) ∧ w'.cell? ⟨q, 1, none⟩ = some (.int .i64 lo) ∧ w'.cell? ⟨q, 2, none⟩ = some (.int .i64 la))
      ((refine ⟨?_, ?_, ?_⟩ <;> ((with_reducible (repeat (first | assumption | refine heldV_alloc _ ?_ | refine heldV_drew ?_ | refine heldV_set (by assumption) ?_)); done))))
      (first
        | (go_at_call 107; refine (among_any g (0 + 14 + 6 + 200 + 2) (g + 1) w7.heap.size 4 4 [-90001, -90000, 90000, 90001] _ (hS7.keep (by first | exact below_alloc (Below.refl _ _) _ | exact below_drew0 (below_alloc (Below.refl _ _) _))) (by omega) rfl (by omega) (by omega) (by omega) (by first | exact Blk.new _ _ _ | exact (Blk.new w7 2 (numCells [-90001, -90000, 90000, 90001])).keep (by exact below_drew0 (Below.refl _ _)))).mono ?_; rintro e w8 ⟨least, rfl, _, hS8, hg8⟩; have hg78 : w7.grownBy w8 (some g) := grown_trans0 (grown_of_below (by first | exact below_alloc (Below.refl _ _) _ | exact below_drew0 (below_alloc (Below.refl _ _) _)) (some g)) hg8; have hX8 := hX7.grown hg78 (fun p hp => by injection hp with hp; omega); obtain ⟨y0, y1, y2⟩ := hX8.three; have hR8 := hR7.grown hg78 (fun p hp => by injection hp with hp; omega); obtain ⟨r0, r1, r2⟩ := hR8.three; have f0 := hR8.frozen 0; have f1 := hR8.frozen 1; have f2 := hR8.frozen 2; have hql8 := hX8.lt; have hrl8 := hR8.lt))
    have hb8 := below_of_grown hbW7 hg78 hbW7.size (fun p hp => by injection hp with hp; omega)
    have hO8 := hO7.only hg78 (fun p hp hq => by have := hO7.lt p hp; injection hq with hq; omega)
    go_wp2_with (fail)
    obtain ⟨WF, hWF, hbF, hOF, z0, z1, z2⟩ := seen_end hR8 hb8 (Nat.le_refl _) (.string s) (.int .i64 lo) (.int .i64 la)
    have hO9 := (hOF base v l hO8 (by omega)).base_le (show w.heap.size ≤ base by omega)
    rw [← hWF] at *
    clear hWF hR8 hR7 hX7 hX8 r0 r1 r2 f0 f1 f2 y0 y1 y2 x0 x1 x2 hg78 hg8 hS8 hS7 hS2 hb8 hbW7 hO8 hO7 hOF
    refine bodyPost_ret (v := .tuple #[.agg #[.string s, .int .i64 lo, .int .i64 la], .int .i64 sid, v, .int .i64 least]) (by simp [results, Tryd.results49, go_sem, z0, z1, z2]) rfl ⟨s, lo, la, sid, v, l, least, rfl, hO9, hl6, hbF⟩
  | false =>
    go_wp2_with (fail)
    go_region_held3 (fun w' => w'.cell? ⟨q, 0, none⟩ = some (.string s) ∧ w'.cell? ⟨q, 1, none⟩ = some (.int .i64 lo) ∧ w'.cell? ⟨q, 2, none⟩ = some (.int .i64 la))
      ((refine ⟨?_, ?_, ?_⟩ <;> ((with_reducible (repeat (first | assumption | refine heldV_alloc _ ?_ | refine heldV_drew ?_ | refine heldV_set (by assumption) ?_)); done))))
      (first
        | (go_at_call 108; refine (pick_any g (0 + 14 + 6 + 200 + 2) (g + 1) 60000 _ (hS7.keep (by first | exact Below.refl _ _ | exact below_drew0 (Below.refl _ _))) (by omega) (by omega)).mono ?_; rintro e w8 ⟨x, rfl, hx, hS8, hg8⟩; have hg78 : w7.grownBy w8 (some g) := grown_trans0 (grown_of_below (by first | exact Below.refl _ _ | exact below_drew0 (Below.refl _ _)) (some g)) hg8; have hX8 := hX7.grown hg78 (fun p hp => by injection hp with hp; omega); obtain ⟨y0, y1, y2⟩ := hX8.three; have hR8 := hR7.grown hg78 (fun p hp => by injection hp with hp; omega); obtain ⟨r0, r1, r2⟩ := hR8.three; have f0 := hR8.frozen 0; have f1 := hR8.frozen 1; have f2 := hR8.frozen 2; have hql8 := hX8.lt; have hrl8 := hR8.lt))
    have hb8 := below_of_grown hbW7 hg78 hbW7.size (fun p hp => by injection hp with hp; omega)
    have hO8 := hO7.only hg78 (fun p hp hq => by have := hO7.lt p hp; injection hq with hq; omega)
    go_wp2_with (fail)
    obtain ⟨WF, hWF, hbF, hOF, z0, z1, z2⟩ := seen_end hR8 hb8 (Nat.le_refl _) (.string s) (.int .i64 lo) (.int .i64 la)
    have hO9 := (hOF base v l hO8 (by omega)).base_le (show w.heap.size ≤ base by omega)
    rw [← hWF] at *
    clear hWF hR8 hR7 hX7 hX8 r0 r1 r2 f0 f1 f2 y0 y1 y2 x0 x1 x2 hg78 hg8 hS8 hS7 hS2 hb8 hbW7 hO8 hO7 hOF
    refine bodyPost_ret (v := .tuple #[.agg #[.string s, .int .i64 lo, .int .i64 la], .int .i64 sid, v, .int .i64 (IntKind.i64.wrap ((x : Int) - 20000))]) (by simp [results, Tryd.results49, go_sem, z0, z1, z2]) rfl ⟨s, lo, la, sid, v, l, _, rfl, hO9, hl6, hbF⟩
end Go.Proofs.YtbpjnopnhmoigaaDoor
