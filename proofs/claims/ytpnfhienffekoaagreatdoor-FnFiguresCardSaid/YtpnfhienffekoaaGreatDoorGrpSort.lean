/- Texts that belong together, as one: SortW, SortR, SortM, SortM2, SortM3, SortS. -/
import Derived.Test.YtpnfhienffekoaaGreatDoorGrpList
import Derived.Test.YtpnfhienffekoaaGreatDoorMgM
import Derived.RegionTactic
import Derived.BigRegion
import Derived.Deep.DeepCutAuto
import Derived.Deep.CutRange
section
namespace Go.Proofs.YtpnfhienffekoaaGreatDoor
set_option linter.unusedVariables false
set_option linter.unusedSimpArgs false
open Go.RowKit
theorem numCells_gt {l : List Int} {rest : List Value} {i : Nat} (h : i < l.length) : (numCells l ++ rest)[i]? = some (.int .i64 (gt l i)) := by
  rw [List.getElem?_append_left (by rw [numCells_length]; exact h)]; exact numCells_at (at_gt h)
theorem numCells_set2 {l : List Int} {rest : List Value} {i : Nat} {x : Int} (h : i < l.length) : (numCells l ++ rest).set i (.int .i64 x) = numCells (l.set i x) ++ rest := by
  rw [List.set_append_left _ _ (by rw [numCells_length]; exact h)]; congr 1; simp [numCells, List.map_set]
theorem swp_comm {l : List Int} {i j : Nat} (h : i ≠ j) : (l.set j (gt l i)).set i (gt l j) = swp l i j := by
  rw [swp, List.set_comm _ _ (Ne.symm h)]
theorem swp_symm {l : List Int} {i j : Nat} (h : i ≠ j) : swp l j i = swp l i j := by rw [← swp_comm h]; rfl
theorem grown_trans {a b c : World} {row : Option Nat} (h : a.grownBy b row) (k : b.grownBy c row) : a.grownBy c row :=
  ⟨k.os.trans h.os, k.tape.trans h.tape, k.output.trans h.output, Nat.le_trans h.size k.size, fun q hq hr => (k.block q (Nat.lt_of_lt_of_le hq h.size) hr).trans (h.block q hq hr)⟩
theorem Blk.swap {w : World} {g : Nat} {l : List Int} {rest : List Value} {i j : Nat} (h : Blk w g 2 (numCells l ++ rest)) (hi : i < l.length) (hj : j < l.length) :
    Blk ((w.setCell ⟨g, i, none⟩ (.int .i64 (gt l j))).setCell ⟨g, j, none⟩ (.int .i64 (gt l i))) g 2 (numCells (swp l i j) ++ rest) := by
  have := (h.set_ i (.int .i64 (gt l j))).set_ j (.int .i64 (gt l i))
  rw [numCells_set2 hi, numCells_set2 (by simpa using hj)] at this
  exact this
theorem grown_swap {w : World} {g i j : Nat} {u v : Value} : w.grownBy ((w.setCell ⟨g, i, none⟩ u).setCell ⟨g, j, none⟩ v) (some g) := only_set (only_set (grown_of_below (Below.refl _ _) _) _ _) _ _
theorem grown_swapd {w : World} {g i j : Nat} {u v : Value} : w.grownBy ((w.setCell ⟨g, i, none⟩ u).setCell ⟨g, j, none⟩ v).drew (some g) := by
  have h := @grown_swap w g i j u v
  exact ⟨h.os, h.tape, h.output, h.size, h.block⟩
/-- what the sort asks of the comparison: a function value with one captured variable -/
structure CmpEnv (fid q g : Nat) (ky : Int → Int) (cf : Int → Int → Int) (S : Int → Prop) (Good : World → Prop) : Prop where
  enter : ∀ (args : Array Value) (W : World), Sem.run Tryz.prog (callFunc fid args) W = .ok (Next.enter fid args) W
  sign : ∀ x y, S x → S y → (cf x y < 0 ↔ ky x < ky y)
  keep : ∀ W W' : World, Good W → W.grownBy W' (some g) → Good W'
  call : ∀ (W : World) (x y : Int), Good W → S x → S y → Calls Tryz.prog fid #[.int .i64 x, .int .i64 y, .pointer (some ⟨q, 0, none⟩)] W fun e w' => e = .returned (.int .i64 (cf x y)) ∧ Below W.heap.size W w'
theorem Sme.mem {l l' : List Int} {a b n : Nat} {S : Int → Prop} (h : Sme l l' a b) (hb : b ≤ n) (hS : ∀ i, i < n → S (gt l i)) : ∀ i, i < n → S (gt l' i) := fun i hi => by
  by_cases hw : a ≤ i ∧ i < b
  · obtain ⟨j, _, j2, j3⟩ := h.to i hw.1 hw.2
    rw [j3]; exact hS j (by omega)
  · rw [h.out i (by omega)]; exact hS i hi
set_option maxRecDepth 100000 in
set_option maxHeartbeats 4000000 in
theorem isort_any {fid q g : Nat} {ky : Int → Int} {cf : Int → Int → Int} {S : Int → Prop} {Good : World → Prop} (E : CmpEnv fid q g ky cf S Good) (n cap a b : Nat) (l : List Int) (rest : List Value) (w : World) (hl : l.length = n) (hn : n ≤ 1000000) (hb : b ≤ n) (ha : a ≤ 1000000) (hB : Blk w g 2 (numCells l ++ rest)) (hS : ∀ i, i < n → S (gt l i)) (hG : Good w) (hinc : ∀ i j, a ≤ i → i < j → j < b → gt l i < gt l j) :
    Calls Tryz.prog 149 #[.slice (some ⟨g, 0, none⟩) n cap, .int .i64 (a : Int), .int .i64 (b : Int), .func (.func fid) #[] #[.pointer (some ⟨q, 0, none⟩)]] w fun e w' => ∃ l', e = .returned (.tuple #[]) ∧ Sme l l' a b ∧ Srt ky l' a b ∧ Blk w' g 2 (numCells l' ++ rest) ∧ w.grownBy w' (some g) := by
  have HL := Lib.hid hl; clear hl
  have HI := Lib.hid hinc; clear hinc
  have HS := Lib.hid hS; clear hS
  have HE := Lib.hid E; clear E
  go_enter Tryz.func149, Tryz.ntmps149
  go_wp2_with (fail)
  go_loopw [8, 9] (fun i _ wr => ∃ (k : Nat) (l' : List Int), a + 1 ≤ k ∧ (k ≤ b ∨ (k = a + 1 ∧ l' = l)) ∧ i = .int .i64 k ∧ Sme l l' a k ∧ Srt ky l' a k ∧ Blk wr g 2 (numCells l' ++ rest) ∧ w.grownBy wr (some g)) (fun i _ _ => b - (intOf i).toNat)
  case atStart => exact ⟨a + 1, l, by omega, .inr ⟨rfl, rfl⟩, by go_num, Sme.refl _ _ _, fun i j h1 h2 h3 => by omega, hB, grown_of_below (Below.refl _ _) _⟩
  case round =>
    obtain ⟨k, l1, hk1, hk2, rfl, hm, hs, hB1, hg⟩ := hrel
    have HM := Lib.hid hm; clear hm
    have HSR := Lib.hid hs; clear hs
    by_cases hlt : k < b
    · have hll : l1.length = n := by rw [HM.out.len]; exact HL.out
      have hins : Ins ky l1 a k k := Ins.start HSR.out (fun p hp hq => by
        obtain ⟨j, j1, j2, j3⟩ := HM.out.to p hp hq
        rw [j3, HM.out.out k (.inr (Nat.le_refl _))]; exact HI.out j k j1 j2 hlt)
      have HIN := Lib.hid hins; clear hins
      have HLL := Lib.hid hll; clear hll
      go_wp2_with (fail)
      obtain ⟨wo, hwo⟩ : ∃ wo : World, wo = wr := ⟨_, rfl⟩
      go_loopw [9] (fun i wq => ∃ (j : Nat) (l2 : List Int), a ≤ j ∧ j ≤ k ∧ i = .int .i64 j ∧ Ins ky l2 a j k ∧ Sme l1 l2 a (k + 1) ∧ Blk wq g 2 (numCells l2 ++ rest) ∧ w.grownBy wq (some g)) (fun i _ => (intOf i).toNat)
      case atStart => exact ⟨k, l1, by omega, by omega, rfl, HIN.out, Sme.refl _ _ _, hB1, hg⟩
      case round =>
        obtain ⟨j, l2, hj1, hj2, rfl, hin, hm2, hB2, hg2⟩ := hrel
        have HIN2 := Lib.hid hin; clear hin
        have HM2 := Lib.hid hm2; clear hm2
        have hl2 : l2.length = n := by rw [HM2.out.len]; exact HLL.out
        have HSJ : ∀ i, i < n → S (gt l2 i) := HM2.out.mem (by omega) (HM.out.mem (by omega) HS.out)
        have HL2 := Lib.hid hl2; clear hl2
        have hGw : Good wr := HE.out.keep _ _ hG hg2
        have hlg := hB2.lt
        rcases Nat.lt_or_ge a j with haj | haj
        · obtain ⟨j, rfl⟩ : ∃ j', j = j' + 1 := ⟨j - 1, by omega⟩
          have hc1 : ((j + 1 : Nat) : Int) = (j : Int) + 1 := by omega
          have d0 : wr.cell? ⟨g, j + 1, none⟩ = some (.int .i64 (gt l2 (j + 1))) := by rw [hB2.cell]; exact numCells_gt (by have := HL2.out; omega)
          have d1 : wr.cell? ⟨g, j, none⟩ = some (.int .i64 (gt l2 j)) := by rw [hB2.cell]; exact numCells_gt (by have := HL2.out; omega)
          have hcall : Hid (∀ W, Good W → Calls Tryz.prog fid #[.int .i64 (gt l2 (j + 1)), .int .i64 (gt l2 j), .pointer (some ⟨q, 0, none⟩)] W fun e w' => e = .returned (.int .i64 (cf (gt l2 (j + 1)) (gt l2 j))) ∧ Below W.heap.size W w') := Lib.hid (fun W hW => HE.out.call W _ _ hW (HSJ _ (by omega)) (HSJ _ (by omega)))
          have hsg := HE.out.sign (gt l2 (j + 1)) (gt l2 j) (HSJ _ (by omega)) (HSJ _ (by omega))
          have HSG := Lib.hid hsg
          have HSJ2 := Lib.hid HSJ
          clear HSJ hsg
          generalize hx : gt l2 (j + 1) = x at *
          generalize hy : gt l2 j = z at *
          have HX := Lib.hid hx
          have HY := Lib.hid hy
          clear hx hy
          have hka : (a : Int) < (j : Int) + 1 := by omega
          have hkn : (j : Int) + 1 < (n : Int) := by omega
          rw [hc1]
          by_cases hr : cf x z < 0
          · have HKY := Lib.hid (HSG.out.1 hr)
            have hent := HE.out.enter
            have hr' : decide (cf x z < 0) = true := by simpa using hr
            generalize cf x z = r at *
            go_wp2_with (fail)
            (refine later_intro_wp ?_; intro y)
            (refine wp_region_later (by kernel_rfl) (by kernel_rfl) ?_; (repeat (first | go_big_quiet_step ((exact later_below (hcall.out _ (HE.out.keep _ _ hGw (grown_of_below (Later.below _) _))))) | quiet_step ((exact later_below (hcall.out _ (HE.out.keep _ _ hGw (grown_of_below (Later.below _) _))))))); refine wpQuiet_nil ?_; rintro _ ⟨y, rfl⟩)
            have hB3 := hB2.keep y.below
            have hg3 := grown_trans hg2 (grown_of_below y.below _)
            have e0 := (Later.cell y hlg (o := j + 1)).trans d0
            have e1 := (Later.cell y hlg (o := j)).trans d1
            have f0 := hB3.frozen (j + 1)
            have f1 := hB3.frozen j
            have hl3 := hB3.lt
            clear d0 d1 hGw hg2 hB2 hlg
            generalize y.w = W5 at *
            clear y
            go_wp2_with (fail)
            go_region
            go_wp2_with (fail)
            have hl2n : l2.length = n := HL2.out
            have hB4 := hB3.swap (i := j + 1) (j := j) (by omega) (by omega)
            rw [HX.out, HY.out] at hB4
            go_roundw
            case rel => exact ⟨j, swp l2 (j + 1) j, by omega, by omega, by go_num, by simpa using HIN2.out.step (by rw [Nat.add_sub_cancel, HX.out, HY.out]; exact HKY.out) haj hj2 (by omega), HM2.out.trans (Sme.swp (by omega) (by omega) (by omega) (by omega) (by omega) (by omega)), hB4, grown_trans hg3 grown_swapd⟩
            case measure => simp [intOf]
          · have hent := HE.out.enter
            have hr' : decide (cf x z < 0) = false := by simpa using hr
            have HD : Hid (Srt ky l2 a (k + 1)) := Lib.hid (HIN2.out.done (.inr (by rw [HX.out, Nat.add_sub_cancel, HY.out]; exact fun h => hr (HSG.out.2 h))) hj1 hj2)
            generalize cf x z = r at *
            go_wp2_with (fail)
            (refine later_intro_wp ?_; intro y)
            (refine wp_region_later (by kernel_rfl) (by kernel_rfl) ?_; (repeat (first | go_big_quiet_step ((exact later_below (hcall.out _ (HE.out.keep _ _ hGw (grown_of_below (Later.below _) _))))) | quiet_step ((exact later_below (hcall.out _ (HE.out.keep _ _ hGw (grown_of_below (Later.below _) _))))))); refine wpQuiet_nil ?_; rintro _ ⟨y, rfl⟩)
            go_wp2_with (fail)
            go_roundw
            case rel => exact ⟨k + 1, l2, by omega, .inl (by omega), by go_num, (HM.out.mono (Nat.le_refl _) (by omega)).trans HM2.out, HD.out, hB2.keep (Later.below _), grown_trans hg2 (grown_of_below (Later.below _) _)⟩
            case measure => simp [intOf]; omega
        · obtain rfl : j = a := by omega
          have HD : Hid (Srt ky l2 j (k + 1)) := Lib.hid (HIN2.out.done (.inl rfl) hj1 hj2)
          go_wp2_with (fail)
          (refine later_intro_wp ?_; intro y)
          (refine wp_region_later (by kernel_rfl) (by kernel_rfl) ?_; (repeat (first | go_big_quiet_step ((fail)) | quiet_step ((fail)))); refine wpQuiet_nil ?_; rintro _ ⟨y, rfl⟩)
          go_wp2_with (fail)
          go_roundw
          case rel => exact ⟨k + 1, l2, by omega, .inl (by omega), by go_num, (HM.out.mono (Nat.le_refl _) (by omega)).trans HM2.out, HD.out, hB2.keep (Later.below _), grown_trans hg2 (grown_of_below (Later.below _) _)⟩
          case measure => simp [intOf]; omega
    · go_wp2
      go_end0
      refine ⟨l1, rfl, ?_, ?_, hB1, hg⟩
      · rcases hk2 with h | ⟨_, h⟩
        · rw [show b = k by omega]; exact HM.out
        · rw [h]; exact Sme.refl _ _ _
      · intro i j h1 h2 h3; exact HSR.out i j h1 h2 (by omega)
set_option maxRecDepth 100000 in
set_option maxHeartbeats 4000000 in
theorem swapRange_any (g n cap a b m : Nat) (FN : Value) (l : List Int) (rest : List Value) (w : World) (hl : l.length = n) (hn : n ≤ 1000000) (hab : a + m ≤ b) (hbn : b + m ≤ n) (hB : Blk w g 2 (numCells l ++ rest)) :
    Calls Tryz.prog 207 #[.slice (some ⟨g, 0, none⟩) n cap, .int .i64 (a : Int), .int .i64 (b : Int), .int .i64 (m : Int), FN] w fun e w' => ∃ l', e = .returned (.tuple #[]) ∧ Xch l l' a b m ∧ Blk w' g 2 (numCells l' ++ rest) ∧ w.grownBy w' (some g) := by
  have HL := Lib.hid hl; clear hl
  go_enter Tryz.func207, Tryz.ntmps207
  go_wp2_with (fail)
  go_loopw [10] (fun i wr => ∃ (k : Nat) (l' : List Int), k ≤ m ∧ i = .int .i64 k ∧ Xch l l' a b k ∧ Blk wr g 2 (numCells l' ++ rest) ∧ w.grownBy wr (some g)) (fun i _ => m - (intOf i).toNat)
  case atStart => exact ⟨0, l, by omega, rfl, Xch.start _ _ _ (by omega), hB, grown_of_below (Below.refl _ _) _⟩
  case round =>
    obtain ⟨k, l1, hk, rfl, hx, hB1, hg⟩ := hrel
    have HX := Lib.hid hx; clear hx
    by_cases hlt : k < m
    · have HLL : Hid (l1.length = n) := Lib.hid (by rw [HX.out.len]; exact HL.out)
      have d0 : wr.cell? ⟨g, a + k, none⟩ = some (.int .i64 (gt l1 (a + k))) := by rw [hB1.cell]; exact numCells_gt (by have := HLL.out; omega)
      have d1 : wr.cell? ⟨g, b + k, none⟩ = some (.int .i64 (gt l1 (b + k))) := by rw [hB1.cell]; exact numCells_gt (by have := HLL.out; omega)
      have f0 := hB1.frozen (a + k)
      have f1 := hB1.frozen (b + k)
      have t0 : ((a : Int) + (k : Int)).toNat = a + k := by omega
      have t1 : ((b : Int) + (k : Int)).toNat = b + k := by omega
      have i0 : (a : Int) + (k : Int) < (n : Int) := by omega
      have i1 : (b : Int) + (k : Int) < (n : Int) := by omega
      have i2 : (0 : Int) ≤ (a : Int) + (k : Int) := by omega
      have i3 : (0 : Int) ≤ (b : Int) + (k : Int) := by omega
      have hne : ¬ (b + k = a + k) := by omega
      have hB4 := hB1.swap (i := a + k) (j := b + k) (by have := HLL.out; omega) (by have := HLL.out; omega)
      generalize hx0 : gt l1 (a + k) = x at *
      generalize hx1 : gt l1 (b + k) = z at *
      clear hx0 hx1
      go_wp2_with (fail)
      go_region
      go_wp2_with (fail)
      go_roundw
      case rel => exact ⟨k + 1, _, by omega, by go_num, HX.out.step (by omega) (by have := HL.out; omega), hB4, grown_trans hg grown_swapd⟩
      case measure => simp [intOf]; omega
    · obtain rfl : k = m := by omega
      go_wp2
      go_end0
      exact ⟨l1, rfl, HX.out, hB1, hg⟩
end Go.Proofs.YtpnfhienffekoaaGreatDoor
end
section
namespace Go.Proofs.YtpnfhienffekoaaGreatDoor
set_option linter.unusedVariables false
set_option linter.unusedSimpArgs false
open Go.RowKit
set_option maxRecDepth 100000 in
set_option maxHeartbeats 800000 in
theorem rotate_any (g n cap a m b : Nat) (FN : Value) (l : List Int) (rest : List Value) (w : World) (hl : l.length = n) (hn : n ≤ 1000000) (ham : a < m) (hmb : m < b) (hbn : b ≤ n) (hB : Blk w g 2 (numCells l ++ rest)) :
    Calls Tryz.prog 177 #[.slice (some ⟨g, 0, none⟩) n cap, .int .i64 (a : Int), .int .i64 (m : Int), .int .i64 (b : Int), FN] w fun e w' => ∃ l', e = .returned (.tuple #[]) ∧ Rot l l' a m b ∧ Blk w' g 2 (numCells l' ++ rest) ∧ w.grownBy w' (some g) := by
  have HL := Lib.hid hl; clear hl
  have HT : Hid (Tng (rt l a m b) n l m (m - a) (b - m)) := Lib.hid (by have := Tng.start (l := l) (a := a) (m := m) (b := b) (by omega) (by omega); rwa [HL.out] at this)
  go_enter Tryz.func177, Tryz.ntmps177
  go_wp2_with (fail)
  go_loopw [10, 11] (fun s1 s2 wr => ∃ (i j : Nat) (l' : List Int), 0 < i ∧ 0 < j ∧ i ≤ m - a ∧ j ≤ b - m ∧ s1 = .int .i64 (i : Int) ∧ s2 = .int .i64 (j : Int) ∧ Tng (rt l a m b) n l' m i j ∧ Blk wr g 2 (numCells l' ++ rest) ∧ w.grownBy wr (some g)) (fun s1 s2 _ => (intOf s1).toNat + (intOf s2).toNat)
  case atStart => exact ⟨m - a, b - m, l, by omega, by omega, by omega, by omega, by congr 1; omega, by congr 1; omega, HT.out, hB, grown_of_below (Below.refl _ _) _⟩
  case round =>
    obtain ⟨i, j, l1, hi0, hj0, hi, hj, rfl, rfl, hT, hB1, hg⟩ := hrel
    have HTN := Lib.hid hT; clear hT
    have hmi : (m : Int) - (i : Int) = ((m - i : Nat) : Int) := by omega
    rcases Nat.lt_trichotomy i j with hij | hij | hij
    · have hne : ((i : Int) == (j : Int)) = false := by simp; omega
      have hne2 : ((i : Int) != (j : Int)) = true := by simp; omega
      have hgt : ¬ (j : Int) < (i : Int) := by omega
      have hmj : (m : Int) + (j : Int) - (i : Int) = ((m + j - i : Nat) : Int) := by omega
      have C1 : Hid (Calls Tryz.prog 207 #[.slice (some ⟨g, 0, none⟩) n cap, .int .i64 ((m : Int) - (i : Int)), .int .i64 ((m : Int) + (j : Int) - (i : Int)), .int .i64 (i : Int), FN] wr fun e w' => ∃ l', e = .returned (.tuple #[]) ∧ Xch l1 l' (m - i) (m + j - i) i ∧ Blk w' g 2 (numCells l' ++ rest) ∧ wr.grownBy w' (some g)) := Lib.hid (by rw [hmi, hmj]; exact swapRange_any g n cap _ _ i FN l1 rest wr HTN.out.len hn (by omega) (by omega) hB1)
      clear hmi hmj
      go_wp2_with (refine C1.out.mono ?_; rintro e w2 ⟨l2, rfl, hx, hB2, hg2⟩)
      have HX := Lib.hid hx; clear hx
      go_roundw
      case rel => exact ⟨i, j - i, l2, by omega, by omega, by omega, by omega, rfl, by congr 1; omega, HTN.out.less hij (by omega) HX.out, hB2, grown_trans hg hg2⟩
      case measure => simp [intOf]; omega
    · obtain rfl : i = j := hij
      have C1 : Hid (Calls Tryz.prog 207 #[.slice (some ⟨g, 0, none⟩) n cap, .int .i64 ((m : Int) - (i : Int)), .int .i64 (m : Int), .int .i64 (i : Int), FN] wr fun e w' => ∃ l', e = .returned (.tuple #[]) ∧ Xch l1 l' (m - i) m i ∧ Blk w' g 2 (numCells l' ++ rest) ∧ wr.grownBy w' (some g)) := Lib.hid (by rw [hmi]; exact swapRange_any g n cap _ _ i FN l1 rest wr HTN.out.len hn (by omega) (by omega) hB1)
      have HE := Lib.hid HTN.out
      clear hmi HTN
      go_wp2_with (refine C1.out.mono ?_; rintro e w2 ⟨l2, rfl, hx, hB2, hg2⟩)
      go_end0
      have hz := HE.out.last (by omega) hx
      exact ⟨l2, rfl, Rot.of (by omega) (by omega) (by rw [hz.1, HL.out]) hz.2, hB2, grown_trans hg hg2⟩
    · have hne : ((i : Int) == (j : Int)) = false := by simp; omega
      have hne2 : ((i : Int) != (j : Int)) = true := by simp; omega
      have hgt : (j : Int) < (i : Int) := by omega
      have C1 : Hid (Calls Tryz.prog 207 #[.slice (some ⟨g, 0, none⟩) n cap, .int .i64 ((m : Int) - (i : Int)), .int .i64 (m : Int), .int .i64 (j : Int), FN] wr fun e w' => ∃ l', e = .returned (.tuple #[]) ∧ Xch l1 l' (m - i) m j ∧ Blk w' g 2 (numCells l' ++ rest) ∧ wr.grownBy w' (some g)) := Lib.hid (by rw [hmi]; exact swapRange_any g n cap _ _ j FN l1 rest wr HTN.out.len hn (by omega) (by omega) hB1)
      clear hmi
      go_wp2_with (refine C1.out.mono ?_; rintro e w2 ⟨l2, rfl, hx, hB2, hg2⟩)
      have HX := Lib.hid hx; clear hx
      go_roundw
      case rel => exact ⟨i - j, j, l2, by omega, by omega, by omega, by omega, by congr 1; omega, rfl, HTN.out.more hij (by omega) HX.out, hB2, grown_trans hg hg2⟩
      case measure => simp [intOf]; omega
end Go.Proofs.YtpnfhienffekoaaGreatDoor
end
section
namespace Go.Proofs.YtpnfhienffekoaaGreatDoor
set_option linter.unusedVariables false
set_option linter.unusedSimpArgs false
open Go.RowKit
set_option maxRecDepth 100000 in
set_option maxHeartbeats 800000 in
/-- what a sort or a merge of a window leaves -/
def SortPost (g a b : Nat) (ky : Int → Int) (l : List Int) (rest : List Value) (w : World) (e : Ending) (w' : World) : Prop := ∃ l', e = .returned (.tuple #[]) ∧ Sme l l' a b ∧ Srt ky l' a b ∧ Blk w' g 2 (numCells l' ++ rest) ∧ w.grownBy w' (some g)
theorem half_nat (i j : Nat) (h : i < j) : ∃ c : Nat, ((i : Int) + (j : Int)) / 2 = (c : Int) ∧ i ≤ c ∧ c < j := ⟨(i + j) / 2, by omega, by omega, by omega⟩
set_option maxRecDepth 100000 in
set_option maxHeartbeats 1600000 in
theorem symm1_any {fid q g : Nat} {ky : Int → Int} {cf : Int → Int → Int} {S : Int → Prop} {Good : World → Prop} (E : CmpEnv fid q g ky cf S Good) (n cap a m b : Nat) (l : List Int) (rest : List Value) (w : World) (hl : l.length = n) (hn : n ≤ 1000000) (hma : m = a + 1) (hmb : m < b) (hbn : b ≤ n) (hB : Blk w g 2 (numCells l ++ rest)) (hS : ∀ i, i < n → S (gt l i)) (hG : Good w) (hs2 : Srt ky l m b) (hls : Lss l a m b) :
    Calls Tryz.prog 150 #[.slice (some ⟨g, 0, none⟩) n cap, .int .i64 (a : Int), .int .i64 (m : Int), .int .i64 (b : Int), .func (.func fid) #[] #[.pointer (some ⟨q, 0, none⟩)]] w (SortPost g a b ky l rest w) := by
  have HL := Lib.hid hl; clear hl
  have HS := Lib.hid hS; clear hS
  have HLS := Lib.hid hls; clear hls
  have HE := Lib.hid E; clear E
  have HS2 := Lib.hid hs2; clear hs2
  have HMA := Lib.hid hma
  have hd1 : ((m : Int) - (a : Int) == 1) = true := by simp; omega
  have hd1' : (m : Int) - (a : Int) = 1 := by omega
  have ham : a < m := by omega
  clear hma
  go_enter Tryz.func150, Tryz.ntmps150
  go_wp2_with (fail)
  clear hd1 hd1'
  go_loopw [10, 11, 12] (fun s1 s2 _ wr => ∃ (i j : Nat), m ≤ i ∧ i ≤ j ∧ j ≤ b ∧ s1 = .int .i64 (i : Int) ∧ s2 = .int .i64 (j : Int) ∧ (∀ p, m ≤ p → p < i → lx ky (gt l p) (gt l a)) ∧ (∀ p, j ≤ p → p < b → lx ky (gt l a) (gt l p)) ∧ Blk wr g 2 (numCells l ++ rest) ∧ w.grownBy wr (some g)) (fun s1 s2 _ _ => (intOf s2).toNat - (intOf s1).toNat)
  case atStart => exact ⟨m, b, by omega, by omega, by omega, rfl, rfl, fun p h1 h2 => by omega, fun p h1 h2 => by omega, hB, grown_of_below (Below.refl _ _) _⟩
  case round =>
    obtain ⟨i, j, hi, hij, hj, rfl, rfl, h1, h2, hB1, hg⟩ := hrel
    have H1 := Lib.hid h1; clear h1
    have H2 := Lib.hid h2; clear h2
    by_cases hlt : i < j
    · obtain ⟨c, hc, hic, hcj⟩ := half_nat i j hlt
      go_wp2_with (fail)
      clear hc
      have d0 : wr.cell? ⟨g, c, none⟩ = some (.int .i64 (gt l (c))) := by rw [hB1.cell]; exact numCells_gt (by have := HL.out; omega)
      have d1 : wr.cell? ⟨g, a, none⟩ = some (.int .i64 (gt l (a))) := by rw [hB1.cell]; exact numCells_gt (by have := HL.out; omega)
      have hGw : Good wr := HE.out.keep _ _ hG hg
      have hlg := hB1.lt
      have hcall : Hid (∀ W, Good W → Calls Tryz.prog fid #[.int .i64 (gt l (c)), .int .i64 (gt l (a)), .pointer (some ⟨q, 0, none⟩)] W fun e w' => e = .returned (.int .i64 (cf (gt l (c)) (gt l (a)))) ∧ Below W.heap.size W w') := Lib.hid (fun W hW => HE.out.call W _ _ hW (HS.out _ (by omega)) (HS.out _ (by omega)))
      have HSG := Lib.hid (HE.out.sign (gt l (c)) (gt l (a)) (HS.out _ (by omega)) (HS.out _ (by omega)))
      have hent := HE.out.enter
      generalize hx : gt l (c) = x at d0 d1 hcall HSG
      generalize hz : gt l (a) = z at d0 d1 hcall HSG
      have HX := Lib.hid hx
      have HZ := Lib.hid hz
      clear hx hz
      by_cases hr : cf x z < 0
      · have hr' : decide (cf x z < 0) = true := by simpa using hr
        have HK : Hid (lx ky (gt l c) (gt l a)) := Lib.hid (by rw [HX.out, HZ.out]; exact lx_lt (HSG.out.1 hr))
        generalize cf x z = r at *
        (refine later_intro_wp ?_; intro y)
        (refine wp_region_later (by kernel_rfl) (by kernel_rfl) ?_; (repeat (first | go_big_quiet_step ((exact later_below (hcall.out _ (HE.out.keep _ _ hGw (grown_of_below (Later.below _) _))))) | quiet_step ((exact later_below (hcall.out _ (HE.out.keep _ _ hGw (grown_of_below (Later.below _) _))))))); refine wpQuiet_nil ?_; rintro _ ⟨y, rfl⟩)
        go_wp2_with (fail)
        go_roundw
        case rel => exact ⟨c + 1, j, by omega, by omega, by omega, by go_num, rfl, fun p h3 h4 => by
          by_cases e : p = c
          · rw [e]; exact HK.out
          · exact lx_trans (HS2.out p c h3 (by omega) (by omega)) HK.out, H2.out, hB1.keep (Later.below _), grown_trans hg (grown_of_below (Later.below _) _)⟩
        case measure => simp [intOf]; omega
      · have hr' : decide (cf x z < 0) = false := by simpa using hr
        have HK : Hid (lx ky (gt l a) (gt l c)) := Lib.hid (lx_ge (by rw [HX.out, HZ.out]; exact fun h => hr (HSG.out.2 h)) (HLS.out a c (Nat.le_refl _) (by omega) (by omega) (by omega)))
        generalize cf x z = r at *
        (refine later_intro_wp ?_; intro y)
        (refine wp_region_later (by kernel_rfl) (by kernel_rfl) ?_; (repeat (first | go_big_quiet_step ((exact later_below (hcall.out _ (HE.out.keep _ _ hGw (grown_of_below (Later.below _) _))))) | quiet_step ((exact later_below (hcall.out _ (HE.out.keep _ _ hGw (grown_of_below (Later.below _) _))))))); refine wpQuiet_nil ?_; rintro _ ⟨y, rfl⟩)
        go_wp2_with (fail)
        go_roundw
        case rel => exact ⟨i, c, by omega, by omega, by omega, rfl, by go_num, H1.out, fun p h3 h4 => by
          by_cases e : p = c
          · rw [e]; exact HK.out
          · exact lx_trans HK.out (HS2.out c p (by omega) (by omega) h4), hB1.keep (Later.below _), grown_trans hg (grown_of_below (Later.below _) _)⟩
        case measure => simp [intOf]; omega
    · obtain rfl : i = j := by omega
      go_wp2_with (fail)
      have HF : Hid (Rot l l a (a + 1) (a + 1)) := Lib.hid (Rot.triv (by omega) (by omega) (by omega))
      go_loopw [13] (fun s wq => ∃ (k : Nat) (l' : List Int), a ≤ k ∧ k + 1 ≤ i ∧ s = .int .i64 (k : Int) ∧ Rot l l' a (a + 1) (k + 1) ∧ Blk wq g 2 (numCells l' ++ rest) ∧ w.grownBy wq (some g)) (fun s _ => i - (intOf s).toNat)
      case atStart => exact ⟨a, l, by omega, by omega, rfl, HF.out, hB1, hg⟩
      case round =>
        clear hB1 hg HF
        obtain ⟨k, l1, hk1, hk2, rfl, hrot, hB1, hg⟩ := hrel
        have HR := Lib.hid hrot; clear hrot
        have HL1 : Hid (l1.length = n) := Lib.hid (by rw [HR.out.len]; exact HL.out)
        by_cases hki : k + 1 < i
        · have d0 : wr.cell? ⟨g, k, none⟩ = some (.int .i64 (gt l1 k)) := by rw [hB1.cell]; exact numCells_gt (by have := HL1.out; omega)
          have d1 : wr.cell? ⟨g, k + 1, none⟩ = some (.int .i64 (gt l1 (k + 1))) := by rw [hB1.cell]; exact numCells_gt (by have := HL1.out; omega)
          have f0 := hB1.frozen k
          have f1 := hB1.frozen (k + 1)
          have hki' : (k : Int) < (i : Int) - 1 := by omega
          have hkn : (k : Int) + 1 < (n : Int) := by omega
          have hB4 := hB1.swap (i := k) (j := k + 1) (by have := HL1.out; omega) (by have := HL1.out; omega)
          generalize hx0 : gt l1 k = x at *
          generalize hx1 : gt l1 (k + 1) = z at *
          clear hx0 hx1
          go_wp2_with (fail)
          go_region
          go_wp2_with (fail)
          go_roundw
          case rel => exact ⟨k + 1, _, by omega, by omega, by go_num, HR.out.up hk1 (by have := HL.out; omega), hB4, grown_trans hg grown_swapd⟩
          case measure => simp [intOf]; omega
        · have hki' : ¬ (k : Int) < (i : Int) - 1 := by omega
          go_wp2_with (fail)
          refine bodyPost_ret (results_none rfl _ _ _) rfl ?_
          have hki2 : k + 1 = i := by omega
          have hR2 : Rot l l1 a (a + 1) i := by rw [← hki2]; exact HR.out
          refine ⟨l1, rfl, (hR2.sme (by omega) (by omega)).mono (Nat.le_refl _) (by omega), ?_, hB1, hg⟩
          exact one_first (by rw [← HMA.out]; exact HS2.out) (by omega) (by omega) (fun p h3 h4 => H1.out p (by have := HMA.out; omega) h4) H2.out hR2
end Go.Proofs.YtpnfhienffekoaaGreatDoor
end
section
namespace Go.Proofs.YtpnfhienffekoaaGreatDoor
set_option linter.unusedVariables false
set_option linter.unusedSimpArgs false
open Go.RowKit
set_option maxRecDepth 100000 in
set_option maxHeartbeats 1600000 in
theorem symm2_any {fid q g : Nat} {ky : Int → Int} {cf : Int → Int → Int} {S : Int → Prop} {Good : World → Prop} (E : CmpEnv fid q g ky cf S Good) (n cap a m b : Nat) (l : List Int) (rest : List Value) (w : World) (hl : l.length = n) (hn : n ≤ 1000000) (hma : a + 1 < m) (hmb : b = m + 1) (hbn : b ≤ n) (hB : Blk w g 2 (numCells l ++ rest)) (hS : ∀ i, i < n → S (gt l i)) (hG : Good w) (hs1 : Srt ky l a m) (hls : Lss l a m b) :
    Calls Tryz.prog 150 #[.slice (some ⟨g, 0, none⟩) n cap, .int .i64 (a : Int), .int .i64 (m : Int), .int .i64 (b : Int), .func (.func fid) #[] #[.pointer (some ⟨q, 0, none⟩)]] w (SortPost g a b ky l rest w) := by
  have HL := Lib.hid hl; clear hl
  have HS := Lib.hid hS; clear hS
  have HLS := Lib.hid hls; clear hls
  have HE := Lib.hid E; clear E
  have HS1 := Lib.hid hs1; clear hs1
  have HMB := Lib.hid hmb
  have hd1 : ((m : Int) - (a : Int) == 1) = false := by simp; omega
  have hd1' : ¬ (m : Int) - (a : Int) = 1 := by omega
  have hd2 : ((b : Int) - (m : Int) == 1) = true := by simp; omega
  have hd2' : (b : Int) - (m : Int) = 1 := by omega
  have hmb2 : m < b := by omega
  clear hmb
  go_enter Tryz.func150, Tryz.ntmps150
  go_wp2_with (fail)
  clear hd1 hd1' hd2 hd2'
  go_loopw [14, 15, 16] (fun s1 s2 _ wr => ∃ (i j : Nat), a ≤ i ∧ i ≤ j ∧ j ≤ m ∧ s1 = .int .i64 (i : Int) ∧ s2 = .int .i64 (j : Int) ∧ (∀ p, a ≤ p → p < i → lx ky (gt l p) (gt l m)) ∧ (∀ p, j ≤ p → p < m → lx ky (gt l m) (gt l p)) ∧ Blk wr g 2 (numCells l ++ rest) ∧ w.grownBy wr (some g)) (fun s1 s2 _ _ => (intOf s2).toNat - (intOf s1).toNat)
  case atStart => exact ⟨a, m, by omega, by omega, by omega, rfl, rfl, fun p h1 h2 => by omega, fun p h1 h2 => by omega, hB, grown_of_below (Below.refl _ _) _⟩
  case round =>
    obtain ⟨i, j, hi, hij, hj, rfl, rfl, h1, h2, hB1, hg⟩ := hrel
    have H1 := Lib.hid h1; clear h1
    have H2 := Lib.hid h2; clear h2
    by_cases hlt : i < j
    · obtain ⟨c, hc, hic, hcj⟩ := half_nat i j hlt
      go_wp2_with (fail)
      clear hc
      have d0 : wr.cell? ⟨g, m, none⟩ = some (.int .i64 (gt l (m))) := by rw [hB1.cell]; exact numCells_gt (by have := HL.out; omega)
      have d1 : wr.cell? ⟨g, c, none⟩ = some (.int .i64 (gt l (c))) := by rw [hB1.cell]; exact numCells_gt (by have := HL.out; omega)
      have hGw : Good wr := HE.out.keep _ _ hG hg
      have hlg := hB1.lt
      have hcall : Hid (∀ W, Good W → Calls Tryz.prog fid #[.int .i64 (gt l (m)), .int .i64 (gt l (c)), .pointer (some ⟨q, 0, none⟩)] W fun e w' => e = .returned (.int .i64 (cf (gt l (m)) (gt l (c)))) ∧ Below W.heap.size W w') := Lib.hid (fun W hW => HE.out.call W _ _ hW (HS.out _ (by omega)) (HS.out _ (by omega)))
      have HSG := Lib.hid (HE.out.sign (gt l (m)) (gt l (c)) (HS.out _ (by omega)) (HS.out _ (by omega)))
      have hent := HE.out.enter
      generalize hx : gt l (m) = x at d0 d1 hcall HSG
      generalize hz : gt l (c) = z at d0 d1 hcall HSG
      have HX := Lib.hid hx
      have HZ := Lib.hid hz
      clear hx hz
      by_cases hr : cf x z < 0
      · have hr' : decide (cf x z < 0) = true := by simpa using hr
        have HK : Hid (lx ky (gt l m) (gt l c)) := Lib.hid (by rw [HX.out, HZ.out]; exact lx_lt (HSG.out.1 hr))
        generalize cf x z = r at *
        (refine later_intro_wp ?_; intro y)
        (refine wp_region_later (by kernel_rfl) (by kernel_rfl) ?_; (repeat (first | go_big_quiet_step ((exact later_below (hcall.out _ (HE.out.keep _ _ hGw (grown_of_below (Later.below _) _))))) | quiet_step ((exact later_below (hcall.out _ (HE.out.keep _ _ hGw (grown_of_below (Later.below _) _))))))); refine wpQuiet_nil ?_; rintro _ ⟨y, rfl⟩)
        go_wp2_with (fail)
        go_roundw
        case rel => exact ⟨i, c, by omega, by omega, by omega, rfl, by go_num, H1.out, fun p h3 h4 => by
          by_cases e : p = c
          · rw [e]; exact HK.out
          · exact lx_trans HK.out (HS1.out c p (by omega) (by omega) h4), hB1.keep (Later.below _), grown_trans hg (grown_of_below (Later.below _) _)⟩
        case measure => simp [intOf]; omega
      · have hr' : decide (cf x z < 0) = false := by simpa using hr
        have HK : Hid (lx ky (gt l c) (gt l m)) := Lib.hid (lx_ge (by rw [HX.out, HZ.out]; exact fun h => hr (HSG.out.2 h)) (HLS.out c m (by omega) (by omega) (Nat.le_refl _) (by omega)))
        generalize cf x z = r at *
        (refine later_intro_wp ?_; intro y)
        (refine wp_region_later (by kernel_rfl) (by kernel_rfl) ?_; (repeat (first | go_big_quiet_step ((exact later_below (hcall.out _ (HE.out.keep _ _ hGw (grown_of_below (Later.below _) _))))) | quiet_step ((exact later_below (hcall.out _ (HE.out.keep _ _ hGw (grown_of_below (Later.below _) _))))))); refine wpQuiet_nil ?_; rintro _ ⟨y, rfl⟩)
        go_wp2_with (fail)
        go_roundw
        case rel => exact ⟨c + 1, j, by omega, by omega, by omega, by go_num, rfl, fun p h3 h4 => by
          by_cases e : p = c
          · rw [e]; exact HK.out
          · exact lx_trans (HS1.out p c h3 (by omega) (by omega)) HK.out, H2.out, hB1.keep (Later.below _), grown_trans hg (grown_of_below (Later.below _) _)⟩
        case measure => simp [intOf]; omega
    · obtain rfl : i = j := by omega
      go_wp2_with (fail)
      have HF : Hid (Rot l l m m (m + 1)) := Lib.hid (Rot.triv (by omega) (by omega) (by omega))
      go_loopw [17] (fun s wq => ∃ (k : Nat) (l' : List Int), i ≤ k ∧ k ≤ m ∧ s = .int .i64 (k : Int) ∧ Rot l l' k m (m + 1) ∧ Blk wq g 2 (numCells l' ++ rest) ∧ w.grownBy wq (some g)) (fun s _ => (intOf s).toNat)
      case atStart => exact ⟨m, l, by omega, by omega, rfl, HF.out, hB1, hg⟩
      case round =>
        clear hB1 hg HF
        obtain ⟨k, l1, hk1, hk2, rfl, hrot, hB1, hg⟩ := hrel
        have HR := Lib.hid hrot; clear hrot
        have HL1 : Hid (l1.length = n) := Lib.hid (by rw [HR.out.len]; exact HL.out)
        rcases Nat.lt_or_ge i k with hki | hki
        · obtain ⟨k, rfl⟩ : ∃ k', k = k' + 1 := ⟨k - 1, by omega⟩
          have hc1 : ((k + 1 : Nat) : Int) = (k : Int) + 1 := by omega
          have d0 : wr.cell? ⟨g, k + 1, none⟩ = some (.int .i64 (gt l1 (k + 1))) := by rw [hB1.cell]; exact numCells_gt (by have := HL1.out; omega)
          have d1 : wr.cell? ⟨g, k, none⟩ = some (.int .i64 (gt l1 k)) := by rw [hB1.cell]; exact numCells_gt (by have := HL1.out; omega)
          have f0 := hB1.frozen (k + 1)
          have f1 := hB1.frozen k
          have hki' : (i : Int) < (k : Int) + 1 := by omega
          have hkn : (k : Int) + 1 < (n : Int) := by omega
          have hB4 := hB1.swap (i := k + 1) (j := k) (by have := HL1.out; omega) (by have := HL1.out; omega)
          rw [hc1]
          clear hc1
          generalize hx0 : gt l1 (k + 1) = x at *
          generalize hx1 : gt l1 k = z at *
          clear hx0 hx1
          go_wp2_with (fail)
          go_region
          go_wp2_with (fail)
          go_roundw
          case rel => exact ⟨k, _, by omega, by omega, by go_num, HR.out.down hk2 (by have := HL.out; omega), hB4, grown_trans hg grown_swapd⟩
          case measure => simp [intOf]
        · have hki' : ¬ (i : Int) < (k : Int) := by omega
          go_wp2_with (fail)
          refine bodyPost_ret (results_none rfl _ _ _) rfl ?_
          have hki2 : i = k := by omega
          have hR2 : Rot l l1 i m (m + 1) := by rw [hki2]; exact HR.out
          refine ⟨l1, rfl, (hR2.sme (by omega) (by omega)).mono (by omega) (by have := HMB.out; omega), ?_, hB1, hg⟩
          rw [HMB.out]
          exact one_last HS1.out (by omega) (by omega) H1.out H2.out hR2
end Go.Proofs.YtpnfhienffekoaaGreatDoor
end
section
namespace Go.Proofs.YtpnfhienffekoaaGreatDoor
set_option linter.unusedVariables false
set_option linter.unusedSimpArgs false
open Go.RowKit
set_option maxRecDepth 100000 in
set_option maxHeartbeats 3200000 in
theorem symm3_any {fid q g : Nat} {ky : Int → Int} {cf : Int → Int → Int} {S : Int → Prop} {Good : World → Prop} (E : CmpEnv fid q g ky cf S Good) (n cap a m b : Nat) (l : List Int) (rest : List Value) (w : World) (hl : l.length = n) (hn : n ≤ 1000000) (hma : a + 1 < m) (hmb : m + 1 < b) (hbn : b ≤ n) (hB : Blk w g 2 (numCells l ++ rest)) (hS : ∀ i, i < n → S (gt l i)) (hG : Good w) (hs1 : Srt ky l a m) (hs2 : Srt ky l m b) (hls : Lss l a m b)
    (REC : ∀ (a' m' b' : Nat) (l' : List Int) (W : World), b' - a' < b - a → a' < m' → m' < b' → b' ≤ n → l'.length = n → Blk W g 2 (numCells l' ++ rest) → (∀ i, i < n → S (gt l' i)) → Good W → Srt ky l' a' m' → Srt ky l' m' b' → Lss l' a' m' b' → Calls Tryz.prog 150 #[.slice (some ⟨g, 0, none⟩) n cap, .int .i64 (a' : Int), .int .i64 (m' : Int), .int .i64 (b' : Int), .func (.func fid) #[] #[.pointer (some ⟨q, 0, none⟩)]] W (SortPost g a' b' ky l' rest W)) :
    Calls Tryz.prog 150 #[.slice (some ⟨g, 0, none⟩) n cap, .int .i64 (a : Int), .int .i64 (m : Int), .int .i64 (b : Int), .func (.func fid) #[] #[.pointer (some ⟨q, 0, none⟩)]] w (SortPost g a b ky l rest w) := by
  have HL := Lib.hid hl; clear hl
  have HS := Lib.hid hS; clear hS
  have HLS := Lib.hid hls; clear hls
  have HE := Lib.hid E; clear E
  have HS1 := Lib.hid hs1; clear hs1
  have HS2 := Lib.hid hs2; clear hs2
  have HREC := Lib.hid REC; clear REC
  have hd1 : ((m : Int) - (a : Int) == 1) = false := by simp; omega
  have hd1' : ¬ (m : Int) - (a : Int) = 1 := by omega
  have hd2 : ((b : Int) - (m : Int) == 1) = false := by simp; omega
  have hd2' : ¬ (b : Int) - (m : Int) = 1 := by omega
  obtain ⟨d, hd, had, hdb⟩ := half_nat a b (by omega)
  have hdA : 2 * d ≤ a + b ∧ a + b ≤ 2 * d + 1 := by omega
  go_enter Tryz.func150, Tryz.ntmps150
  have hb0 : Hid (w.grownBy w (some g)) := Lib.hid (grown_of_below (Below.refl _ _) _)
  go_upto_if 140 with (fail)
  clear hd1 hd1' hd2 hd2'
  go_cut [20, 21] (fun s1 s2 wc => ∃ lo hi : Nat, s1 = .int .i64 (lo : Int) ∧ s2 = .int .i64 (hi : Int) ∧ Bnd a m b (d + m) lo hi ∧ (lo = a ∨ lo + b = d + m) ∧ (hi = m ∨ hi = d) ∧ w = wc)
  case first => as_aux_lemma =>
    by_cases hmd : d < m
    · have hmdI : (d : Int) < (m : Int) := by omega
      go_wp2_with (fail)
      go_meet
      case rel => exact ⟨d + m - b, d, by congr 1; omega, rfl, ⟨by omega, by omega, by omega, by omega, by omega⟩, .inr (by omega), .inr rfl, rfl⟩
    · have hmdI : ¬ (d : Int) < (m : Int) := by omega
      go_wp2_with (fail)
      go_meet
      case rel => exact ⟨a, m, rfl, rfl, ⟨by omega, by omega, by omega, by omega, by omega⟩, .inl rfl, .inl rfl, rfl⟩
  case rest =>
    obtain ⟨lo, hi, rfl, rfl, hbd, hlo, hhi, rfl⟩ := hcut
    have HBD := Lib.hid hbd
    have HLO := Lib.hid hlo
    have HHI := Lib.hid hhi
    obtain ⟨b1, b2, b3, b4, b5⟩ := hbd
    have hsd : hi ≤ d := by omega
    clear hlo hhi hd
    have HF0 : Hid (Fnd ky l (d + m) lo hi lo hi) := Lib.hid ⟨by omega, by omega, by omega, fun c h1 h2 => by omega, fun c h1 h2 => by omega⟩
    go_wp2_with (fail)
    go_loopw [20, 21, 23] (fun s1 s2 _ wr => ∃ (s r : Nat), s1 = .int .i64 (s : Int) ∧ s2 = .int .i64 (r : Int) ∧ Fnd ky l (d + m) lo hi s r ∧ Blk wr g 2 (numCells l ++ rest) ∧ w.grownBy wr (some g)) (fun s1 s2 _ _ => (intOf s2).toNat - (intOf s1).toNat)
    case atStart => exact ⟨lo, hi, rfl, rfl, HF0.out, hB, grown_of_below (Below.refl _ _) _⟩
    case round =>
      obtain ⟨s, r, rfl, rfl, hf, hB1, hg⟩ := hrel
      have o1 := hf.o1
      have o2 := hf.o2
      have o3 := hf.o3
      have HF := Lib.hid hf; clear hf HF0
      by_cases hlt : s < r
      · obtain ⟨c, hc, hic, hcj⟩ := half_nat s r hlt
        obtain ⟨ee, he⟩ : ∃ ee, ee = d + m - 1 - c := ⟨_, rfl⟩
        have heI : (d : Int) + (m : Int) - 1 - (c : Int) = (ee : Int) := by omega
        have heb : m ≤ ee ∧ ee < b := by omega
        have hen : (ee : Int) < (n : Int) := by omega
        have hcn : (c : Int) < (n : Int) := by omega
        have HEE := Lib.hid he
        clear he
        go_wp2_with (fail)
        clear hc
        have d0 : wr.cell? ⟨g, ee, none⟩ = some (.int .i64 (gt l (ee))) := by rw [hB1.cell]; exact numCells_gt (by have := HL.out; omega)
        have d1 : wr.cell? ⟨g, c, none⟩ = some (.int .i64 (gt l (c))) := by rw [hB1.cell]; exact numCells_gt (by have := HL.out; omega)
        have hGw : Good wr := HE.out.keep _ _ hG hg
        have hlg := hB1.lt
        have hcall : Hid (∀ W, Good W → Calls Tryz.prog fid #[.int .i64 (gt l (ee)), .int .i64 (gt l (c)), .pointer (some ⟨q, 0, none⟩)] W fun e w' => e = .returned (.int .i64 (cf (gt l (ee)) (gt l (c)))) ∧ Below W.heap.size W w') := Lib.hid (fun W hW => HE.out.call W _ _ hW (HS.out _ (by omega)) (HS.out _ (by omega)))
        have HSG := Lib.hid (HE.out.sign (gt l (ee)) (gt l (c)) (HS.out _ (by omega)) (HS.out _ (by omega)))
        have hent := HE.out.enter
        generalize hx : gt l (ee) = x at d0 d1 hcall HSG
        generalize hz : gt l (c) = z at d0 d1 hcall HSG
        have HX := Lib.hid hx
        have HZ := Lib.hid hz
        clear hx hz
        by_cases hr : cf x z < 0
        · as_aux_lemma =>
          have hr' : decide (cf x z < 0) = true := by simpa using hr
          have HK : Hid (ky (gt l (d + m - 1 - c)) < ky (gt l c)) := Lib.hid (by rw [← HEE.out, HX.out, HZ.out]; exact HSG.out.1 hr)
          generalize cf x z = r2 at *
          (refine later_intro_wp ?_; intro y)
          (refine wp_region_later (by kernel_rfl) (by kernel_rfl) ?_; (repeat (first | go_big_quiet_step ((exact later_below (hcall.out _ (HE.out.keep _ _ hGw (grown_of_below (Later.below _) _))))) | quiet_step ((exact later_below (hcall.out _ (HE.out.keep _ _ hGw (grown_of_below (Later.below _) _))))))); refine wpQuiet_nil ?_; rintro _ ⟨y, rfl⟩)
          go_wp2_with (fail)
          go_roundw
          case rel => exact ⟨s, c, rfl, by go_num, HF.out.down HBD.out HS1.out HS2.out hic hcj HK.out, hB1.keep (Later.below _), grown_trans hg (grown_of_below (Later.below _) _)⟩
          case measure => simp [intOf]; omega
        · as_aux_lemma =>
          have hr' : decide (cf x z < 0) = false := by simpa using hr
          have HK : Hid (¬ ky (gt l (d + m - 1 - c)) < ky (gt l c)) := Lib.hid (by rw [← HEE.out, HX.out, HZ.out]; exact fun h => hr (HSG.out.2 h))
          generalize cf x z = r2 at *
          (refine later_intro_wp ?_; intro y)
          (refine wp_region_later (by kernel_rfl) (by kernel_rfl) ?_; (repeat (first | go_big_quiet_step ((exact later_below (hcall.out _ (HE.out.keep _ _ hGw (grown_of_below (Later.below _) _))))) | quiet_step ((exact later_below (hcall.out _ (HE.out.keep _ _ hGw (grown_of_below (Later.below _) _))))))); refine wpQuiet_nil ?_; rintro _ ⟨y, rfl⟩)
          go_wp2_with (fail)
          go_roundw
          case rel => exact ⟨c + 1, r, by go_num, rfl, HF.out.up HBD.out HS1.out HS2.out HLS.out hic hcj HK.out, hB1.keep (Later.below _), grown_trans hg (grown_of_below (Later.below _) _)⟩
          case measure => simp [intOf]; omega
      · obtain rfl : s = r := by omega
        obtain ⟨t, ht⟩ : ∃ t, t = d + m - s := ⟨_, rfl⟩
        have htI : (d : Int) + (m : Int) - (s : Int) = (t : Int) := by omega
        have htb : d ≤ t ∧ t ≤ b ∧ m ≤ t ∧ s ≤ d ∧ a ≤ s ∧ s ≤ m := by omega
        have HTT := Lib.hid ht
        clear ht
        obtain ⟨ht1, ht2, ht3, ht4, ht5, ht6⟩ := htb
        obtain ⟨G185, hG185⟩ : ∃ G : Bool, G = (decide ((s : Nat) < m) && decide ((m : Nat) < t)) := ⟨_, rfl⟩
        have HG185 := Lib.hid hG185; clear hG185
        go_upto_region 39 with (fail)
        go_cut [185] (fun v wc => v = .bool G185 ∧ wr = wc)
        case first => as_aux_lemma =>
          by_cases h1 : s < m
          · have h1I : (s : Int) < (m : Int) := by omega
            by_cases h2 : m < t
            · have h2I : (m : Int) < (t : Int) := by omega
              go_wp2_with (fail)
              go_meet
              case rel => exact ⟨by rw [HG185.out]; simp [h1, h2], rfl⟩
            · have h2I : ¬ (m : Int) < (t : Int) := by omega
              go_wp2_with (fail)
              go_meet
              case rel => exact ⟨by rw [HG185.out]; simp [h1, h2], rfl⟩
          · have h1I : ¬ (s : Int) < (m : Int) := by omega
            go_wp2_with (fail)
            go_meet
            case rel => exact ⟨by rw [HG185.out]; simp [h1], rfl⟩
        case rest =>
        obtain ⟨rfl, rfl⟩ := hcut
        go_upto_if 185 with (fail)
        clear htI
        go_cut [] (fun wc => ∃ l1, Rot l l1 s m t ∧ Blk wc g 2 (numCells l1 ++ rest) ∧ w.grownBy wc (some g))
        case first => as_aux_lemma =>
          cases hg1 : G185 with
          | true =>
            have hst := HG185.out
            rw [hg1] at hst
            have hst2 : s < m ∧ m < t := by simpa using hst.symm
            clear hst
            go_wp2_with (go_at_call 177; refine (rotate_any g n cap s m t _ l rest _ HL.out hn hst2.1 hst2.2 (by omega) hB1).mono ?_; rintro ee w2 ⟨l2, rfl, hr, hB2, hg2⟩)
            go_meet
            case rel => exact ⟨l2, hr, hB2, grown_trans hg hg2⟩
          | false =>
            have hst := HG185.out
            rw [hg1] at hst
            have hst2 : ¬ (s < m ∧ m < t) := by simpa using hst.symm
            clear hst
            go_wp2_with (fail)
            go_meet
            case rel => exact ⟨l, Rot.triv hst2 ht6 ht3, hB1, hg⟩
        case rest =>
        clear hB1 hg
        obtain ⟨wA, rfl⟩ : ∃ wA : World, wA = wc := ⟨_, rfl⟩
        obtain ⟨l1, hrot, hB1, hg⟩ := hcut
        have HROT := Lib.hid hrot; clear hrot
        have hCD : Hid (s ≤ d ∧ d ≤ d + m - s ∧ d + m - s ≤ b ∧ a ≤ s ∧ Srt ky l1 a s ∧ Srt ky l1 s d ∧ Srt ky l1 d (d + m - s) ∧ Srt ky l1 (d + m - s) b ∧ Lss l1 a s d ∧ Lss l1 d (d + m - s) b ∧ (∀ p q, a ≤ p → p < d → d ≤ q → q < b → lx ky (gt l1 p) (gt l1 q))) :=
          Lib.hid (cut_done (mid := d) HBD.out rfl (by omega) (by omega) (by omega) HLO.out HHI.out HS1.out HS2.out HLS.out HF.out (by rw [← HTT.out]; exact HROT.out))
        rw [← HTT.out] at hCD
        have HSR : Hid (Sme l l1 a b) := Lib.hid ((HROT.out.sme ht6 ht3).mono ht5 ht2)
        have HL1 : Hid (l1.length = n) := Lib.hid (by rw [HROT.out.len]; exact HL.out)
        have HS11 : Hid (∀ i, i < n → S (gt l1 i)) := Lib.hid (HSR.out.mem hbn HS.out)
        have hGw : Good wA := HE.out.keep _ _ hG hg
        obtain ⟨G199, hG199⟩ : ∃ G : Bool, G = (decide ((a : Nat) < s) && decide ((s : Nat) < d)) := ⟨_, rfl⟩
        have HG199 := Lib.hid hG199; clear hG199
        go_upto_region 41 with (fail)
        go_cut [199] (fun v wc => v = .bool G199 ∧ wA = wc)
        case first => as_aux_lemma =>
          by_cases h1 : a < s
          · have h1I : (a : Int) < (s : Int) := by omega
            by_cases h2 : s < d
            · have h2I : (s : Int) < (d : Int) := by omega
              go_wp2_with (fail)
              go_meet
              case rel => exact ⟨by rw [HG199.out]; simp [h1, h2], rfl⟩
            · have h2I : ¬ (s : Int) < (d : Int) := by omega
              go_wp2_with (fail)
              go_meet
              case rel => exact ⟨by rw [HG199.out]; simp [h1, h2], rfl⟩
          · have h1I : ¬ (a : Int) < (s : Int) := by omega
            go_wp2_with (fail)
            go_meet
            case rel => exact ⟨by rw [HG199.out]; simp [h1], rfl⟩
        case rest =>
        obtain ⟨rfl, rfl⟩ := hcut
        go_upto_if 199 with (fail)
        go_cut [] (fun wq => ∃ l2, Sme l1 l2 a d ∧ Srt ky l2 a d ∧ Blk wq g 2 (numCells l2 ++ rest) ∧ w.grownBy wq (some g))
        case first => as_aux_lemma =>
          cases hg1 : G199 with
          | true =>
            have hst := HG199.out
            rw [hg1] at hst
            have hst2 : a < s ∧ s < d := by simpa using hst.symm
            clear hst
            have C1 := Lib.hid (HREC.out a s d l1 _ (by omega) hst2.1 hst2.2 (by omega) HL1.out hB1 HS11.out hGw hCD.out.2.2.2.2.1 hCD.out.2.2.2.2.2.1 hCD.out.2.2.2.2.2.2.2.2.1)
            go_wp2_with (go_at_call 150; refine C1.out.mono ?_; rintro ee w2 ⟨l2, rfl, hr, hr2, hB2, hg2⟩)
            go_meet
            case rel => exact ⟨l2, hr, hr2, hB2, grown_trans hg hg2⟩
          | false =>
            have hst := HG199.out
            rw [hg1] at hst
            have hst2 : ¬ (a < s ∧ s < d) := by simpa using hst.symm
            clear hst
            have hsrt : Srt ky l1 a d := by
              rcases Nat.eq_or_lt_of_le ht5 with e | h
              · rw [e]; exact hCD.out.2.2.2.2.2.1
              · have e : s = d := by omega
                have := hCD.out.2.2.2.2.1
                rwa [e] at this
            have HSRT := Lib.hid hsrt; clear hsrt
            go_wp2_with (fail)
            go_meet
            case rel => exact ⟨l1, Sme.refl _ _ _, HSRT.out, hB1, hg⟩
        case rest =>
        clear hB1 hg hGw
        obtain ⟨wB, rfl⟩ : ∃ wB : World, wB = wc := ⟨_, rfl⟩
        obtain ⟨l2, hm2, hs2, hB1, hg⟩ := hcut
        have HM2 := Lib.hid hm2; clear hm2
        have HSS2 := Lib.hid hs2; clear hs2
        have HL2 : Hid (l2.length = n) := Lib.hid (by rw [HM2.out.len]; exact HL1.out)
        have HS22 : Hid (∀ i, i < n → S (gt l2 i)) := Lib.hid (HM2.out.mem (by omega) HS11.out)
        have hGw : Good wB := HE.out.keep _ _ hG hg
        obtain ⟨G213, hG213⟩ : ∃ G : Bool, G = (decide ((d : Nat) < t) && decide ((t : Nat) < b)) := ⟨_, rfl⟩
        have HG213 := Lib.hid hG213; clear hG213
        go_upto_region 43 with (fail)
        go_cut [213] (fun v wc => v = .bool G213 ∧ wB = wc)
        case first => as_aux_lemma =>
          by_cases h1 : d < t
          · have h1I : (d : Int) < (t : Int) := by omega
            by_cases h2 : t < b
            · have h2I : (t : Int) < (b : Int) := by omega
              go_wp2_with (fail)
              go_meet
              case rel => exact ⟨by rw [HG213.out]; simp [h1, h2], rfl⟩
            · have h2I : ¬ (t : Int) < (b : Int) := by omega
              go_wp2_with (fail)
              go_meet
              case rel => exact ⟨by rw [HG213.out]; simp [h1, h2], rfl⟩
          · have h1I : ¬ (d : Int) < (t : Int) := by omega
            go_wp2_with (fail)
            go_meet
            case rel => exact ⟨by rw [HG213.out]; simp [h1], rfl⟩
        case rest =>
        obtain ⟨rfl, rfl⟩ := hcut
        go_upto_if 213 with (fail)
        cases hg1 : G213 with
        | true => as_aux_lemma =>
          have hst := HG213.out
          rw [hg1] at hst
          have hst2 : d < t ∧ t < b := by simpa using hst.symm
          clear hst
          have C1 := Lib.hid (HREC.out d t b l2 _ (by omega) hst2.1 hst2.2 (by omega) HL2.out hB1 HS22.out hGw (hCD.out.2.2.2.2.2.2.1.keep HM2.out (.inr (Nat.le_refl _))) (hCD.out.2.2.2.2.2.2.2.1.keep HM2.out (.inr ht1)) (hCD.out.2.2.2.2.2.2.2.2.2.1.keep HM2.out (.inr (Nat.le_refl _))))
          go_wp2_with (go_at_call 150; refine C1.out.mono ?_; rintro ee w2 ⟨l3, rfl, hr, hr2, hB2, hg2⟩)
          go_end0
          exact ⟨l3, rfl, (HSR.out.trans (HM2.out.mono (Nat.le_refl _) (by omega))).trans (hr.mono (by omega) (Nat.le_refl _)), halves (by omega) (by omega) hCD.out.2.2.2.2.2.2.2.2.2.2 HM2.out HSS2.out hr hr2, hB2, grown_trans hg hg2⟩
        | false => as_aux_lemma =>
          have hst := HG213.out
          rw [hg1] at hst
          have hst2 : ¬ (d < t ∧ t < b) := by simpa using hst.symm
          clear hst
          have hsrt : Srt ky l1 d b := by
            rcases Nat.eq_or_lt_of_le ht1 with e | h
            · rw [e]; exact hCD.out.2.2.2.2.2.2.2.1
            · have e : t = b := by omega
              have := hCD.out.2.2.2.2.2.2.1
              rwa [e] at this
          have HSRT : Hid (Srt ky l2 d b) := Lib.hid (hsrt.keep HM2.out (.inr (Nat.le_refl _)))
          clear hsrt
          go_wp2_with (fail)
          go_end0
          exact ⟨l2, rfl, HSR.out.trans (HM2.out.mono (Nat.le_refl _) (by omega)), halves (by omega) (by omega) hCD.out.2.2.2.2.2.2.2.2.2.2 HM2.out HSS2.out (Sme.refl _ _ _) HSRT.out, hB1, hg⟩
end Go.Proofs.YtpnfhienffekoaaGreatDoor
end
section
namespace Go.Proofs.YtpnfhienffekoaaGreatDoor
set_option linter.unusedVariables false
set_option linter.unusedSimpArgs false
open Go.RowKit
theorem symm_any {fid q g : Nat} {ky : Int → Int} {cf : Int → Int → Int} {S : Int → Prop} {Good : World → Prop} (E : CmpEnv fid q g ky cf S Good) (n cap : Nat) (rest : List Value) (hn : n ≤ 1000000) :
    ∀ (fuel a m b : Nat) (l : List Int) (w : World), b - a ≤ fuel → a < m → m < b → b ≤ n → l.length = n → Blk w g 2 (numCells l ++ rest) → (∀ i, i < n → S (gt l i)) → Good w → Srt ky l a m → Srt ky l m b → Lss l a m b →
      Calls Tryz.prog 150 #[.slice (some ⟨g, 0, none⟩) n cap, .int .i64 (a : Int), .int .i64 (m : Int), .int .i64 (b : Int), .func (.func fid) #[] #[.pointer (some ⟨q, 0, none⟩)]] w (SortPost g a b ky l rest w) := by
  intro fuel
  induction fuel with
  | zero => intro a m b l w h1 h2 h3; omega
  | succ fuel ih =>
    intro a m b l w h1 ham hmb hbn hl hB hS hG hs1 hs2 hls
    by_cases e1 : m = a + 1
    · exact symm1_any E n cap a m b l rest w hl hn e1 hmb hbn hB hS hG hs2 hls
    · by_cases e2 : b = m + 1
      · exact symm2_any E n cap a m b l rest w hl hn (by omega) e2 hbn hB hS hG hs1 hls
      · exact symm3_any E n cap a m b l rest w hl hn (by omega) (by omega) hbn hB hS hG hs1 hs2 hls (fun a' m' b' l' W h2 h3 h4 h5 h6 h7 h8 h9 h10 h11 h12 => ih a' m' b' l' W (by omega) h3 h4 h5 h6 h7 h8 h9 h10 h11 h12)
set_option maxRecDepth 100000 in
set_option maxHeartbeats 3200000 in
theorem stable_any {fid q g : Nat} {ky : Int → Int} {cf : Int → Int → Int} {S : Int → Prop} {Good : World → Prop} (E : CmpEnv fid q g ky cf S Good) (n cap : Nat) (l : List Int) (rest : List Value) (w : World) (hl : l.length = n) (hn : n ≤ 24) (hB : Blk w g 2 (numCells l ++ rest)) (hS : ∀ i, i < n → S (gt l i)) (hG : Good w) (hinc : ∀ i j, i < j → j < n → gt l i < gt l j) :
    Calls Tryz.prog 118 #[.slice (some ⟨g, 0, none⟩) n cap, .int .i64 (n : Int), .func (.func fid) #[] #[.pointer (some ⟨q, 0, none⟩)]] w (SortPost g 0 n ky l rest w) := by
  have HL := Lib.hid hl; clear hl
  have HI := Lib.hid hinc; clear hinc
  have HS := Lib.hid hS; clear hS
  have HE := Lib.hid E; clear E
  have hb0 : w.grownBy w (some g) := grown_of_below (Below.refl _ _) _
  go_enter Tryz.func118, Tryz.ntmps118
  go_wp2_with (fail)
  go_loopw [7, 8] (fun s1 s2 wr => ∃ (a : Nat) (l' : List Int), s1 = .int .i64 (a : Int) ∧ s2 = .int .i64 ((a : Int) + 20) ∧ (a = 0 ∨ (a = 20 ∧ 20 ≤ n)) ∧ Sme l l' 0 a ∧ Srt ky l' 0 a ∧ Blk wr g 2 (numCells l' ++ rest) ∧ w.grownBy wr (some g)) (fun s1 _ _ => 40 - (intOf s1).toNat)
  case atStart => exact ⟨0, l, rfl, rfl, .inl rfl, Sme.refl _ _ _, fun i j h1 h2 h3 => by omega, hB, hb0⟩
  case round =>
    obtain ⟨a, l1, rfl, rfl, ha, hm, hs, hB1, hg⟩ := hrel
    have HM := Lib.hid hm; clear hm
    have HSR := Lib.hid hs; clear hs
    have HL1 : Hid (l1.length = n) := Lib.hid (by rw [HM.out.len]; exact HL.out)
    have HS1 : Hid (∀ i, i < n → S (gt l1 i)) := Lib.hid (HM.out.mem (by omega) HS.out)
    have hGw : Good wr := HE.out.keep _ _ hG hg
    by_cases hlt : a + 20 ≤ n
    · obtain rfl : a = 0 := by omega
      have C1 := Lib.hid (isort_any HE.out n cap 0 20 l1 rest wr HL1.out (by omega) (by omega) (by omega) hB1 HS1.out hGw (fun i j h1 h2 h3 => by
        rw [HM.out.out i (.inr (by omega)), HM.out.out j (.inr (by omega))]; exact HI.out i j h2 (by omega)))
      have hlt' : (20 : Int) ≤ (n : Int) := by omega
      clear ha hlt
      simp only [Int.natCast_zero, Int.zero_add]
      simp only [Int.natCast_zero, show ((20 : Nat) : Int) = 20 from rfl] at C1
      go_wp2_with (refine C1.out.mono ?_; rintro ee w2 ⟨l2, rfl, hr, hr2, hB2, hg2⟩)
      have HR := Lib.hid hr; clear hr
      have HR2 := Lib.hid hr2; clear hr2
      go_roundw
      case rel => exact ⟨20, l2, rfl, rfl, .inr ⟨rfl, by omega⟩, (HM.out.mono (Nat.le_refl _) (by omega)).trans HR.out, HR2.out, hB2, grown_trans hg hg2⟩
      case measure => simp [intOf]
    · have hlt' : ¬ (a : Int) + 20 ≤ (n : Int) := by omega
      have han : a ≤ n := by omega
      have C1 := Lib.hid (isort_any HE.out n cap a n l1 rest wr HL1.out (by omega) (Nat.le_refl _) (by omega) hB1 HS1.out hGw (fun i j h1 h2 h3 => by
        rw [HM.out.out i (.inr h1), HM.out.out j (.inr (by omega))]; exact HI.out i j h2 h3))
      go_wp2_with (refine C1.out.mono ?_; rintro ee w2 ⟨l2, rfl, hr, hr2, hB2, hg2⟩)
      have HR := Lib.hid hr; clear hr
      have HR2 := Lib.hid hr2; clear hr2
      have hg3 := grown_trans hg hg2
      have HSM : Hid (Sme l l2 0 n) := Lib.hid ((HM.out.mono (Nat.le_refl _) han).trans (HR.out.mono (by omega) (Nat.le_refl _)))
      have HLT : Hid (20 < n → Srt ky l2 0 20 ∧ Srt ky l2 20 n ∧ Lss l2 0 20 n) := Lib.hid (fun h => by
        obtain rfl : a = 20 := by omega
        exact ⟨HSR.out.keep HR.out (.inl (Nat.le_refl _)), HR2.out, Lss.sme (l1 := l) (fun i j h1 h2 h3 h4 => HI.out i j (by omega) h4) HM.out HR.out⟩)
      have HLE : Hid (n ≤ 20 → Srt ky l2 0 n) := Lib.hid (fun h => by
        rcases ha with rfl | ⟨rfl, h20⟩
        · exact HR2.out
        · obtain rfl : n = 20 := by omega
          exact HSR.out.keep HR.out (.inl (Nat.le_refl _)))
      clear HM HSR HL1 HS1 hGw hB1 hg hg2 C1 hlt hlt' ha han HR HR2
      go_loopw [6, 7, 8, 9] (fun s1 s2 s3 s4 wr => ∃ (l' : List Int), ((s1 = .int .i64 20 ∧ l' = l2) ∨ (s1 = .int .i64 40 ∧ Srt ky l' 0 n)) ∧ Sme l l' 0 n ∧ Blk wr g 2 (numCells l' ++ rest) ∧ w.grownBy wr (some g)) (fun s1 _ _ _ _ => 40 - (intOf s1).toNat)
      case atStart => exact ⟨l2, .inl ⟨rfl, rfl⟩, HSM.out, hB2, hg3⟩
      case round =>
        clear hB2 hg3
        obtain ⟨l3, hcase, hm, hB3, hg⟩ := hrel
        have HM := Lib.hid hm; clear hm
        rcases hcase with ⟨rfl, rfl⟩ | ⟨rfl, hs⟩
        · by_cases h20 : 20 < n
          · have h20' : (20 : Int) < (n : Int) := by omega
            have h40 : ¬ (40 : Int) ≤ (n : Int) := by omega
            have hl3 : l3.length = n := by rw [HM.out.len]; exact HL.out
            have C1 := Lib.hid (symm_any HE.out n cap rest (by omega) n 0 20 n l3 wr (by omega) (by omega) h20 (Nat.le_refl _) hl3 hB3 (HM.out.mem (Nat.le_refl _) HS.out) (HE.out.keep _ _ hG hg) (HLT.out h20).1 (HLT.out h20).2.1 (HLT.out h20).2.2)
            clear hl3
            simp only [Int.natCast_zero, show ((20 : Nat) : Int) = 20 from rfl] at C1
            go_wp2_with (fail)
            obtain ⟨wo, rfl⟩ : ∃ wo : World, wo = wr := ⟨_, rfl⟩
            go_loopw [7, 8] (fun s1 s2 wr => s1 = .int .i64 0 ∧ s2 = .int .i64 40 ∧ wo = wr) (fun _ _ _ => 0)
            case atStart => exact ⟨rfl, rfl, rfl⟩
            case round =>
              obtain ⟨rfl, rfl, rfl⟩ := hrel
              go_wp2_with (refine C1.out.mono ?_; rintro ee w4 ⟨l4, rfl, hr, hr2, hB4, hg4⟩)
              have HR := Lib.hid hr; clear hr
              have HR2 := Lib.hid hr2; clear hr2
              go_roundw
              case rel => exact ⟨l4, .inr ⟨rfl, HR2.out⟩, HM.out.trans HR.out, hB4, grown_trans hg hg4⟩
              case measure => simp [intOf]
          · have h20' : ¬ (20 : Int) < (n : Int) := by omega
            have HZ := Lib.hid (HLE.out (by omega))
            go_wp2_with (fail)
            go_end0
            exact ⟨l3, rfl, HM.out, HZ.out, hB3, hg⟩
        · have h40 : ¬ (40 : Int) < (n : Int) := by omega
          have HZ := Lib.hid hs; clear hs
          go_wp2_with (fail)
          go_end0
          exact ⟨l3, rfl, HM.out, HZ.out, hB3, hg⟩
set_option maxHeartbeats 1000000 in
theorem sortStable_any {fid q g : Nat} {ky : Int → Int} {cf : Int → Int → Int} {S : Int → Prop} {Good : World → Prop} (E : CmpEnv fid q g ky cf S Good) (n cap : Nat) (l : List Int) (rest : List Value) (w : World) (hl : l.length = n) (hn : n ≤ 24) (hB : Blk w g 2 (numCells l ++ rest)) (hS : ∀ i, i < n → S (gt l i)) (hG : Good w) (hinc : ∀ i j, i < j → j < n → gt l i < gt l j) :
    Calls Tryz.prog 80 #[.slice (some ⟨g, 0, none⟩) n cap, .func (.func fid) #[] #[.pointer (some ⟨q, 0, none⟩)]] w (SortPost g 0 n ky l rest w) := by
  have C := Lib.hid (stable_any E n cap l rest w hl hn hB hS hG hinc)
  clear E hl hS hG hinc hB
  go_enter Tryz.func80, Tryz.ntmps80
  go_wp2_with (refine C.out.mono ?_; rintro ee w2 ⟨l2, rfl, h1, h2, h3, h4⟩)
  go_end0
  exact ⟨l2, rfl, h1, h2, h3, h4⟩
end Go.Proofs.YtpnfhienffekoaaGreatDoor
end
