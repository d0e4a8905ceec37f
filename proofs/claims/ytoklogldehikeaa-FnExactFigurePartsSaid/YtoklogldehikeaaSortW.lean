/- Contracts of the library's stable sort at rows of numbers: insertion, exchange, turning, merging. -/
import Derived.Test.YtoklogldehikeaaPlainSort
import Derived.Test.YtoklogldehikeaaOwnRows
import Derived.RegionTactic
import Derived.BigRegion
namespace Go.Proofs.Ytoklogldehikeaa
set_option linter.unusedVariables false
set_option linter.unusedSimpArgs false
open Go.RowKit
theorem numCells_gt {l : List Int} {rest : List Value} {i : Nat} (h : i < l.length) : (numCells l ++ rest)[i]? = some (.int .i64 (gt l i)) := by
  rw [List.getElem?_append_left (by rw [numCells_length]; exact h)]; exact numCells_at (at_gt h)
theorem numCells_set2 {l : List Int} {rest : List Value} {i : Nat} {x : Int} (h : i < l.length) : (numCells l ++ rest).set i (.int .i64 x) = numCells (l.set i x) ++ rest := by
  rw [List.set_append_left _ _ (by rw [numCells_length]; exact h)]; congr 1; simp [numCells, List.map_set]
theorem swp_comm {l : List Int} {i j : Nat} (h : i ≠ j) : (l.set j (gt l i)).set i (gt l j) = swp l i j := by
  rw [swp, List.set_comm _ _ (Ne.symm h)]
theorem swp_symm {l : List Int} {i j : Nat} (h : i ≠ j) : swp l j i = swp l i j := by rw [← swp_comm h]; rfl
theorem grown_trans {a b c : World} {row : Option Nat} (h : a.grownBy b row) (k : b.grownBy c row) : a.grownBy c row :=
  ⟨k.os.trans h.os, k.tape.trans h.tape, k.output.trans h.output, Nat.le_trans h.size k.size, fun q hq hr => (k.block q (Nat.lt_of_lt_of_le hq h.size) hr).trans (h.block q hq hr)⟩
theorem Blk.swap {w : World} {g : Nat} {l : List Int} {rest : List Value} {i j : Nat} (h : Blk w g 2 (numCells l ++ rest)) (hi : i < l.length) (hj : j < l.length) :
    Blk ((w.setCell ⟨g, i, none⟩ (.int .i64 (gt l j))).setCell ⟨g, j, none⟩ (.int .i64 (gt l i))) g 2 (numCells (swp l i j) ++ rest) := by
  have := (h.set_ i (.int .i64 (gt l j))).set_ j (.int .i64 (gt l i))
  rw [numCells_set2 hi, numCells_set2 (by simpa using hj)] at this
  exact this
theorem grown_swap {w : World} {g i j : Nat} {u v : Value} : w.grownBy ((w.setCell ⟨g, i, none⟩ u).setCell ⟨g, j, none⟩ v) (some g) := only_set (only_set (grown_of_below (Below.refl _ _) _) _ _) _ _
theorem grown_swapd {w : World} {g i j : Nat} {u v : Value} : w.grownBy ((w.setCell ⟨g, i, none⟩ u).setCell ⟨g, j, none⟩ v).drew (some g) := by
  have h := @grown_swap w g i j u v
  exact ⟨h.os, h.tape, h.output, h.size, h.block⟩
/-- what the sort asks of the comparison: a function value with one captured variable -/
structure CmpEnv (fid q g : Nat) (ky : Int → Int) (cf : Int → Int → Int) (S : Int → Prop) (Good : World → Prop) : Prop where
  enter : ∀ (args : Array Value) (W : World), Sem.run Try.prog (callFunc fid args) W = .ok (Next.enter fid args) W
  sign : ∀ x y, S x → S y → (cf x y < 0 ↔ ky x < ky y)
  keep : ∀ W W' : World, Good W → W.grownBy W' (some g) → Good W'
  call : ∀ (W : World) (x y : Int), Good W → S x → S y → Calls Try.prog fid #[.int .i64 x, .int .i64 y, .pointer (some ⟨q, 0, none⟩)] W fun e w' => e = .returned (.int .i64 (cf x y)) ∧ Below W.heap.size W w'
theorem Sme.mem {l l' : List Int} {a b n : Nat} {S : Int → Prop} (h : Sme l l' a b) (hb : b ≤ n) (hS : ∀ i, i < n → S (gt l i)) : ∀ i, i < n → S (gt l' i) := fun i hi => by
  by_cases hw : a ≤ i ∧ i < b
  · obtain ⟨j, _, j2, j3⟩ := h.to i hw.1 hw.2
    rw [j3]; exact hS j (by omega)
  · rw [h.out i (by omega)]; exact hS i hi
set_option maxRecDepth 100000 in
set_option maxHeartbeats 4000000 in
theorem isort_any {fid q g : Nat} {ky : Int → Int} {cf : Int → Int → Int} {S : Int → Prop} {Good : World → Prop} (E : CmpEnv fid q g ky cf S Good) (n cap a b : Nat) (l : List Int) (rest : List Value) (w : World) (hl : l.length = n) (hn : n ≤ 1000000) (hb : b ≤ n) (ha : a ≤ 1000000) (hB : Blk w g 2 (numCells l ++ rest)) (hS : ∀ i, i < n → S (gt l i)) (hG : Good w) (hinc : ∀ i j, a ≤ i → i < j → j < b → gt l i < gt l j) :
    Calls Try.prog 95 #[.slice (some ⟨g, 0, none⟩) n cap, .int .i64 (a : Int), .int .i64 (b : Int), .func (.func fid) #[] #[.pointer (some ⟨q, 0, none⟩)]] w fun e w' => ∃ l', e = .returned (.tuple #[]) ∧ Sme l l' a b ∧ Srt ky l' a b ∧ Blk w' g 2 (numCells l' ++ rest) ∧ w.grownBy w' (some g) := by
  have HL := Lib.hid hl; clear hl
  have HI := Lib.hid hinc; clear hinc
  have HS := Lib.hid hS; clear hS
  have HE := Lib.hid E; clear E
  go_enter Try.func95, Try.ntmps95
  go_wp2_with (fail)
  go_loopw [8, 9] (fun i _ wr => ∃ (k : Nat) (l' : List Int), a + 1 ≤ k ∧ (k ≤ b ∨ (k = a + 1 ∧ l' = l)) ∧ i = .int .i64 k ∧ Sme l l' a k ∧ Srt ky l' a k ∧ Blk wr g 2 (numCells l' ++ rest) ∧ w.grownBy wr (some g)) (fun i _ _ => b - (intOf i).toNat)
  case atStart => exact ⟨a + 1, l, by omega, .inr ⟨rfl, rfl⟩, by go_num, Sme.refl _ _ _, fun i j h1 h2 h3 => by omega, hB, grown_of_below (Below.refl _ _) _⟩
  case round =>
    obtain ⟨k, l1, hk1, hk2, rfl, hm, hs, hB1, hg⟩ := hrel
    have HM := Lib.hid hm; clear hm
    have HSR := Lib.hid hs; clear hs
    by_cases hlt : k < b
    · have hll : l1.length = n := by rw [HM.out.len]; exact HL.out
      have hins : Ins ky l1 a k k := Ins.start HSR.out (fun p hp hq => by
        obtain ⟨j, j1, j2, j3⟩ := HM.out.to p hp hq
        rw [j3, HM.out.out k (.inr (Nat.le_refl _))]; exact HI.out j k j1 j2 hlt)
      have HIN := Lib.hid hins; clear hins
      have HLL := Lib.hid hll; clear hll
      go_wp2_with (fail)
      obtain ⟨wo, hwo⟩ : ∃ wo : World, wo = wr := ⟨_, rfl⟩
      go_loopw [9] (fun i wq => ∃ (j : Nat) (l2 : List Int), a ≤ j ∧ j ≤ k ∧ i = .int .i64 j ∧ Ins ky l2 a j k ∧ Sme l1 l2 a (k + 1) ∧ Blk wq g 2 (numCells l2 ++ rest) ∧ w.grownBy wq (some g)) (fun i _ => (intOf i).toNat)
      case atStart => exact ⟨k, l1, by omega, by omega, rfl, HIN.out, Sme.refl _ _ _, hB1, hg⟩
      case round =>
        obtain ⟨j, l2, hj1, hj2, rfl, hin, hm2, hB2, hg2⟩ := hrel
        have HIN2 := Lib.hid hin; clear hin
        have HM2 := Lib.hid hm2; clear hm2
        have hl2 : l2.length = n := by rw [HM2.out.len]; exact HLL.out
        have HSJ : ∀ i, i < n → S (gt l2 i) := HM2.out.mem (by omega) (HM.out.mem (by omega) HS.out)
        have HL2 := Lib.hid hl2; clear hl2
        have hGw : Good wr := HE.out.keep _ _ hG hg2
        have hlg := hB2.lt
        rcases Nat.lt_or_ge a j with haj | haj
        · obtain ⟨j, rfl⟩ : ∃ j', j = j' + 1 := ⟨j - 1, by omega⟩
          have hc1 : ((j + 1 : Nat) : Int) = (j : Int) + 1 := by omega
          have d0 : wr.cell? ⟨g, j + 1, none⟩ = some (.int .i64 (gt l2 (j + 1))) := by rw [hB2.cell]; exact numCells_gt (by have := HL2.out; omega)
          have d1 : wr.cell? ⟨g, j, none⟩ = some (.int .i64 (gt l2 j)) := by rw [hB2.cell]; exact numCells_gt (by have := HL2.out; omega)
          have hcall : Hid (∀ W, Good W → Calls Try.prog fid #[.int .i64 (gt l2 (j + 1)), .int .i64 (gt l2 j), .pointer (some ⟨q, 0, none⟩)] W fun e w' => e = .returned (.int .i64 (cf (gt l2 (j + 1)) (gt l2 j))) ∧ Below W.heap.size W w') := Lib.hid (fun W hW => HE.out.call W _ _ hW (HSJ _ (by omega)) (HSJ _ (by omega)))
          have hsg := HE.out.sign (gt l2 (j + 1)) (gt l2 j) (HSJ _ (by omega)) (HSJ _ (by omega))
          have HSG := Lib.hid hsg
          have HSJ2 := Lib.hid HSJ
          clear HSJ hsg
          generalize hx : gt l2 (j + 1) = x at *
          generalize hy : gt l2 j = z at *
          have HX := Lib.hid hx
          have HY := Lib.hid hy
          clear hx hy
          have hka : (a : Int) < (j : Int) + 1 := by omega
          have hkn : (j : Int) + 1 < (n : Int) := by omega
          rw [hc1]
          by_cases hr : cf x z < 0
          · have HKY := Lib.hid (HSG.out.1 hr)
            have hent := HE.out.enter
            have hr' : decide (cf x z < 0) = true := by simpa using hr
            generalize cf x z = r at *
            go_wp2_with (fail)
            (refine later_intro_wp ?_; intro y)
            (refine wp_region_later (by kernel_rfl) (by kernel_rfl) ?_; (repeat (first | go_big_quiet_step ((exact later_below (hcall.out _ (HE.out.keep _ _ hGw (grown_of_below (Later.below _) _))))) | quiet_step ((exact later_below (hcall.out _ (HE.out.keep _ _ hGw (grown_of_below (Later.below _) _))))))); refine wpQuiet_nil ?_; rintro _ ⟨y, rfl⟩)
            have hB3 := hB2.keep y.below
            have hg3 := grown_trans hg2 (grown_of_below y.below _)
            have e0 := (Later.cell y hlg (o := j + 1)).trans d0
            have e1 := (Later.cell y hlg (o := j)).trans d1
            have f0 := hB3.frozen (j + 1)
            have f1 := hB3.frozen j
            have hl3 := hB3.lt
            clear d0 d1 hGw hg2 hB2 hlg
            generalize y.w = W5 at *
            clear y
            go_wp2_with (fail)
            go_region
            go_wp2_with (fail)
            have hl2n : l2.length = n := HL2.out
            have hB4 := hB3.swap (i := j + 1) (j := j) (by omega) (by omega)
            rw [HX.out, HY.out] at hB4
            go_roundw
            case rel => exact ⟨j, swp l2 (j + 1) j, by omega, by omega, by go_num, by simpa using HIN2.out.step (by rw [Nat.add_sub_cancel, HX.out, HY.out]; exact HKY.out) haj hj2 (by omega), HM2.out.trans (Sme.swp (by omega) (by omega) (by omega) (by omega) (by omega) (by omega)), hB4, grown_trans hg3 grown_swapd⟩
            case measure => simp [intOf]
          · have hent := HE.out.enter
            have hr' : decide (cf x z < 0) = false := by simpa using hr
            have HD : Hid (Srt ky l2 a (k + 1)) := Lib.hid (HIN2.out.done (.inr (by rw [HX.out, Nat.add_sub_cancel, HY.out]; exact fun h => hr (HSG.out.2 h))) hj1 hj2)
            generalize cf x z = r at *
            go_wp2_with (fail)
            (refine later_intro_wp ?_; intro y)
            (refine wp_region_later (by kernel_rfl) (by kernel_rfl) ?_; (repeat (first | go_big_quiet_step ((exact later_below (hcall.out _ (HE.out.keep _ _ hGw (grown_of_below (Later.below _) _))))) | quiet_step ((exact later_below (hcall.out _ (HE.out.keep _ _ hGw (grown_of_below (Later.below _) _))))))); refine wpQuiet_nil ?_; rintro _ ⟨y, rfl⟩)
            go_wp2_with (fail)
            go_roundw
            case rel => exact ⟨k + 1, l2, by omega, .inl (by omega), by go_num, (HM.out.mono (Nat.le_refl _) (by omega)).trans HM2.out, HD.out, hB2.keep (Later.below _), grown_trans hg2 (grown_of_below (Later.below _) _)⟩
            case measure => simp [intOf]; omega
        · obtain rfl : j = a := by omega
          have HD : Hid (Srt ky l2 j (k + 1)) := Lib.hid (HIN2.out.done (.inl rfl) hj1 hj2)
          go_wp2_with (fail)
          (refine later_intro_wp ?_; intro y)
          (refine wp_region_later (by kernel_rfl) (by kernel_rfl) ?_; (repeat (first | go_big_quiet_step ((fail)) | quiet_step ((fail)))); refine wpQuiet_nil ?_; rintro _ ⟨y, rfl⟩)
          go_wp2_with (fail)
          go_roundw
          case rel => exact ⟨k + 1, l2, by omega, .inl (by omega), by go_num, (HM.out.mono (Nat.le_refl _) (by omega)).trans HM2.out, HD.out, hB2.keep (Later.below _), grown_trans hg2 (grown_of_below (Later.below _) _)⟩
          case measure => simp [intOf]; omega
    · go_wp2
      go_end0
      refine ⟨l1, rfl, ?_, ?_, hB1, hg⟩
      · rcases hk2 with h | ⟨_, h⟩
        · rw [show b = k by omega]; exact HM.out
        · rw [h]; exact Sme.refl _ _ _
      · intro i j h1 h2 h3; exact HSR.out i j h1 h2 (by omega)
set_option maxRecDepth 100000 in
set_option maxHeartbeats 4000000 in
theorem swapRange_any (g n cap a b m : Nat) (FN : Value) (l : List Int) (rest : List Value) (w : World) (hl : l.length = n) (hn : n ≤ 1000000) (hab : a + m ≤ b) (hbn : b + m ≤ n) (hB : Blk w g 2 (numCells l ++ rest)) :
    Calls Try.prog 118 #[.slice (some ⟨g, 0, none⟩) n cap, .int .i64 (a : Int), .int .i64 (b : Int), .int .i64 (m : Int), FN] w fun e w' => ∃ l', e = .returned (.tuple #[]) ∧ Xch l l' a b m ∧ Blk w' g 2 (numCells l' ++ rest) ∧ w.grownBy w' (some g) := by
  have HL := Lib.hid hl; clear hl
  go_enter Try.func118, Try.ntmps118
  go_wp2_with (fail)
  go_loopw [10] (fun i wr => ∃ (k : Nat) (l' : List Int), k ≤ m ∧ i = .int .i64 k ∧ Xch l l' a b k ∧ Blk wr g 2 (numCells l' ++ rest) ∧ w.grownBy wr (some g)) (fun i _ => m - (intOf i).toNat)
  case atStart => exact ⟨0, l, by omega, rfl, Xch.start _ _ _ (by omega), hB, grown_of_below (Below.refl _ _) _⟩
  case round =>
    obtain ⟨k, l1, hk, rfl, hx, hB1, hg⟩ := hrel
    have HX := Lib.hid hx; clear hx
    by_cases hlt : k < m
    · have HLL : Hid (l1.length = n) := Lib.hid (by rw [HX.out.len]; exact HL.out)
      have d0 : wr.cell? ⟨g, a + k, none⟩ = some (.int .i64 (gt l1 (a + k))) := by rw [hB1.cell]; exact numCells_gt (by have := HLL.out; omega)
      have d1 : wr.cell? ⟨g, b + k, none⟩ = some (.int .i64 (gt l1 (b + k))) := by rw [hB1.cell]; exact numCells_gt (by have := HLL.out; omega)
      have f0 := hB1.frozen (a + k)
      have f1 := hB1.frozen (b + k)
      have t0 : ((a : Int) + (k : Int)).toNat = a + k := by omega
      have t1 : ((b : Int) + (k : Int)).toNat = b + k := by omega
      have i0 : (a : Int) + (k : Int) < (n : Int) := by omega
      have i1 : (b : Int) + (k : Int) < (n : Int) := by omega
      have i2 : (0 : Int) ≤ (a : Int) + (k : Int) := by omega
      have i3 : (0 : Int) ≤ (b : Int) + (k : Int) := by omega
      have hne : ¬ (b + k = a + k) := by omega
      have hB4 := hB1.swap (i := a + k) (j := b + k) (by have := HLL.out; omega) (by have := HLL.out; omega)
      generalize hx0 : gt l1 (a + k) = x at *
      generalize hx1 : gt l1 (b + k) = z at *
      clear hx0 hx1
      go_wp2_with (fail)
      go_region
      go_wp2_with (fail)
      go_roundw
      case rel => exact ⟨k + 1, _, by omega, by go_num, HX.out.step (by omega) (by have := HL.out; omega), hB4, grown_trans hg grown_swapd⟩
      case measure => simp [intOf]; omega
    · obtain rfl : k = m := by omega
      go_wp2
      go_end0
      exact ⟨l1, rfl, HX.out, hB1, hg⟩
end Go.Proofs.Ytoklogldehikeaa
