/- The library's turning of two neighbouring parts of a row of numbers. -/
import Derived.Test.YtoklogldehikeaaSortW
namespace Go.Proofs.Ytoklogldehikeaa
set_option linter.unusedVariables false
set_option linter.unusedSimpArgs false
open Go.RowKit
set_option maxRecDepth 100000 in
set_option maxHeartbeats 800000 in
theorem rotate_any (g n cap a m b : Nat) (FN : Value) (l : List Int) (rest : List Value) (w : World) (hl : l.length = n) (hn : n ≤ 1000000) (ham : a < m) (hmb : m < b) (hbn : b ≤ n) (hB : Blk w g 2 (numCells l ++ rest)) :
    Calls Try.prog 112 #[.slice (some ⟨g, 0, none⟩) n cap, .int .i64 (a : Int), .int .i64 (m : Int), .int .i64 (b : Int), FN] w fun e w' => ∃ l', e = .returned (.tuple #[]) ∧ Rot l l' a m b ∧ Blk w' g 2 (numCells l' ++ rest) ∧ w.grownBy w' (some g) := by
  have HL := Lib.hid hl; clear hl
  have HT : Hid (Tng (rt l a m b) n l m (m - a) (b - m)) := Lib.hid (by have := Tng.start (l := l) (a := a) (m := m) (b := b) (by omega) (by omega); rwa [HL.out] at this)
  go_enter Try.func112, Try.ntmps112
  go_wp2_with (fail)
  go_loopw [10, 11] (fun s1 s2 wr => ∃ (i j : Nat) (l' : List Int), 0 < i ∧ 0 < j ∧ i ≤ m - a ∧ j ≤ b - m ∧ s1 = .int .i64 (i : Int) ∧ s2 = .int .i64 (j : Int) ∧ Tng (rt l a m b) n l' m i j ∧ Blk wr g 2 (numCells l' ++ rest) ∧ w.grownBy wr (some g)) (fun s1 s2 _ => (intOf s1).toNat + (intOf s2).toNat)
  case atStart => exact ⟨m - a, b - m, l, by omega, by omega, by omega, by omega, by congr 1; omega, by congr 1; omega, HT.out, hB, grown_of_below (Below.refl _ _) _⟩
  case round =>
    obtain ⟨i, j, l1, hi0, hj0, hi, hj, rfl, rfl, hT, hB1, hg⟩ := hrel
    have HTN := Lib.hid hT; clear hT
    have hmi : (m : Int) - (i : Int) = ((m - i : Nat) : Int) := by omega
    rcases Nat.lt_trichotomy i j with hij | hij | hij
    · have hne : ((i : Int) == (j : Int)) = false := by simp; omega
      have hne2 : ((i : Int) != (j : Int)) = true := by simp; omega
      have hgt : ¬ (j : Int) < (i : Int) := by omega
      have hmj : (m : Int) + (j : Int) - (i : Int) = ((m + j - i : Nat) : Int) := by omega
      have C1 : Hid (Calls Try.prog 118 #[.slice (some ⟨g, 0, none⟩) n cap, .int .i64 ((m : Int) - (i : Int)), .int .i64 ((m : Int) + (j : Int) - (i : Int)), .int .i64 (i : Int), FN] wr fun e w' => ∃ l', e = .returned (.tuple #[]) ∧ Xch l1 l' (m - i) (m + j - i) i ∧ Blk w' g 2 (numCells l' ++ rest) ∧ wr.grownBy w' (some g)) := Lib.hid (by rw [hmi, hmj]; exact swapRange_any g n cap _ _ i FN l1 rest wr HTN.out.len hn (by omega) (by omega) hB1)
      clear hmi hmj
      go_wp2_with (refine C1.out.mono ?_; rintro e w2 ⟨l2, rfl, hx, hB2, hg2⟩)
      have HX := Lib.hid hx; clear hx
      go_roundw
      case rel => exact ⟨i, j - i, l2, by omega, by omega, by omega, by omega, rfl, by congr 1; omega, HTN.out.less hij (by omega) HX.out, hB2, grown_trans hg hg2⟩
      case measure => simp [intOf]; omega
    · obtain rfl : i = j := hij
      have C1 : Hid (Calls Try.prog 118 #[.slice (some ⟨g, 0, none⟩) n cap, .int .i64 ((m : Int) - (i : Int)), .int .i64 (m : Int), .int .i64 (i : Int), FN] wr fun e w' => ∃ l', e = .returned (.tuple #[]) ∧ Xch l1 l' (m - i) m i ∧ Blk w' g 2 (numCells l' ++ rest) ∧ wr.grownBy w' (some g)) := Lib.hid (by rw [hmi]; exact swapRange_any g n cap _ _ i FN l1 rest wr HTN.out.len hn (by omega) (by omega) hB1)
      have HE := Lib.hid HTN.out
      clear hmi HTN
      go_wp2_with (refine C1.out.mono ?_; rintro e w2 ⟨l2, rfl, hx, hB2, hg2⟩)
      go_end0
      have hz := HE.out.last (by omega) hx
      exact ⟨l2, rfl, Rot.of (by omega) (by omega) (by rw [hz.1, HL.out]) hz.2, hB2, grown_trans hg hg2⟩
    · have hne : ((i : Int) == (j : Int)) = false := by simp; omega
      have hne2 : ((i : Int) != (j : Int)) = true := by simp; omega
      have hgt : (j : Int) < (i : Int) := by omega
      have C1 : Hid (Calls Try.prog 118 #[.slice (some ⟨g, 0, none⟩) n cap, .int .i64 ((m : Int) - (i : Int)), .int .i64 (m : Int), .int .i64 (j : Int), FN] wr fun e w' => ∃ l', e = .returned (.tuple #[]) ∧ Xch l1 l' (m - i) m j ∧ Blk w' g 2 (numCells l' ++ rest) ∧ wr.grownBy w' (some g)) := Lib.hid (by rw [hmi]; exact swapRange_any g n cap _ _ j FN l1 rest wr HTN.out.len hn (by omega) (by omega) hB1)
      clear hmi
      go_wp2_with (refine C1.out.mono ?_; rintro e w2 ⟨l2, rfl, hx, hB2, hg2⟩)
      have HX := Lib.hid hx; clear hx
      go_roundw
      case rel => exact ⟨i - j, j, l2, by omega, by omega, by omega, by omega, by congr 1; omega, rfl, HTN.out.more hij (by omega) HX.out, hB2, grown_trans hg hg2⟩
      case measure => simp [intOf]; omega
end Go.Proofs.Ytoklogldehikeaa
