/- Bten, Rises, in one text. -/
import Derived.Test.YtpnfhienffekoaaGreatDoorMgJ
import Derived.Test.YtpnfhienffekoaaGreatDoorGrpNum
import Derived.Test.YtpnfhienffekoaaGreatDoorStars
import Derived.Deep.DeepCutAuto
namespace Go.Proofs.YtpnfhienffekoaaGreatDoor
set_option linter.unusedVariables false
set_option linter.unusedSimpArgs false
open Go.RowKit
theorem cell_kept {w w' : World} {b o : Nat} {v : Value} (h : w.cell? ⟨b, o, none⟩ = some v) (hb : Below w.heap.size w w') : w'.cell? ⟨b, o, none⟩ = some v := (hb.cell (p := ⟨b, o, none⟩) (World.block_lt_of_cell? w _ h)).trans h
theorem b10Long_at (A : Option Addr) (n c : Nat) (w : World) :
    Calls Tryz.prog 31 #[.slice A n c] w fun e w' => e = .returned (.bool (decide (1048576 < n))) ∧ w = w' := by
  by_cases h : 1048576 < n
  · have h' : (1048576 : Int) < (n : Int) := by omega
    go_enter Tryz.func31, Tryz.ntmps31
    go_wp2_with (fail)
    go_ret
    exact ⟨by simp [h], rfl⟩
  · go_enter Tryz.func31, Tryz.ntmps31
    go_wp2_with (fail)
    go_ret
    exact ⟨by simp [h]; omega, rfl⟩
end Go.Proofs.YtpnfhienffekoaaGreatDoor
namespace Go.Proofs.YtpnfhienffekoaaGreatDoor
set_option linter.unusedVariables false
set_option linter.unusedSimpArgs false
open Go.RowKit
set_option maxRecDepth 100000 in
set_option maxHeartbeats 4000000 in
theorem b10Rises_yes (A : Option Addr) (n c : Nat) (xs : List Int) (m : Nat) (w : World) (hl : xs.length = n) (hn : n ≤ 1048576) (hm : m ≤ 1048576) (hA : Ints w A xs) (hx : ∀ x ∈ xs, 0 ≤ x ∧ x < (m : Int)) (hr : xs.Pairwise (· < ·)) :
    Calls Tryz.prog 37 #[.slice A n c, .int .i64 (m : Int)] w fun e w' => e = .returned (.bool true) ∧ Below w.heap.size w w' := by
  have HX := Lib.hid hx
  have HL := Lib.hid hl
  have HR := Lib.hid hr
  clear hx hl hr
  go_enter Tryz.func37, Tryz.ntmps37
  go_wp2_with (fail)
  go_loopw [5] (fun i wr => ∃ k : Nat, k ≤ n ∧ i = .int .i64 (k : Int) ∧ Below w.heap.size w wr) (fun i _ => n - (intOf i).toNat)
  case atStart => exact ⟨0, by omega, rfl, Below.refl _ _⟩
  case round =>
    obtain ⟨k, hk, rfl, hb⟩ := hrel
    by_cases hlt : k < n
    · obtain ⟨x, hx⟩ := at_lt (l := xs) (k := k) (by have := HL.out; omega)
      obtain ⟨hx0, hx1⟩ := HX.out x (List.mem_of_getElem? hx)
      obtain ⟨b, o, rfl, hc⟩ := (hA.below hb) (by have := HL.out; omega)
      have c0 := hc k x hx
      have l0 := World.block_lt_of_cell? wr _ c0
      dsimp only at l0
      have d0 : decide (x < 0) = false := decide_eq_false (by omega)
      have d1 : decide ((m : Int) ≤ x) = false := decide_eq_false (by omega)
      clear hx0 hx1
      rcases k with _ | j
      · clear hc hx
        simp only [Int.natCast_zero]
        simp only [Nat.add_zero] at c0
        go_wp2_with (fail)
        (refine later_intro_wp ?_; intro y)
        (refine wp_region_later (by kernel_rfl) (by kernel_rfl) ?_; (repeat (first | go_big_quiet_step ((fail)) | quiet_step ((fail)))); refine wpQuiet_nil ?_; rintro _ ⟨y, rfl⟩)
        go_wp2_with (fail)
        go_roundw
        case rel => exact ⟨1, by omega, by go_num, below_later hb _⟩
        case measure => simp [intOf]; omega
      · obtain ⟨y, hy⟩ := at_lt (l := xs) (k := j) (by have := HL.out; omega)
        have c1 := hc j y hy
        have hyx : y < x := by
          obtain ⟨h1, e1⟩ := List.getElem?_eq_some_iff.1 hy
          obtain ⟨h2, e2⟩ := List.getElem?_eq_some_iff.1 hx
          have h := List.pairwise_iff_getElem.1 HR.out j (j + 1) h1 h2 (by omega)
          rw [e1, e2] at h
          exact h
        have d2 : decide (x ≤ y) = false := decide_eq_false (by omega)
        have g2 : (0 : Int) < (j : Int) + 1 := by omega
        have g3 : (j : Int) + 1 - 1 = j := by omega
        have hc1 : ((j + 1 : Nat) : Int) = (j : Int) + 1 := by omega
        rw [hc1]
        clear hc hx hy hyx hc1
        go_wp2_with (fail)
        (refine later_intro_wp ?_; intro y)
        (refine wp_region_later (by kernel_rfl) (by kernel_rfl) ?_; (repeat (first | go_big_quiet_step ((fail)) | quiet_step ((fail)))); refine wpQuiet_nil ?_; rintro _ ⟨y, rfl⟩)
        go_wp2_with (fail)
        go_roundw
        case rel => exact ⟨j + 1 + 1, by omega, by go_num, below_later hb _⟩
        case measure => simp [intOf]; omega
    · obtain rfl : k = n := by omega
      go_wp2_with (fail)
      go_ret
      exact ⟨rfl, hb⟩
end Go.Proofs.YtpnfhienffekoaaGreatDoor
