/- Contract of the laws' function that looks for a number in a list. -/
import Derived.Test.YtpnfhienffekoaaGreatDoorR8
import Derived.Test.YtpnfhienffekoaaGreatDoorStars
namespace Go.Proofs.YtpnfhienffekoaaGreatDoor
set_option linter.unusedVariables false
set_option linter.unusedSimpArgs false
open Go.RowKit
set_option maxHeartbeats 1000000 in
theorem r8Has_no (A : Option Addr) (n c : Nat) (xs : List Int) (x : Int) (w : World) (hl : xs.length = n) (hn : n ≤ 1048576) (hA : Ints w A xs) (hx : ∀ y ∈ xs, y ≠ x) :
    Calls Tryz.prog 30 #[.slice A n c, .int .i64 x] w fun e w' => e = .returned (.bool false) ∧ w = w' := by
  have HX := Lib.hid hx
  have HL := Lib.hid hl
  clear hx hl
  go_enter Tryz.func30, Tryz.ntmps30
  go_wp2_with (fail)
  go_loop [5] (fun i => ∃ k : Nat, k ≤ n ∧ i = .int .i64 (k : Int)) (fun i => n - (intOf i).toNat)
  case atStart => exact ⟨0, by omega, rfl⟩
  case round =>
    obtain ⟨k, hk, rfl⟩ := hrel
    by_cases hlt : k < n
    · obtain ⟨y, hy⟩ := at_lt (l := xs) (k := k) (by have := HL.out; omega)
      obtain ⟨b, o, rfl, hc⟩ := hA (by have := HL.out; omega)
      have c0 := hc k y hy
      have hne : (y == x) = false := by rw [beq_eq_false_iff_ne]; exact HX.out y (List.mem_of_getElem? hy)
      clear hc hy
      go_wp2_with (fail)
      go_round
      case rel => exact ⟨k + 1, by omega, by go_num⟩
      case measure => simp [intOf]; omega
    · obtain rfl : k = n := by omega
      go_wp2_with (fail)
      go_ret
      exact ⟨rfl, rfl⟩
set_option maxHeartbeats 1000000 in
theorem r8Has_yes (A : Option Addr) (n c : Nat) (xs : List Int) (x : Int) (w : World) (hl : xs.length = n) (hn : n ≤ 1048576) (hA : Ints w A xs) (hx : x ∈ xs) :
    Calls Tryz.prog 30 #[.slice A n c, .int .i64 x] w fun e w' => e = .returned (.bool true) ∧ w = w' := by
  have HX := Lib.hid hx
  have HL := Lib.hid hl
  clear hx hl
  go_enter Tryz.func30, Tryz.ntmps30
  go_wp2_with (fail)
  go_loop [5] (fun i => ∃ k : Nat, k ≤ n ∧ i = .int .i64 (k : Int) ∧ x ∈ xs.drop k) (fun i => n - (intOf i).toNat)
  case atStart => exact ⟨0, by omega, rfl, by simpa using HX.out⟩
  case round =>
    obtain ⟨k, hk, rfl, hm⟩ := hrel
    have HM := Lib.hid hm
    clear hm
    by_cases hlt : k < n
    · obtain ⟨y, hy⟩ := at_lt (l := xs) (k := k) (by have := HL.out; omega)
      obtain ⟨b, o, rfl, hc⟩ := hA (by have := HL.out; omega)
      have c0 := hc k y hy
      have HY := Lib.hid hy
      clear hc hy
      by_cases hxy : y = x
      · subst hxy
        go_wp2_with (fail)
        go_ret
        exact ⟨rfl, rfl⟩
      · have hne : (y == x) = false := by rw [beq_eq_false_iff_ne]; exact hxy
        have HN := Lib.hid hxy
        clear hxy
        go_wp2_with (fail)
        go_round
        case rel => exact ⟨k + 1, by omega, by go_num, by
          have h := HM.out
          obtain ⟨hk', e⟩ := List.getElem?_eq_some_iff.1 HY.out
          rw [List.drop_eq_getElem_cons hk', e] at h
          rcases List.mem_cons.1 h with h | h
          · exact absurd h.symm HN.out
          · exact h⟩
        case measure => simp [intOf]; omega
    · exfalso
      have h := HM.out
      rw [List.drop_eq_nil_of_le (by have := HL.out; omega)] at h
      cases h
end Go.Proofs.YtpnfhienffekoaaGreatDoor
