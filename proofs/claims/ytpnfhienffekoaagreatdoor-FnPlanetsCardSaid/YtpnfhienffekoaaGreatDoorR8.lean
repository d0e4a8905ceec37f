/- Contracts of the functions that read numbers from bytes. -/
import Derived.Test.YtpnfhienffekoaaGreatDoorBytes
import Derived.Test.YtpnfhienffekoaaGreatDoorGrpNum
namespace Go.Proofs.YtpnfhienffekoaaGreatDoor
set_option linter.unusedVariables false
set_option linter.unusedSimpArgs false
open Go.RowKit
theorem emod_le_self2 {x m : Int} (h0 : 0 ≤ x) (hm : 0 < m) : x % m ≤ x := by
  by_cases h : x < m
  · rw [Int.emod_eq_of_lt h0 h]; omega
  · have := Int.emod_lt_of_pos x hm; omega
theorem r8Long_any (A A' : Option Addr) (n c n' c' : Nat) (w : World) :
    Calls Tryz.prog 6 #[.slice A n c, .slice A' n' c'] w fun e w' => e = .returned (.bool (decide (1048576 < n) || decide (1048576 < n'))) ∧ w' = w := by
  by_cases h : 1048576 < n
  · have h' : (1048576 : Int) < (n : Int) := by omega
    go_enter Tryz.func6, Tryz.ntmps6
    go_wp2_with (fail)
    go_ret
    exact ⟨by simp [h], rfl⟩
  · by_cases h2 : 1048576 < n'
    · go_enter Tryz.func6, Tryz.ntmps6
      go_wp2_with (fail)
      go_ret
      exact ⟨by simp [h2]; omega, rfl⟩
    · go_enter Tryz.func6, Tryz.ntmps6
      go_wp2_with (fail)
      go_ret
      exact ⟨by simp [h, h2]; omega, rfl⟩
theorem r8At_any (A : Option Addr) (n c k : Nat) (bs : List Int) (m : Int) (w : World) (hl : bs.length = n) (hn : n ≤ 1048576) (hA : Bytes w A bs) (hok : ∀ x ∈ bs, ByteOk x) (hk : k ≤ 1048576) (hm : 1 < m) :
    Calls Tryz.prog 21 #[.slice A n c, .int .i64 (k : Int), .int .i64 m] w fun e w' => ∃ x : Nat, e = .returned (.int .i64 (x : Int)) ∧ (x : Int) < m ∧ x ≤ 255 ∧ w' = w := by
  by_cases h : k < n
  · obtain ⟨x, hx⟩ := at_lt (l := bs) (k := k) (by omega)
    obtain ⟨hx0, hx1⟩ := hok x (List.mem_of_getElem? hx)
    obtain ⟨b, o, rfl, hc⟩ := hA (by omega)
    have c0 := hc k x hx
    clear hc hx
    obtain ⟨x, rfl⟩ : ∃ x' : Nat, x = x' := ⟨x.toNat, by omega⟩
    go_enter Tryz.func21, Tryz.ntmps21
    go_wp2_with (fail)
    go_ret
    exact ⟨((x : Int) % m).toNat, by rw [Int.toNat_of_nonneg (Int.emod_nonneg _ (by omega))]; rfl, by have := Int.emod_lt_of_pos (x : Int) (show 0 < m by omega); have := Int.emod_nonneg (x : Int) (show m ≠ 0 by omega); omega, by have := Int.emod_nonneg (x : Int) (show m ≠ 0 by omega); have := emod_le_self2 (x := (x : Int)) (m := m) (by omega) (by omega); omega, rfl⟩
  · go_enter Tryz.func21, Tryz.ntmps21
    go_wp2_with (fail)
    go_ret
    exact ⟨0, rfl, by omega, by omega, rfl⟩
theorem r8Wide_any (A : Option Addr) (n c k : Nat) (bs : List Int) (m : Int) (w : World) (hl : bs.length = n) (hn : n ≤ 1048576) (hA : Bytes w A bs) (hok : ∀ x ∈ bs, ByteOk x) (hk : k ≤ 1000) (hm : 0 < m) :
    Calls Tryz.prog 20 #[.slice A n c, .int .i64 (k : Int), .int .i64 m] w fun e w' => ∃ x : Nat, e = .returned (.int .i64 (x : Int)) ∧ (x : Int) < m ∧ w' = w := by
  go_enter Tryz.func20, Tryz.ntmps20
  go_wp2_with (fail)
  refine (r8At_any A n c k bs 256 w hl hn hA hok (by omega) (by omega)).mono ?_
  rintro e w1 ⟨x, rfl, hx, hx2, rfl⟩
  go_wp2_with (fail)
  have hk1 : Value.int .i64 ((k : Int) + 1) = Value.int .i64 ((k + 1 : Nat) : Int) := by congr 1
  rw [hk1]
  refine (r8At_any A n c (k + 1) bs 256 w1 hl hn hA hok (by omega) (by omega)).mono ?_
  rintro e w2 ⟨y, rfl, hy, hy2, rfl⟩
  go_wp2_with (fail)
  go_ret
  exact ⟨((256 * (x : Int) + y) % m).toNat, by rw [Int.toNat_of_nonneg (Int.emod_nonneg _ (by omega))]; rfl, by have := Int.emod_lt_of_pos (256 * (x : Int) + y) hm; have := Int.emod_nonneg (256 * (x : Int) + y) (show m ≠ 0 by omega); omega, rfl⟩
end Go.Proofs.YtpnfhienffekoaaGreatDoor
