/- Contracts of the small functions of the laws that read bytes and lists. -/
import Derived.Test.YtbpjnopnhmoigaaDoorBytes
import Derived.Test.YtbpjnopnhmoigaaDoorGrpNum
import Derived.Test.YtbpjnopnhmoigaaDoorStars
namespace Go.Proofs.YtbpjnopnhmoigaaDoor
set_option linter.unusedVariables false
set_option linter.unusedSimpArgs false
open Go.RowKit
theorem cell_kept {w w' : World} {b o : Nat} {v : Value} (h : w.cell? ⟨b, o, none⟩ = some v) (hb : Below w.heap.size w w') : w'.cell? ⟨b, o, none⟩ = some v := (hb.cell (p := ⟨b, o, none⟩) (World.block_lt_of_cell? w _ h)).trans h
theorem b10Long_at (A : Option Addr) (n c : Nat) (w : World) :
    Calls Tryd.prog 36 #[.slice A n c] w fun e w' => e = .returned (.bool (decide (1048576 < n))) ∧ w = w' := by
  by_cases h : 1048576 < n
  · have h' : (1048576 : Int) < (n : Int) := by omega
    go_enter Tryd.func36, Tryd.ntmps36
    go_wp2_with (fail)
    go_ret
    exact ⟨by simp [h], rfl⟩
  · go_enter Tryd.func36, Tryd.ntmps36
    go_wp2_with (fail)
    go_ret
    exact ⟨by simp [h]; omega, rfl⟩
theorem b10At_any (A : Option Addr) (n c k : Nat) (bs : List Int) (m : Int) (w : World) (hl : bs.length = n) (hn : n ≤ 1048576) (hA : Bytes w A bs) (hok : ∀ x ∈ bs, ByteOk x) (hk : k ≤ 1048576) (hm : 1 < m) :
    Calls Tryd.prog 103 #[.slice A n c, .int .i64 (k : Int), .int .i64 m] w fun e w' => ∃ x : Int, e = .returned (.int .i64 x) ∧ 0 ≤ x ∧ x < m ∧ w = w' := by
  by_cases h : k < n
  · obtain ⟨x, hx⟩ := at_lt (l := bs) (k := k) (by omega)
    obtain ⟨hx0, hx1⟩ := hok x (List.mem_of_getElem? hx)
    obtain ⟨b, o, rfl, hc⟩ := hA (by omega)
    have c0 := hc k x hx
    clear hc hx
    go_enter Tryd.func103, Tryd.ntmps103
    go_wp2_with (fail)
    go_ret
    exact ⟨_, rfl, Int.emod_nonneg _ (by omega), Int.emod_lt_of_pos _ (by omega), rfl⟩
  · go_enter Tryd.func103, Tryd.ntmps103
    go_wp2_with (fail)
    go_ret
    exact ⟨_, rfl, Int.emod_nonneg _ (by omega), Int.emod_lt_of_pos _ (by omega), rfl⟩
theorem b10Wide_any (A : Option Addr) (n c : Nat) (bs : List Int) (m : Int) (w : World) (hl : bs.length = n) (hn : n ≤ 1048576) (hA : Bytes w A bs) (hok : ∀ x ∈ bs, ByteOk x) (hm : 0 < m) :
    Calls Tryd.prog 44 #[.slice A n c, .int .i64 0, .int .i64 m] w fun e w' => ∃ x : Int, e = .returned (.int .i64 x) ∧ 0 ≤ x ∧ x < m ∧ w = w' := by
  go_enter Tryd.func44, Tryd.ntmps44
  go_wp2_with (fail)
  refine (b10At_any A n c 0 bs 256 w hl hn hA hok (by omega) (by omega)).mono ?_
  rintro e w1 ⟨x, rfl, hx, hx2, rfl⟩
  go_wp2_with (fail)
  refine (b10At_any A n c 1 bs 256 w hl hn hA hok (by omega) (by omega)).mono ?_
  rintro e w2 ⟨y, rfl, hy, hy2, rfl⟩
  go_wp2_with (fail)
  refine (b10At_any A n c 2 bs 256 w hl hn hA hok (by omega) (by omega)).mono ?_
  rintro e w3 ⟨z, rfl, hz, hz2, rfl⟩
  go_wp2_with (fail)
  go_ret
  exact ⟨_, rfl, Int.emod_nonneg _ (by omega), Int.emod_lt_of_pos _ (by omega), rfl⟩
theorem b10Abs_any (a : Int) (w : World) (h0 : -1000000000 ≤ a) (h1 : a ≤ 1000000000) :
    Calls Tryd.prog 48 #[.int .i64 a] w fun e w' => e = .returned (.int .i64 (absI a)) ∧ w = w' := by
  by_cases h : a < 0
  · have e : Hid (absI a = -a) := Lib.hid (by rw [absI, if_pos h])
    go_enter Tryd.func48, Tryd.ntmps48
    go_wp2_with (fail)
    go_ret
    exact ⟨by rw [e.out]; first | rfl | (congr 2; omega), rfl⟩
  · have e : Hid (absI a = a) := Lib.hid (by rw [absI, if_neg h])
    go_enter Tryd.func48, Tryd.ntmps48
    go_wp2_with (fail)
    go_ret
    exact ⟨by rw [e.out]; rfl, rfl⟩
set_option maxHeartbeats 1000000 in
theorem b10Has_no (A : Option Addr) (n c : Nat) (xs : List Int) (x : Int) (w : World) (hl : xs.length = n) (hn : n ≤ 1048576) (hA : Ints w A xs) (hx : ∀ y ∈ xs, y ≠ x) :
    Calls Tryd.prog 50 #[.slice A n c, .int .i64 x] w fun e w' => e = .returned (.bool false) ∧ w = w' := by
  have HX := Lib.hid hx
  have HL := Lib.hid hl
  clear hx hl
  go_enter Tryd.func50, Tryd.ntmps50
  go_wp2_with (fail)
  go_loop [5] (fun i => ∃ k : Nat, k ≤ n ∧ i = .int .i64 (k : Int)) (fun i => n - (intOf i).toNat)
  case atStart => exact ⟨0, by omega, rfl⟩
  case round =>
    obtain ⟨k, hk, rfl⟩ := hrel
    by_cases hlt : k < n
    · obtain ⟨y, hy⟩ := at_lt (l := xs) (k := k) (by have := HL.out; omega)
      obtain ⟨b, o, rfl, hc⟩ := hA (by have := HL.out; omega)
      have c0 := hc k y hy
      have hne : (y == x) = false := by rw [beq_eq_false_iff_ne]; exact HX.out y (List.mem_of_getElem? hy)
      clear hc hy
      go_wp2_with (fail)
      go_round
      case rel => exact ⟨k + 1, by omega, by go_num⟩
      case measure => simp [intOf]; omega
    · obtain rfl : k = n := by omega
      go_wp2_with (fail)
      go_ret
      exact ⟨rfl, rfl⟩
end Go.Proofs.YtbpjnopnhmoigaaDoor
