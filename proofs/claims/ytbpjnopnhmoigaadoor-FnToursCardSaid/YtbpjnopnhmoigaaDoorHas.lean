/- Is a number in a list: contracts of both. -/
import Derived.Test.YtbpjnopnhmoigaaDoorGrpOwn
namespace Go.Proofs.YtbpjnopnhmoigaaDoor
set_option linter.unusedVariables false
set_option linter.unusedSimpArgs false
open Go.RowKit
/-- is the number among them -/
def hasI (ys : List Int) (x : Int) : Bool := ys.contains x
theorem hasI_iff {ys : List Int} {x : Int} : hasI ys x = true ↔ x ∈ ys := by simp [hasI]
theorem take_no {ys : List Int} {k : Nat} {x y : Int} (h : hasI (ys.take k) x = false) (hy : ys[k]? = some y) (hne : y ≠ x) : hasI (ys.take (k + 1)) x = false := by
  rw [List.take_add_one, hy]
  have : ¬ x = y := fun e => hne e.symm
  simp only [hasI, List.contains_eq_mem, List.mem_append, decide_eq_false_iff_not] at h ⊢
  simp [h, this]
theorem hasI_at {ys : List Int} {k : Nat} {x : Int} (hy : ys[k]? = some x) : hasI ys x = true := by
  obtain ⟨hk, e⟩ := List.getElem?_eq_some_iff.1 hy
  have : x ∈ ys := e ▸ List.getElem_mem hk
  simpa [hasI] using this
set_option maxHeartbeats 1000000 in
theorem indexI_same (A : Option Addr) (n c : Nat) (ys : List Int) (x : Int) (w : World) (hl : ys.length = n) (hn : n ≤ 9223372036854775807) (hS : Ints w A ys) :
    Calls Tryd.prog 139 #[.slice A n c, .int .i64 x] w fun e w' => ∃ p : Int, e = .returned (.int .i64 p) ∧ decide (0 ≤ p) = hasI ys x ∧ w = w' := by
  have HL := Lib.hid hl; clear hl
  go_enter Tryd.func139, Tryd.ntmps139
  go_wp2
  go_loop [5, 8] (fun u i => ∃ k : Nat, k ≤ n ∧ i = .int .i64 k ∧ hasI (ys.take k) x = false) (fun _ i => n - (intOf i).toNat)
  case atStart => exact ⟨0, by omega, rfl, by simp [hasI]⟩
  case round =>
    obtain ⟨k, hk, rfl, hno⟩ := hrel
    have HNO := Lib.hid hno; clear hno
    by_cases hlt : k < n
    · obtain ⟨y, hy⟩ := at_lt (l := ys) (k := k) (by have := HL.out; omega)
      obtain ⟨b, o, rfl, hc⟩ := hS (by have := HL.out; omega)
      have c0 := hc k y hy
      have HY := Lib.hid hy; clear hy hc hS
      by_cases he : x = y
      · subst he
        go_wp2
        go_ret
        exact ⟨(k : Int), rfl, by rw [hasI_at HY.out]; simp, rfl⟩
      · go_wp2
        go_round
        case rel => exact ⟨k + 1, by omega, by go_num, take_no HNO.out HY.out (fun e => he e.symm)⟩
        case measure => simp [intOf]; omega
    · obtain rfl : k = n := by omega
      go_wp2
      go_ret
      refine ⟨-1, rfl, ?_, rfl⟩
      have := HNO.out
      rw [List.take_of_length_le (by have := HL.out; omega)] at this
      rw [this]; rfl
theorem containsI_same (A : Option Addr) (n c : Nat) (ys : List Int) (x : Int) (w : World) (hl : ys.length = n) (hn : n ≤ 9223372036854775807) (hS : Ints w A ys) :
    Calls Tryd.prog 96 #[.slice A n c, .int .i64 x] w fun e w' => e = .returned (.bool (hasI ys x)) ∧ w = w' := by
  go_enter Tryd.func96, Tryd.ntmps96
  go_wp2_with (refine (indexI_same A n c ys x _ hl hn hS).mono ?_; rintro e w1 ⟨p, rfl, hp, rfl⟩)
  go_ret
  exact ⟨ret_bool (by rw [← hp]), rfl⟩
set_option maxHeartbeats 1000000 in
theorem l00Has_same (A : Option Addr) (n c : Nat) (ys : List Int) (x : Int) (w : World) (hl : ys.length = n) (hn : n ≤ 9223372036854775807) (hS : Ints w A ys) :
    Calls Tryd.prog 111 #[.slice A n c, .int .i64 x] w fun e w' => e = .returned (.bool (hasI ys x)) ∧ w = w' := by
  have HL := Lib.hid hl; clear hl
  go_enter Tryd.func111, Tryd.ntmps111
  go_wp2
  go_loop [5] (fun i => ∃ k : Nat, k ≤ n ∧ i = .int .i64 k ∧ hasI (ys.take k) x = false) (fun i => n - (intOf i).toNat)
  case atStart => exact ⟨0, by omega, rfl, by simp [hasI]⟩
  case round =>
    obtain ⟨k, hk, rfl, hno⟩ := hrel
    have HNO := Lib.hid hno; clear hno
    by_cases hlt : k < n
    · obtain ⟨y, hy⟩ := at_lt (l := ys) (k := k) (by have := HL.out; omega)
      obtain ⟨b, o, rfl, hc⟩ := hS (by have := HL.out; omega)
      have c0 := hc k y hy
      have HY := Lib.hid hy; clear hy hc hS
      by_cases he : y = x
      · subst he
        have HB := Lib.hid (hasI_at HY.out)
        go_wp2
        go_ret
        exact ⟨ret_bool (by rw [HB.out]), rfl⟩
      · go_wp2
        go_round
        case rel => exact ⟨k + 1, by omega, by go_num, take_no HNO.out HY.out he⟩
        case measure => simp [intOf]; omega
    · obtain rfl : k = n := by omega
      go_wp2
      go_ret
      have := HNO.out
      rw [List.take_of_length_le (by have := HL.out; omega)] at this
      exact ⟨ret_bool (by rw [this]), rfl⟩
end Go.Proofs.YtbpjnopnhmoigaaDoor
