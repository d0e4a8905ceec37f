/- Contracts of the program's and the reference's functions on ranges and names. -/
import Derived.Test.YtbpjnopnhmoigaaDoorProg
import Derived.Test.YtbpjnopnhmoigaaDoorPlain
import Derived.WalkKit
import Derived.WalkSpells
import Derived.WalkLawsBesides
import Derived.Lib.Hide
namespace Go.Proofs.YtbpjnopnhmoigaaDoor
set_option linter.unusedVariables false
set_option linter.unusedSimpArgs false
open Go.RowKit

theorem ret_bool {a b : Bool} (h : a = b) : Ending.returned (.bool a) = Ending.returned (.bool b) := by rw [h]
theorem byteCases (c : Int) : (decide (97 ≤ c) = true ∧ decide (c ≤ 122) = true) ∨ (decide (97 ≤ c) = true ∧ decide (c ≤ 122) = false ∧ decide (48 ≤ c) = true ∧ decide (c ≤ 57) = false) ∨ (decide (97 ≤ c) = false ∧ decide (48 ≤ c) = true ∧ decide (c ≤ 57) = true) ∨
    (decide (97 ≤ c) = false ∧ decide (48 ≤ c) = true ∧ decide (c ≤ 57) = false) ∨ (decide (97 ≤ c) = false ∧ decide (48 ≤ c) = false) := by
  simp only [decide_eq_true_eq, decide_eq_false_iff_not]; omega
theorem isEmpty_no (s : ByteArray) (h : 1 ≤ s.size) : s.toList.isEmpty = false := by
  rw [List.isEmpty_eq_false_iff]; intro e; have : s.toList.length = 0 := by rw [e]; rfl
  rw [ByteArray.toList_eq, len_data] at this; omega
theorem isEmpty_yes (s : ByteArray) (h : s.size = 0) : s.toList.isEmpty = true := by
  rw [List.isEmpty_iff, ← List.length_eq_zero_iff, ByteArray.toList_eq, len_data]; exact h
theorem ret_int {a b : Int} (h : a = b) : Ending.returned (.int .i64 a) = Ending.returned (.int .i64 b) := by rw [h]
set_option maxHeartbeats 400000 in
theorem within_any (a b c : Int) (w : World) :
    Calls Tryd.prog 59 #[.int .i64 a, .int .i64 b, .int .i64 c] w fun e w' => e = .returned (.bool (inB a b c)) ∧ w = w' := by
  go_enter Tryd.func59, Tryd.ntmps59
  go_wp2
  all_goals (go_ret; exact ⟨ret_bool (by rw [Bool.eq_iff_iff]; simp [inB]; try omega), rfl⟩)
set_option maxHeartbeats 400000 in
theorem l00In_any (a b c : Int) (w : World) :
    Calls Tryd.prog 54 #[.int .i64 a, .int .i64 b, .int .i64 c] w fun e w' => e = .returned (.bool (inB a b c)) ∧ w = w' := by
  go_enter Tryd.func54, Tryd.ntmps54
  go_wp2
  all_goals (go_ret; exact ⟨ret_bool (by rw [Bool.eq_iff_iff]; simp [inB]; try omega), rfl⟩)
set_option maxHeartbeats 400000 in
theorem l01Small_any (c : UInt8) (w : World) :
    Calls Tryd.prog 148 #[.int .u8 (c.toNat : Int)] w fun e w' => e = .returned (.bool (lowB c)) ∧ w = w' := by
  go_enter Tryd.func148, Tryd.ntmps148
  go_wp2
  all_goals (go_ret; exact ⟨ret_bool (by rw [Bool.eq_iff_iff]; simp [lowB]; try omega), rfl⟩)
set_option maxHeartbeats 400000 in
theorem l01Digit_any (c : UInt8) (w : World) :
    Calls Tryd.prog 149 #[.int .u8 (c.toNat : Int)] w fun e w' => e = .returned (.bool (digB c)) ∧ w = w' := by
  go_enter Tryd.func149, Tryd.ntmps149
  go_wp2
  all_goals (go_ret; exact ⟨ret_bool (by rw [Bool.eq_iff_iff]; simp [digB]; try omega), rfl⟩)
set_option maxHeartbeats 1000000 in
theorem IsName_any (s : ByteArray) (w : World) :
    Calls Tryd.prog 117 #[.string s] w fun e w' => e = .returned (.bool (isName s.data.toList)) ∧ w = w' := by
  by_cases h1 : 1 ≤ s.size
  · by_cases h2 : s.size ≤ 10
    · by_cases h3 : 97 ≤ (s[0].toNat : Int)
      · by_cases h4 : (s[0].toNat : Int) ≤ 122
        · go_enter Tryd.func117, Tryd.ntmps117
          go_wp2
          go_loop [3] (fun i => ∃ k : Nat, k ≤ s.size ∧ i = .int .i64 k ∧ (s.data.toList.take k).all nameCh = true) (fun i => s.size - (intOf i).toNat)
          case atStart => exact ⟨0, Nat.zero_le _, rfl, by simp⟩
          case round =>
            obtain ⟨k, hk, rfl, hall⟩ := hrel
            have HA := Lib.hid hall; clear hall
            by_cases hlt : k < s.size
            · have hc := byteCases (s[k].toNat : Int)
              rcases hc with ⟨c1, c2⟩ | ⟨c1, c2, c3, c4⟩ | ⟨c1, c2, c3⟩ | ⟨c1, c2, c3⟩ | ⟨c1, c2⟩
              · go_wp2
                exact ⟨⟨k + 1, by omega, by go_num, all_snoc s k hlt HA.out (by simp only [nameCh, lowB, *]; rfl)⟩, by simp [intOf]; omega⟩
              · go_wp2
                go_ret
                exact ⟨ret_bool (by rw [isName_bad s k hlt (by simp only [nameCh, lowB, digB, *]; rfl)]), rfl⟩
              · go_wp2
                exact ⟨⟨k + 1, by omega, by go_num, all_snoc s k hlt HA.out (by simp only [nameCh, lowB, digB, *]; rfl)⟩, by simp [intOf]; omega⟩
              · go_wp2
                go_ret
                exact ⟨ret_bool (by rw [isName_bad s k hlt (by simp only [nameCh, lowB, digB, *]; rfl)]), rfl⟩
              · go_wp2
                go_ret
                exact ⟨ret_bool (by rw [isName_bad s k hlt (by simp only [nameCh, lowB, digB, *]; rfl)]), rfl⟩
            · go_wp2
              go_ret
              exact ⟨ret_bool (by rw [isName_good s (by omega) h2 (by simp [lowB, *]) (by have := HA.out; rwa [show k = s.size by omega] at this)]), rfl⟩
        · go_enter Tryd.func117, Tryd.ntmps117
          go_wp2
          go_ret
          exact ⟨ret_bool (by rw [isName_head s (by omega) (by simp [lowB]; omega)]), rfl⟩
      · go_enter Tryd.func117, Tryd.ntmps117
        go_wp2
        go_ret
        exact ⟨ret_bool (by rw [isName_head s (by omega) (by simp [lowB]; omega)]), rfl⟩
    · go_enter Tryd.func117, Tryd.ntmps117
      go_wp2
      go_ret
      exact ⟨ret_bool (by rw [isName_long _ (by rw [len_data]; omega)]), rfl⟩
  · go_enter Tryd.func117, Tryd.ntmps117
    go_wp2
    go_ret
    exact ⟨ret_bool (by rw [isName_short _ (by rw [len_data]; omega)]), rfl⟩
set_option maxHeartbeats 1000000 in
theorem l01Name_any (s : ByteArray) (w : World) :
    Calls Tryd.prog 114 #[.string s] w fun e w' => e = .returned (.bool (isName s.data.toList)) ∧ w = w' := by
  by_cases h1 : 1 ≤ s.size
  · have he := isEmpty_no s h1
    by_cases h2 : s.size ≤ 10
    · cases h3 : lowB s[0] with
      | true =>
        go_enter Tryd.func114, Tryd.ntmps114
        go_wp2_with (go_at_call 148; refine (l01Small_any _ _).mono ?_; rintro e w' ⟨rfl, rfl⟩)
        go_loop [3] (fun i => ∃ k : Nat, k ≤ s.size ∧ i = .int .i64 k ∧ (s.data.toList.take k).all nameCh = true) (fun i => s.size - (intOf i).toNat)
        case atStart => exact ⟨0, Nat.zero_le _, rfl, by simp⟩
        case round =>
          obtain ⟨k, hk, rfl, hall⟩ := hrel
          have HA := Lib.hid hall; clear hall
          by_cases hlt : k < s.size
          · cases c1 : lowB s[k] with
            | true =>
              go_wp2_with (first | (go_at_call 148; refine (l01Small_any _ _).mono ?_; rintro e w' ⟨rfl, rfl⟩) | (go_at_call 149; refine (l01Digit_any _ _).mono ?_; rintro e w' ⟨rfl, rfl⟩))
              exact ⟨⟨k + 1, by omega, by go_num, all_snoc s k hlt HA.out (by simp only [nameCh, *]; rfl)⟩, by simp [intOf]; omega⟩
            | false =>
              cases c2 : digB s[k] with
              | true =>
                go_wp2_with (first | (go_at_call 148; refine (l01Small_any _ _).mono ?_; rintro e w' ⟨rfl, rfl⟩) | (go_at_call 149; refine (l01Digit_any _ _).mono ?_; rintro e w' ⟨rfl, rfl⟩))
                exact ⟨⟨k + 1, by omega, by go_num, all_snoc s k hlt HA.out (by simp only [nameCh, *]; rfl)⟩, by simp [intOf]; omega⟩
              | false =>
                go_wp2_with (first | (go_at_call 148; refine (l01Small_any _ _).mono ?_; rintro e w' ⟨rfl, rfl⟩) | (go_at_call 149; refine (l01Digit_any _ _).mono ?_; rintro e w' ⟨rfl, rfl⟩))
                go_ret
                exact ⟨ret_bool (by rw [isName_bad s k hlt (by simp only [nameCh, *]; rfl)]), rfl⟩
          · go_wp2
            go_ret
            exact ⟨ret_bool (by rw [isName_good s (by omega) h2 h3 (by have := HA.out; rwa [show k = s.size by omega] at this)]), rfl⟩
      | false =>
        go_enter Tryd.func114, Tryd.ntmps114
        go_wp2_with (go_at_call 148; refine (l01Small_any _ _).mono ?_; rintro e w' ⟨rfl, rfl⟩)
        go_ret
        exact ⟨ret_bool (by rw [isName_head s (by omega) h3]), rfl⟩
    · go_enter Tryd.func114, Tryd.ntmps114
      go_wp2
      go_ret
      exact ⟨ret_bool (by rw [isName_long _ (by rw [len_data]; omega)]), rfl⟩
  · have he := isEmpty_yes s (by omega)
    go_enter Tryd.func114, Tryd.ntmps114
    go_wp2
    go_ret
    exact ⟨ret_bool (by rw [isName_short _ (by rw [len_data]; omega)]), rfl⟩
theorem l01Name_is {s : ByteArray} {b : Bool} (h : isName s.data.toList = b) (w : World) :
    Calls Tryd.prog 114 #[.string s] w fun e w' => e = .returned (.bool b) ∧ w = w' := by subst h; exact l01Name_any s w
theorem l00In_is {x y z : Int} {b : Bool} (h : inB x y z = b) (w : World) :
    Calls Tryd.prog 54 #[.int .i64 x, .int .i64 y, .int .i64 z] w fun e w' => e = .returned (.bool b) ∧ w = w' := by subst h; exact l00In_any x y z w
end Go.Proofs.YtbpjnopnhmoigaaDoor
