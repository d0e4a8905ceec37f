/- Contracts of the functions that look for a star by its name. -/
import Derived.Test.YtbpjnopnhmoigaaDoorGrpOwn
import Derived.Test.YtbpjnopnhmoigaaDoorSta
namespace Go.Proofs.YtbpjnopnhmoigaaDoor
set_option linter.unusedVariables false
set_option linter.unusedSimpArgs false
open Go.RowKit
/-- is it that name -/
def isId (id : ByteArray) (x : Sta) : Bool := x.id.toList == id.toList
/-- the place of the star with that name, counted from k, or -1 -/
def findS (id : ByteArray) : List Sta → Nat → Int
  | [], _ => -1
  | x :: l, k => if isId id x then (k : Int) else findS id l (k + 1)
theorem drop_at {α : Type} {l : List α} {k : Nat} {x : α} (h : l[k]? = some x) : l.drop k = x :: l.drop (k + 1) := by
  obtain ⟨hk, e⟩ := List.getElem?_eq_some_iff.1 h
  rw [List.drop_eq_getElem_cons hk, e]
theorem findS_yes {l : List Sta} {id : ByteArray} {k : Nat} {x : Sta} (h : l[k]? = some x) (h2 : isId id x = true) : findS id (l.drop k) k = (k : Int) := by
  rw [drop_at h, findS, if_pos h2]
theorem findS_next {l : List Sta} {id : ByteArray} {k : Nat} {x : Sta} (h : l[k]? = some x) (h2 : isId id x = false) : findS id (l.drop k) k = findS id (l.drop (k + 1)) (k + 1) := by
  rw [drop_at h, findS, h2]; rfl
theorem findS_end {l : List Sta} {id : ByteArray} {k : Nat} (h : l.length ≤ k) : findS id (l.drop k) k = -1 := by
  rw [List.drop_eq_nil_of_le h, findS]
theorem findS_bd (id : ByteArray) (l : List Sta) (k : Nat) : findS id l k = -1 ∨ ((k : Int) ≤ findS id l k ∧ findS id l k < (k : Int) + l.length) := by
  induction l generalizing k with
  | nil => exact .inl rfl
  | cons x l ih =>
    rw [findS]
    split
    · right; simp; omega
    · rcases ih (k + 1) with h | ⟨h1, h2⟩
      · exact .inl h
      · right; simp only [List.length_cons]; omega
set_option maxHeartbeats 1000000 in
theorem l05Find_same (A : Option Addr) (n c : Nat) (l : List Sta) (id : ByteArray) (w : World) (hl : l.length = n) (hn : n ≤ 9223372036854775807) (hS : Stars w A l) :
    Calls Tryd.prog 165 #[.slice A n c, .string id] w fun e w' => e = .returned (.int .i64 (findS id l 0)) ∧ w = w' := by
  have HL := Lib.hid hl; clear hl
  go_enter Tryd.func165, Tryd.ntmps165
  go_wp2
  go_loop [5] (fun i => ∃ k : Nat, k ≤ n ∧ i = .int .i64 k ∧ findS id l 0 = findS id (l.drop k) k) (fun i => n - (intOf i).toNat)
  case atStart => exact ⟨0, by omega, rfl, rfl⟩
  case round =>
    obtain ⟨k, hk, rfl, hf⟩ := hrel
    have HF := Lib.hid hf; clear hf
    by_cases hlt : k < n
    · obtain ⟨x, hx⟩ := at_lt (l := l) (k := k) (by have := HL.out; omega)
      obtain ⟨b, o, rfl, hc⟩ := hS (by have := HL.out; omega)
      obtain ⟨c0, _, _, _, _⟩ := hc k x hx
      have HX := Lib.hid hx; clear hx hc hS
      cases hb : (x.id.toList == id.toList) with
      | true =>
        have HB : Hid (isId id x = true) := Lib.hid hb
        go_wp2
        go_ret
        exact ⟨ret_int (by rw [HF.out, findS_yes HX.out HB.out]), rfl⟩
      | false =>
        have HB : Hid (isId id x = false) := Lib.hid hb
        go_wp2
        go_round
        case rel => exact ⟨k + 1, by omega, by go_num, by rw [HF.out, findS_next HX.out HB.out]⟩
        case measure => simp [intOf]; omega
    · obtain rfl : k = n := by omega
      go_wp2
      go_ret
      exact ⟨ret_int (by rw [HF.out, findS_end (by have := HL.out; omega)]), rfl⟩
end Go.Proofs.YtbpjnopnhmoigaaDoor
