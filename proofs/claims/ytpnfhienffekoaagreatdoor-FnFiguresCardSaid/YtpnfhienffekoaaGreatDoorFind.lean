/- Contracts of the functions that look for a star by its name. -/
import Derived.Test.YtpnfhienffekoaaGreatDoorMgM
import Derived.Test.YtpnfhienffekoaaGreatDoorSta
namespace Go.Proofs.YtpnfhienffekoaaGreatDoor
set_option linter.unusedVariables false
set_option linter.unusedSimpArgs false
open Go.RowKit
/-- is it that name -/
def isId (id : ByteArray) (x : Sta) : Bool := x.id.toList == id.toList
/-- the place of the star with that name, counted from k, or -1 -/
def findS (id : ByteArray) : List Sta → Nat → Int
  | [], _ => -1
  | x :: l, k => if isId id x then (k : Int) else findS id l (k + 1)
theorem drop_at {α : Type} {l : List α} {k : Nat} {x : α} (h : l[k]? = some x) : l.drop k = x :: l.drop (k + 1) := by
  obtain ⟨hk, e⟩ := List.getElem?_eq_some_iff.1 h
  rw [List.drop_eq_getElem_cons hk, e]
theorem findS_yes {l : List Sta} {id : ByteArray} {k : Nat} {x : Sta} (h : l[k]? = some x) (h2 : isId id x = true) : findS id (l.drop k) k = (k : Int) := by
  rw [drop_at h, findS, if_pos h2]
theorem findS_next {l : List Sta} {id : ByteArray} {k : Nat} {x : Sta} (h : l[k]? = some x) (h2 : isId id x = false) : findS id (l.drop k) k = findS id (l.drop (k + 1)) (k + 1) := by
  rw [drop_at h, findS, h2]; rfl
theorem findS_end {l : List Sta} {id : ByteArray} {k : Nat} (h : l.length ≤ k) : findS id (l.drop k) k = -1 := by
  rw [List.drop_eq_nil_of_le h, findS]
theorem findS_bd (id : ByteArray) (l : List Sta) (k : Nat) : findS id l k = -1 ∨ ((k : Int) ≤ findS id l k ∧ findS id l k < (k : Int) + l.length) := by
  induction l generalizing k with
  | nil => exact .inl rfl
  | cons x l ih =>
    rw [findS]
    split
    · right; simp; omega
    · rcases ih (k + 1) with h | ⟨h1, h2⟩
      · exact .inl h
      · right; simp only [List.length_cons]; omega
set_option maxHeartbeats 1000000 in
theorem l05Find_same (A : Option Addr) (n c : Nat) (l : List Sta) (id : ByteArray) (w : World) (hl : l.length = n) (hn : n ≤ 9223372036854775807) (hS : Stars w A l) :
    Calls Tryz.prog 143 #[.slice A n c, .string id] w fun e w' => e = .returned (.int .i64 (findS id l 0)) ∧ w = w' := by
  have HL := Lib.hid hl; clear hl
  go_enter Tryz.func143, Tryz.ntmps143
  go_wp2
  go_loop [5] (fun i => ∃ k : Nat, k ≤ n ∧ i = .int .i64 k ∧ findS id l 0 = findS id (l.drop k) k) (fun i => n - (intOf i).toNat)
  case atStart => exact ⟨0, by omega, rfl, rfl⟩
  case round =>
    obtain ⟨k, hk, rfl, hf⟩ := hrel
    have HF := Lib.hid hf; clear hf
    by_cases hlt : k < n
    · obtain ⟨x, hx⟩ := at_lt (l := l) (k := k) (by have := HL.out; omega)
      obtain ⟨b, o, rfl, hc⟩ := hS (by have := HL.out; omega)
      obtain ⟨c0, _, _, _, _⟩ := hc k x hx
      have HX := Lib.hid hx; clear hx hc hS
      cases hb : (x.id.toList == id.toList) with
      | true =>
        have HB : Hid (isId id x = true) := Lib.hid hb
        go_wp2
        go_ret
        exact ⟨ret_int (by rw [HF.out, findS_yes HX.out HB.out]), rfl⟩
      | false =>
        have HB : Hid (isId id x = false) := Lib.hid hb
        go_wp2
        go_round
        case rel => exact ⟨k + 1, by omega, by go_num, by rw [HF.out, findS_next HX.out HB.out]⟩
        case measure => simp [intOf]; omega
    · obtain rfl : k = n := by omega
      go_wp2
      go_ret
      exact ⟨ret_int (by rw [HF.out, findS_end (by have := HL.out; omega)]), rfl⟩
set_option maxHeartbeats 1000000 in
theorem isThat_any (x : Sta) (q : Nat) (id : ByteArray) (w : World) (hq : w.cell? ⟨q, 0, none⟩ = some (.string id)) :
    Calls Tryz.prog 115 #[.agg #[.string x.id, .int .i64 x.ri, .int .i64 x.de, .int .i64 x.ma, .int .i64 x.co], .pointer (some ⟨q, 0, none⟩)] w fun e w' => e = .returned (.bool (isId id x)) ∧ Below w.heap.size w w' := by
  have l0 := World.block_lt_of_cell? w _ hq
  dsimp only at l0
  cases hb : (x.id.toList == id.toList) with
  | true =>
    have HB : Hid (isId id x = true) := Lib.hid hb
    go_enter Tryz.func115, Tryz.ntmps115
    go_wp2
    go_ret
    exact ⟨ret_bool (by rw [HB.out]), (by repeat (first | exact Below.refl _ _ | refine below_alloc ?_ _ | refine below_drewN0 ?_ _ | refine below_drew0 ?_ | refine below_step ?_ (by assumption) | refine below_later ?_ _ | refine below_setCell0 ?_ (by first | exact Nat.le_refl _ | (simp; done) | omega | (simp; omega)) _))⟩
  | false =>
    have HB : Hid (isId id x = false) := Lib.hid hb
    go_enter Tryz.func115, Tryz.ntmps115
    go_wp2
    go_ret
    exact ⟨ret_bool (by rw [HB.out]), (by repeat (first | exact Below.refl _ _ | refine below_alloc ?_ _ | refine below_drewN0 ?_ _ | refine below_drew0 ?_ | refine below_step ?_ (by assumption) | refine below_later ?_ _ | refine below_setCell0 ?_ (by first | exact Nat.le_refl _ | (simp; done) | omega | (simp; omega)) _))⟩
set_option maxHeartbeats 1000000 in
theorem indexId_any (A : Option Addr) (n c : Nat) (l : List Sta) (q : Nat) (id : ByteArray) (w : World) (hl : l.length = n) (hn : n ≤ 9223372036854775807) (hS : Stars w A l) (hq : w.cell? ⟨q, 0, none⟩ = some (.string id)) :
    Calls Tryz.prog 114 #[.slice A n c, .func (.func 115) #[] #[.pointer (some ⟨q, 0, none⟩)]] w fun e w' => e = .returned (.int .i64 (findS id l 0)) ∧ Below w.heap.size w w' := by
  have HL := Lib.hid hl; clear hl
  have l0 := World.block_lt_of_cell? w _ hq
  dsimp only at l0
  go_enter Tryz.func114, Tryz.ntmps114
  go_wp2_with (fail)
  go_loopw [5, 8] (fun u i wr => ∃ k : Nat, k ≤ n ∧ i = .int .i64 k ∧ findS id l 0 = findS id (l.drop k) k ∧ Below w.heap.size w wr) (fun _ i _ => n - (intOf i).toNat)
  case atStart => exact ⟨0, by omega, rfl, rfl, Below.refl _ _⟩
  case round =>
    obtain ⟨k, hk, rfl, hf, hb⟩ := hrel
    have HF := Lib.hid hf; clear hf
    by_cases hlt : k < n
    · obtain ⟨x, hx⟩ := at_lt (l := l) (k := k) (by have := HL.out; omega)
      obtain ⟨b, o, rfl, hc⟩ := hS.below hb (by have := HL.out; omega)
      obtain ⟨c0, c1, c2, c3, c4⟩ := hc k x hx
      have HX := Lib.hid hx; clear hx hc
      have hq2 : wr.cell? ⟨q, 0, none⟩ = some (.string id) := by rw [hb.cell (by simpa using l0)]; exact hq
      have C : Hid (∀ W, W.cell? ⟨q, 0, none⟩ = some (.string id) → Calls Tryz.prog 115 #[.agg #[.string x.id, .int .i64 x.ri, .int .i64 x.de, .int .i64 x.ma, .int .i64 x.co], .pointer (some ⟨q, 0, none⟩)] W fun e w' => e = .returned (.bool (isId id x)) ∧ Below W.heap.size W w') := fun W hW => isThat_any x q id W hW
      cases hi : isId id x with
      | true =>
        rw [hi] at C
        have HI := Lib.hid hi; clear hi
        go_wp2_with (refine (C.out _ hq2).mono ?_; rintro e w4 ⟨rfl, hb4⟩)
        go_ret
        exact ⟨ret_int (by rw [HF.out, findS_yes HX.out HI.out]), below_step hb hb4⟩
      | false =>
        rw [hi] at C
        have HI := Lib.hid hi; clear hi
        go_wp2_with (refine (C.out _ hq2).mono ?_; rintro e w4 ⟨rfl, hb4⟩)
        go_roundw
        case rel => exact ⟨k + 1, by omega, by go_num, by rw [HF.out, findS_next HX.out HI.out], below_step hb hb4⟩
        case measure => simp [intOf]; omega
    · obtain rfl : k = n := by omega
      go_wp2
      go_ret
      exact ⟨ret_int (by rw [HF.out, findS_end (by have := HL.out; omega)]), hb⟩
set_option maxHeartbeats 1000000 in
theorem starIndex_any (A : Option Addr) (n c : Nat) (l : List Sta) (id : ByteArray) (w : World) (hl : l.length = n) (hn : n ≤ 9223372036854775807) (hS : Stars w A l) :
    Calls Tryz.prog 71 #[.slice A n c, .string id] w fun e w' => e = .returned (.int .i64 (findS id l 0)) ∧ Below w.heap.size w w' := by
  have hb0 : Below w.heap.size w (w.alloc (.cells #[.string id] 9)) := Below.alloc (Below.refl _ _) (Nat.le_refl _) _
  have hq : (w.alloc (.cells #[.string id] 9)).cell? ⟨w.heap.size, 0, none⟩ = some (.string id) := by simp
  have hS0 := hS.below hb0
  have C := fun h1 h2 => indexId_any A n c l w.heap.size id (w.alloc (.cells #[.string id] 9)) hl hn h1 h2
  go_enter Tryz.func71, Tryz.ntmps71
  go_wp2_with (refine (C hS0 hq).mono ?_; rintro e w4 ⟨rfl, hb4⟩)
  go_ret
  exact ⟨rfl, below_step hb0 hb4⟩
end Go.Proofs.YtpnfhienffekoaaGreatDoor
