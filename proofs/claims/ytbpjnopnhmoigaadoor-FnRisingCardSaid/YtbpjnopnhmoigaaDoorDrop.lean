/- Contracts of the functions that take a star out of a list. -/
import Derived.Test.YtbpjnopnhmoigaaDoorGrpOwn
import Derived.Test.YtbpjnopnhmoigaaDoorSta
import Derived.Test.YtbpjnopnhmoigaaDoorFind
import Derived.Deep.RegionLaw
import Derived.Lib.SliceRun
namespace Go.Proofs.YtbpjnopnhmoigaaDoor
set_option linter.unusedVariables false
set_option linter.unusedSimpArgs false
open Go.RowKit
/-- a row from o on overwritten -/
def layAt (cs : List Value) (o : Nat) : List Value → List Value
  | [] => cs
  | v :: r => layAt (cs.set o v) (o + 1) r
theorem layAt_length (vs : List Value) : ∀ (cs : List Value) (o : Nat), (layAt cs o vs).length = cs.length := by
  induction vs with
  | nil => intro cs o; rfl
  | cons v r ih => intro cs o; rw [layAt, ih, List.length_set]
theorem layAt_at (vs : List Value) : ∀ (cs : List Value) (o i : Nat), o + vs.length ≤ cs.length → (layAt cs o vs)[i]? = if o ≤ i ∧ i < o + vs.length then vs[i - o]? else cs[i]? := by
  induction vs with
  | nil => intro cs o i h; rw [if_neg (by simp only [List.length_nil]; omega)]; rfl
  | cons v r ih =>
    intro cs o i h
    simp only [List.length_cons] at h ⊢
    rw [layAt, ih (cs.set o v) (o + 1) i (by rw [List.length_set]; omega)]
    by_cases h1 : o + 1 ≤ i ∧ i < o + 1 + r.length
    · rw [if_pos h1, if_pos (by omega), show i - o = i - (o + 1) + 1 by omega, List.getElem?_cons_succ]
    · rw [if_neg h1]
      by_cases h2 : o = i
      · subst h2; rw [if_pos (by omega), List.getElem?_set_self (by omega), Nat.sub_self, List.getElem?_cons_zero]
      · rw [if_neg (by omega), List.getElem?_set_ne h2]
theorem Blk.setCells {g : Nat} {t : TypeId} (vs : List Value) : ∀ {w : World} {cs : List Value} (o : Nat), Blk w g t cs → Blk (w.setCells g o vs) g t (layAt cs o vs) := by
  induction vs with
  | nil => intro w cs o h; exact h
  | cons v r ih => intro w cs o h; rw [World.setCells, layAt]; exact ih (o + 1) (h.set_ o v)
theorem only_setCells {a : World} {g : Nat} (vs : List Value) : ∀ {w : World} (o : Nat), a.grownBy w (some g) → a.grownBy (w.setCells g o vs) (some g) := by
  induction vs with
  | nil => intro w o h; exact h
  | cons v r ih => intro w o h; rw [World.setCells]; exact ih (o + 1) (only_set h o v)
theorem only_drew {a w : World} {r : Option Nat} (h : a.grownBy w r) : a.grownBy w.drew r := ⟨h.os, h.tape, h.output, h.size, h.block⟩
theorem staCells_append (a b : List Sta) : staCells (a ++ b) = staCells a ++ staCells b := by simp [staCells]
theorem staCells_drop (l : List Sta) (k : Nat) : staCells (l.drop k) = (staCells l).drop (k * 5) := by
  induction k generalizing l with
  | zero => simp
  | succ k ih =>
    cases l with
    | nil => simp [staCells]
    | cons x l =>
      rw [List.drop_succ_cons, ih]
      have e : staCells (x :: l) = x.cells ++ staCells l := by simp [staCells]
      have hc : x.cells.length = 5 := rfl
      rw [e, List.drop_append, show List.drop ((k + 1) * 5) x.cells = [] from List.drop_eq_nil_of_le (by omega), hc, show (k + 1) * 5 - 5 = k * 5 by omega, List.nil_append]
theorem staCells_take (l : List Sta) (k : Nat) : staCells (l.take k) = (staCells l).take (k * 5) := by
  induction k generalizing l with
  | zero => simp [staCells]
  | succ k ih =>
    cases l with
    | nil => simp [staCells]
    | cons x l =>
      have e : ∀ l, staCells (x :: l) = x.cells ++ staCells l := by intro l; simp [staCells]
      have hc : x.cells.length = 5 := rfl
      rw [List.take_succ_cons, e, ih, e, List.take_append, show List.take ((k + 1) * 5) x.cells = x.cells from List.take_of_length_le (by omega), hc, show (k + 1) * 5 - 5 = k * 5 by omega]
/-- the cells of no star -/
def zeroSta : List Value := [.string ByteArray.empty, .int .i64 0, .int .i64 0, .int .i64 0, .int .i64 0]
theorem zeroValue_star (w : World) : (zeroValue 78).run Tryd.prog w = .ok (.agg zeroSta.toArray) w := by kernel_rfl
theorem run_clear_star (w : World) (ty g o m c : Nat) (cs : List Value) (hm : m = 1) (hB : Blk w g 78 cs) (ho : o + 5 ≤ cs.length) :
    (Builtin.clear_ #[27] ty #[.slice (some ⟨g, o, none⟩) m c]).run Tryd.prog w = .ok (.tuple #[]) (w.setCells g o zeroSta) := by
  subst hm
  obtain ⟨z, hv, hzc⟩ : ∃ z, (∀ w, (zeroValue 78).run Tryd.prog w = .ok z w) ∧ (Builtin.zeroCells z.cells 1).toList = zeroSta := ⟨.agg zeroSta.toArray, zeroValue_star, by kernel_rfl⟩
  have hst := run_storeCells_cells (P := Tryd.prog) g o zeroSta 0 w (fun j hj => by rw [hB.cell, List.getElem?_eq_getElem (by have : zeroSta.length = 5 := rfl; omega)]; rfl) (fun j _ => hB.frozen _) (by intro v hv; simp only [zeroSta, List.mem_cons, List.not_mem_nil, or_false] at hv; obtain h | h | h | h | h := hv <;> subst h <;> rfl)
  simp only [Nat.add_zero] at hst
  simp [Builtin.clear_, run_underlying Tryd.underlying27, hv, hzc, hst]
theorem erase_row {l : List Sta} {cs : List Value} {n k : Nat} (hl : l.length = n) (hk : k < n) (h2 : n * 5 ≤ cs.length) (h6 : cs.take (n * 5) = staCells l) :
    (layAt (layAt cs (0 + k * 5) (staCells (l.drop (k + 1)))) ((k + (n - (k + 1))) * 5) zeroSta).take ((k + (n - (k + 1))) * 5) = staCells (l.eraseIdx k) := by
  have hnl : (staCells (l.drop (k + 1))).length = (n - (k + 1)) * 5 := by rw [staCells_length, List.length_drop, hl]
  have hz : zeroSta.length = 5 := rfl
  have htl : (staCells (l.take k)).length = k * 5 := by rw [staCells_length, List.length_take, hl]; omega
  rw [List.eraseIdx_eq_take_drop_succ, staCells_append]
  apply List.ext_getElem?
  intro i
  rw [List.getElem?_take]
  by_cases hi : i < (k + (n - (k + 1))) * 5
  · rw [if_pos hi, layAt_at _ _ _ _ (by rw [layAt_length]; omega), if_neg (by omega), layAt_at _ _ _ _ (by omega)]
    by_cases h : i < k * 5
    · rw [if_neg (by omega), List.getElem?_append_left (by omega), staCells_take, List.getElem?_take, if_pos h, ← h6, List.getElem?_take, if_pos (by omega)]
    · rw [if_pos (by omega), List.getElem?_append_right (by omega), htl]; congr 1; omega
  · rw [if_neg hi, List.getElem?_eq_none (by rw [List.length_append]; omega)]
theorem Stars.take {w : World} {A : Option Addr} {l : List Sta} (h : Stars w A l) (k : Nat) : Stars w A (l.take k) := fun hl => by
  obtain ⟨b, o, e, hc⟩ := h (by rw [List.length_take] at hl; omega)
  refine ⟨b, o, e, fun i x hx => hc i x ?_⟩
  rw [List.getElem?_take] at hx
  split at hx
  · exact hx
  · cases hx
theorem Stars.drop {w : World} {b o c : Nat} {l : List Sta} (h : Stars w (some ⟨b, o, none⟩) l) (k : Nat) (hc : l.length ≤ c) : Stars w (if c = k then some ⟨b, o, none⟩ else some ⟨b, o + k * 5, none⟩) (l.drop k) := fun hl => by
  rw [List.length_drop] at hl
  obtain ⟨b', o', e, hs⟩ := h (by omega)
  obtain ⟨rfl, rfl⟩ : b = b' ∧ o = o' := by injection e with e; injection e with e1 e2; exact ⟨e1, e2⟩
  refine ⟨b, o + k * 5, by rw [if_neg (by omega)], fun i x hx => ?_⟩
  rw [List.getElem?_drop] at hx
  have := hs _ _ hx
  rw [show o + k * 5 + i * 5 = o + (k + i) * 5 by omega]; exact this
theorem OwnS.base_le {w : World} {b1 b2 : Nat} {v : Value} {l : List Sta} (h : OwnS w b1 v l) (hb : b2 ≤ b1) : OwnS w b2 v l := by
  refine ⟨h.1, ?_⟩
  rcases h.2 with h2 | ⟨g, cap, cur, h1, h2, hr⟩
  · exact .inl h2
  · exact .inr ⟨g, cap, cur, h1, Nat.le_trans hb h2, hr⟩
/-- what DropStar answers -/
def dropO (l : List Sta) (id : ByteArray) : List Sta × Int := if vStars l then (if findS id l 0 < 0 then ([], 3) else (l.eraseIdx (findS id l 0).toNat, 0)) else ([], 1)
theorem dropO_no {l : List Sta} {id : ByteArray} (h : vStars l = false) : dropO l id = ([], 1) := by simp [dropO, h]
theorem dropO_none {l : List Sta} {id : ByteArray} (h : vStars l = true) (h2 : findS id l 0 < 0) : dropO l id = ([], 3) := by simp [dropO, h, h2]
theorem dropO_yes {l : List Sta} {id : ByteArray} {k : Nat} (h : vStars l = true) (h2 : findS id l 0 = (k : Int)) : dropO l id = (l.eraseIdx k, 0) := by
  have : ¬ ((k : Int) < 0) := by omega
  simp [dropO, h, h2, this]
theorem dropO_len (l : List Sta) (id : ByteArray) : (dropO l id).1.length ≤ 24 := by
  cases hv : vStars l with
  | false => rw [dropO_no hv]; simp
  | true =>
    have h24 := vStars_len hv
    by_cases h : findS id l 0 < 0
    · rw [dropO_none hv h]; simp
    · obtain ⟨k, hk⟩ : ∃ k : Nat, findS id l 0 = k := ⟨(findS id l 0).toNat, by omega⟩
      rw [dropO_yes hv hk]
      have : (l.eraseIdx k).length ≤ l.length := List.length_eraseIdx_le _ _
      show (l.eraseIdx k).length ≤ 24
      omega
end Go.Proofs.YtbpjnopnhmoigaaDoor
