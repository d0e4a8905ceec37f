/- Contracts of the functions that add a star to a list. -/
import Derived.Test.YtbpjnopnhmoigaaDoorIns
namespace Go.Proofs.YtbpjnopnhmoigaaDoor
set_option linter.unusedVariables false
set_option linter.unusedSimpArgs false
open Go.RowKit
theorem findS_at {id : ByteArray} : ∀ {l : List Sta} {k : Nat}, 0 ≤ findS id l k → ∃ (j : Nat) (x : Sta), l[j]? = some x ∧ isId id x = true
  | [], k, h => by simp [findS] at h
  | y :: l, k, h => by
    rw [findS] at h
    split at h
    · next hy => exact ⟨0, y, rfl, hy⟩
    · obtain ⟨j, x, hx, hi⟩ := findS_at h
      exact ⟨j + 1, x, by simpa using hx, hi⟩
theorem findS_has {id : ByteArray} : ∀ {l : List Sta} {k j : Nat} {x : Sta}, l[j]? = some x → isId id x = true → 0 ≤ findS id l k
  | [], k, j, x, h, _ => by simp at h
  | y :: l, k, j, x, h, hi => by
    rw [findS]
    split
    · omega
    · next hy =>
      cases j with
      | zero => simp only [List.getElem?_cons_zero, Option.some.injEq] at h; subst h; exact absurd hi hy
      | succ j => exact findS_has (by simpa using h) hi
theorem isId_lt {id : ByteArray} {x y : Sta} (h : isId id x = true) : ltS y.id id = ltS y.id x.id := by
  simp only [isId, beq_iff_eq] at h
  rw [ltS, ltS, h]
theorem isAt_of_id {l : List Sta} {id : ByteArray} {j : Nat} {x : Sta} (hv : vStars l = true) (hx : l[j]? = some x) (hi : isId id x = true) : IsAt l id j := by
  have hj : j < l.length := (List.getElem?_eq_some_iff.1 hx).1
  refine ⟨by omega, fun i y hij hy => ?_, fun y hy => ?_⟩
  · rw [isId_lt hi]; exact vStars_lt2 hv hij hy hx
  · rw [hx] at hy; cases hy; rw [isId_lt hi]; exact ltS_irrefl _
/-- what AddStar answers -/
def addO (l : List Sta) (x : Sta) : List Sta × Int :=
  if vStars l && x.ok then (if 0 ≤ findS x.id l 0 then ([], 4) else if l.length = 24 then ([], 5) else (l.take (addK x.id l) ++ ([x] ++ l.drop (addK x.id l)), 0)) else ([], 1)
section
variable {l : List Sta} {x : Sta} {k : Nat}
theorem addO_no (h : vStars l = false) : addO l x = ([], 1) := by simp [addO, h]
theorem addO_no2 (h : x.ok = false) : addO l x = ([], 1) := by simp [addO, h]
theorem addO_has (h : vStars l = true) (h2 : x.ok = true) (h3 : 0 ≤ findS x.id l 0) : addO l x = ([], 4) := by simp [addO, h, h2, h3]
theorem addO_full (h : vStars l = true) (h2 : x.ok = true) (h3 : ¬ 0 ≤ findS x.id l 0) (h4 : l.length = 24) : addO l x = ([], 5) := by simp [addO, h, h2, h3, h4]
theorem addO_yes (h : vStars l = true) (h2 : x.ok = true) (h3 : ¬ 0 ≤ findS x.id l 0) (h4 : ¬ l.length = 24) (h5 : IsAt l x.id k) : addO l x = (l.take k ++ ([x] ++ l.drop k), 0) := by
  rw [h5.uniq (addK_is x.id l)]; simp [addO, h, h2, h3, h4]
theorem addO_len (l : List Sta) (x : Sta) : (addO l x).1.length ≤ 24 := by
  unfold addO
  split
  · next h =>
    rw [Bool.and_eq_true] at h
    have h24 := vStars_len h.1
    split
    · simp
    · split
      · simp
      · have := (addK_is x.id l).1
        show (l.take _ ++ ([x] ++ l.drop _)).length ≤ 24
        simp only [List.length_append, List.length_take, List.length_drop, List.length_singleton]; omega
  · simp
/-- in a valid list the star of that name stands where the name belongs -/
theorem has_at (hv : vStars l = true) (hk : IsAt l x.id k) : (0 ≤ findS x.id l 0) ↔ ∃ y, l[k]? = some y ∧ isId x.id y = true := by
  constructor
  · intro h
    obtain ⟨j, y, hy, hi⟩ := findS_at h
    have := (isAt_of_id hv hy hi).uniq hk
    subst this; exact ⟨y, hy, hi⟩
  · rintro ⟨y, hy, hi⟩; exact findS_has hy hi
end
end Go.Proofs.YtbpjnopnhmoigaaDoor
