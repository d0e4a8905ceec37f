/- Plain functions on figures. Nothing of the program is named here. -/
import Derived.Test.YtbpjnopnhmoigaaDoorPlainStars
namespace Go.Proofs.YtbpjnopnhmoigaaDoor
set_option linter.unusedVariables false
set_option linter.unusedSimpArgs false
/-- is it a line between two of n stars -/
def lineOk (n : Int) (x : List Int) : Bool := decide (x.length = 2) && (decide (0 ≤ x.getD 0 0) && (decide (x.getD 0 0 < x.getD 1 0) && decide (x.getD 1 0 < n)))
/-- one line before another -/
def lineLt (y x : List Int) : Bool := decide (y.getD 0 0 < x.getD 0 0) || (decide (y.getD 0 0 = x.getD 0 0) && decide (y.getD 1 0 < x.getD 1 0))
/-- what is asked of the line at place i -/
def lnAt (n : Int) (L : List (List Int)) (i : Nat) : Bool := match L[i]? with
  | none => true
  | some x => lineOk n x && (match i with
    | 0 => true
    | j + 1 => match L[j]? with
      | none => true
      | some y => lineLt y x)
def lnUpto (n : Int) (L : List (List Int)) (k : Nat) : Bool := (List.range k).all (lnAt n L)
/-- are these the lines of a figure of n stars -/
def vLines (n : Int) (L : List (List Int)) : Bool := decide (L.length ≤ 16) && lnUpto n L L.length
/-- is it a figure -/
def vFig (nm : ByteArray) (L : List (List Int)) (l : List Sta) : Bool := vStars l && (isName nm.data.toList && vLines l.length L)
theorem lnUpto_zero (n : Int) (L : List (List Int)) : lnUpto n L 0 = true := rfl
theorem lnUpto_succ (n : Int) (L : List (List Int)) (k : Nat) : lnUpto n L (k + 1) = (lnUpto n L k && lnAt n L k) := by
  rw [lnUpto, List.range_succ, List.all_append]; simp [lnUpto]
theorem lnAt_zero {n : Int} {L : List (List Int)} {x : List Int} (h : L[0]? = some x) : lnAt n L 0 = lineOk n x := by simp [lnAt, h]
theorem lnAt_succ {n : Int} {L : List (List Int)} {k : Nat} {x y : List Int} (h : L[k + 1]? = some x) (h' : L[k]? = some y) : lnAt n L (k + 1) = (lineOk n x && lineLt y x) := by simp [lnAt, h, h']
theorem lnUpto_no {n : Int} {L : List (List Int)} {k m : Nat} (h : lnAt n L k = false) (hk : k < m) : lnUpto n L m = false := by
  rw [lnUpto, List.all_eq_false]; exact ⟨k, List.mem_range.2 hk, by simp [h]⟩
theorem vLines_long {n : Int} {L : List (List Int)} (h : 16 < L.length) : vLines n L = false := by
  have : ¬ L.length ≤ 16 := by omega
  simp [vLines, this]
theorem vLines_no {n : Int} {L : List (List Int)} {k : Nat} (hk : k < L.length) (h : lnAt n L k = false) : vLines n L = false := by simp [vLines, lnUpto_no h hk]
theorem vLines_yes {n : Int} {L : List (List Int)} (h : L.length ≤ 16) (hk : lnUpto n L L.length = true) : vLines n L = true := by simp [vLines, h, hk]
theorem vLines_len {n : Int} {L : List (List Int)} (h : vLines n L = true) : L.length ≤ 16 := by
  simp only [vLines, Bool.and_eq_true, decide_eq_true_eq] at h; exact h.1
theorem vLines_at {n : Int} {L : List (List Int)} (h : vLines n L = true) {k : Nat} (hk : k < L.length) : lnAt n L k = true := by
  simp only [vLines, Bool.and_eq_true, lnUpto, List.all_eq_true] at h
  exact h.2 k (List.mem_range.2 hk)
theorem vLines_ok {n : Int} {L : List (List Int)} (h : vLines n L = true) {k : Nat} {x : List Int} (hx : L[k]? = some x) : lineOk n x = true := by
  have hk : k < L.length := (List.getElem?_eq_some_iff.1 hx).1
  have := vLines_at h hk
  rcases k with _ | j
  · rwa [lnAt_zero hx] at this
  · have hj : L[j]? = some L[j] := List.getElem?_eq_getElem (by omega)
    rw [lnAt_succ hx hj, Bool.and_eq_true] at this
    exact this.1
theorem lnUpto_ok {n : Int} {L : List (List Int)} {m : Nat} (h : lnUpto n L m = true) {k : Nat} (hk : k < m) {x : List Int} (hx : L[k]? = some x) : lineOk n x = true := by
  rw [lnUpto, List.all_eq_true] at h
  have := h k (List.mem_range.2 hk)
  rcases k with _ | j
  · rwa [lnAt_zero hx] at this
  · have hjl : j < L.length := by have h1 := (List.getElem?_eq_some_iff.1 hx).1; omega
    have hj : L[j]? = some L[j] := List.getElem?_eq_getElem hjl
    rw [lnAt_succ hx hj, Bool.and_eq_true] at this
    exact this.1
/-- a line is two numbers -/
theorem lineOk_two {n : Int} {x : List Int} (h : lineOk n x = true) : ∃ a b : Int, x = [a, b] ∧ 0 ≤ a ∧ a < b ∧ b < n := by
  simp only [lineOk, Bool.and_eq_true, decide_eq_true_eq] at h
  obtain ⟨h0, h1, h2, h3⟩ := h
  match x, h0 with
  | [a, b], _ => exact ⟨a, b, rfl, by simpa using h1, by simpa using h2, by simpa using h3⟩
theorem lineOk_mk (n a b : Int) : lineOk n [a, b] = (decide (0 ≤ a) && (decide (a < b) && decide (b < n))) := by simp [lineOk]
theorem lineLt_mk (a b c d : Int) : lineLt [a, b] [c, d] = (decide (a < c) || (decide (a = c) && decide (b < d))) := by simp [lineLt]
theorem lineOk_len {n : Int} {x : List Int} (h : x.length ≠ 2) : lineOk n x = false := by simp [lineOk, h]
/-- all numbers of a list of lists -/
def tot (L : List (List Int)) : Nat := (L.map List.length).sum
theorem tot_take {L : List (List Int)} {k : Nat} {x : List Int} (h : L[k]? = some x) : tot (L.take (k + 1)) = tot (L.take k) + x.length := by
  rw [List.take_add_one, h]; simp [tot]
theorem tot_all {L : List (List Int)} {k : Nat} (h : L.length ≤ k) : tot (L.take k) = tot L := by rw [List.take_of_length_le h]
theorem tot_le (L : List (List Int)) (k : Nat) : tot (L.take k) ≤ tot L := by
  have h := List.take_append_drop k L
  have e : tot (L.take k ++ L.drop k) = tot (L.take k) + tot (L.drop k) := by simp only [tot, List.map_append, List.sum_append]
  rw [h] at e
  omega
end Go.Proofs.YtbpjnopnhmoigaaDoor
