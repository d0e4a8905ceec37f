/- Plain functions on lists of stars. Nothing of the program is named here. -/
import Derived.Test.YtbpjnopnhmoigaaDoorPlain
import Derived.WalkKit
namespace Go.Proofs.YtbpjnopnhmoigaaDoor
set_option linter.unusedVariables false
set_option linter.unusedSimpArgs false
/-- a star -/
structure Sta where
  id : ByteArray
  ri : Int
  de : Int
  ma : Int
  co : Int
/-- is it valid -/
def Sta.ok (x : Sta) : Bool := vStar x.id.data.toList x.ri x.de x.ma x.co
/-- one name before another -/
def ltS (a b : ByteArray) : Bool := Op.bytesLess a.toList b.toList
/-- what is asked of the star at place i -/
def okAt (l : List Sta) (i : Nat) : Bool := match l[i]? with
  | none => true
  | some x => x.ok && (match i with
    | 0 => true
    | j + 1 => match l[j]? with
      | none => true
      | some y => ltS y.id x.id)
def okUpto (l : List Sta) (n : Nat) : Bool := (List.range n).all (okAt l)
/-- is a list of stars valid -/
def vStars (l : List Sta) : Bool := decide (l.length ≤ 24) && okUpto l l.length
theorem okUpto_zero (l : List Sta) : okUpto l 0 = true := rfl
theorem okUpto_succ (l : List Sta) (n : Nat) : okUpto l (n + 1) = (okUpto l n && okAt l n) := by
  rw [okUpto, List.range_succ, List.all_append]; simp [okUpto]
theorem okAt_zero {l : List Sta} {x : Sta} (h : l[0]? = some x) : okAt l 0 = x.ok := by simp [okAt, h]
theorem okAt_succ {l : List Sta} {k : Nat} {x y : Sta} (h : l[k + 1]? = some x) (h' : l[k]? = some y) : okAt l (k + 1) = (x.ok && ltS y.id x.id) := by simp [okAt, h, h']
theorem okUpto_no {l : List Sta} {k n : Nat} (h : okAt l k = false) (hk : k < n) : okUpto l n = false := by
  rw [okUpto, List.all_eq_false]; exact ⟨k, List.mem_range.2 hk, by simp [h]⟩
theorem vStars_long {l : List Sta} (h : 24 < l.length) : vStars l = false := by
  have : ¬ l.length ≤ 24 := by omega
  simp [vStars, this]
theorem vStars_no {l : List Sta} {k : Nat} (hk : k < l.length) (h : okAt l k = false) : vStars l = false := by
  simp [vStars, okUpto_no h hk]
theorem vStars_yes {l : List Sta} (h : l.length ≤ 24) (hk : okUpto l l.length = true) : vStars l = true := by
  simp [vStars, h, hk]
theorem vStars_len {l : List Sta} (h : vStars l = true) : l.length ≤ 24 := by
  simp only [vStars, Bool.and_eq_true, decide_eq_true_eq] at h; exact h.1
theorem vStars_okAt {l : List Sta} (h : vStars l = true) {k : Nat} (hk : k < l.length) : okAt l k = true := by
  simp only [vStars, Bool.and_eq_true, okUpto, List.all_eq_true] at h
  exact h.2 k (List.mem_range.2 hk)
theorem vStars_ok {l : List Sta} (h : vStars l = true) {k : Nat} {x : Sta} (hx : l[k]? = some x) : x.ok = true := by
  have hk : k < l.length := (List.getElem?_eq_some_iff.1 hx).1
  have := vStars_okAt h hk
  rcases k with _ | j
  · rwa [okAt_zero hx] at this
  · have hj : l[j]? = some l[j] := List.getElem?_eq_getElem (by omega)
    rw [okAt_succ hx hj, Bool.and_eq_true] at this
    exact this.1
theorem vStars_lt {l : List Sta} (h : vStars l = true) {k : Nat} {x y : Sta} (hx : l[k + 1]? = some x) (hy : l[k]? = some y) : ltS y.id x.id = true := by
  have hk : k + 1 < l.length := (List.getElem?_eq_some_iff.1 hx).1
  have := vStars_okAt h hk
  rw [okAt_succ hx hy, Bool.and_eq_true] at this
  exact this.2
theorem at_lt {α : Type} {l : List α} {k : Nat} (h : k < l.length) : ∃ x, l[k]? = some x := ⟨l[k], List.getElem?_eq_getElem h⟩
end Go.Proofs.YtbpjnopnhmoigaaDoor
