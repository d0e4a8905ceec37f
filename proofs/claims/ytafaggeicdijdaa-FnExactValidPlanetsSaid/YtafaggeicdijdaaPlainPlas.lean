/- Plain functions on lists of planets. Nothing of the program is named here. -/
import Derived.Test.YtafaggeicdijdaaPlainStars
import Derived.WalkKit
namespace Go.Proofs.Ytafaggeicdijdaa
set_option linter.unusedVariables false
set_option linter.unusedSimpArgs false
/-- a plar -/
structure Pla where
  id : ByteArray
  ri : Int
  de : Int
  ma : Int
/-- is it valid -/
def Pla.ok (x : Pla) : Bool := vPlanet x.id.data.toList x.ri x.de x.ma
/-- what is asked of the plar at place i -/
def okAtP (l : List Pla) (i : Nat) : Bool := match l[i]? with
  | none => true
  | some x => x.ok && (match i with
    | 0 => true
    | j + 1 => match l[j]? with
      | none => true
      | some y => ltS y.id x.id)
def okUptoP (l : List Pla) (n : Nat) : Bool := (List.range n).all (okAtP l)
/-- is a list of planets valid -/
def vPlans (l : List Pla) : Bool := decide (l.length ≤ 10) && okUptoP l l.length
theorem okUptoP_zero (l : List Pla) : okUptoP l 0 = true := rfl
theorem okUptoP_succ (l : List Pla) (n : Nat) : okUptoP l (n + 1) = (okUptoP l n && okAtP l n) := by
  rw [okUptoP, List.range_succ, List.all_append]; simp [okUptoP]
theorem okAtP_zero {l : List Pla} {x : Pla} (h : l[0]? = some x) : okAtP l 0 = x.ok := by simp [okAtP, h]
theorem okAtP_succ {l : List Pla} {k : Nat} {x y : Pla} (h : l[k + 1]? = some x) (h' : l[k]? = some y) : okAtP l (k + 1) = (x.ok && ltS y.id x.id) := by simp [okAtP, h, h']
theorem okUptoP_no {l : List Pla} {k n : Nat} (h : okAtP l k = false) (hk : k < n) : okUptoP l n = false := by
  rw [okUptoP, List.all_eq_false]; exact ⟨k, List.mem_range.2 hk, by simp [h]⟩
theorem vPlans_long {l : List Pla} (h : 10 < l.length) : vPlans l = false := by
  have : ¬ l.length ≤ 10 := by omega
  simp [vPlans, this]
theorem vPlans_no {l : List Pla} {k : Nat} (hk : k < l.length) (h : okAtP l k = false) : vPlans l = false := by
  simp [vPlans, okUptoP_no h hk]
theorem vPlans_yes {l : List Pla} (h : l.length ≤ 10) (hk : okUptoP l l.length = true) : vPlans l = true := by
  simp [vPlans, h, hk]
theorem vPlans_len {l : List Pla} (h : vPlans l = true) : l.length ≤ 10 := by
  simp only [vPlans, Bool.and_eq_true, decide_eq_true_eq] at h; exact h.1
theorem vPlans_okAtP {l : List Pla} (h : vPlans l = true) {k : Nat} (hk : k < l.length) : okAtP l k = true := by
  simp only [vPlans, Bool.and_eq_true, okUptoP, List.all_eq_true] at h
  exact h.2 k (List.mem_range.2 hk)
theorem vPlans_ok {l : List Pla} (h : vPlans l = true) {k : Nat} {x : Pla} (hx : l[k]? = some x) : x.ok = true := by
  have hk : k < l.length := (List.getElem?_eq_some_iff.1 hx).1
  have := vPlans_okAtP h hk
  rcases k with _ | j
  · rwa [okAtP_zero hx] at this
  · have hj : l[j]? = some l[j] := List.getElem?_eq_getElem (by omega)
    rw [okAtP_succ hx hj, Bool.and_eq_true] at this
    exact this.1
theorem vPlans_lt {l : List Pla} (h : vPlans l = true) {k : Nat} {x y : Pla} (hx : l[k + 1]? = some x) (hy : l[k]? = some y) : ltS y.id x.id = true := by
  have hk : k + 1 < l.length := (List.getElem?_eq_some_iff.1 hx).1
  have := vPlans_okAtP h hk
  rw [okAtP_succ hx hy, Bool.and_eq_true] at this
  exact this.2
end Go.Proofs.Ytafaggeicdijdaa
