/- Plain functions: the stars that can be seen, the highest first. Nothing of the program is named here. -/
import Derived.Test.YtbpjnopnhmoigaaDoorPlainVis
import Derived.Test.YtbpjnopnhmoigaaDoorGrpList
namespace Go.Proofs.YtbpjnopnhmoigaaDoor
set_option linter.unusedVariables false
set_option linter.unusedSimpArgs false
/-- are the first stars valid, each by itself -/
def okTo (l : List Sta) (k : Nat) : Bool := (l.take k).all Sta.ok
theorem okTo_zero (l : List Sta) : okTo l 0 = true := rfl
theorem okTo_succ {l : List Sta} {k : Nat} {x : Sta} (h : l[k]? = some x) : okTo l (k + 1) = (okTo l k && x.ok) := by
  rw [okTo, List.take_add_one, h, List.all_append]
  simp [okTo]
theorem okTo_no {l : List Sta} {k : Nat} {x : Sta} (h : l[k]? = some x) (hx : x.ok = false) : okTo l l.length = false := by
  rw [okTo, List.take_length, List.all_eq_false]
  exact ⟨x, List.mem_of_getElem? h, by simp [hx]⟩
theorem okTo_at {l : List Sta} (h : okTo l l.length = true) {k : Nat} {x : Sta} (hx : l[k]? = some x) : x.ok = true := by
  rw [okTo, List.take_length, List.all_eq_true] at h
  exact h x (List.mem_of_getElem? hx)
/-- the places among the first ones whose stars are that high -/
def skyL (l : List Sta) (la s least : Int) : Nat → List Int
  | 0 => []
  | k + 1 => if least ≤ altAt l la s (k : Int) then skyL l la s least k ++ [(k : Int)] else skyL l la s least k
theorem skyL_yes {l : List Sta} {la s least : Int} {k : Nat} (h : least ≤ altAt l la s (k : Int)) : skyL l la s least (k + 1) = skyL l la s least k ++ [(k : Int)] := by rw [skyL, if_pos h]
theorem skyL_no {l : List Sta} {la s least : Int} {k : Nat} (h : ¬ least ≤ altAt l la s (k : Int)) : skyL l la s least (k + 1) = skyL l la s least k := by rw [skyL, if_neg h]
theorem skyL_len (l : List Sta) (la s least : Int) (k : Nat) : (skyL l la s least k).length ≤ k := by
  induction k with
  | zero => simp [skyL]
  | succ k ih =>
    rw [skyL]
    split
    · rw [List.length_append, List.length_singleton]; omega
    · omega
theorem skyL_mem {l : List Sta} {la s least : Int} {k : Nat} {x : Int} (h : x ∈ skyL l la s least k) : 0 ≤ x ∧ x < (k : Int) ∧ least ≤ altAt l la s x := by
  induction k with
  | zero => simp [skyL] at h
  | succ k ih =>
    rw [skyL] at h
    split at h
    · next hk =>
      rw [List.mem_append, List.mem_singleton] at h
      rcases h with h | rfl
      · have := ih h; omega
      · exact ⟨by omega, by omega, hk⟩
    · have := ih h; omega
theorem skyL_rise (l : List Sta) (la s least : Int) (k : Nat) : (skyL l la s least k).Pairwise (· < ·) := by
  induction k with
  | zero => exact .nil
  | succ k ih =>
    rw [skyL]
    split
    · rw [List.pairwise_append]
      exact ⟨ih, by simp, fun a ha b hb => by rw [List.mem_singleton] at hb; subst hb; exact (skyL_mem ha).2.1⟩
    · exact ih
theorem skyL_gt {l : List Sta} {la s least : Int} {k i : Nat} (h : i < (skyL l la s least k).length) : 0 ≤ gt (skyL l la s least k) i ∧ gt (skyL l la s least k) i < (k : Int) := by
  have := skyL_mem (List.mem_of_getElem? (at_gt h))
  omega
theorem skyL_inc (l : List Sta) (la s least : Int) (k : Nat) : ∀ i j, i < j → j < (skyL l la s least k).length → gt (skyL l la s least k) i < gt (skyL l la s least k) j := fun i j h1 h2 => by
  have h := List.pairwise_iff_getElem.1 (skyL_rise l la s least k) i j (by omega) h2 h1
  rw [gt_at (List.getElem?_eq_getElem (by omega)), gt_at (List.getElem?_eq_getElem h2)]; exact h
/-- the key of the order: the highest first -/
def negK (l : List Sta) (la s : Int) (i : Int) : Int := - altAt l la s i
/-- the first stars that are seen, in order -/
def vstK (l : List Sta) (la s least : Int) (k : Nat) : List Int := sortL (negK l la s) (skyL l la s least k)
theorem vstK_yes {l : List Sta} {la s least : Int} {k : Nat} (h : least ≤ altAt l la s (k : Int)) : vstK l la s least (k + 1) = insK (negK l la s) (k : Int) (vstK l la s least k) := by rw [vstK, skyL_yes h, sortL_snoc]; rfl
theorem vstK_no {l : List Sta} {la s least : Int} {k : Nat} (h : ¬ least ≤ altAt l la s (k : Int)) : vstK l la s least (k + 1) = vstK l la s least k := by rw [vstK, skyL_no h]; rfl
theorem vstK_all (l : List Sta) (la s least : Int) (k : Nat) : (vstK l la s least k).length = (skyL l la s least k).length ∧ (∀ x, x ∈ vstK l la s least k ↔ x ∈ skyL l la s least k) ∧ Srt (negK l la s) (vstK l la s least k) 0 (vstK l la s least k).length := sortL_all _ _ (skyL_rise l la s least k)
theorem vstK_len (l : List Sta) (la s least : Int) (k : Nat) : (vstK l la s least k).length ≤ k := by rw [(vstK_all l la s least k).1]; exact skyL_len _ _ _ _ _
theorem vstK_gt {l : List Sta} {la s least : Int} {k i : Nat} (h : i < (vstK l la s least k).length) : ∃ e : Nat, e < k ∧ gt (vstK l la s least k) i = (e : Int) := by
  have := skyL_mem (((vstK_all l la s least k).2.1 _).1 (List.mem_of_getElem? (at_gt h)))
  exact ⟨(gt (vstK l la s least k) i).toNat, by omega, by omega⟩
/-- the altitudes of the first stars -/
def altL (l : List Sta) (la s : Int) (k : Nat) : List Int := (List.range k).map (fun (j : Nat) => altAt l la s (j : Int))
theorem altL_length (l : List Sta) (la s : Int) (k : Nat) : (altL l la s k).length = k := by simp [altL]
theorem altL_succ (l : List Sta) (la s : Int) (k : Nat) : altL l la s (k + 1) = altL l la s k ++ [altAt l la s (k : Int)] := by rw [altL, List.range_succ, List.map_append]; rfl
theorem altL_at {l : List Sta} {la s : Int} {k j : Nat} (h : j < k) : (altL l la s k)[j]? = some (altAt l la s (j : Int)) := by rw [altL, List.getElem?_map, List.getElem?_range h]; rfl
theorem altL_take (l : List Sta) (la s : Int) {k n : Nat} (h : k ≤ n) : (altL l la s n).take k = altL l la s k := by
  apply List.ext_getElem?
  intro i
  rw [List.getElem?_take]
  split
  · next hi => rw [altL_at (by omega), altL_at hi]
  · next hi => rw [List.getElem?_eq_none (by rw [altL_length]; omega)]
/-- what VisibleStars answers -/
def vstO (l : List Sta) (tn : List UInt8) (lo la s least : Int) : List Int × Int := if vSite tn lo la && okTo l l.length then (if inB s 0 359999 && inB least (-90000) 90000 then (if l.length ≤ 24 then (vstK l la s least l.length, 0) else ([], 5)) else ([], 2)) else ([], 1)
section
variable {l : List Sta} {tn : List UInt8} {lo la s least : Int}
theorem vstO_site (h : vSite tn lo la = false) : vstO l tn lo la s least = ([], 1) := by simp [vstO, h]
theorem vstO_bad (h : okTo l l.length = false) : vstO l tn lo la s least = ([], 1) := by simp [vstO, h]
theorem vstO_turn (h : vSite tn lo la = true) (h2 : okTo l l.length = true) (h3 : inB s 0 359999 = false ∨ inB least (-90000) 90000 = false) : vstO l tn lo la s least = ([], 2) := by
  rcases h3 with h3 | h3 <;> simp [vstO, h, h2, h3]
theorem vstO_full (h : vSite tn lo la = true) (h2 : okTo l l.length = true) (h3 : inB s 0 359999 = true) (h4 : inB least (-90000) 90000 = true) (h5 : ¬ l.length ≤ 24) : vstO l tn lo la s least = ([], 5) := by
  rw [vstO, h, h2, h3, h4]; simp only [Bool.and_self, if_true]; rw [if_neg h5]
theorem vstO_yes (h : vSite tn lo la = true) (h2 : okTo l l.length = true) (h3 : inB s 0 359999 = true) (h4 : inB least (-90000) 90000 = true) (h5 : l.length ≤ 24) : vstO l tn lo la s least = (vstK l la s least l.length, 0) := by
  rw [vstO, h, h2, h3, h4]; simp only [Bool.and_self, if_true]; rw [if_pos h5]
end
theorem vstO_len (l : List Sta) (tn : List UInt8) (lo la s least : Int) : (vstO l tn lo la s least).1.length ≤ 24 := by
  unfold vstO
  split
  · split
    · split
      · next h => have := vstK_len l la s least l.length; simp only; omega
      · simp
    · simp
  · simp
end Go.Proofs.YtbpjnopnhmoigaaDoor
