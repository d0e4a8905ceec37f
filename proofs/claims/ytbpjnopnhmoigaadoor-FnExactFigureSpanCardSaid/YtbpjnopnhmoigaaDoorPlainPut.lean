/- Plain laws on rising lists of numbers: a number put to its place, a sorted list made compact. Nothing of the program is named here. -/
import Derived.Test.YtbpjnopnhmoigaaDoorPlainFig
import Derived.Lib.SlicesCompact
namespace Go.Proofs.YtbpjnopnhmoigaaDoor
set_option linter.unusedVariables false
set_option linter.unusedSimpArgs false
/-- a number put to its place among rising ones, once -/
def putI (n : Int) : List Int → List Int
  | [] => [n]
  | x :: l => if x < n then x :: putI n l else if x = n then x :: l else n :: x :: l
theorem putI_mem {n x : Int} : ∀ {l : List Int}, x ∈ putI n l ↔ x = n ∨ x ∈ l
  | [] => by simp [putI]
  | y :: l => by
    rw [putI]
    by_cases h : y < n
    · rw [if_pos h, List.mem_cons, putI_mem, List.mem_cons]
      constructor
      · rintro (h | h | h)
        · exact .inr (.inl h)
        · exact .inl h
        · exact .inr (.inr h)
      · rintro (h | h | h)
        · exact .inr (.inl h)
        · exact .inl h
        · exact .inr (.inr h)
    · rw [if_neg h]
      by_cases h2 : y = n
      · rw [if_pos h2, h2]; simp
      · rw [if_neg h2]; simp
theorem putI_rise {n : Int} : ∀ {l : List Int}, l.Pairwise (· < ·) → (putI n l).Pairwise (· < ·)
  | [], _ => by simp [putI]
  | y :: l, h => by
    rw [List.pairwise_cons] at h
    rw [putI]
    by_cases h1 : y < n
    · rw [if_pos h1, List.pairwise_cons]
      refine ⟨fun x hx => ?_, putI_rise h.2⟩
      rcases putI_mem.1 hx with rfl | hx
      · exact h1
      · exact h.1 x hx
    · rw [if_neg h1]
      by_cases h2 : y = n
      · rw [if_pos h2, List.pairwise_cons]; exact h
      · rw [if_neg h2, List.pairwise_cons, List.pairwise_cons]
        refine ⟨fun x hx => ?_, h⟩
        rcases List.mem_cons.1 hx with rfl | hx
        · omega
        · have := h.1 x hx; omega
theorem putI_len (n : Int) : ∀ l : List Int, (putI n l).length ≤ l.length + 1
  | [] => by simp [putI]
  | y :: l => by
    have := putI_len n l
    rw [putI]
    split
    · simp only [List.length_cons]; omega
    · split
      · simp only [List.length_cons]; omega
      · simp only [List.length_cons]; omega
/-- so far all are less -/
theorem putI_less {n : Int} {l : List Int} {k : Nat} {x : Int} (ha : ∀ y ∈ l.take k, y < n) (hx : l[k]? = some x) (h : n ≤ x) : putI n l = l.take k ++ (if n < x then [n] else []) ++ l.drop k := by
  induction l generalizing k with
  | nil => simp at hx
  | cons y l ih =>
    cases k with
    | zero =>
      simp only [List.getElem?_cons_zero, Option.some.injEq] at hx
      subst hx
      rw [putI, if_neg (by omega)]
      by_cases e : y = n
      · rw [if_pos e, if_neg (by omega)]; simp
      · rw [if_neg e, if_pos (by omega)]; simp
    | succ k =>
      rw [putI, if_pos (ha y (by simp)), ih (k := k) (fun z hz => ha z (by simp [hz])) (by simpa using hx)]
      simp
theorem putI_end {n : Int} {l : List Int} (ha : ∀ y ∈ l, y < n) : putI n l = l ++ [n] := by
  induction l with
  | nil => rfl
  | cons y l ih => rw [putI, if_pos (ha y (by simp)), ih (fun z hz => ha z (by simp [hz]))]; rfl
/-- two strictly rising lists with the same members are one -/
theorem rise_ext : ∀ {l l' : List Int}, l.Pairwise (· < ·) → l'.Pairwise (· < ·) → (∀ x, x ∈ l ↔ x ∈ l') → l = l'
  | [], [], _, _, _ => rfl
  | [], b :: t, _, _, h => by have := (h b).2 (by simp); cases this
  | a :: t, [], _, _, h => by have := (h a).1 (by simp); cases this
  | a :: t, b :: t', h1, h2, h => by
    rw [List.pairwise_cons] at h1 h2
    have e : a = b := by
      have ha := (h a).1 (by simp)
      have hb := (h b).2 (by simp)
      rcases List.mem_cons.1 ha with e | ha
      · exact e
      · rcases List.mem_cons.1 hb with e | hb
        · exact e.symm
        · have := h1.1 b hb; have := h2.1 a ha; omega
    subst e
    rw [rise_ext h1.2 h2.2 (fun x => ?_)]
    have hx := h x
    simp only [List.mem_cons] at hx
    constructor
    · intro hm
      have hlt := h1.1 x hm
      rcases hx.1 (.inr hm) with e | hm'
      · omega
      · exact hm'
    · intro hm
      have hlt := h2.1 x hm
      rcases hx.2 (.inr hm) with e | hm'
      · omega
      · exact hm'
theorem rise_nodup {l : List Int} (h : l.Pairwise (· < ·)) : l.Nodup := h.imp (fun {a b} hab => by omega)
open Go.Lib
theorem compact_mem (d : Array Int) (x : Int) : ∀ m : Nat, x ∈ compactUpTo d m ↔ ∃ j, j < m ∧ d[j]! = x
  | 0 => by simp [compactUpTo]
  | m + 1 => by
    rw [compactUpTo_succ, List.mem_append, compact_mem d x m]
    constructor
    · rintro (⟨j, hj, e⟩ | h)
      · exact ⟨j, by omega, e⟩
      · split at h
        · simp only [List.mem_singleton] at h; exact ⟨m, by omega, h.symm⟩
        · cases h
    · rintro ⟨j, hj, e⟩
      by_cases hjm : j < m
      · exact .inl ⟨j, hjm, e⟩
      · obtain rfl : j = m := by omega
        by_cases hk : keeps d j = true
        · rw [if_pos hk]; exact .inr (by simp [e])
        · have h0 : ¬ (j = 0 ∨ d[j]! ≠ d[j - 1]!) := by simpa [keeps] using hk
          have h1 : j ≠ 0 := fun h => h0 (.inl h)
          have h2 : d[j]! = d[j - 1]! := Classical.byContradiction fun h => h0 (.inr h)
          exact .inl ⟨j - 1, by omega, by rw [← h2]; exact e⟩
theorem compact_rise {d : Array Int} (hs : ∀ j, j + 1 < d.size → d[j]! ≤ d[j + 1]!) : ∀ m : Nat, m ≤ d.size → (compactUpTo d m).Pairwise (· < ·) ∧ ∀ x ∈ compactUpTo d m, 0 < m ∧ x ≤ d[m - 1]!
  | 0, _ => by simp [compactUpTo]
  | m + 1, hm => by
    obtain ⟨h1, h2⟩ := compact_rise hs m (by omega)
    have hle : ∀ x ∈ compactUpTo d m, x ≤ d[m]! := fun x hx => by
      obtain ⟨a, b⟩ := h2 x hx
      have := hs (m - 1) (by omega)
      rw [show m - 1 + 1 = m by omega] at this
      omega
    rw [compactUpTo_succ]
    refine ⟨?_, fun x hx => ⟨by omega, ?_⟩⟩
    · rw [List.pairwise_append]
      refine ⟨h1, by split <;> simp, fun x hx y hy => ?_⟩
      by_cases hk : keeps d m = true
      · rw [if_pos hk, List.mem_singleton] at hy
        subst hy
        obtain ⟨a, b⟩ := h2 x hx
        have := hs (m - 1) (by omega)
        rw [show m - 1 + 1 = m by omega] at this
        have h0 : m = 0 ∨ d[m]! ≠ d[m - 1]! := by simpa [keeps] using hk
        rcases h0 with h0 | h0
        · omega
        · omega
      · rw [if_neg hk] at hy; cases hy
    · rw [Nat.add_sub_cancel]
      rcases List.mem_append.1 hx with hx | hx
      · exact hle x hx
      · split at hx
        · simp only [List.mem_singleton] at hx; omega
        · cases hx
/-- the sorted list made compact -/
def sortI (l : List Int) : List Int := l.mergeSort fun x y => decide (x ≤ y)
theorem sortI_mem (l : List Int) (x : Int) : x ∈ sortI l ↔ x ∈ l := (List.mergeSort_perm l _).mem_iff
theorem sortI_length (l : List Int) : (sortI l).length = l.length := (List.mergeSort_perm l _).length_eq
theorem sortI_rise (l : List Int) : (sortI l).Pairwise (· ≤ ·) := by
  have h := List.pairwise_mergeSort (le := fun (x y : Int) => decide (x ≤ y)) (fun a b c h1 h2 => by simp only [decide_eq_true_eq] at *; omega) (fun a b => by simp only [Bool.or_eq_true, decide_eq_true_eq]; omega) l
  exact h.imp (fun {a b} hab => by simpa using hab)
/-- the numbers of a list, rising and once each -/
def setI (l : List Int) : List Int := l.foldl (fun o n => putI n o) []
theorem fold_rise (l : List Int) : ∀ o : List Int, o.Pairwise (· < ·) → (l.foldl (fun o n => putI n o) o).Pairwise (· < ·) := by
  induction l with
  | nil => intro o h; exact h
  | cons x l ih => intro o h; exact ih _ (putI_rise h)
theorem fold_mem (l : List Int) (x : Int) : ∀ o : List Int, x ∈ l.foldl (fun o n => putI n o) o ↔ x ∈ l ∨ x ∈ o := by
  induction l with
  | nil => intro o; simp
  | cons y l ih =>
    intro o
    rw [List.foldl_cons, ih, putI_mem, List.mem_cons]
    constructor
    · rintro (h | h | h)
      · exact .inl (.inr h)
      · exact .inl (.inl h)
      · exact .inr h
    · rintro ((h | h) | h)
      · exact .inr (.inl h)
      · exact .inl h
      · exact .inr (.inr h)
theorem setI_rise (l : List Int) : (setI l).Pairwise (· < ·) := fold_rise l [] .nil
theorem setI_mem (l : List Int) (x : Int) : x ∈ setI l ↔ x ∈ l := by rw [setI, fold_mem]; simp
theorem fold_len (l : List Int) : ∀ o : List Int, (l.foldl (fun o n => putI n o) o).length ≤ o.length + l.length := by
  induction l with
  | nil => intro o; simp
  | cons y l ih => intro o; have h1 := ih (putI y o); have h2 := putI_len y o; rw [List.foldl_cons]; simp only [List.length_cons]; omega
theorem setI_len (l : List Int) : (setI l).length ≤ l.length := by have := fold_len l []; simpa [setI] using this
theorem setI_snoc (l : List Int) (n : Int) : setI (l ++ [n]) = putI n (setI l) := by simp [setI, List.foldl_append]
theorem compact_setI (l : List Int) : compactUpTo (sortI l).toArray (sortI l).toArray.size = setI l := by
  have hs : ∀ j, j + 1 < (sortI l).toArray.size → (sortI l).toArray[j]! ≤ (sortI l).toArray[j + 1]! := by
    intro j hj
    have hj' : j + 1 < (sortI l).length := by simpa using hj
    have := List.pairwise_iff_getElem.1 (sortI_rise l) j (j + 1) (by omega) hj' (by omega)
    rw [getElem!_pos _ j (by simpa using (show j < (sortI l).length by omega)), getElem!_pos _ (j + 1) hj]
    simpa using this
  refine rise_ext (compact_rise hs _ (Nat.le_refl _)).1 (setI_rise l) (fun x => ?_)
  rw [compact_mem, setI_mem, ← sortI_mem l x]
  constructor
  · rintro ⟨j, hj, e⟩
    rw [getElem!_pos _ j hj] at e
    rw [← e]; simp
  · intro h
    obtain ⟨j, hj, e⟩ := List.getElem_of_mem h
    exact ⟨j, by simpa using hj, by rw [getElem!_pos _ j (by simpa using hj)]; simpa using e⟩
/-- all ends of the lines -/
def endsL (L : List (List Int)) : List Int := L.flatten
theorem endsL_take {L : List (List Int)} {k : Nat} {x : List Int} (h : L[k]? = some x) : endsL (L.take (k + 1)) = endsL (L.take k) ++ x := by
  rw [List.take_add_one, h]; simp [endsL]
theorem endsL_len {n : Int} {L : List (List Int)} (h : vLines n L = true) (k : Nat) (hk : k ≤ L.length) : (endsL (L.take k)).length = 2 * k := by
  induction k with
  | zero => rfl
  | succ k ih =>
    obtain ⟨x, hx⟩ := at_lt (l := L) (k := k) (by omega)
    obtain ⟨a, b, rfl, _⟩ := lineOk_two (vLines_ok h hx)
    rw [endsL_take hx, List.length_append, ih (by omega)]
    simp; omega
theorem endsL_bd {n : Int} {L : List (List Int)} (h : vLines n L = true) {x : Int} (hx : x ∈ endsL L) : 0 ≤ x ∧ x < n := by
  obtain ⟨y, hy, hxy⟩ := List.mem_flatten.1 hx
  obtain ⟨k, hk, e⟩ := List.getElem_of_mem hy
  obtain ⟨a, b, rfl, h1, h2, h3⟩ := lineOk_two (vLines_ok h (k := k) (x := y) (by rw [List.getElem?_eq_getElem hk, e]))
  simp only [List.mem_cons, List.not_mem_nil, or_false] at hxy
  rcases hxy with rfl | rfl <;> omega
end Go.Proofs.YtbpjnopnhmoigaaDoor
