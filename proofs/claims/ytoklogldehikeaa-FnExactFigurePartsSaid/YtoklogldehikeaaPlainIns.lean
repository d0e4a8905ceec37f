/- Plain laws on numbers inserted one by one behind their equals. Nothing of the program is named here. -/
import Derived.Test.YtoklogldehikeaaPlainSort
namespace Go.Proofs.Ytoklogldehikeaa
set_option linter.unusedVariables false
set_option linter.unusedSimpArgs false
/-- how many numbers stand before the place of i -/
def posK (ky : Int → Int) (i : Int) : List Int → Nat
  | [] => 0
  | x :: l => if ky x ≤ ky i then posK ky i l + 1 else 0
/-- a number put behind all whose key is not greater -/
def insK (ky : Int → Int) (i : Int) (l : List Int) : List Int := l.take (posK ky i l) ++ i :: l.drop (posK ky i l)
def sortL (ky : Int → Int) (xs : List Int) : List Int := xs.foldl (fun o i => insK ky i o) []
theorem posK_le (ky : Int → Int) (i : Int) : ∀ l : List Int, posK ky i l ≤ l.length
  | [] => Nat.le_refl _
  | x :: l => by
    have := posK_le ky i l
    rw [posK]; split <;> simp only [List.length_cons] <;> omega
theorem posK_lo (ky : Int → Int) (i : Int) : ∀ (l : List Int) (j : Nat), j < posK ky i l → ky (gt l j) ≤ ky i
  | [], j, h => by simp [posK] at h
  | x :: l, j, h => by
    rw [posK] at h
    split at h
    · next hx =>
      cases j with
      | zero => exact hx
      | succ j => have := posK_lo ky i l j (by omega); simpa [gt] using this
    · omega
theorem posK_at (ky : Int → Int) (i : Int) : ∀ (l : List Int), posK ky i l < l.length → ky i < ky (gt l (posK ky i l))
  | [], h => by simp at h
  | x :: l, h => by
    rw [posK] at h ⊢
    split
    · next hx =>
      rw [if_pos hx] at h
      have := posK_at ky i l (by simpa using h)
      simpa [gt] using this
    · next hx => show ky i < ky x; omega
/-- the keys of a rising list do not fall -/
theorem srt_key {ky : Int → Int} {l : List Int} {a b : Nat} (h : Srt ky l a b) {i j : Nat} (h1 : a ≤ i) (h2 : i ≤ j) (h3 : j < b) : ky (gt l i) ≤ ky (gt l j) := by
  by_cases e : i = j
  · rw [e]; omega
  · have := h i j h1 (by omega) h3
    unfold lx at this; omega
/-- the place that is found from behind is that place -/
theorem posK_uniq {ky : Int → Int} {i : Int} {l : List Int} (h : Srt ky l 0 l.length) {k : Nat} (hk : k ≤ l.length) (h1 : ∀ j, k ≤ j → j < l.length → ky i < ky (gt l j)) (h2 : k = 0 ∨ ky (gt l (k - 1)) ≤ ky i) : k = posK ky i l := by
  have hp := posK_le ky i l
  rcases Nat.lt_trichotomy k (posK ky i l) with hlt | e | hlt
  · have a := h1 k (Nat.le_refl _) (by omega)
    have b := posK_lo ky i l k hlt
    omega
  · exact e
  · have a := posK_at ky i l (by omega)
    rcases h2 with h2 | h2
    · omega
    · have b := srt_key h (Nat.zero_le _) (show posK ky i l ≤ k - 1 by omega) (by omega)
      omega
theorem insK_length (ky : Int → Int) (i : Int) (l : List Int) : (insK ky i l).length = l.length + 1 := by
  have := posK_le ky i l
  simp only [insK, List.length_append, List.length_take, List.length_cons, List.length_drop]; omega
theorem insK_mem (ky : Int → Int) (i x : Int) (l : List Int) : x ∈ insK ky i l ↔ x = i ∨ x ∈ l := by
  have h := List.take_append_drop (posK ky i l) l
  have hm : x ∈ l ↔ x ∈ l.take (posK ky i l) ∨ x ∈ l.drop (posK ky i l) := by
    conv => lhs; rw [← h]
    exact List.mem_append
  rw [insK, List.mem_append, List.mem_cons, hm]
  constructor
  · rintro (h | h | h)
    · exact .inr (.inl h)
    · exact .inl h
    · exact .inr (.inr h)
  · rintro (h | h | h)
    · exact .inr (.inl h)
    · exact .inl h
    · exact .inr (.inr h)
theorem gt_insK (ky : Int → Int) (i : Int) (l : List Int) (j : Nat) (hj : j < l.length + 1) : gt (insK ky i l) j = if j < posK ky i l then gt l j else if j = posK ky i l then i else gt l (j - 1) := by
  have hp := posK_le ky i l
  by_cases h1 : j < posK ky i l
  · rw [if_pos h1]
    have : (insK ky i l)[j]? = l[j]? := by
      rw [insK, List.getElem?_append_left (by rw [List.length_take]; omega), List.getElem?_take, if_pos h1]
    rw [gt, gt, List.getD, List.getD, this]
  · rw [if_neg h1]
    have hl : (l.take (posK ky i l)).length = posK ky i l := by rw [List.length_take]; omega
    by_cases h2 : j = posK ky i l
    · rw [if_pos h2]
      apply gt_at
      rw [insK, List.getElem?_append_right (by omega), hl, h2]; simp
    · rw [if_neg h2]
      have : (insK ky i l)[j]? = l[j - 1]? := by
        rw [insK, List.getElem?_append_right (by omega), hl]
        obtain ⟨r, hr⟩ : ∃ r, j - posK ky i l = r + 1 := ⟨j - posK ky i l - 1, by omega⟩
        rw [hr, List.getElem?_cons_succ, List.getElem?_drop]
        congr 1; omega
      rw [gt, gt, List.getD, List.getD, this]
theorem insK_srt {ky : Int → Int} {i : Int} {l : List Int} (h : Srt ky l 0 l.length) (hb : ∀ x ∈ l, x < i) : Srt ky (insK ky i l) 0 (insK ky i l).length := by
  have hp := posK_le ky i l
  rw [insK_length]
  have hmem : ∀ j, j < l.length → gt l j < i := fun j hj => hb _ (List.mem_of_getElem? (at_gt hj))
  have lo : ∀ j, j < posK ky i l → lx ky (gt l j) i := fun j hj => lx_ge (by have := posK_lo ky i l j hj; omega) (hmem j (by omega))
  have hi : ∀ j, posK ky i l ≤ j → j < l.length → lx ky i (gt l j) := fun j hj hl => lx_lt (by
    have a := posK_at ky i l (by omega)
    have b := srt_key h (Nat.zero_le _) hj hl
    omega)
  intro p q h1 h2 h3
  rw [gt_insK ky i l p (by omega), gt_insK ky i l q h3]
  by_cases e1 : p < posK ky i l
  · rw [if_pos e1]
    by_cases e2 : q < posK ky i l
    · rw [if_pos e2]; exact h p q h1 h2 (by omega)
    · rw [if_neg e2]
      by_cases e3 : q = posK ky i l
      · rw [if_pos e3]; exact lo p e1
      · rw [if_neg e3]; exact h p (q - 1) h1 (by omega) (by omega)
  · rw [if_neg e1, if_neg (show ¬ q < posK ky i l by omega), if_neg (show ¬ q = posK ky i l by omega)]
    by_cases e3 : p = posK ky i l
    · rw [if_pos e3]; exact hi (q - 1) (by omega) (by omega)
    · rw [if_neg e3]; exact h (p - 1) (q - 1) (by omega) (by omega) (by omega)
theorem sortL_snoc (ky : Int → Int) (xs : List Int) (i : Int) : sortL ky (xs ++ [i]) = insK ky i (sortL ky xs) := by simp [sortL, List.foldl_append]
theorem sortL_all (ky : Int → Int) (xs : List Int) (h : xs.Pairwise (· < ·)) : (sortL ky xs).length = xs.length ∧ (∀ x, x ∈ sortL ky xs ↔ x ∈ xs) ∧ Srt ky (sortL ky xs) 0 (sortL ky xs).length := by
  obtain ⟨n, hn⟩ : ∃ n, n = xs.length := ⟨_, rfl⟩
  induction n generalizing xs with
  | zero =>
    obtain rfl : xs = [] := List.eq_nil_of_length_eq_zero hn.symm
    exact ⟨rfl, fun x => Iff.rfl, fun i j h1 h2 h3 => by simp [sortL] at h3⟩
  | succ n ih =>
    obtain ⟨ys, i, rfl⟩ : ∃ (ys : List Int) (i : Int), xs = ys ++ [i] := by
      rcases List.eq_nil_or_concat xs with e | ⟨ys, i, e⟩
      · rw [e] at hn; simp at hn
      · exact ⟨ys, i, by simpa using e⟩
    rw [List.pairwise_append] at h
    obtain ⟨h1, h2, h3⟩ := ih ys h.1 (by simp at hn; omega)
    rw [sortL_snoc]
    refine ⟨by rw [insK_length, h1, List.length_append]; rfl, fun x => ?_, insK_srt h3 (fun x hx => h.2.2 x ((h2 x).1 hx) i (by simp))⟩
    rw [insK_mem, h2, List.mem_append, List.mem_singleton]
    exact Or.comm
/-- a rising list of the same numbers is the one that the insertions make -/
theorem sortL_uniq {ky : Int → Int} {xs l : List Int} (h : xs.Pairwise (· < ·)) (hs : Srt ky l 0 xs.length) (hm : Sme xs l 0 xs.length) : l = sortL ky xs := by
  obtain ⟨h1, h2, h3⟩ := sortL_all ky xs h
  have hlen := hm.len
  have idx : ∀ x, x ∈ xs → ∃ j, j < xs.length ∧ gt xs j = x := fun x hx => by
    obtain ⟨j, hj, e⟩ := List.getElem_of_mem hx
    exact ⟨j, hj, gt_at (by rw [List.getElem?_eq_getElem hj, e])⟩
  have idx2 : ∀ x, x ∈ sortL ky xs → ∃ j, j < xs.length ∧ gt (sortL ky xs) j = x := fun x hx => by
    obtain ⟨j, hj, e⟩ := List.getElem_of_mem hx
    exact ⟨j, by omega, gt_at (by rw [List.getElem?_eq_getElem hj, e])⟩
  refine srt_uniq (ky := ky) h3 (by rw [hlen]; exact hs) ⟨by rw [h1]; exact hlen, fun i hi => ?_, fun i _ hi => ?_, fun i _ hi => ?_⟩
  · have hi' : xs.length ≤ i := by rw [h1] at hi; omega
    rw [gt, gt, List.getD, List.getD, List.getElem?_eq_none (by omega), List.getElem?_eq_none (by omega)]
  · obtain ⟨j, _, j2, j3⟩ := hm.to i (by omega) (by omega)
    obtain ⟨p, p1, p2⟩ := idx2 (gt xs j) ((h2 _).2 (List.mem_of_getElem? (at_gt j2)))
    exact ⟨p, by omega, by omega, by rw [j3, p2]⟩
  · have hx : gt (sortL ky xs) i ∈ xs := (h2 _).1 (List.mem_of_getElem? (at_gt hi))
    obtain ⟨j, j1, j2⟩ := idx _ hx
    obtain ⟨p, _, p2, p3⟩ := hm.back j (by omega) j1
    exact ⟨p, by omega, by omega, by rw [← j2, p3]⟩
end Go.Proofs.Ytoklogldehikeaa
