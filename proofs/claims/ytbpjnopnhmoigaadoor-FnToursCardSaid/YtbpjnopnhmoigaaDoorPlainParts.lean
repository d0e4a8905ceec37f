/- Plain laws on the parts of a figure. Nothing of the program is named here. -/
import Derived.Test.YtbpjnopnhmoigaaDoorGrpList
import Derived.Test.YtbpjnopnhmoigaaDoorHas
namespace Go.Proofs.YtbpjnopnhmoigaaDoor
set_option linter.unusedVariables false
set_option linter.unusedSimpArgs false
/-- one part joined to another -/
def joinF (old own x : Int) : Int := if x = old then own else x
def mapK (f : Int → Int) (l : List Int) (k : Nat) : List Int := (l.take k).map f ++ l.drop k
theorem mapK_zero (f : Int → Int) (l : List Int) : mapK f l 0 = l := by simp [mapK]
theorem mapK_length (f : Int → Int) (l : List Int) (k : Nat) : (mapK f l k).length = l.length := by
  simp only [mapK, List.length_append, List.length_map, List.length_take, List.length_drop]; omega
theorem mapK_at (f : Int → Int) (l : List Int) (k : Nat) : (mapK f l k)[k]? = l[k]? := by
  by_cases h : k ≤ l.length
  · rw [mapK, List.getElem?_append_right (by simp; omega), List.getElem?_drop]
    congr 1; simp; omega
  · rw [List.getElem?_eq_none (by rw [mapK_length]; omega), List.getElem?_eq_none (by omega)]
theorem mapK_succ {f : Int → Int} {l : List Int} {k : Nat} {x : Int} (h : l[k]? = some x) : mapK f l (k + 1) = (mapK f l k).set k (f x) := by
  have hk : k < l.length := (List.getElem?_eq_some_iff.1 h).1
  have hd : l.drop k = x :: l.drop (k + 1) := by
    rw [List.drop_eq_getElem_cons hk, (List.getElem?_eq_some_iff.1 h).2]
  rw [mapK, mapK, List.take_add_one, h, hd, List.set_append_right _ _ (by simp; omega)]
  simp [Nat.min_eq_left (Nat.le_of_lt hk)]
theorem mapK_same {f : Int → Int} {l : List Int} {k : Nat} {x : Int} (h : l[k]? = some x) (hf : f x = x) : mapK f l (k + 1) = mapK f l k := by
  rw [mapK_succ h, hf]
  apply List.ext_getElem?
  intro i
  by_cases e : k = i
  · subst e
    rw [List.getElem?_set_self (by rw [mapK_length]; exact (List.getElem?_eq_some_iff.1 h).1), mapK_at, h]
  · rw [List.getElem?_set_ne e]
theorem mapK_end {f : Int → Int} {l : List Int} {k : Nat} (h : l.length ≤ k) : mapK f l k = l.map f := by
  rw [mapK, List.take_of_length_le h, List.drop_eq_nil_of_le h, List.append_nil]
def joinP (part line : List Int) : List Int := part.map (joinF (gt part (line.getD 1 0).toNat) (gt part (line.getD 0 0).toNat))
theorem joinP_length (part line : List Int) : (joinP part line).length = part.length := by simp [joinP]
theorem joinP_two (part : List Int) (a b : Nat) : joinP part [(a : Int), (b : Int)] = part.map (joinF (gt part b) (gt part a)) := by simp [joinP]
/-- the parts that the stars belong to behind the lines -/
def partsL (part : List Int) (L : List (List Int)) : List Int := L.foldl joinP part
theorem partsL_length (L : List (List Int)) : ∀ part : List Int, (partsL part L).length = part.length := by
  induction L with
  | nil => intro part; rfl
  | cons x L ih => intro part; show (partsL (joinP part x) L).length = _; rw [ih, joinP_length]
theorem partsL_take {L : List (List Int)} {k : Nat} {x : List Int} (part : List Int) (h : L[k]? = some x) : partsL part (L.take (k + 1)) = joinP (partsL part (L.take k)) x := by
  rw [List.take_add_one, h]; simp [partsL, List.foldl_append]
/-- the kinds that occur, in the order in which they are met -/
def dedI (l : List Int) : List Int := l.foldl (fun o x => if hasI o x then o else o ++ [x]) []
theorem dedI_snoc (l : List Int) (x : Int) : dedI (l ++ [x]) = if hasI (dedI l) x then dedI l else dedI l ++ [x] := by
  rw [dedI, List.foldl_append]; rfl
theorem ded_fold (l : List Int) : ∀ o : List Int, o.Nodup → (l.foldl (fun o x => if hasI o x then o else o ++ [x]) o).Nodup ∧ ∀ x, x ∈ l.foldl (fun o x => if hasI o x then o else o ++ [x]) o ↔ x ∈ l ∨ x ∈ o := by
  induction l with
  | nil => intro o h; exact ⟨h, fun x => by simp⟩
  | cons y l ih =>
    intro o h
    rw [List.foldl_cons]
    by_cases hy : hasI o y = true
    · rw [if_pos hy]
      obtain ⟨a, b⟩ := ih o h
      refine ⟨a, fun x => ?_⟩
      rw [b, List.mem_cons]
      constructor
      · rintro (h1 | h1)
        · exact .inl (.inr h1)
        · exact .inr h1
      · rintro ((h1 | h1) | h1)
        · exact .inr (h1 ▸ hasI_iff.1 hy)
        · exact .inl h1
        · exact .inr h1
    · rw [if_neg hy]
      have hn : y ∉ o := fun hm => hy (hasI_iff.2 hm)
      obtain ⟨a, b⟩ := ih (o ++ [y]) (by
        rw [List.nodup_append]
        exact ⟨h, by simp, fun u hu v hv => by rw [List.mem_singleton] at hv; rw [hv]; exact fun e => hn (e ▸ hu)⟩)
      refine ⟨a, fun x => ?_⟩
      rw [b, List.mem_cons, List.mem_append, List.mem_singleton]
      constructor
      · rintro (h1 | h1 | h1)
        · exact .inl (.inr h1)
        · exact .inr h1
        · exact .inl (.inl h1)
      · rintro ((h1 | h1) | h1)
        · exact .inr (.inr h1)
        · exact .inl h1
        · exact .inr (.inl h1)
theorem dedI_length (l : List Int) : (dedI l).length = (setI l).length := by
  obtain ⟨a, b⟩ := ded_fold l [] .nil
  exact ((List.perm_ext_iff_of_nodup a (rise_nodup (setI_rise l))).2 (fun x => by rw [b, setI_mem]; simp)).length_eq
theorem dedI_le (l : List Int) : (dedI l).length ≤ l.length := by rw [dedI_length]; exact setI_len l
/-- the kinds of the stars that are used -/
def kindsL (part used : List Int) : List Int := used.map fun i => gt part i.toNat
theorem kindsL_take {part used : List Int} {k : Nat} {i : Nat} (h : used[k]? = some (i : Int)) : kindsL part (used.take (k + 1)) = kindsL part (used.take k) ++ [gt part i] := by
  rw [List.take_add_one, h]; simp [kindsL]
/-- what FigureParts answers -/
def partO (nm : ByteArray) (L : List (List Int)) (l : List Sta) (start : List Int) : Int × Int := if vFig nm L l then (((setI (kindsL (partsL start L) (setI (endsL L)))).length : Int), 0) else (0, 1)
theorem partO_no {nm : ByteArray} {L : List (List Int)} {l : List Sta} {s : List Int} (h : vFig nm L l = false) : partO nm L l s = (0, 1) := by simp [partO, h]
theorem partO_yes {nm : ByteArray} {L : List (List Int)} {l : List Sta} {s : List Int} (h : vFig nm L l = true) : partO nm L l s = (((setI (kindsL (partsL s L) (setI (endsL L)))).length : Int), 0) := by simp [partO, h]
end Go.Proofs.YtbpjnopnhmoigaaDoor
