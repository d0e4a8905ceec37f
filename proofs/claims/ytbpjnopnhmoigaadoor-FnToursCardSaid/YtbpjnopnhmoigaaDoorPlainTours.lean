/- The law of the tours in plain Lean: the shortest tour begins with its star, is a tour of the told length, and is not longer than the one by the nearest stars. Nothing of the program is named here. -/
import Derived.Test.YtbpjnopnhmoigaaDoorPlainBest
namespace Go.Proofs.YtbpjnopnhmoigaaDoor
set_option linter.unusedVariables false
set_option linter.unusedSimpArgs false
theorem bst_free {l : List Sta} {ys : List Int} {z : Sta} (k : Nat) (h : 0 ≤ (bstUpto l ys z k).1) : hasI ys (bstUpto l ys z k).1 = false := by
  induction k with
  | zero => simp [bstUpto] at h
  | succ k ih =>
    rw [bstUpto] at h ⊢
    split
    · next x hx =>
      rw [hx] at h
      dsimp only at h
      split
      · next h2 => rw [if_pos h2] at h; exact ih h
      · next h2 =>
        rw [if_neg h2] at h
        split
        · next h3 => simpa using h2
        · next h3 => rw [if_neg h3] at h; exact ih h
    · next hx => rw [hx] at h; exact ih h
theorem ntL_part {l : List Sta} {s : Int} {m : Nat} (h0 : 0 ≤ s ∧ s < l.length) (hm : m < l.length) : Part l s (ntL l s m) := by
  induction m with
  | zero =>
    refine ⟨by simp [ntL], by simp [ntL], fun j i hi => ntL_in h0 hm j i hi, by simp [ntL]⟩
  | succ m ih =>
    have ih := ih (by omega)
    obtain ⟨e, he⟩ := at_lt (l := ntL l s m) (k := m) (by rw [ntL_len]; omega)
    have hb := ih.bd m e he
    obtain ⟨j, rfl⟩ : ∃ j : Nat, e = j := ⟨e.toNat, by omega⟩
    obtain ⟨z, hz⟩ := at_lt (l := l) (k := j) (by omega)
    rw [ntL_succ he hz]
    obtain ⟨q, hq, hq2⟩ := some_free (n := l.length) (ys := ntL l s m) (by rw [ntL_len]; omega)
    have h1 := bst_found l (ntL l s m) z l.length q (Nat.le_refl _) hq hq2
    have h2 := bst_lt l (ntL l s m) z l.length
    have h3 := bst_free (l := l) (ys := ntL l s m) (z := z) l.length h1
    generalize (bstUpto l (ntL l s m) z l.length).1 = r at *
    obtain ⟨r, rfl⟩ : ∃ j : Nat, r = j := ⟨r.toNat, by omega⟩
    exact ih.snoc (by omega) h3
theorem head_split {p : List Int} {s : Int} (h : p[0]? = some s) : ∃ rest, p = s :: rest := by
  cases p with
  | nil => simp at h
  | cons a rest => simp only [List.getElem?_cons_zero, Option.some.injEq] at h; subst h; exact ⟨rest, rfl⟩
theorem tours_near {l : List Sta} {s : Int} (h : (ntO l s).2.2 = 0) : tourO l (ntO l s).1 = ((ntO l s).2.1, 0) ∧ 0 < (ntO l s).1.length ∧ (ntO l s).1[0]? = some s := by
  cases hv : vStars l with
  | false => rw [ntO_no hv] at h; simp at h
  | true =>
    cases hr : inB s 0 ((l.length : Int) - 1) with
    | false => rw [ntO_bad hv hr] at h; simp at h
    | true =>
      rw [ntO_yes hv hr]
      rw [inB_iff] at hr
      have hp := ntL_part (l := l) (s := s) (m := l.length - 1) (by omega) (by omega)
      have hl : (ntL l s (l.length - 1)).length = l.length := by rw [ntL_len]; omega
      refine ⟨?_, hp.pos, hp.head⟩
      rw [tourO_yes hv (hp.tour hl), hl]
theorem tours_no {l : List Sta} {s b : Int} (h : (bestO l s b).2.2 ≠ 0) : (bestO l s b).1 = [] ∧ (bestO l s b).2.1 = 0 := by
  cases hv : vStars l with
  | false => rw [bestO_no hv]; exact ⟨rfl, rfl⟩
  | true =>
    cases hr : inB s 0 ((l.length : Int) - 1) with
    | false => rw [bestO_bad hv (.inl hr)]; exact ⟨rfl, rfl⟩
    | true =>
      cases hb : inB b 1 20000 with
      | false => rw [bestO_bad hv (.inr hb)]; exact ⟨rfl, rfl⟩
      | true =>
        cases he : extB l (l.length - 1) [s] 0 ⟨[], -1, b⟩ with
        | none => rw [bestO_full hv hr hb he]; exact ⟨rfl, rfl⟩
        | some t => rw [bestO_yes hv hr hb he] at h; simp at h
theorem tours_yes {l : List Sta} {s b : Int} (h : (bestO l s b).2.2 = 0) : (ntO l s).2.2 = 0 ∧ tourO l (bestO l s b).1 = ((bestO l s b).2.1, 0) ∧ (bestO l s b).2.1 ≤ (ntO l s).2.1 ∧ 0 < (bestO l s b).1.length ∧ (bestO l s b).1[0]? = some s := by
  cases hv : vStars l with
  | false => rw [bestO_no hv] at h; simp at h
  | true =>
    cases hr : inB s 0 ((l.length : Int) - 1) with
    | false => rw [bestO_bad hv (.inl hr)] at h; simp at h
    | true =>
      cases hb : inB b 1 20000 with
      | false => rw [bestO_bad hv (.inr hb)] at h; simp at h
      | true =>
        cases he : extB l (l.length - 1) [s] 0 ⟨[], -1, b⟩ with
        | none => rw [bestO_full hv hr hb he] at h; simp at h
        | some t =>
          rw [bestO_yes hv hr hb he, ntO_yes hv hr]
          rw [inB_iff] at hr
          have hp0 := ntL_part (l := l) (s := s) (m := 0) (by omega) (by omega)
          have hp := ntL_part (l := l) (s := s) (m := l.length - 1) (by omega) (by omega)
          have hl : (ntL l s (l.length - 1)).length = l.length := by rw [ntL_len]; omega
          obtain ⟨rest, hrest⟩ := head_split hp.head
          have hq : Part l s ([s] ++ rest) := by rw [hrest] at hp; exact hp
          have hlr : rest.length = l.length - 1 := by rw [hrest] at hl; simp at hl; omega
          have h1 := extB_least l s (l.length - 1) [s] 0 ⟨[], -1, b⟩ t rest he hp0 (by simp; omega) (by simp [tourSum]) hq hlr
          have h2 := extB_found l s (l.length - 1) [s] 0 ⟨[], -1, b⟩ t he hp0 (by simp; omega) (by simp [tourSum]) (by intro h; dsimp only at h; omega) h1.1
          refine ⟨rfl, ?_, ?_, ?_, h2.2.1⟩
          · rw [tourO_yes hv h2.1, h2.2.2]
          · rw [hrest]; exact h1.2
          · obtain ⟨r2, e2⟩ := head_split h2.2.1
            show 0 < t.best.length
            rw [e2]; simp
end Go.Proofs.YtbpjnopnhmoigaaDoor
