/- The law of the risings in plain Lean. -/
import Derived.Test.YtbpjnopnhmoigaaDoorGrpPure
import Derived.Test.YtbpjnopnhmoigaaDoorPlainVst
namespace Go.Proofs.YtbpjnopnhmoigaaDoor
set_option linter.unusedVariables false
set_option linter.unusedSimpArgs false
theorem rise_codes (n : List UInt8) (lo la r d : Int) : (riseO n lo la r d (-1)).2 = (riseO n lo la r d 1).2 := by
  unfold riseO
  split
  · split
    · split <;> rfl
    · rfl
  · rfl
theorem settO_ok {n : List UInt8} {lo la d : Int} (h : (settO n lo la d).2 = 0) : inB d (-90000) 90000 = true ∧ dnP la d 0 = false ∧ dnP la d 180000 = true ∧ settO n lo la d = (bsI (dnP la d) 0 180000, 0) := by
  unfold settO at h ⊢
  split at h
  · next h1 =>
    split at h
    · next h2 =>
      split at h
      · simp at h
      · next h3 =>
        rw [h1, h2]
        simp only [if_true]
        rw [if_neg h3]
        simp only [Bool.or_eq_true, Bool.not_eq_true', not_or, Bool.not_eq_true, Bool.not_eq_false] at h3
        exact ⟨by trivial, h3.1, h3.2, by first | rfl | trivial⟩
    · simp at h
  · simp at h
theorem vSite_lat {n : List UInt8} {lo la : Int} (h : vSite n lo la = true) : -90000 ≤ la ∧ la ≤ 90000 := by
  simp [vSite, inB] at h; omega
theorem rise_ok {n : List UInt8} {lo la r d : Int} (h : (riseO n lo la r d (-1)).2 = 0) : ∃ hh : Int, vSite n lo la = true ∧ (0 ≤ r ∧ r ≤ 359999) ∧ inB d (-90000) 90000 = true ∧ settO n lo la d = (hh, 0) ∧ riseO n lo la r d (-1) = (nrm (r + (-1) * hh), 0) ∧ riseO n lo la r d 1 = (nrm (r + 1 * hh), 0) ∧ 1 ≤ hh ∧ hh ≤ 180000 ∧ (∀ u, absI u < hh → 0 < hvZ la (nrm (r + u)) r d) := by
  cases h1 : vSite n lo la with
  | false => rw [riseO_site h1] at h; simp at h
  | true =>
    cases h2 : vDir r d with
    | false => rw [riseO_range h1 h2] at h; simp at h
    | true =>
      have h3 : (settO n lo la d).2 = 0 := by
        unfold riseO at h
        rw [h1, h2] at h
        simp only [if_true] at h
        split at h
        · next h3 => simpa using h3
        · exact h
      obtain ⟨hd, hd0, hd1, he⟩ := settO_ok h3
      have hr : 0 ≤ r ∧ r ≤ 359999 := by
        simp [vDir, inB] at h2; omega
      have hd2 : -90000 ≤ d ∧ d ≤ 90000 := by rw [inB_iff] at hd; exact hd
      have hla := vSite_lat h1
      obtain ⟨p1, p2⟩ := set_pos hd0 hd1
      exact ⟨_, rfl, hr, hd, he, riseO_yes h1 h2 he, riseO_yes h1 h2 he, p1, p2, fun u hu => up_before hla hd2 hd0 hd1 hu⟩
theorem latI_le (v : V3) : latI v ≤ 90000 := by
  unfold latI
  have := arcI_bd v.z (flatI v)
  split
  · next h => unfold latR at *; omega
  · next h => omega
theorem vst_nil {l : List Sta} {tn : List UInt8} {lo la s least : Int} (h : (vstO l tn lo la s least).2 ≠ 0) : (vstO l tn lo la s least).1 = [] := by
  unfold vstO at h ⊢
  split
  · next h1 =>
    rw [if_pos h1] at h
    split
    · next h2 =>
      rw [if_pos h2] at h
      split
      · next h3 => rw [if_pos h3] at h; exact absurd rfl h
      · rfl
    · rfl
  · rfl
theorem vst_seen {l : List Sta} {tn : List UInt8} {lo la s least : Int} (h : (vstO l tn lo la s least).2 = 0) {k : Nat} {x : Int} (hx : (vstO l tn lo la s least).1[k]? = some x) :
    ∃ (i : Nat) (st : Sta), x = (i : Int) ∧ l[i]? = some st ∧ (∃ lon, horO tn lo la s st.ri st.de = (lon, altAt l la s x, 0)) ∧ least ≤ altAt l la s x ∧ altAt l la s x ≤ 90000 ∧ (∀ y, (vstO l tn lo la s least).1[k + 1]? = some y → altAt l la s y ≤ altAt l la s x) ∧ (∀ j y, j < k → (vstO l tn lo la s least).1[j]? = some y → y ≠ x) := by
  cases h1 : vSite tn lo la with
  | false => rw [vstO_site h1] at h; simp at h
  | true =>
    cases h2 : okTo l l.length with
    | false => rw [vstO_bad h2] at h; simp at h
    | true =>
      cases h3 : inB s 0 359999 with
      | false => rw [vstO_turn h1 h2 (.inl h3)] at h; simp at h
      | true =>
        cases h4 : inB least (-90000) 90000 with
        | false => rw [vstO_turn h1 h2 (.inr h4)] at h; simp at h
        | true =>
          by_cases h5 : l.length ≤ 24
          · rw [vstO_yes h1 h2 h3 h4 h5] at hx ⊢
            simp only at hx ⊢
            obtain ⟨_, hm, hsrt⟩ := vstK_all l la s least l.length
            obtain ⟨x0, x1, x2⟩ := skyL_mem ((hm x).1 (List.mem_of_getElem? hx))
            have hk : k < (vstK l la s least l.length).length := (List.getElem?_eq_some_iff.1 hx).1
            obtain ⟨i, rfl⟩ : ∃ i : Nat, x = i := ⟨x.toNat, by omega⟩
            obtain ⟨st, hst⟩ := at_lt (l := l) (k := i) (by omega)
            have hok := okTo_at h2 hst
            have ha : altAt l la s (i : Int) = altI la s st := altAt_at hst
            have hask : askI tn lo la s st.ri st.de = 0 := by
              have := ok_dir hok
              unfold askI
              rw [h1, h3]
              simp only [if_true, Bool.true_and]
              rw [if_pos]
              simp [inB]; omega
            refine ⟨i, st, rfl, hst, ⟨_, (horO_alt hask).trans (by rw [ha]; rfl)⟩, x2, by rw [ha]; exact latI_le _, fun y hy => ?_, fun j y hj hy => ?_⟩
            · have hk2 : k + 1 < (vstK l la s least l.length).length := (List.getElem?_eq_some_iff.1 hy).1
              have := hsrt k (k + 1) (by omega) (by omega) hk2
              rw [gt_at hx, gt_at hy] at this
              unfold lx negK at this
              omega
            · have := hsrt j k (by omega) hj hk
              rw [gt_at hx, gt_at hy] at this
              intro e
              rw [e] at this
              exact lx_irrefl this
          · rw [vstO_full h1 h2 h3 h4 h5] at h; simp at h
end Go.Proofs.YtbpjnopnhmoigaaDoor
