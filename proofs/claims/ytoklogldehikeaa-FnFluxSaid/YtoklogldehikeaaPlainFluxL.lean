/- Plain laws on brightness: brighter magnitudes have more flux; magnitudes are found again. Nothing of the program is named here. -/
import Derived.Test.YtoklogldehikeaaPlainFlux
namespace Go.Proofs.Ytoklogldehikeaa
set_option linter.unusedVariables false
set_option linter.unusedSimpArgs false
set_option maxRecDepth 100000 in
theorem flux_all : (List.range 1000).all (fun n => decide (fluxI ((n : Int) + 1 - 200) < fluxI ((n : Int) - 200))) = true := by decide +kernel
theorem flux_next {n : Nat} (h : n < 1000) : fluxI ((n : Int) + 1 - 200) < fluxI ((n : Int) - 200) := by
  have := List.all_eq_true.1 flux_all n (List.mem_range.2 h)
  exact of_decide_eq_true this
theorem flux_anti {i : Nat} : ∀ {j : Nat}, i < j → j ≤ 1000 → fluxI ((j : Int) - 200) < fluxI ((i : Int) - 200)
  | 0, h, _ => by omega
  | j + 1, h, hj => by
    have h1 := flux_next (n := j) (by omega)
    rw [show ((j + 1 : Nat) : Int) - 200 = (j : Int) + 1 - 200 by omega]
    by_cases e : i = j
    · subst e; exact h1
    · have := flux_anti (i := i) (j := j) (by omega) (by omega)
      omega
theorem magFrom_le {i : Nat} {f : Int} : ∀ {N : Nat}, (∀ n, i < n → n < N → fluxI ((n : Int) - 200) < f) → magFrom N f ≤ (i : Int) - 200
  | 0, _ => by rw [magFrom]; omega
  | N + 1, h => by
    rw [magFrom]
    by_cases hf : f ≤ fluxI ((N : Int) - 200)
    · rw [if_pos hf]
      by_cases hi : i < N
      · have := h N hi (by omega); omega
      · omega
    · rw [if_neg hf]; exact magFrom_le fun n h1 h2 => h n h1 (by omega)
theorem magFrom_ge {i : Nat} {f : Int} (hf : f ≤ fluxI ((i : Int) - 200)) : ∀ {N : Nat}, i < N → (i : Int) - 200 ≤ magFrom N f
  | 0, h => by omega
  | N + 1, h => by
    rw [magFrom]
    by_cases h2 : f ≤ fluxI ((N : Int) - 200)
    · rw [if_pos h2]; omega
    · rw [if_neg h2]
      by_cases e : i = N
      · subst e; exact absurd hf h2
      · exact magFrom_ge hf (by omega)
theorem mag_back {i : Nat} (h : i ≤ 1000) : magFrom 1001 (fluxI ((i : Int) - 200)) = (i : Int) - 200 := by
  have h1 := magFrom_le (i := i) (f := fluxI ((i : Int) - 200)) (N := 1001) fun n h1 h2 => flux_anti h1 (by omega)
  have h2 := magFrom_ge (i := i) (f := fluxI ((i : Int) - 200)) (Int.le_refl _) (N := 1001) (by omega)
  omega
/-- all stars together are not fainter than one of them -/
theorem mag_most {i : Nat} {f : Int} (h : fluxI ((i : Int) - 200) ≤ f) : magFrom 1001 f ≤ (i : Int) - 200 :=
  magFrom_le fun n h1 h2 => by have := flux_anti h1 (show n ≤ 1000 by omega); omega
theorem flux_ok {m : Int} (h0 : -200 ≤ m) (h1 : m ≤ 800) : 1000 ≤ fluxI m ∧ fluxI m ≤ 200000000 := by
  have hb := fluxAt_bd (800 - m) (by omega) (by omega)
  exact fluxUp_ten _ _ (by omega) hb.1 hb.2
theorem magO_back {i : Nat} (h : i ≤ 1000) : magO (fluxI ((i : Int) - 200)) = ((i : Int) - 200, 0) := by
  have hb := flux_ok (m := (i : Int) - 200) (by omega) (by omega)
  rw [magO_yes (by simp [inB]; omega), magT, mag_back h, if_neg (by omega)]
theorem magT_code (f : Int) : (magT f).2 = 0 ∨ (magT f).2 = 6 := by
  unfold magT; split <;> simp
theorem magT_most {i : Nat} {f : Int} (h : fluxI ((i : Int) - 200) ≤ f) (h0 : (magT f).2 = 0) : (magT f).1 ≤ (i : Int) - 200 := by
  have := mag_most h
  unfold magT at h0 ⊢
  split at h0
  · cases h0
  · rw [if_neg (by assumption)]; exact this
end Go.Proofs.Ytoklogldehikeaa
