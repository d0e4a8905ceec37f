/- The square root of an integer, rounded down. Nothing of the program is named here. -/
namespace Go.Proofs.YtbpjnopnhmoigaaDoor
set_option linter.unusedVariables false
set_option linter.unusedSimpArgs false
def rootU : Nat → Nat
  | 0 => 0
  | n + 1 => if (rootU n + 1) * (rootU n + 1) ≤ n + 1 then rootU n + 1 else rootU n
theorem rootU_spec (n : Nat) : rootU n * rootU n ≤ n ∧ n < (rootU n + 1) * (rootU n + 1) := by
  induction n with
  | zero => exact ⟨Nat.le_refl _, by show 0 < (0 + 1) * (0 + 1); omega⟩
  | succ n ih =>
    unfold rootU
    generalize rootU n = r at *
    split
    · rename_i h
      refine ⟨h, ?_⟩
      have : (r + 1 + 1) * (r + 1 + 1) = (r + 1) * (r + 1) + 2 * r + 3 := by simp only [Nat.add_mul, Nat.mul_add]; omega
      omega
    · exact ⟨by omega, by omega⟩
/-- the greatest number whose square is at most n; 0 if n is negative -/
def rootI (n : Int) : Int := rootU n.toNat
theorem rootI_neg {n : Int} (h : n ≤ 0) : rootI n = 0 := by
  have : n.toNat = 0 := by omega
  rw [rootI, this]; rfl
theorem rootI_nonneg (n : Int) : 0 ≤ rootI n := Int.natCast_nonneg _
theorem sq_lt_sq {a b : Nat} (h : a * a < b * b) : a < b := by
  by_cases hc : b ≤ a
  · have := Nat.mul_le_mul hc hc; omega
  · omega
theorem rootI_spec (n : Int) (h : 0 ≤ n) : rootI n * rootI n ≤ n ∧ n < (rootI n + 1) * (rootI n + 1) := by
  obtain ⟨k, rfl⟩ : ∃ k : Nat, n = k := ⟨n.toNat, by omega⟩
  have := rootU_spec k
  rw [rootI, Int.toNat_natCast]
  constructor
  · exact_mod_cast this.1
  · exact_mod_cast this.2
theorem rootI_unique (n : Int) (r : Nat) (h1 : (r : Int) * r ≤ n) (h2 : n < ((r : Int) + 1) * ((r : Int) + 1)) : rootI n = r := by
  have h0 : 0 ≤ n := by have : 0 ≤ (r : Int) * r := Int.mul_nonneg (by omega) (by omega); omega
  obtain ⟨k, rfl⟩ : ∃ k : Nat, n = k := ⟨n.toNat, by omega⟩
  have hs := rootU_spec k
  rw [rootI, Int.toNat_natCast]
  have a1 : r * r ≤ k := by exact_mod_cast h1
  have a2 : k < (r + 1) * (r + 1) := by exact_mod_cast h2
  have b1 : r < rootU k + 1 := sq_lt_sq (by omega)
  have b2 : rootU k < r + 1 := sq_lt_sq (by omega)
  have : rootU k = r := by omega
  rw [this]
theorem rootI_le (n : Int) (c : Nat) (h : n < ((c : Int) + 1) * ((c : Int) + 1)) : rootI n ≤ c := by
  by_cases h0 : 0 ≤ n
  · have hs := rootI_spec n h0
    have h1 := rootI_nonneg n
    obtain ⟨r, hr⟩ : ∃ r : Nat, rootI n = r := ⟨(rootI n).toNat, by omega⟩
    rw [hr] at hs ⊢
    have : r * r < (c + 1) * (c + 1) := by
      have : (r : Int) * r < ((c : Int) + 1) * ((c : Int) + 1) := by omega
      exact_mod_cast this
    have := sq_lt_sq this
    omega
  · rw [rootI_neg (by omega)]; omega
/-- squares up to the greatest root that a number of 64 bits has -/
theorem sq_small (r : Nat) (h : r ≤ 3037000499) : 0 ≤ (r : Int) * r ∧ (r : Int) * r ≤ 9223372030926249001 := by
  have h1 : r * r ≤ 3037000499 * 3037000499 := Nat.mul_le_mul h h
  have h2 : (r : Int) * r = ((r * r : Nat) : Int) := by rw [Int.natCast_mul]
  rw [h2]; omega
end Go.Proofs.YtbpjnopnhmoigaaDoor
