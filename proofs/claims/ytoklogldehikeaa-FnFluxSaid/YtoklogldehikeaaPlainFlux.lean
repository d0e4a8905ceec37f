/- Plain facts on brightness: the flux of a magnitude. Nothing of the program is named here. -/
import Derived.Test.YtoklogldehikeaaPlain
namespace Go.Proofs.Ytoklogldehikeaa
set_option linter.unusedVariables false
set_option linter.unusedSimpArgs false
/-- the list of steps of brightness -/
def fluxTab : List Int := [1000, 1096, 1202, 1318, 1445, 1585, 1738, 1905, 2089, 2291, 2512]
def fluxUp : Nat → Int → Int
  | 0, f => f
  | n + 1, f => fluxUp n (rnd (2512 * f) 1000)
def fluxAt (n : Int) : Int := fluxTab.getD (n % 100 / 10).toNat 0 + rnd ((fluxTab.getD ((n % 100 / 10).toNat + 1) 0 - fluxTab.getD (n % 100 / 10).toNat 0) * (n % 10)) 10
/-- the flux of a magnitude -/
def fluxI (m : Int) : Int := fluxUp ((800 - m) / 100).toNat (fluxAt (800 - m))

/-- fluxes do not leave the range -/
theorem flux_step (f c : Int) (h1 : 1000 ≤ f) (h2 : f ≤ c) : 1000 ≤ rnd (2512 * f) 1000 ∧ rnd (2512 * f) 1000 ≤ 3 * c := by
  have := rnd_between (2512 * f) 1000 1000 (3 * c) (by omega) (by omega) (by omega)
  exact this
theorem fluxAt_bd (n : Int) (h0 : 0 ≤ n) (h1 : n ≤ 1000) : 1000 ≤ fluxAt n ∧ fluxAt n ≤ 2512 := by
  have hk : n % 100 / 10 = 0 ∨ n % 100 / 10 = 1 ∨ n % 100 / 10 = 2 ∨ n % 100 / 10 = 3 ∨ n % 100 / 10 = 4 ∨ n % 100 / 10 = 5 ∨ n % 100 / 10 = 6 ∨ n % 100 / 10 = 7 ∨ n % 100 / 10 = 8 ∨ n % 100 / 10 = 9 := by omega
  have hd : 0 ≤ n % 10 ∧ n % 10 ≤ 9 := by omega
  unfold fluxAt
  generalize n % 10 = d at *
  rcases hk with h | h | h | h | h | h | h | h | h | h <;> rw [h] <;>
    simp only [fluxTab, List.getD_cons_zero, List.getD_cons_succ, Nat.reduceAdd, Int.reduceSub, Int.reduceToNat, Int.toNat_zero, Int.toNat_one, Nat.zero_add]
  · have := rnd_between (96 * d) 10 0 96 (by omega) (by omega) (by omega); omega
  · have := rnd_between (106 * d) 10 0 106 (by omega) (by omega) (by omega); omega
  · have := rnd_between (116 * d) 10 0 116 (by omega) (by omega) (by omega); omega
  · have := rnd_between (127 * d) 10 0 127 (by omega) (by omega) (by omega); omega
  · have := rnd_between (140 * d) 10 0 140 (by omega) (by omega) (by omega); omega
  · have := rnd_between (153 * d) 10 0 153 (by omega) (by omega) (by omega); omega
  · have := rnd_between (167 * d) 10 0 167 (by omega) (by omega) (by omega); omega
  · have := rnd_between (184 * d) 10 0 184 (by omega) (by omega) (by omega); omega
  · have := rnd_between (202 * d) 10 0 202 (by omega) (by omega) (by omega); omega
  · have := rnd_between (221 * d) 10 0 221 (by omega) (by omega) (by omega); omega
theorem fluxUp_snoc (n : Nat) (f : Int) : fluxUp (n + 1) f = rnd (2512 * fluxUp n f) 1000 := by
  induction n generalizing f with
  | zero => rfl
  | succ n ih => rw [fluxUp, ih]; rfl
theorem fluxUp_bd (n : Nat) (f c : Int) (h1 : 1000 ≤ f) (h2 : f ≤ c) : 1000 ≤ fluxUp n f ∧ fluxUp n f ≤ 3 ^ n * c := by
  induction n with
  | zero => simp [fluxUp]; omega
  | succ n ih =>
    rw [fluxUp_snoc]
    have := flux_step (fluxUp n f) (3 ^ n * c) ih.1 ih.2
    rw [Int.pow_succ, Int.mul_comm (3 ^ n) 3, Int.mul_assoc]
    exact this
theorem fluxUp_ten (n : Nat) (f : Int) (hn : n ≤ 10) (h1 : 1000 ≤ f) (h2 : f ≤ 2512) : 1000 ≤ fluxUp n f ∧ fluxUp n f ≤ 200000000 := by
  have h := fluxUp_bd n f 2512 h1 h2
  have h3 : (3 : Int) ^ n ≤ 3 ^ 10 := by
    have : (3 : Nat) ^ n ≤ 3 ^ 10 := Nat.pow_le_pow_right (by omega) hn
    exact_mod_cast this
  have h4 : (3 : Int) ^ 10 = 59049 := by decide
  omega
theorem fluxTab_cell (k : Nat) (h : k < 11) : ∃ v : Int, fluxTab[k]? = some v ∧ fluxTab.getD k 0 = v := by
  have : k < fluxTab.length := h
  exact ⟨fluxTab[k], List.getElem?_eq_getElem this, by rw [List.getD_eq_getElem?_getD, List.getElem?_eq_getElem this]; rfl⟩
theorem fluxTab_bd (k : Nat) (h : k < 11) : 1000 ≤ fluxTab.getD k 0 ∧ fluxTab.getD k 0 ≤ 2512 := by
  rcases k with _ | _ | _ | _ | _ | _ | _ | _ | _ | _ | _ | k <;> first | (simp [fluxTab]; done) | omega

/-- what FluxOf answers -/
def fluxO (m : Int) : Int × Int := if inB m (-200) 800 then (fluxI m, 0) else (0, 2)
theorem fluxO_yes {m : Int} (h : inB m (-200) 800 = true) : fluxO m = (fluxI m, 0) := by rw [fluxO, if_pos h]
theorem fluxO_no {m : Int} (h : inB m (-200) 800 = false) : fluxO m = (0, 2) := by rw [fluxO, if_neg (by rw [h]; exact Bool.false_ne_true)]
/-- the greatest magnitude below n - 200 whose flux is at least f; -201 if there is none -/
def magFrom : Nat → Int → Int
  | 0, _ => -201
  | n + 1, f => if f ≤ fluxI ((n : Int) - 200) then (n : Int) - 200 else magFrom n f
def magT (f : Int) : Int × Int := if magFrom 1001 f < -200 then (0, 6) else (magFrom 1001 f, 0)
/-- what MagnitudeOf answers -/
def magO (f : Int) : Int × Int := if inB f 1 1000000000000 then magT f else (0, 2)
theorem magO_yes {f : Int} (h : inB f 1 1000000000000 = true) : magO f = magT f := by rw [magO, if_pos h]
theorem magO_no {f : Int} (h : inB f 1 1000000000000 = false) : magO f = (0, 2) := by rw [magO, if_neg (by rw [h]; exact Bool.false_ne_true)]
end Go.Proofs.Ytoklogldehikeaa
