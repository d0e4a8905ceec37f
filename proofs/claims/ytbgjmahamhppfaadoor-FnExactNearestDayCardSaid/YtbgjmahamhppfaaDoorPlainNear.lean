/- Plain functions on the motion of planets in the sky. Nothing of the program is named here. -/
import Derived.Test.YtbgjmahamhppfaaDoorPlainPlan
namespace Go.Proofs.YtbgjmahamhppfaaDoor
set_option linter.unusedVariables false
set_option linter.unusedSimpArgs false
/-- the angle at which P is seen from Q -/
def sawI (P Q : PlB) (d m : Int) : Int := arcI (wyY P Q d m) (wyX P Q d m)
theorem sawI_bd (P Q : PlB) (d m : Int) : 0 ≤ sawI P Q d m ∧ sawI P Q d m ≤ 360000 := by
  have := arcI_bd (wyY P Q d m) (wyX P Q d m)
  unfold sawI; omega
def retI (P Q : PlB) (d m : Int) : Bool := wyC P Q d m == 0 && (wyC P Q (d + 1) m == 0 && decide (sgnI (sawI P Q d m) (sawI P Q (d + 1) m) < 0))
theorem retI_no1 {P Q : PlB} {d m : Int} (h : ¬ wyC P Q d m = 0) : retI P Q d m = false := by simp [retI, h]
theorem retI_no2 {P Q : PlB} {d m : Int} (h : ¬ wyC P Q (d + 1) m = 0) : retI P Q d m = false := by simp [retI, h]
theorem retI_ok {P Q : PlB} {d m : Int} (h1 : wyC P Q d m = 0) (h2 : wyC P Q (d + 1) m = 0) : retI P Q d m = decide (sgnI (sawI P Q d m) (sawI P Q (d + 1) m) < 0) := by simp [retI, h1, h2]
theorem seenO_pair (P Q : PlB) (d m : Int) : (wyC P Q d m = 0 ∧ (seenO P Q d m).1 = sawI P Q d m ∧ (seenO P Q d m).2 = 0) ∨ (¬ wyC P Q d m = 0 ∧ (seenO P Q d m).1 = 0 ∧ (seenO P Q d m).2 = wyC P Q d m) := by
  by_cases h : wyC P Q d m = 0
  · have e := seenO_ok h
    exact .inl ⟨h, by rw [e]; rfl, by rw [e]⟩
  · have e := seenO_no h
    exact .inr ⟨h, by rw [e], by rw [e]⟩
theorem wyC_moment {P Q : PlB} {d m : Int} (h : wyC P Q d m = 0) : vMoment d m = true := by
  rcases wyC_cases P Q d m with ⟨hk, hv⟩ | ⟨hk, hv, hz⟩ | ⟨hk, hv, hz⟩
  · omega
  · omega
  · exact (wyV_parts hv).2.2
theorem wyC_yes {P Q : PlB} {d m : Int} (h : wyC P Q d m = 0) : wyV P Q d m = true := by
  rcases wyC_cases P Q d m with ⟨hk, hv⟩ | ⟨hk, hv, hz⟩ | ⟨hk, hv, hz⟩
  · omega
  · omega
  · exact hv
theorem vMoment_last {m : Int} : vMoment 100000 m = false := by
  have : inB 100000 0 99999 = false := by decide
  simp [vMoment, this]
theorem wyC_last (P Q : PlB) (m : Int) : wyC P Q 100000 m = 1 := wyC_no (by simp [wyV, vMoment_last])
/-- one day looked at: the best day so far, and how far apart the two stood there -/
def ndBoth (P Q F : PlB) (d m : Int) : Bool := wyC P F d m == 0 && wyC Q F d m == 0
def ndGap (P Q F : PlB) (d m : Int) : Int := betI (sawI P F d m) (sawI Q F d m)
def ndRun (P Q F : PlB) (d m : Int) : Nat → Int × Int
  | 0 => (-1, 0)
  | k + 1 => if ndBoth P Q F (d + k) m && (decide ((ndRun P Q F d m k).1 < 0) || decide (ndGap P Q F (d + k) m < (ndRun P Q F d m k).2)) then ((k : Int), ndGap P Q F (d + k) m) else ndRun P Q F d m k
theorem ndRun_skip {P Q F : PlB} {d m : Int} {k : Nat} (h : ndBoth P Q F (d + k) m = false) : ndRun P Q F d m (k + 1) = ndRun P Q F d m k := by
  rw [ndRun, h]; rfl
theorem ndRun_take {P Q F : PlB} {d m : Int} {k : Nat} (h : ndBoth P Q F (d + k) m = true) (h2 : (ndRun P Q F d m k).1 < 0 ∨ ndGap P Q F (d + k) m < (ndRun P Q F d m k).2) : ndRun P Q F d m (k + 1) = ((k : Int), ndGap P Q F (d + k) m) := by
  rw [ndRun, h, if_pos (by simpa using h2)]
theorem ndRun_keep {P Q F : PlB} {d m : Int} {k : Nat} (h2 : ¬ (ndRun P Q F d m k).1 < 0) (h3 : ¬ ndGap P Q F (d + k) m < (ndRun P Q F d m k).2) : ndRun P Q F d m (k + 1) = ndRun P Q F d m k := by
  rw [ndRun, if_neg (by simp; intro _; omega)]
theorem ndRun_bd (P Q F : PlB) (d m : Int) (k : Nat) : -1 ≤ (ndRun P Q F d m k).1 ∧ (ndRun P Q F d m k).1 ≤ k := by
  induction k with
  | zero => exact ⟨by rw [ndRun]; omega, by rw [ndRun]; omega⟩
  | succ k ih =>
    rw [ndRun]
    split
    · show -1 ≤ (k : Int) ∧ (k : Int) ≤ _; omega
    · omega
def ndV (P Q F : PlB) (d m : Int) : Bool := vP P && (vP Q && (vP F && vMoment d m))
def ndR (d n : Int) : Bool := inB n 0 1000 && decide (d + n ≤ 99999)
def ndEnd (b : Int × Int) : Int × Int × Int := if b.1 < 0 then (0, 0, 3) else (b.1, b.2, 0)
def ndO (P Q F : PlB) (d m n : Int) : Int × Int × Int := if ndV P Q F d m then (if ndR d n then ndEnd (ndRun P Q F d m (n.toNat + 1)) else (0, 0, 2)) else (0, 0, 1)
theorem ndO_no {P Q F : PlB} {d m n : Int} (h : ndV P Q F d m = false) : ndO P Q F d m n = (0, 0, 1) := by rw [ndO, h]; rfl
theorem ndO_range {P Q F : PlB} {d m n : Int} (h : ndV P Q F d m = true) (h2 : ndR d n = false) : ndO P Q F d m n = (0, 0, 2) := by rw [ndO, h, h2]; rfl
theorem ndO_ok {P Q F : PlB} {d m n : Int} (h : ndV P Q F d m = true) (h2 : ndR d n = true) : ndO P Q F d m n = ndEnd (ndRun P Q F d m (n.toNat + 1)) := by rw [ndO, h, h2]; rfl
theorem ndEnd_no {b : Int × Int} (h : b.1 < 0) : ndEnd b = (0, 0, 3) := by rw [ndEnd, if_pos h]
theorem ndEnd_ok {b : Int × Int} (h : ¬ b.1 < 0) : ndEnd b = (b.1, b.2, 0) := by rw [ndEnd, if_neg h]
end Go.Proofs.YtbgjmahamhppfaaDoor
