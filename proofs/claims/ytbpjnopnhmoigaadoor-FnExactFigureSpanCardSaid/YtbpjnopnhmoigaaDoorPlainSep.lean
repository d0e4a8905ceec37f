/- Plain functions on the angle between two vectors. Nothing of the program is named here. -/
import Derived.Test.YtbpjnopnhmoigaaDoorPlainVec
import Derived.Test.YtbpjnopnhmoigaaDoorPlainRoot
namespace Go.Proofs.YtbpjnopnhmoigaaDoor
set_option linter.unusedVariables false
set_option linter.unusedSimpArgs false
/-- a vector -/
structure V3 where
  x : Int
  y : Int
  z : Int
/-- its parts are at most one -/
def V3.sm (v : V3) : Prop := (-1000000 ≤ v.x ∧ v.x ≤ 1000000) ∧ (-1000000 ≤ v.y ∧ v.y ≤ 1000000) ∧ (-1000000 ≤ v.z ∧ v.z ≤ 1000000)
/-- its parts are at most two -/
def V3.md (v : V3) : Prop := (-2000000 ≤ v.x ∧ v.x ≤ 2000000) ∧ (-2000000 ≤ v.y ∧ v.y ≤ 2000000) ∧ (-2000000 ≤ v.z ∧ v.z ≤ 2000000)
def crV (a b : V3) : V3 := ⟨rnd (a.y * b.z - a.z * b.y) 1000000, rnd (a.z * b.x - a.x * b.z) 1000000, rnd (a.x * b.y - a.y * b.x) 1000000⟩
def sqV (v : V3) : Int := v.x * v.x + v.y * v.y + v.z * v.z
def lenV (v : V3) : Int := rootI (sqV v)
def dotV (a b : V3) : Int := rnd (a.x * b.x + a.y * b.y + a.z * b.z) 1000000
def zeroV (v : V3) : Bool := (v.x == 0) && ((v.y == 0) && (v.z == 0))
def sepOk (a b : V3) : Bool := !(zeroV a || (zeroV b || ((lenV (crV a b) == 0) && (dotV a b == 0))))
/-- the angle between two vectors; 0 if there is none -/
def sepI (a b : V3) : Int := if sepOk a b then arcI (lenV (crV a b)) (dotV a b) else 0
def dirV (l b : Int) : V3 := ⟨dirX l b, dirY l b, dirZ b⟩
theorem dirV_sm (l b : Int) : (dirV l b).sm := ⟨dirX_bd l b, dirY_bd l b, dirZ_bd b⟩
theorem V3.sm.md {v : V3} (h : v.sm) : v.md := by
  obtain ⟨⟨h1, h2⟩, ⟨h3, h4⟩, h5, h6⟩ := h
  exact ⟨⟨by omega, by omega⟩, ⟨by omega, by omega⟩, by omega, by omega⟩
theorem rnd_minus (a b : Int) (hb : 0 < b) : rnd (-a) b = -(rnd a b) := by
  rcases Int.lt_trichotomy a 0 with h | h | h
  · rw [rnd_neg a b h hb, Int.neg_neg]
  · subst h
    have : rnd 0 b = 0 := by rw [rnd, if_pos (by omega)]; exact Int.ediv_eq_zero_of_lt (by omega) (by omega)
    rw [Int.neg_zero, this]; rfl
  · rw [rnd_neg (-a) b (by omega) hb, Int.neg_neg]
theorem crV_swap (a b : V3) : crV b a = ⟨-(crV a b).x, -(crV a b).y, -(crV a b).z⟩ := by
  have e (p q r s : Int) : p * q - r * s = -(s * r - q * p) := by rw [Int.mul_comm p q, Int.mul_comm r s]; omega
  unfold crV
  simp only
  rw [e b.y a.z b.z a.y, e b.z a.x b.x a.z, e b.x a.y b.y a.x, rnd_minus _ _ (by omega), rnd_minus _ _ (by omega), rnd_minus _ _ (by omega)]
theorem lenV_swap (a b : V3) : lenV (crV b a) = lenV (crV a b) := by
  rw [crV_swap a b]; simp only [lenV, sqV, Int.neg_mul_neg]
theorem dotV_swap (a b : V3) : dotV b a = dotV a b := by
  unfold dotV; rw [Int.mul_comm b.x, Int.mul_comm b.y, Int.mul_comm b.z]
theorem sepOk_swap (a b : V3) : sepOk b a = sepOk a b := by
  unfold sepOk; rw [lenV_swap, dotV_swap]; cases zeroV a <;> cases zeroV b <;> rfl
theorem sepI_swap (a b : V3) : sepI b a = sepI a b := by unfold sepI; rw [sepOk_swap, lenV_swap, dotV_swap]
theorem crV_md {a b : V3} (ha : a.sm) (hb : b.sm) : (crV a b).md := by
  obtain ⟨a1, a2, a3⟩ := ha
  obtain ⟨b1, b2, b3⟩ := hb
  have p1 := unit_prod _ _ a2 b3
  have p2 := unit_prod _ _ a3 b2
  have p3 := unit_prod _ _ a3 b1
  have p4 := unit_prod _ _ a1 b3
  have p5 := unit_prod _ _ a1 b2
  have p6 := unit_prod _ _ a2 b1
  exact ⟨rnd_two _ (by omega), rnd_two _ (by omega), rnd_two _ (by omega)⟩
theorem sq_bd (x : Int) (h : -2000000 ≤ x ∧ x ≤ 2000000) : 0 ≤ x * x ∧ x * x ≤ 4000000000000 := by
  rcases Int.le_total 0 x with h0 | h0
  · have := mul_small x x 2000000 2000000 h ⟨h0, h.2⟩
    have := Int.mul_nonneg h0 h0; omega
  · have e : x * x = -x * -x := by rw [Int.neg_mul_neg]
    have := mul_small (-x) (-x) 2000000 2000000 ⟨by omega, by omega⟩ ⟨by omega, by omega⟩
    have := Int.mul_nonneg (show 0 ≤ -x by omega) (show 0 ≤ -x by omega)
    rw [e]; omega
theorem sqV_bd {v : V3} (h : v.md) : 0 ≤ sqV v ∧ sqV v ≤ 12000000000000 := by
  obtain ⟨h1, h2, h3⟩ := h
  have := sq_bd _ h1
  have := sq_bd _ h2
  have := sq_bd _ h3
  unfold sqV; omega
theorem lenV_bd {v : V3} (h : v.md) : 0 ≤ lenV v ∧ lenV v ≤ 4000000 := by
  have := sqV_bd h
  exact ⟨rootI_nonneg _, rootI_le _ 4000000 (by have e : ((4000000 : Nat) : Int) = 4000000 := rfl; rw [e]; omega)⟩
theorem dotV_bd {a b : V3} (ha : a.sm) (hb : b.sm) : -3000000 ≤ dotV a b ∧ dotV a b ≤ 3000000 := by
  obtain ⟨a1, a2, a3⟩ := ha
  obtain ⟨b1, b2, b3⟩ := hb
  have p1 := unit_prod _ _ a1 b1
  have p2 := unit_prod _ _ a2 b2
  have p3 := unit_prod _ _ a3 b3
  exact rnd_between _ _ _ _ (by omega) (by omega) (by omega)
/-- what Separation answers -/
def sepO (a b : V3) : Int × Int := if sepOk a b then (arcI (lenV (crV a b)) (dotV a b), 0) else (0, 6)
theorem sepO_fst (a b : V3) : (sepO a b).1 = sepI a b := by unfold sepO sepI; split <;> rfl
theorem sepI_bd (a b : V3) : 0 ≤ sepI a b ∧ sepI a b < 360000 := by
  unfold sepI; split
  · exact arcI_bd _ _
  · omega
/-- the arc behind a separation -/
theorem arcO_sep {a b : V3} (ha : a.sm) (hb : b.sm) (h1 : zeroV a = false) (h2 : zeroV b = false) : arcO (lenV (crV a b)) (dotV a b) = sepO a b := by
  have l := lenV_bd (crV_md ha hb)
  have d := dotV_bd ha hb
  have i1 : inB (dotV a b) (-1000000000000) 1000000000000 = true := (inB_iff _ _ _).2 (by omega)
  have i2 : inB (lenV (crV a b)) (-1000000000000) 1000000000000 = true := (inB_iff _ _ _).2 (by omega)
  unfold arcO sepO sepOk
  rw [h1, h2, i1, i2]
  cases lenV (crV a b) == 0 <;> cases dotV a b == 0 <;> rfl
theorem sepO_zero {a b : V3} (h : zeroV a = true ∨ zeroV b = true) : sepO a b = (0, 6) := by
  unfold sepO sepOk
  rcases h with h | h
  · rw [h]; rfl
  · rw [h]; cases zeroV a <;> rfl
end Go.Proofs.YtbpjnopnhmoigaaDoor
