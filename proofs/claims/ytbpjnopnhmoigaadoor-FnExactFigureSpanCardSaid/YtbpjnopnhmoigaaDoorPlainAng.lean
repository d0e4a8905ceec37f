/- Plain functions on angles: the angle of the first turn, sines by the table of whole degrees, angles of directions, square roots. Nothing of the program is named here. -/
import Derived.Test.YtbpjnopnhmoigaaDoorPlain
namespace Go.Proofs.YtbpjnopnhmoigaaDoor
set_option linter.unusedVariables false
set_option linter.unusedSimpArgs false

def sinTab : List Int := [0, 17452, 34899, 52336, 69756, 87156, 104528, 121869, 139173, 156434, 173648, 190809, 207912, 224951, 241922, 258819, 275637, 292372, 309017, 325568, 342020, 358368, 374607, 390731, 406737, 422618, 438371, 453990, 469472, 484810, 500000, 515038, 529919, 544639, 559193, 573576, 587785, 601815, 615661, 629320, 642788, 656059, 669131, 681998, 694658, 707107, 719340, 731354, 743145, 754710, 766044, 777146, 788011, 798636, 809017, 819152, 829038, 838671, 848048, 857167, 866025, 874620, 882948, 891007, 898794, 906308, 913545, 920505, 927184, 933580, 939693, 945519, 951057, 956305, 961262, 965926, 970296, 974370, 978148, 981627, 984808, 987688, 990268, 992546, 994522, 996195, 997564, 998630, 999391, 999848, 1000000]
def sinAt (k : Nat) : Int := sinTab.getD k 0
/-- the sine of an angle from 0 to 90 degrees -/
def sinQ (a : Int) : Int := sinAt (a / 1000).toNat + rnd ((sinAt ((a / 1000).toNat + 1) - sinAt (a / 1000).toNat) * (a % 1000)) 1000
def sinH (a : Int) : Int := if 90000 < a then sinQ (180000 - a) else sinQ a
def nrm (a : Int) : Int := a % 360000
def sinN (n : Int) : Int := if 180000 ≤ n then -(sinH (n - 180000)) else sinH n
/-- the sine of any angle -/
def sinI (a : Int) : Int := sinN (nrm a)
def cosI (a : Int) : Int := sinI (nrm a + 90000)
theorem nrm_bd (a : Int) : 0 ≤ nrm a ∧ nrm a < 360000 := by unfold nrm; omega
theorem nrm_of {a : Int} (h0 : 0 ≤ a) (h1 : a < 360000) : nrm a = a := by unfold nrm; omega
theorem nrm_tmod (a : Int) : nrm a = if a.tmod 360000 < 0 then a.tmod 360000 + 360000 else a.tmod 360000 := by
  unfold nrm
  by_cases h : 0 ≤ a
  · rw [Int.tmod_eq_emod_of_nonneg h, if_neg (by omega)]
  · obtain ⟨c, rfl⟩ : ∃ c, a = -c := ⟨-a, by omega⟩
    rw [Int.neg_tmod, Int.tmod_eq_emod_of_nonneg (by omega)]; split <;> omega
theorem sinTab_all : (List.range 90).all (fun k => decide (sinAt k ≤ sinAt (k + 1)) && decide (sinAt (k + 1) - sinAt k ≤ 17452) && decide (0 ≤ sinAt k) && decide (sinAt (k + 1) ≤ 1000000)) = true := by decide +kernel
theorem sinAt_step (k : Nat) (h : k < 90) : 0 ≤ sinAt k ∧ sinAt k ≤ sinAt (k + 1) ∧ sinAt (k + 1) - sinAt k ≤ 17452 ∧ sinAt (k + 1) ≤ 1000000 := by
  have := List.all_eq_true.1 sinTab_all k (List.mem_range.2 h)
  simp only [Bool.and_eq_true, decide_eq_true_eq] at this
  omega
theorem sinAt_bd (k : Nat) (h : k ≤ 90) : 0 ≤ sinAt k ∧ sinAt k ≤ 1000000 := by
  by_cases h' : k < 90
  · have := sinAt_step k h'; omega
  · obtain rfl : k = 90 := by omega
    have := sinAt_step 89 (by omega)
    have e : sinAt 90 = 1000000 := rfl
    omega
theorem sinQ_step (k : Nat) (r : Int) (h : k < 90) (h0 : 0 ≤ r) (h1 : r ≤ 999) : 0 ≤ rnd ((sinAt (k + 1) - sinAt k) * r) 1000 ∧ rnd ((sinAt (k + 1) - sinAt k) * r) 1000 ≤ sinAt (k + 1) - sinAt k := by
  have hs := sinAt_step k h
  have hd : 0 ≤ sinAt (k + 1) - sinAt k := by omega
  generalize sinAt (k + 1) - sinAt k = d at *
  have m := mul_small d r d 999 (by omega) ⟨h0, h1⟩
  have m0 : 0 ≤ d * r := Int.mul_nonneg (by omega) h0
  exact rnd_between (d * r) 1000 0 d (by omega) (by omega) (by have := m.2; omega)
theorem sinQ_zero (k : Nat) : sinQ (1000 * k) = sinAt k := by
  have e1 : (1000 * (k : Int) / 1000).toNat = k := by omega
  have e2 : 1000 * (k : Int) % 1000 = 0 := by omega
  rw [sinQ, e1, e2, Int.mul_zero]; show sinAt k + 0 = _; omega
theorem sinQ_bd (a : Int) (h0 : 0 ≤ a) (h1 : a ≤ 90000) : 0 ≤ sinQ a ∧ sinQ a ≤ 1000000 := by
  by_cases h : a = 90000
  · subst h; have := sinQ_zero 90; have e : sinAt 90 = 1000000 := rfl; rw [e] at this; have e2 : (1000 * ((90 : Nat) : Int)) = 90000 := rfl; rw [e2] at this; omega
  · have hk : (a / 1000).toNat < 90 := by omega
    have hs := sinQ_step (a / 1000).toNat (a % 1000) hk (by omega) (by omega)
    have hb := sinAt_step (a / 1000).toNat hk
    unfold sinQ
    omega
theorem sinH_bd (a : Int) (h0 : 0 ≤ a) (h1 : a ≤ 180000) : 0 ≤ sinH a ∧ sinH a ≤ 1000000 := by
  unfold sinH; split
  · exact sinQ_bd _ (by omega) (by omega)
  · exact sinQ_bd _ (by omega) (by omega)
theorem sinI_bd (a : Int) : -1000000 ≤ sinI a ∧ sinI a ≤ 1000000 := by
  have := nrm_bd a
  unfold sinI sinN; split
  · have := sinH_bd (nrm a - 180000) (by omega) (by omega); omega
  · have := sinH_bd (nrm a) (by omega) (by omega); omega
theorem cosI_bd (a : Int) : -1000000 ≤ cosI a ∧ cosI a ≤ 1000000 := sinI_bd _
/-- a number on a line through two points -/
def blendI (x0 y0 x1 y1 x : Int) : Int := if x ≤ x0 ∨ x1 ≤ x0 then y0 else if x1 ≤ x then y1 else y0 + rnd ((y1 - y0) * (x - x0)) (x1 - x0)
theorem blend_sin (a : Int) (k : Nat) (h0 : 1000 * (k : Int) ≤ a) (h1 : a < 1000 * ((k : Int) + 1)) : blendI ((k : Int) * 1000) (sinAt k) (((k : Int) + 1) * 1000) (sinAt (k + 1)) a = sinQ a := by
  have e1 : (a / 1000).toNat = k := by omega
  unfold blendI sinQ
  rw [e1]
  by_cases h : a = 1000 * k
  · rw [if_pos (by omega), show a % 1000 = 0 by omega, Int.mul_zero]; show sinAt k = sinAt k + 0; omega
  · rw [if_neg (by omega), if_neg (by omega), show a - (k : Int) * 1000 = a % 1000 by omega, show ((k : Int) + 1) * 1000 - (k : Int) * 1000 = 1000 by omega]
theorem sinTab_getD (k : Nat) : sinTab.getD k 0 = sinAt k := rfl
end Go.Proofs.YtbpjnopnhmoigaaDoor
