/- The float root of a positive integer of 63 bits is a float that reads as an integer from 0 to 2^53. Nothing of the program is named here. -/
import Derived.Laws.FloatArith
import Derived.Laws.Cover2
namespace Go.Proofs.YtpnfhienffekoaaGreatDoor
set_option linter.unusedVariables false
set_option linter.unusedSimpArgs false
open Ieee

theorem cut_le (way : Toward) (s : Bool) (n d : Nat) (h : way = .even ∨ way = .zero) : way.cut s n d ≤ n / 2 ^ d + 1 ∧ (d = 0 → way.cut s n d = n) := by
  have hg : ∀ k, (1 : Nat) <<< k = 2 ^ k := fun k => by rw [Nat.shiftLeft_eq, Nat.one_mul]
  unfold Toward.cut
  simp only [hg]
  refine ⟨?_, ?_⟩
  · have h1 : n / 2 ^ min d (n.log2 + 2) ≤ n / 2 ^ d := by
      by_cases hd : d ≤ n.log2 + 2
      · rw [Nat.min_eq_left hd]; exact Nat.le_refl _
      · have : n < 2 ^ (n.log2 + 2) := Nat.lt_of_lt_of_le (Nat.lt_log2_self (n := n)) (Nat.pow_le_pow_right (by omega) (by omega))
        rw [Nat.min_eq_right (by omega), Nat.div_eq_of_lt this]; exact Nat.zero_le _
    have h2 : ∀ b : Bool, b.toNat ≤ 1 := fun b => by cases b <;> decide
    rcases h with rfl | rfl
    · simp only; have := h2 (decide (2 ^ min d (n.log2 + 2) < 2 * (n % 2 ^ min d (n.log2 + 2))) || (2 ^ min d (n.log2 + 2) == 2 * (n % 2 ^ min d (n.log2 + 2)) && n / 2 ^ min d (n.log2 + 2) % 2 == 1)); omega
    · simp only [Bool.toNat_false]; omega
  · rintro rfl
    simp only [Nat.zero_min, Nat.pow_zero, Nat.div_one, Nat.mod_one]
    rcases h with rfl | rfl <;> simp

/-- the rung of a number whose last place is at most L -/
theorem nearest_le (M : Nat) (p : Int) (L : Int) (hp : p + M.log2 ≤ L + 52) (hL : -1074 ≤ L) : double.nearest false M p ≤ (L + 1074).toNat * 4503599627370496 + 9007199254740992 := by
  unfold Format.nearest
  split
  · exact Nat.zero_le _
  · rename_i h0
    have hlp : double.leastPlace = -1074 := by decide +kernel
    have hb : double.binade = 4503599627370496 := by decide +kernel
    have hf : double.fractionBits = 52 := rfl
    simp only [hlp, hb, hf, Format.word, Bool.false_eq_true, if_false]
    refine Nat.le_trans (Nat.min_le_left _ _) ?_
    have hM : M < 2 ^ (M.log2 + 1) := Nat.lt_log2_self
    generalize hlast : max (p + (M.log2 : Int) - ((52 : Nat) : Int)) (-1074) = last
    have hl1 : last ≤ L := by omega
    have hl2 : -1074 ≤ last := by omega
    have hl3 : p + (M.log2 : Int) - 52 ≤ last := by omega
    have hk : Toward.even.cut false (M <<< (p - last).toNat) (last - p).toNat ≤ 9007199254740992 := by
      by_cases hc : last ≤ p
      · have e : (last - p).toNat = 0 := by omega
        rw [e, (cut_le .even false (M <<< (p - last).toNat) 0 (.inl rfl)).2 rfl, Nat.shiftLeft_eq]
        have h1 : M * 2 ^ (p - last).toNat < 2 ^ (M.log2 + 1) * 2 ^ (p - last).toNat := Nat.mul_lt_mul_of_pos_right hM (Nat.two_pow_pos _)
        have h2 : 2 ^ (M.log2 + 1) * 2 ^ (p - last).toNat ≤ 2 ^ 53 := by rw [← Nat.pow_add]; exact Nat.pow_le_pow_right (by omega) (by omega)
        have : (2 : Nat) ^ 53 = 9007199254740992 := by decide
        omega
      · have e : (p - last).toNat = 0 := by omega
        rw [e, Nat.shiftLeft_zero]
        have h1 := (cut_le .even false M (last - p).toNat (.inl rfl)).1
        have h2 : M / 2 ^ (last - p).toNat < 2 ^ 53 := by
          rw [Nat.div_lt_iff_lt_mul (Nat.two_pow_pos _), ← Nat.pow_add]
          exact Nat.lt_of_lt_of_le hM (Nat.pow_le_pow_right (by omega) (by omega))
        have : (2 : Nat) ^ 53 = 9007199254740992 := by decide
        omega
    have h3 : (last - -1074).toNat ≤ (L + 1074).toNat := by omega
    exact Nat.add_le_add (Nat.mul_le_mul_right 4503599627370496 h3) hk

/-- a word of a low rung reads as a number that is not negative -/
theorem read_low (x : Nat) (K : Nat) (hK : K ≤ 2000) (h : x ≤ K * 4503599627370496 + 9007199254740992) : ∃ (m : Nat) (i : Int), double.read x = .number false m i ∧ m < 9007199254740992 ∧ i ≤ (K : Int) + 2 - 1075 ∧ -1074 ≤ i := by
  have hs : double.signWeight = 9223372036854775808 := by decide +kernel
  have hb : double.binade = 4503599627370496 := by decide +kernel
  have hi : double.infRung = 9218868437227405312 := by decide +kernel
  have hl : double.leastPlace = -1074 := by decide +kernel
  unfold Format.read
  simp only [hs, hb, hi, hl]
  have e1 : x / 9223372036854775808 = 0 := by omega
  have e2 : x % 9223372036854775808 = x := by omega
  rw [e1, e2]
  have e3 : ((0 % 2 == 1) : Bool) = false := rfl
  rw [e3]
  split
  · exact ⟨x, -1074, rfl, by omega, by omega, by omega⟩
  · rw [if_pos (by omega)]
    exact ⟨_, _, rfl, by omega, by omega, by omega⟩

theorem rootFrom_lt (n : Nat) : ∀ todo root, Datum.rootFrom n todo root < root + 2 ^ todo
  | 0, root => by simp [Datum.rootFrom]
  | todo + 1, root => by
    have e : (1 : Nat) <<< todo = 2 ^ todo := by rw [Nat.shiftLeft_eq, Nat.one_mul]
    unfold Datum.rootFrom
    simp only [e]
    have hp : 2 ^ (todo + 1) = 2 ^ todo + 2 ^ todo := by rw [Nat.pow_succ]; omega
    have h0 := Nat.two_pow_pos todo
    split
    · have := rootFrom_lt n todo (root + 2 ^ todo); omega
    · have := rootFrom_lt n todo root; omega

theorem log2_shift (m k : Nat) (h : m ≠ 0) : (m <<< k).log2 = m.log2 + k := by
  have hk := Nat.two_pow_pos k
  have hm : m * 2 ^ k ≠ 0 := Nat.mul_ne_zero h (by omega)
  rw [Nat.shiftLeft_eq]
  apply Nat.le_antisymm
  · have : m * 2 ^ k < 2 ^ (m.log2 + k + 1) := by
      rw [show m.log2 + k + 1 = (m.log2 + 1) + k by omega, Nat.pow_add]
      exact Nat.mul_lt_mul_of_pos_right Nat.lt_log2_self hk
    have := (Nat.log2_lt hm).2 this
    omega
  · rw [Nat.le_log2 hm, Nat.pow_add]
    exact Nat.mul_le_mul_right _ (Nat.log2_self_le h)

theorem root_low (m : Nat) (i : Int) (hm : m < 9007199254740992) (hi : i ≤ 13) (hi2 : -1074 ≤ i) : ∃ (M : Nat) (p : Int), (Datum.number false m i).root 54 = some (.number false M p) ∧ (M = 0 ∨ p + M.log2 ≤ 40) := by
  simp only [Datum.root]
  split
  · rename_i h0; exact ⟨m, i, rfl, .inl h0⟩
  · rename_i h0
    simp only [Bool.false_eq_true, if_false]
    refine ⟨_, _, rfl, .inr ?_⟩
    have hl : m.log2 ≤ 52 := by
      have : m.log2 < 53 := (Nat.log2_lt h0).2 hm
      omega
    generalize hpar : ((i - ((2 * 54 - m.log2 : Nat) : Int)) % 2).toNat = par
    have hpar2 : par ≤ 1 := by omega
    generalize hmore : 2 * 54 - m.log2 + par = more
    have hm1 : 56 ≤ more ∧ more + m.log2 ≤ 109 := by omega
    have hnl : (m <<< more).log2 = m.log2 + more := log2_shift m more h0
    rw [hnl]
    have hw := rootFrom_lt (m <<< more) ((m.log2 + more) / 2 + 1) 0
    generalize Datum.rootFrom (m <<< more) ((m.log2 + more) / 2 + 1) 0 = whole at *
    have h2 : 2 ^ ((m.log2 + more) / 2 + 1) ≤ 2 ^ 55 := Nat.pow_le_pow_right (by omega) (by omega)
    have hb : ∀ b : Bool, b.toNat ≤ 1 := fun b => by cases b <;> decide
    have hb1 := hb (whole * whole != m <<< more)
    generalize (whole * whole != m <<< more).toNat = bit at *
    have h3 : (2 : Nat) ^ 55 = 36028797018963968 := by decide
    have h4 : 2 * whole + bit < 2 ^ 57 := by have : (2 : Nat) ^ 57 = 144115188075855872 := by decide
                                             omega
    have h5 : (2 * whole + bit).log2 ≤ 57 := by
      by_cases hz : 2 * whole + bit = 0
      · rw [hz]; decide
      · have := (Nat.log2_lt hz).2 h4; omega
    omega

/-- THE FLOAT ROOT -/
theorem sqrt_ok (n : Int) (h0 : 0 < n) (h1 : n ≤ 9223372036854775807) : ∃ (y : Nat) (r : Int), FloatKind.f64.format.sqrt (floatOfInt .f64 n) = some y ∧ floatToIntVal .f64 y .i64 = some r ∧ 0 ≤ r ∧ r ≤ 9007199254740993 := by
  obtain ⟨k, rfl⟩ : ∃ k : Nat, n = k := ⟨n.toNat, by omega⟩
  have hneg : decide ((k : Int) < 0) = false := by simp
  have hx : floatOfInt .f64 (k : Int) = double.nearest false k 0 := by
    show double.nearest (decide ((k : Int) < 0)) ((k : Int)).natAbs 0 = _
    rw [hneg]; rfl
  have hkl : k.log2 ≤ 62 := by
    have : k.log2 < 63 := (Nat.log2_lt (by omega)).2 (by have : (2 : Nat) ^ 63 = 9223372036854775808 := by decide
                                                         omega)
    omega
  have hn := nearest_le k 0 10 (by omega) (by omega)
  rw [show ((10 + 1074 : Int)).toNat = 1084 from rfl] at hn
  rw [hx]
  obtain ⟨m, i, hr, hm, hi, hi2⟩ := read_low (double.nearest false k 0) 1084 (by omega) hn
  have hs : FloatKind.f64.format.sqrt (double.nearest false k 0) = ((Datum.number false m i).root 54).map double.write := by
    show ((double.read (double.nearest false k 0)).root 54).map double.write = _
    rw [hr]
  obtain ⟨M, p, hroot, hM⟩ := root_low m i hm (by omega) hi2
  rw [hs, hroot]
  refine ⟨double.nearest false M p, ?_⟩
  have hy : double.nearest false M p ≤ 1062 * 4503599627370496 + 9007199254740992 := by
    rcases hM with rfl | hM
    · have : double.nearest false 0 p = 0 := by unfold Format.nearest; rw [if_pos rfl]; rfl
      rw [this]; exact Nat.zero_le _
    · have h9 := nearest_le M p (-12) (by omega) (by omega)
      rw [show ((-12 + 1074 : Int)).toNat = 1062 from rfl] at h9
      exact h9
  obtain ⟨m2, i2, hr2, hm2, hi3, hi4⟩ := read_low (double.nearest false M p) 1062 (by omega) hy
  have e1 : (i2.toNat : Nat) = 0 := by omega
  have hc := (cut_le .zero false (m2 <<< 0) (-i2).toNat (.inr rfl)).1
  have hd : m2 / 2 ^ (-i2).toNat ≤ m2 := Nat.div_le_self _ _
  rw [Nat.shiftLeft_zero] at hc
  refine ⟨(Toward.zero.cut false m2 (-i2).toNat : Nat), rfl, ?_, by omega, by omega⟩
  have hint : (FloatKind.f64.decode (double.nearest false M p)).toInt .zero = some ((Toward.zero.cut false m2 (-i2).toNat : Nat) : Int) := by
    show (double.read (double.nearest false M p)).toInt .zero = _
    rw [hr2]
    unfold Datum.toInt Datum.integral
    simp only [e1, Nat.shiftLeft_zero, Ieee.signed, Bool.false_eq_true, if_false]
  unfold floatToIntVal
  rw [hint]
  have hmin : IntKind.i64.min = -9223372036854775808 := by decide +kernel
  have hmax : IntKind.i64.max = 9223372036854775807 := by decide +kernel
  simp only [hmin, hmax]
  rw [if_pos (by omega)]
end Go.Proofs.YtpnfhienffekoaaGreatDoor
