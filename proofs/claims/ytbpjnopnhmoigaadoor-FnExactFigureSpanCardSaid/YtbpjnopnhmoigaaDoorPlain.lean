/- Plain functions and facts that both sides of the laws compute: names, numbers in a range, quotients. Nothing of the program is named here. -/
namespace Go.Proofs.YtbpjnopnhmoigaaDoor
set_option linter.unusedVariables false
set_option linter.unusedSimpArgs false

/-- a small letter -/
def lowB (c : UInt8) : Bool := decide (97 ≤ (c.toNat : Int)) && decide ((c.toNat : Int) ≤ 122)
/-- a digit -/
def digB (c : UInt8) : Bool := decide (48 ≤ (c.toNat : Int)) && decide ((c.toNat : Int) ≤ 57)
def nameCh (c : UInt8) : Bool := lowB c || digB c
/-- is it a name of 1 to 10 bytes -/
def isName (l : List UInt8) : Bool := match l with
  | [] => false
  | c :: r => decide (r.length < 10) && lowB c && (c :: r).all nameCh
def inB (n a b : Int) : Bool := decide (a ≤ n) && decide (n ≤ b)
theorem inB_iff (n a b : Int) : inB n a b = true ↔ a ≤ n ∧ n ≤ b := by simp [inB]
theorem inB_no (n a b : Int) : inB n a b = false ↔ n < a ∨ b < n := by simp only [inB, Bool.and_eq_false_iff, decide_eq_false_iff_not]; omega

def vDome (s : List UInt8) (r t : Int) : Bool := isName s && (inB r 1000 30000 && inB t 0 45000)
def vSite (s : List UInt8) (lo la : Int) : Bool := isName s && (inB lo (-180000) 180000 && inB la (-90000) 90000)
def vPlanet (s : List UInt8) (p r u : Int) : Bool := isName s && (inB p 1000 100000000 && (inB r 1 50000 && inB u 0 359999))
def vDir (r d : Int) : Bool := inB r 0 359999 && inB d (-90000) 90000
def vStar (s : List UInt8) (r d m c : Int) : Bool := isName s && (vDir r d && (inB m (-200) 800 && inB c (-50) 250))
def vMoment (d m : Int) : Bool := inB d 0 99999 && inB m 0 86399999

theorem len_data (s : ByteArray) : s.data.toList.length = s.size := by simp

theorem take_snoc (s : ByteArray) (k : Nat) (h : k < s.size) : s.data.toList.take (k + 1) = s.data.toList.take k ++ [s[k]] := by
  rw [List.take_succ_eq_append_getElem (by simpa using h)]; rfl

/-- a name that is refused at its head -/
theorem isName_short (l : List UInt8) (h : l.length < 1) : isName l = false := by
  cases l with
  | nil => rfl
  | cons => simp at h
theorem isName_long (l : List UInt8) (h : 10 < l.length) : isName l = false := by
  cases l with
  | nil => rfl
  | cons c r => simp at h; simp [isName]; intro; omega
theorem head_cons (s : ByteArray) (h : 0 < s.size) : s.data.toList = s[0] :: s.data.toList.drop 1 := by
  have := List.drop_eq_getElem_cons (l := s.data.toList) (i := 0) (by simpa using h)
  rw [List.drop_zero] at this; exact this
theorem isName_head (s : ByteArray) (h : 0 < s.size) (hc : lowB s[0] = false) : isName s.data.toList = false := by
  have e := head_cons s h
  rw [e]; simp [isName, hc]
theorem isName_bad (s : ByteArray) (k : Nat) (h : k < s.size) (hc : nameCh s[k] = false) : isName s.data.toList = false := by
  have hm : s[k] ∈ s.data.toList := by
    have : s[k] = s.data.toList[k]'(by simpa using h) := rfl
    rw [this]; exact List.getElem_mem _
  cases e : s.data.toList with
  | nil => rfl
  | cons c r =>
    rw [e] at hm
    have : ((c :: r).all nameCh) = false := by
      rw [List.all_eq_false]; exact ⟨_, hm, by simp [hc]⟩
    simp only [isName, this, Bool.and_false]
theorem isName_good (s : ByteArray) (h1 : 0 < s.size) (h2 : s.size ≤ 10) (h3 : lowB s[0] = true) (h4 : (s.data.toList.take s.size).all nameCh = true) : isName s.data.toList = true := by
  have hl : s.data.toList.length = s.size := by simp
  have h5 : s.data.toList.all nameCh = true := by rwa [List.take_of_length_le (by simp)] at h4
  have e := head_cons s h1
  rw [e] at h5 hl ⊢
  simp only [List.length_cons] at hl
  simp only [isName, h3, h5, Bool.and_true, decide_eq_true_eq]; omega
theorem all_snoc (s : ByteArray) (k : Nat) (h : k < s.size) (ha : (s.data.toList.take k).all nameCh = true) (hc : nameCh s[k] = true) : (s.data.toList.take (k + 1)).all nameCh = true := by
  rw [take_snoc s k h, List.all_append, ha]; simp [hc]
/-- a number between two is so if the name is one: for callers -/
theorem isName_len (l : List UInt8) (h : isName l = true) : 1 ≤ l.length ∧ l.length ≤ 10 := by
  cases l with
  | nil => simp [isName] at h
  | cons c r => simp [isName] at h; simp; omega

/-- the absolute value -/
def absI (a : Int) : Int := if a < 0 then -a else a
theorem absI_nat (a : Int) : absI a = a.natAbs := by unfold absI; split <;> omega
/-- the integer nearest to a / b, the one farther from 0 of two; b is positive -/
def rnd (a b : Int) : Int := if 0 ≤ a then (2 * a + b) / (2 * b) else -((b - 2 * a) / (2 * b))

theorem rnd_pos (a b : Int) (h : 0 ≤ a) (hb : 0 < b) : rnd a b = if a % b < b - a % b then a / b else a / b + 1 := by
  have e1 := Int.mul_ediv_add_emod a b
  have e2 := Int.emod_nonneg a (by omega : b ≠ 0)
  have e3 := Int.emod_lt_of_pos a hb
  rw [rnd, if_pos h]
  generalize a / b = q at *; generalize a % b = r at *
  subst e1
  have e4 : 2 * (b * q + r) + b = (2 * b) * q + (2 * r + b) := by rw [Int.mul_add, ← Int.mul_assoc]; omega
  rw [e4, Int.mul_add_ediv_left _ _ (by omega)]
  split
  · rw [Int.ediv_eq_zero_of_lt (by omega) (by omega)]; omega
  · have : (2 * r + b) / (2 * b) = 1 := by
      have : 2 * r + b = (2 * b) * 1 + (2 * r - b) := by omega
      rw [this, Int.mul_add_ediv_left _ _ (by omega), Int.ediv_eq_zero_of_lt (by omega) (by omega)]; rfl
    omega
theorem rnd_neg (a b : Int) (h : a < 0) (hb : 0 < b) : rnd a b = -(rnd (-a) b) := by
  have e : b - 2 * a = 2 * -a + b := by omega
  rw [rnd, rnd, if_neg (by omega), if_pos (by omega), e]
/-- what the program computes: the quotient cut towards 0, the rest, and one step away from 0 if the rest is at least half -/
theorem rnd_tdiv (a b : Int) (hb : 0 < b) : rnd a b = if ((a.tmod b).natAbs : Int) < b - (a.tmod b).natAbs then a.tdiv b else if a < 0 then a.tdiv b - 1 else a.tdiv b + 1 := by
  by_cases h : 0 ≤ a
  · have e2 := Int.emod_nonneg a (by omega : b ≠ 0)
    rw [rnd_pos a b h hb, Int.tmod_eq_emod_of_nonneg h, Int.tdiv_eq_ediv_of_nonneg h, if_neg (by omega : ¬ a < 0), Int.natAbs_of_nonneg e2]
  · obtain ⟨c, rfl⟩ : ∃ c, a = -c := ⟨-a, by omega⟩
    have e2 := Int.emod_nonneg c (by omega : b ≠ 0)
    rw [rnd_neg _ b (by omega) hb, Int.neg_neg, rnd_pos c b (by omega) hb, Int.neg_tmod, Int.neg_tdiv, Int.tmod_eq_emod_of_nonneg (by omega), Int.tdiv_eq_ediv_of_nonneg (by omega), Int.natAbs_neg, Int.natAbs_of_nonneg e2, if_pos (show -c < 0 by omega)]
    split <;> omega
theorem rnd_absI (a b : Int) (hb : 0 < b) : rnd a b = if absI (a.tmod b) < b - absI (a.tmod b) then a.tdiv b else if a < 0 then a.tdiv b - 1 else a.tdiv b + 1 := by
  rw [absI_nat]; exact rnd_tdiv a b hb
theorem absI_bd (a : Int) : 0 ≤ absI a ∧ a ≤ absI a ∧ -a ≤ absI a ∧ (absI a = a ∨ absI a = -a) := by unfold absI; split <;> omega
theorem tdiv_bd (a b : Int) (hb : 0 < b) : -absI a ≤ a.tdiv b ∧ a.tdiv b ≤ absI a := by
  by_cases h : 0 ≤ a
  · rw [Int.tdiv_eq_ediv_of_nonneg h]; have := Int.ediv_nonneg h (Int.le_of_lt hb); have := Int.ediv_le_self b h; unfold absI; split <;> omega
  · obtain ⟨c, rfl⟩ : ∃ c, a = -c := ⟨-a, by omega⟩
    rw [Int.neg_tdiv, Int.tdiv_eq_ediv_of_nonneg (by omega)]; have := Int.ediv_nonneg (show 0 ≤ c by omega) (Int.le_of_lt hb); have := Int.ediv_le_self b (show 0 ≤ c by omega); unfold absI; split <;> omega
theorem tmod_bd (a b : Int) (hb : 0 < b) : -b < a.tmod b ∧ a.tmod b < b := by
  by_cases h : 0 ≤ a
  · rw [Int.tmod_eq_emod_of_nonneg h]; have := Int.emod_nonneg a (by omega : b ≠ 0); have := Int.emod_lt_of_pos a hb; omega
  · obtain ⟨c, rfl⟩ : ∃ c, a = -c := ⟨-a, by omega⟩
    rw [Int.neg_tmod, Int.tmod_eq_emod_of_nonneg (by omega)]; have := Int.emod_nonneg c (by omega : b ≠ 0); have := Int.emod_lt_of_pos c hb; omega

theorem rnd_nonneg (a b : Int) (h : 0 ≤ a) (hb : 0 < b) : 0 ≤ rnd a b := by
  rw [rnd, if_pos h]; exact Int.ediv_nonneg (by omega) (by omega)
/-- a bound on both sides: b * lo ≤ a ≤ b * hi -/
theorem rnd_between (a b lo hi : Int) (hb : 0 < b) (h1 : b * lo ≤ a) (h2 : a ≤ b * hi) : lo ≤ rnd a b ∧ rnd a b ≤ hi := by
  have key : ∀ c lo hi : Int, 0 ≤ c → b * lo ≤ c → c ≤ b * hi → lo ≤ rnd c b ∧ rnd c b ≤ hi := fun c lo hi hc h1 h2 => by
    rw [rnd, if_pos hc]
    refine ⟨?_, ?_⟩
    · rw [Int.le_ediv_iff_mul_le (by omega)]
      have : lo * (2 * b) = 2 * (b * lo) := by rw [Int.mul_comm lo, Int.mul_assoc]
      omega
    · have h3 : (2 * c + b) / (2 * b) < hi + 1 := by
        rw [Int.ediv_lt_iff_lt_mul (by omega)]
        have : (hi + 1) * (2 * b) = 2 * (b * hi) + 2 * b := by rw [Int.add_mul, Int.mul_comm hi, Int.mul_assoc]; omega
        omega
      omega
  by_cases h : 0 ≤ a
  · exact key a lo hi h h1 h2
  · rw [rnd_neg a b (by omega) hb]
    have := key (-a) (-hi) (-lo) (by omega) (by rw [Int.mul_neg]; omega) (by rw [Int.mul_neg]; omega)
    omega
/-- a product of two numbers in small ranges -/
theorem mul_small (a b A B : Int) (ha : -A ≤ a ∧ a ≤ A) (hb : 0 ≤ b ∧ b ≤ B) : -(A * B) ≤ a * b ∧ a * b ≤ A * B := by
  have h1 : a * b ≤ A * b := Int.mul_le_mul_of_nonneg_right ha.2 hb.1
  have h2 : -A * b ≤ a * b := Int.mul_le_mul_of_nonneg_right ha.1 hb.1
  have h3 : A * b ≤ A * B := Int.mul_le_mul_of_nonneg_left hb.2 (by omega)
  rw [Int.neg_mul] at h2
  omega

end Go.Proofs.YtbpjnopnhmoigaaDoor
