/- Texts that belong together, as one: Plain, PlainSky, PlainAng, PlainArc, PlainVec, PlainNorm, PlainRoot, PlainSep, PlainSett, PlainAngl, PlainMono. -/
section
namespace Go.Proofs.YtpnfhienffekoaaGreatDoor
set_option linter.unusedVariables false
set_option linter.unusedSimpArgs false

/-- a small letter -/
def lowB (c : UInt8) : Bool := decide (97 ≤ (c.toNat : Int)) && decide ((c.toNat : Int) ≤ 122)
/-- a digit -/
def digB (c : UInt8) : Bool := decide (48 ≤ (c.toNat : Int)) && decide ((c.toNat : Int) ≤ 57)
def nameCh (c : UInt8) : Bool := lowB c || digB c
/-- is it a name of 1 to 10 bytes -/
def isName (l : List UInt8) : Bool := match l with
  | [] => false
  | c :: r => decide (r.length < 10) && lowB c && (c :: r).all nameCh
def inB (n a b : Int) : Bool := decide (a ≤ n) && decide (n ≤ b)
theorem inB_iff (n a b : Int) : inB n a b = true ↔ a ≤ n ∧ n ≤ b := by simp [inB]
theorem inB_no (n a b : Int) : inB n a b = false ↔ n < a ∨ b < n := by simp only [inB, Bool.and_eq_false_iff, decide_eq_false_iff_not]; omega

def vDome (s : List UInt8) (r t : Int) : Bool := isName s && (inB r 1000 30000 && inB t 0 45000)
def vSite (s : List UInt8) (lo la : Int) : Bool := isName s && (inB lo (-180000) 180000 && inB la (-90000) 90000)
def vPlanet (s : List UInt8) (p r u : Int) : Bool := isName s && (inB p 1000 100000000 && (inB r 1 50000 && inB u 0 359999))
def vDir (r d : Int) : Bool := inB r 0 359999 && inB d (-90000) 90000
def vStar (s : List UInt8) (r d m c : Int) : Bool := isName s && (vDir r d && (inB m (-200) 800 && inB c (-50) 250))
def vMoment (d m : Int) : Bool := inB d 0 99999 && inB m 0 86399999

theorem len_data (s : ByteArray) : s.data.toList.length = s.size := by simp

theorem take_snoc (s : ByteArray) (k : Nat) (h : k < s.size) : s.data.toList.take (k + 1) = s.data.toList.take k ++ [s[k]] := by
  rw [List.take_succ_eq_append_getElem (by simpa using h)]; rfl

/-- a name that is refused at its head -/
theorem isName_short (l : List UInt8) (h : l.length < 1) : isName l = false := by
  cases l with
  | nil => rfl
  | cons => simp at h
theorem isName_long (l : List UInt8) (h : 10 < l.length) : isName l = false := by
  cases l with
  | nil => rfl
  | cons c r => simp at h; simp [isName]; intro; omega
theorem head_cons (s : ByteArray) (h : 0 < s.size) : s.data.toList = s[0] :: s.data.toList.drop 1 := by
  have := List.drop_eq_getElem_cons (l := s.data.toList) (i := 0) (by simpa using h)
  rw [List.drop_zero] at this; exact this
theorem isName_head (s : ByteArray) (h : 0 < s.size) (hc : lowB s[0] = false) : isName s.data.toList = false := by
  have e := head_cons s h
  rw [e]; simp [isName, hc]
theorem isName_bad (s : ByteArray) (k : Nat) (h : k < s.size) (hc : nameCh s[k] = false) : isName s.data.toList = false := by
  have hm : s[k] ∈ s.data.toList := by
    have : s[k] = s.data.toList[k]'(by simpa using h) := rfl
    rw [this]; exact List.getElem_mem _
  cases e : s.data.toList with
  | nil => rfl
  | cons c r =>
    rw [e] at hm
    have : ((c :: r).all nameCh) = false := by
      rw [List.all_eq_false]; exact ⟨_, hm, by simp [hc]⟩
    simp only [isName, this, Bool.and_false]
theorem isName_good (s : ByteArray) (h1 : 0 < s.size) (h2 : s.size ≤ 10) (h3 : lowB s[0] = true) (h4 : (s.data.toList.take s.size).all nameCh = true) : isName s.data.toList = true := by
  have hl : s.data.toList.length = s.size := by simp
  have h5 : s.data.toList.all nameCh = true := by rwa [List.take_of_length_le (by simp)] at h4
  have e := head_cons s h1
  rw [e] at h5 hl ⊢
  simp only [List.length_cons] at hl
  simp only [isName, h3, h5, Bool.and_true, decide_eq_true_eq]; omega
theorem all_snoc (s : ByteArray) (k : Nat) (h : k < s.size) (ha : (s.data.toList.take k).all nameCh = true) (hc : nameCh s[k] = true) : (s.data.toList.take (k + 1)).all nameCh = true := by
  rw [take_snoc s k h, List.all_append, ha]; simp [hc]
/-- a number between two is so if the name is one: for callers -/
theorem isName_len (l : List UInt8) (h : isName l = true) : 1 ≤ l.length ∧ l.length ≤ 10 := by
  cases l with
  | nil => simp [isName] at h
  | cons c r => simp [isName] at h; simp; omega

/-- the absolute value -/
def absI (a : Int) : Int := if a < 0 then -a else a
theorem absI_nat (a : Int) : absI a = a.natAbs := by unfold absI; split <;> omega
/-- the integer nearest to a / b, the one farther from 0 of two; b is positive -/
def rnd (a b : Int) : Int := if 0 ≤ a then (2 * a + b) / (2 * b) else -((b - 2 * a) / (2 * b))

theorem rnd_pos (a b : Int) (h : 0 ≤ a) (hb : 0 < b) : rnd a b = if a % b < b - a % b then a / b else a / b + 1 := by
  have e1 := Int.mul_ediv_add_emod a b
  have e2 := Int.emod_nonneg a (by omega : b ≠ 0)
  have e3 := Int.emod_lt_of_pos a hb
  rw [rnd, if_pos h]
  generalize a / b = q at *; generalize a % b = r at *
  subst e1
  have e4 : 2 * (b * q + r) + b = (2 * b) * q + (2 * r + b) := by rw [Int.mul_add, ← Int.mul_assoc]; omega
  rw [e4, Int.mul_add_ediv_left _ _ (by omega)]
  split
  · rw [Int.ediv_eq_zero_of_lt (by omega) (by omega)]; omega
  · have : (2 * r + b) / (2 * b) = 1 := by
      have : 2 * r + b = (2 * b) * 1 + (2 * r - b) := by omega
      rw [this, Int.mul_add_ediv_left _ _ (by omega), Int.ediv_eq_zero_of_lt (by omega) (by omega)]; rfl
    omega
theorem rnd_neg (a b : Int) (h : a < 0) (hb : 0 < b) : rnd a b = -(rnd (-a) b) := by
  have e : b - 2 * a = 2 * -a + b := by omega
  rw [rnd, rnd, if_neg (by omega), if_pos (by omega), e]
/-- what the program computes: the quotient cut towards 0, the rest, and one step away from 0 if the rest is at least half -/
theorem rnd_tdiv (a b : Int) (hb : 0 < b) : rnd a b = if ((a.tmod b).natAbs : Int) < b - (a.tmod b).natAbs then a.tdiv b else if a < 0 then a.tdiv b - 1 else a.tdiv b + 1 := by
  by_cases h : 0 ≤ a
  · have e2 := Int.emod_nonneg a (by omega : b ≠ 0)
    rw [rnd_pos a b h hb, Int.tmod_eq_emod_of_nonneg h, Int.tdiv_eq_ediv_of_nonneg h, if_neg (by omega : ¬ a < 0), Int.natAbs_of_nonneg e2]
  · obtain ⟨c, rfl⟩ : ∃ c, a = -c := ⟨-a, by omega⟩
    have e2 := Int.emod_nonneg c (by omega : b ≠ 0)
    rw [rnd_neg _ b (by omega) hb, Int.neg_neg, rnd_pos c b (by omega) hb, Int.neg_tmod, Int.neg_tdiv, Int.tmod_eq_emod_of_nonneg (by omega), Int.tdiv_eq_ediv_of_nonneg (by omega), Int.natAbs_neg, Int.natAbs_of_nonneg e2, if_pos (show -c < 0 by omega)]
    split <;> omega
theorem rnd_absI (a b : Int) (hb : 0 < b) : rnd a b = if absI (a.tmod b) < b - absI (a.tmod b) then a.tdiv b else if a < 0 then a.tdiv b - 1 else a.tdiv b + 1 := by
  rw [absI_nat]; exact rnd_tdiv a b hb
theorem absI_bd (a : Int) : 0 ≤ absI a ∧ a ≤ absI a ∧ -a ≤ absI a ∧ (absI a = a ∨ absI a = -a) := by unfold absI; split <;> omega
theorem tdiv_bd (a b : Int) (hb : 0 < b) : -absI a ≤ a.tdiv b ∧ a.tdiv b ≤ absI a := by
  by_cases h : 0 ≤ a
  · rw [Int.tdiv_eq_ediv_of_nonneg h]; have := Int.ediv_nonneg h (Int.le_of_lt hb); have := Int.ediv_le_self b h; unfold absI; split <;> omega
  · obtain ⟨c, rfl⟩ : ∃ c, a = -c := ⟨-a, by omega⟩
    rw [Int.neg_tdiv, Int.tdiv_eq_ediv_of_nonneg (by omega)]; have := Int.ediv_nonneg (show 0 ≤ c by omega) (Int.le_of_lt hb); have := Int.ediv_le_self b (show 0 ≤ c by omega); unfold absI; split <;> omega
theorem tmod_bd (a b : Int) (hb : 0 < b) : -b < a.tmod b ∧ a.tmod b < b := by
  by_cases h : 0 ≤ a
  · rw [Int.tmod_eq_emod_of_nonneg h]; have := Int.emod_nonneg a (by omega : b ≠ 0); have := Int.emod_lt_of_pos a hb; omega
  · obtain ⟨c, rfl⟩ : ∃ c, a = -c := ⟨-a, by omega⟩
    rw [Int.neg_tmod, Int.tmod_eq_emod_of_nonneg (by omega)]; have := Int.emod_nonneg c (by omega : b ≠ 0); have := Int.emod_lt_of_pos c hb; omega

theorem rnd_nonneg (a b : Int) (h : 0 ≤ a) (hb : 0 < b) : 0 ≤ rnd a b := by
  rw [rnd, if_pos h]; exact Int.ediv_nonneg (by omega) (by omega)
/-- a bound on both sides: b * lo ≤ a ≤ b * hi -/
theorem rnd_between (a b lo hi : Int) (hb : 0 < b) (h1 : b * lo ≤ a) (h2 : a ≤ b * hi) : lo ≤ rnd a b ∧ rnd a b ≤ hi := by
  have key : ∀ c lo hi : Int, 0 ≤ c → b * lo ≤ c → c ≤ b * hi → lo ≤ rnd c b ∧ rnd c b ≤ hi := fun c lo hi hc h1 h2 => by
    rw [rnd, if_pos hc]
    refine ⟨?_, ?_⟩
    · rw [Int.le_ediv_iff_mul_le (by omega)]
      have : lo * (2 * b) = 2 * (b * lo) := by rw [Int.mul_comm lo, Int.mul_assoc]
      omega
    · have h3 : (2 * c + b) / (2 * b) < hi + 1 := by
        rw [Int.ediv_lt_iff_lt_mul (by omega)]
        have : (hi + 1) * (2 * b) = 2 * (b * hi) + 2 * b := by rw [Int.add_mul, Int.mul_comm hi, Int.mul_assoc]; omega
        omega
      omega
  by_cases h : 0 ≤ a
  · exact key a lo hi h h1 h2
  · rw [rnd_neg a b (by omega) hb]
    have := key (-a) (-hi) (-lo) (by omega) (by rw [Int.mul_neg]; omega) (by rw [Int.mul_neg]; omega)
    omega
/-- a product of two numbers in small ranges -/
theorem mul_small (a b A B : Int) (ha : -A ≤ a ∧ a ≤ A) (hb : 0 ≤ b ∧ b ≤ B) : -(A * B) ≤ a * b ∧ a * b ≤ A * B := by
  have h1 : a * b ≤ A * b := Int.mul_le_mul_of_nonneg_right ha.2 hb.1
  have h2 : -A * b ≤ a * b := Int.mul_le_mul_of_nonneg_right ha.1 hb.1
  have h3 : A * b ≤ A * B := Int.mul_le_mul_of_nonneg_left hb.2 (by omega)
  rw [Int.neg_mul] at h2
  omega

end Go.Proofs.YtpnfhienffekoaaGreatDoor
end
section
namespace Go.Proofs.YtpnfhienffekoaaGreatDoor
set_option linter.unusedVariables false
set_option linter.unusedSimpArgs false

/-- an answer with a code: the value, or nothing -/
def okO (b : Bool) (code : Int) (x : Int × Int) : Int × Int := if b then x else (0, code)
theorem okO_yes {b : Bool} {c : Int} {x : Int × Int} (h : b = true) : okO b c x = x := by rw [okO, if_pos h]
theorem okO_no {b : Bool} {c : Int} {x : Int × Int} (h : b = false) : okO b c x = (0, c) := by rw [okO, if_neg (by rw [h]; exact Bool.false_ne_true)]
/-- the reference's code for a site and three angles -/
def askI (n : List UInt8) (lo la a1 a2 d : Int) : Int := if vSite n lo la then (if inB a1 0 359999 && inB a2 0 359999 && inB d (-90000) 90000 then 0 else 2) else 1
def milliI (d m : Int) : Int := d * 86400000 + m
def angleI (p u d m : Int) : Int := (u + milliI d m * 360000 / (p * 86400)) % 360000
def orbO (n : List UInt8) (p r u d m : Int) : Int × Int := okO (vPlanet n p r u && vMoment d m) 1 (angleI p u d m, 0)
def areaO (n : List UInt8) (r t : Int) : Int × Int := okO (vDome n r t) 1 (rnd (628318 * r * r) 100000, 0)
def culmO (n : List UInt8) (lo la d : Int) : Int × Int := okO (vSite n lo la) 1 (okO (inB d (-90000) 90000) 2 (90000 - absI (la - d), 0))
def lowO (n : List UInt8) (lo la d : Int) : Int × Int := okO (vSite n lo la) 1 (okO (inB d (-90000) 90000) 2 (absI (la + d) - 90000, 0))
def synO (n1 : List UInt8) (p1 r1 u1 : Int) (n2 : List UInt8) (p2 r2 u2 : Int) : Int × Int :=
  okO (vPlanet n1 p1 r1 u1 && vPlanet n2 p2 r2 u2) 1 (okO (!(p1 == p2)) 6 (rnd (p1 * p2) (absI (p1 - p2)), 0))
theorem vDome_bd {n : List UInt8} {r t : Int} (h : vDome n r t = true) : 1000 ≤ r ∧ r ≤ 30000 := by
  simp only [vDome, Bool.and_eq_true, inB_iff] at h; omega
theorem vSite_bd {n : List UInt8} {lo la : Int} (h : vSite n lo la = true) : -180000 ≤ lo ∧ lo ≤ 180000 ∧ -90000 ≤ la ∧ la ≤ 90000 := by
  simp only [vSite, Bool.and_eq_true, inB_iff] at h; omega
theorem vPlanet_bd {n : List UInt8} {p r u : Int} (h : vPlanet n p r u = true) : 1000 ≤ p ∧ p ≤ 100000000 ∧ 1 ≤ r ∧ r ≤ 50000 ∧ 0 ≤ u ∧ u ≤ 359999 := by
  simp only [vPlanet, Bool.and_eq_true, inB_iff] at h; omega
theorem vMoment_bd {d m : Int} (h : vMoment d m = true) : 0 ≤ d ∧ d ≤ 99999 ∧ 0 ≤ m ∧ m ≤ 86399999 := by
  simp only [vMoment, Bool.and_eq_true, inB_iff] at h; omega
theorem milliI_bd {d m : Int} (h : 0 ≤ d ∧ d ≤ 99999 ∧ 0 ≤ m ∧ m ≤ 86399999) : 0 ≤ milliI d m ∧ milliI d m ≤ 8639999999999 := by
  unfold milliI; omega
theorem angleI_bd (p u d m : Int) : 0 ≤ angleI p u d m ∧ angleI p u d m ≤ 359999 := by unfold angleI; omega
/-- the turn of a planet is within bounds -/
theorem turn_bd (T p : Int) (h1 : 0 ≤ T) (h2 : T ≤ 8639999999999) (h3 : 1000 ≤ p) : 0 ≤ T * 360000 / (p * 86400) ∧ T * 360000 / (p * 86400) ≤ 36000000000 := by
  refine ⟨Int.ediv_nonneg (by omega) (by omega), ?_⟩
  have : T * 360000 / (p * 86400) < 36000000001 := by
    rw [Int.ediv_lt_iff_lt_mul (by omega)]; omega
  omega
end Go.Proofs.YtpnfhienffekoaaGreatDoor
end
section
namespace Go.Proofs.YtpnfhienffekoaaGreatDoor
set_option linter.unusedVariables false
set_option linter.unusedSimpArgs false

def sinTab : List Int := [0, 17452, 34899, 52336, 69756, 87156, 104528, 121869, 139173, 156434, 173648, 190809, 207912, 224951, 241922, 258819, 275637, 292372, 309017, 325568, 342020, 358368, 374607, 390731, 406737, 422618, 438371, 453990, 469472, 484810, 500000, 515038, 529919, 544639, 559193, 573576, 587785, 601815, 615661, 629320, 642788, 656059, 669131, 681998, 694658, 707107, 719340, 731354, 743145, 754710, 766044, 777146, 788011, 798636, 809017, 819152, 829038, 838671, 848048, 857167, 866025, 874620, 882948, 891007, 898794, 906308, 913545, 920505, 927184, 933580, 939693, 945519, 951057, 956305, 961262, 965926, 970296, 974370, 978148, 981627, 984808, 987688, 990268, 992546, 994522, 996195, 997564, 998630, 999391, 999848, 1000000]
def sinAt (k : Nat) : Int := sinTab.getD k 0
/-- the sine of an angle from 0 to 90 degrees -/
def sinQ (a : Int) : Int := sinAt (a / 1000).toNat + rnd ((sinAt ((a / 1000).toNat + 1) - sinAt (a / 1000).toNat) * (a % 1000)) 1000
def sinH (a : Int) : Int := if 90000 < a then sinQ (180000 - a) else sinQ a
def nrm (a : Int) : Int := a % 360000
def sinN (n : Int) : Int := if 180000 ≤ n then -(sinH (n - 180000)) else sinH n
/-- the sine of any angle -/
def sinI (a : Int) : Int := sinN (nrm a)
def cosI (a : Int) : Int := sinI (nrm a + 90000)
theorem nrm_bd (a : Int) : 0 ≤ nrm a ∧ nrm a < 360000 := by unfold nrm; omega
theorem nrm_of {a : Int} (h0 : 0 ≤ a) (h1 : a < 360000) : nrm a = a := by unfold nrm; omega
theorem nrm_tmod (a : Int) : nrm a = if a.tmod 360000 < 0 then a.tmod 360000 + 360000 else a.tmod 360000 := by
  unfold nrm
  by_cases h : 0 ≤ a
  · rw [Int.tmod_eq_emod_of_nonneg h, if_neg (by omega)]
  · obtain ⟨c, rfl⟩ : ∃ c, a = -c := ⟨-a, by omega⟩
    rw [Int.neg_tmod, Int.tmod_eq_emod_of_nonneg (by omega)]; split <;> omega
theorem sinTab_all : (List.range 90).all (fun k => decide (sinAt k ≤ sinAt (k + 1)) && decide (sinAt (k + 1) - sinAt k ≤ 17452) && decide (0 ≤ sinAt k) && decide (sinAt (k + 1) ≤ 1000000)) = true := by decide +kernel
theorem sinAt_step (k : Nat) (h : k < 90) : 0 ≤ sinAt k ∧ sinAt k ≤ sinAt (k + 1) ∧ sinAt (k + 1) - sinAt k ≤ 17452 ∧ sinAt (k + 1) ≤ 1000000 := by
  have := List.all_eq_true.1 sinTab_all k (List.mem_range.2 h)
  simp only [Bool.and_eq_true, decide_eq_true_eq] at this
  omega
theorem sinAt_bd (k : Nat) (h : k ≤ 90) : 0 ≤ sinAt k ∧ sinAt k ≤ 1000000 := by
  by_cases h' : k < 90
  · have := sinAt_step k h'; omega
  · obtain rfl : k = 90 := by omega
    have := sinAt_step 89 (by omega)
    have e : sinAt 90 = 1000000 := rfl
    omega
theorem sinQ_step (k : Nat) (r : Int) (h : k < 90) (h0 : 0 ≤ r) (h1 : r ≤ 999) : 0 ≤ rnd ((sinAt (k + 1) - sinAt k) * r) 1000 ∧ rnd ((sinAt (k + 1) - sinAt k) * r) 1000 ≤ sinAt (k + 1) - sinAt k := by
  have hs := sinAt_step k h
  have hd : 0 ≤ sinAt (k + 1) - sinAt k := by omega
  generalize sinAt (k + 1) - sinAt k = d at *
  have m := mul_small d r d 999 (by omega) ⟨h0, h1⟩
  have m0 : 0 ≤ d * r := Int.mul_nonneg (by omega) h0
  exact rnd_between (d * r) 1000 0 d (by omega) (by omega) (by have := m.2; omega)
theorem sinQ_zero (k : Nat) : sinQ (1000 * k) = sinAt k := by
  have e1 : (1000 * (k : Int) / 1000).toNat = k := by omega
  have e2 : 1000 * (k : Int) % 1000 = 0 := by omega
  rw [sinQ, e1, e2, Int.mul_zero]; show sinAt k + 0 = _; omega
theorem sinQ_bd (a : Int) (h0 : 0 ≤ a) (h1 : a ≤ 90000) : 0 ≤ sinQ a ∧ sinQ a ≤ 1000000 := by
  by_cases h : a = 90000
  · subst h; have := sinQ_zero 90; have e : sinAt 90 = 1000000 := rfl; rw [e] at this; have e2 : (1000 * ((90 : Nat) : Int)) = 90000 := rfl; rw [e2] at this; omega
  · have hk : (a / 1000).toNat < 90 := by omega
    have hs := sinQ_step (a / 1000).toNat (a % 1000) hk (by omega) (by omega)
    have hb := sinAt_step (a / 1000).toNat hk
    unfold sinQ
    omega
theorem sinH_bd (a : Int) (h0 : 0 ≤ a) (h1 : a ≤ 180000) : 0 ≤ sinH a ∧ sinH a ≤ 1000000 := by
  unfold sinH; split
  · exact sinQ_bd _ (by omega) (by omega)
  · exact sinQ_bd _ (by omega) (by omega)
theorem sinI_bd (a : Int) : -1000000 ≤ sinI a ∧ sinI a ≤ 1000000 := by
  have := nrm_bd a
  unfold sinI sinN; split
  · have := sinH_bd (nrm a - 180000) (by omega) (by omega); omega
  · have := sinH_bd (nrm a) (by omega) (by omega); omega
theorem cosI_bd (a : Int) : -1000000 ≤ cosI a ∧ cosI a ≤ 1000000 := sinI_bd _
/-- a number on a line through two points -/
def blendI (x0 y0 x1 y1 x : Int) : Int := if x ≤ x0 ∨ x1 ≤ x0 then y0 else if x1 ≤ x then y1 else y0 + rnd ((y1 - y0) * (x - x0)) (x1 - x0)
theorem blend_sin (a : Int) (k : Nat) (h0 : 1000 * (k : Int) ≤ a) (h1 : a < 1000 * ((k : Int) + 1)) : blendI ((k : Int) * 1000) (sinAt k) (((k : Int) + 1) * 1000) (sinAt (k + 1)) a = sinQ a := by
  have e1 : (a / 1000).toNat = k := by omega
  unfold blendI sinQ
  rw [e1]
  by_cases h : a = 1000 * k
  · rw [if_pos (by omega), show a % 1000 = 0 by omega, Int.mul_zero]; show sinAt k = sinAt k + 0; omega
  · rw [if_neg (by omega), if_neg (by omega), show a - (k : Int) * 1000 = a % 1000 by omega, show ((k : Int) + 1) * 1000 - (k : Int) * 1000 = 1000 by omega]
theorem sinTab_getD (k : Nat) : sinTab.getD k 0 = sinAt k := rfl
end Go.Proofs.YtpnfhienffekoaaGreatDoor
end
section
namespace Go.Proofs.YtpnfhienffekoaaGreatDoor
set_option linter.unusedVariables false
set_option linter.unusedSimpArgs false

/-- a search by halves, with fuel -/
def bs (p : Int → Bool) : Nat → Int → Int → Int
  | 0, lo, _ => lo
  | n + 1, lo, hi => if lo < hi then (if p ((lo + hi) / 2) then bs p n lo ((lo + hi) / 2) else bs p n ((lo + hi) / 2 + 1) hi) else lo
theorem bs_fuel (p : Int → Bool) : ∀ (n m : Nat) (lo hi : Int), (hi - lo).toNat ≤ n → (hi - lo).toNat ≤ m → bs p n lo hi = bs p m lo hi
  | 0, 0, _, _, _, _ => rfl
  | 0, m + 1, lo, hi, h, _ => by
    have : ¬ lo < hi := by omega
    rw [bs, bs, if_neg this]
  | n + 1, 0, lo, hi, _, h => by
    have : ¬ lo < hi := by omega
    rw [bs, bs, if_neg this]
  | n + 1, m + 1, lo, hi, h1, h2 => by
    rw [bs, bs]
    by_cases hc : lo < hi
    · rw [if_pos hc, if_pos hc, bs_fuel p n m lo _ (by omega) (by omega), bs_fuel p n m _ hi (by omega) (by omega)]
    · rw [if_neg hc, if_neg hc]
/-- the least place from lo to hi at which p holds, if p is rising -/
def bsI (p : Int → Bool) (lo hi : Int) : Int := bs p (hi - lo).toNat lo hi
theorem bsI_end (p : Int → Bool) (lo hi : Int) (h : ¬ lo < hi) : bsI p lo hi = lo := by
  have : (hi - lo).toNat = 0 := by omega
  rw [bsI, this, bs]
theorem bsI_step (p : Int → Bool) (lo hi : Int) (h : lo < hi) : bsI p lo hi = if p ((lo + hi) / 2) then bsI p lo ((lo + hi) / 2) else bsI p ((lo + hi) / 2 + 1) hi := by
  obtain ⟨n, hn⟩ : ∃ n, (hi - lo).toNat = n + 1 := ⟨(hi - lo).toNat - 1, by omega⟩
  rw [bsI, hn, bs, if_pos h, bsI, bsI, bs_fuel p n ((lo + hi) / 2 - lo).toNat lo _ (by omega) (by omega), bs_fuel p n (hi - ((lo + hi) / 2 + 1)).toNat _ hi (by omega) (by omega)]
theorem bsI_yes (p : Int → Bool) (lo hi : Int) (h : lo < hi) (hp : p ((lo + hi) / 2) = true) : bsI p lo hi = bsI p lo ((lo + hi) / 2) := by rw [bsI_step p lo hi h, if_pos hp]
theorem bsI_no (p : Int → Bool) (lo hi : Int) (h : lo < hi) (hp : p ((lo + hi) / 2) = false) : bsI p lo hi = bsI p ((lo + hi) / 2 + 1) hi := by rw [bsI_step p lo hi h, if_neg (by rw [hp]; exact Bool.false_ne_true)]
theorem bs_bd (p : Int → Bool) : ∀ (n : Nat) (lo hi : Int), lo ≤ hi → lo ≤ bs p n lo hi ∧ bs p n lo hi ≤ hi
  | 0, lo, hi, h => by rw [bs]; omega
  | n + 1, lo, hi, h => by
    rw [bs]
    split
    · split
      · have := bs_bd p n lo ((lo + hi) / 2) (by omega); omega
      · have := bs_bd p n ((lo + hi) / 2 + 1) hi (by omega); omega
    · omega
theorem bsI_bd (p : Int → Bool) (lo hi : Int) (h : lo ≤ hi) : lo ≤ bsI p lo hi ∧ bsI p lo hi ≤ hi := bs_bd p _ lo hi h
/-- what was found has p, or is the end; what stands before it has not, or it is the beginning -/
theorem bs_at (p : Int → Bool) : ∀ (n : Nat) (lo hi : Int), (hi - lo).toNat ≤ n → lo ≤ hi → (bs p n lo hi = hi ∨ p (bs p n lo hi) = true) ∧ (bs p n lo hi = lo ∨ p (bs p n lo hi - 1) = false)
  | 0, lo, hi, hf, h => by rw [bs]; exact ⟨.inl (by omega), .inl rfl⟩
  | n + 1, lo, hi, hf, h => by
    rw [bs]
    split
    · rename_i hlt
      cases hp : p ((lo + hi) / 2) with
      | true =>
        rw [if_pos rfl]
        obtain ⟨h1, h2⟩ := bs_at p n lo ((lo + hi) / 2) (by omega) (by omega)
        refine ⟨?_, h2⟩
        rcases h1 with h1 | h1
        · right; rw [h1]; exact hp
        · exact .inr h1
      | false =>
        rw [if_neg Bool.false_ne_true]
        obtain ⟨h1, h2⟩ := bs_at p n ((lo + hi) / 2 + 1) hi (by omega) (by omega)
        refine ⟨h1, ?_⟩
        rcases h2 with h2 | h2
        · right; rw [h2, show (lo + hi) / 2 + 1 - 1 = (lo + hi) / 2 by omega]; exact hp
        · exact .inr h2
    · exact ⟨.inl (by omega), .inl rfl⟩
theorem bsI_at (p : Int → Bool) (lo hi : Int) (h : lo ≤ hi) : (bsI p lo hi = hi ∨ p (bsI p lo hi) = true) ∧ (bsI p lo hi = lo ∨ p (bsI p lo hi - 1) = false) := bs_at p _ lo hi (Nat.le_refl _) h

def minI (a b : Int) : Int := if a < b then a else b
def maxI (a b : Int) : Int := if b < a then a else b
/-- does the angle m of the first eighth reach the direction (v, u) -/
def arcP (u v m : Int) : Bool := decide (cosI m * u ≤ sinI m * v)
/-- the angle of the first eighth -/
def arcL (u v : Int) : Int := bsI (arcP u v) 0 45000
/-- the angle in the first quarter -/
def arcB (ay ax : Int) : Int := if ax < ay then 90000 - arcL (minI ax ay) (maxI ax ay) else arcL (minI ax ay) (maxI ax ay)
/-- the angle of a direction -/
def arcI (y x : Int) : Int :=
  if 0 ≤ x ∧ 0 ≤ y then arcB (absI y) (absI x) else if 0 ≤ y then 180000 - arcB (absI y) (absI x) else if x < 0 then 180000 + arcB (absI y) (absI x) else nrm (-arcB (absI y) (absI x))
theorem arcL_bd (u v : Int) : 0 ≤ arcL u v ∧ arcL u v ≤ 45000 := bsI_bd _ _ _ (by omega)
theorem arcB_bd (a b : Int) : 0 ≤ arcB a b ∧ arcB a b ≤ 90000 := by
  unfold arcB; have := arcL_bd (minI b a) (maxI b a); split <;> omega
theorem arcI_bd (y x : Int) : 0 ≤ arcI y x ∧ arcI y x < 360000 := by
  have := arcB_bd (absI y) (absI x)
  have := nrm_bd (-arcB (absI y) (absI x))
  unfold arcI; split
  · omega
  · split
    · omega
    · split <;> omega
/-- what ArcTangent answers -/
def arcO (y x : Int) : Int × Int := if inB x (-1000000000000) 1000000000000 && inB y (-1000000000000) 1000000000000 then (if x == 0 && y == 0 then (0, 6) else (arcI y x, 0)) else (0, 2)
def difI (a b : Int) : Int := nrm (nrm b - nrm a)
/-- the lesser angle between two angles -/
def betI (a b : Int) : Int := if difI a b ≤ 180000 then difI a b else 360000 - difI a b
/-- the angle from one angle to another -/
def sgnI (a b : Int) : Int := if 180000 < difI a b then difI a b - 360000 else difI a b
theorem difI_bd (a b : Int) : 0 ≤ difI a b ∧ difI a b < 360000 := nrm_bd _
theorem betI_bd (a b : Int) : 0 ≤ betI a b ∧ betI a b ≤ 180000 := by unfold betI; have := difI_bd a b; split <;> omega
theorem nrm_neg (d : Int) (h0 : 0 ≤ d) (h1 : d < 360000) : nrm (-d) = if d = 0 then 0 else 360000 - d := by unfold nrm; split <;> omega
end Go.Proofs.YtpnfhienffekoaaGreatDoor
end
section
namespace Go.Proofs.YtpnfhienffekoaaGreatDoor
set_option linter.unusedVariables false
set_option linter.unusedSimpArgs false
/-- is there a vector -/
def vVec (x y z : Int) : Bool := inB x (-2000000) 2000000 && (inB y (-2000000) 2000000 && inB z (-2000000) 2000000)
/-- the direction of two angles -/
def dirX (l b : Int) : Int := rnd (cosI b * cosI l) 1000000
def dirY (l b : Int) : Int := rnd (cosI b * sinI l) 1000000
def dirZ (b : Int) : Int := sinI b
/-- a vector turned around the second axis -/
def rotX (x z a : Int) : Int := rnd (x * cosI a + z * sinI a) 1000000
def rotZ (x z a : Int) : Int := rnd (z * cosI a - x * sinI a) 1000000
/-- a vector turned around the third axis -/
def rzX (x y a : Int) : Int := rnd (x * cosI a - y * sinI a) 1000000
def rzY (x y a : Int) : Int := rnd (x * sinI a + y * cosI a) 1000000
theorem unit_prod (a b : Int) (ha : -1000000 ≤ a ∧ a ≤ 1000000) (hb : -1000000 ≤ b ∧ b ≤ 1000000) : -1000000000000 ≤ a * b ∧ a * b ≤ 1000000000000 := by
  rcases Int.le_total 0 b with h | h
  · have := mul_small a b 1000000 1000000 ha ⟨h, hb.2⟩; omega
  · have := mul_small a (-b) 1000000 1000000 ha ⟨by omega, by omega⟩
    rw [Int.mul_neg] at this; omega
theorem two_prod (a b : Int) (ha : -2000000 ≤ a ∧ a ≤ 2000000) (hb : -1000000 ≤ b ∧ b ≤ 1000000) : -2000000000000 ≤ a * b ∧ a * b ≤ 2000000000000 := by
  rcases Int.le_total 0 b with h | h
  · have := mul_small a b 2000000 1000000 ha ⟨h, hb.2⟩; omega
  · have := mul_small a (-b) 2000000 1000000 ha ⟨by omega, by omega⟩
    rw [Int.mul_neg] at this; omega
theorem rnd_unit (a : Int) (h : -1000000000000 ≤ a ∧ a ≤ 1000000000000) : -1000000 ≤ rnd a 1000000 ∧ rnd a 1000000 ≤ 1000000 := rnd_between _ _ _ _ (by omega) (by omega) (by omega)
theorem rnd_two (a : Int) (h : -2000000000000 ≤ a ∧ a ≤ 2000000000000) : -2000000 ≤ rnd a 1000000 ∧ rnd a 1000000 ≤ 2000000 := rnd_between _ _ _ _ (by omega) (by omega) (by omega)
theorem dirX_bd (l b : Int) : -1000000 ≤ dirX l b ∧ dirX l b ≤ 1000000 := rnd_unit _ (unit_prod _ _ (cosI_bd b) (cosI_bd l))
theorem dirY_bd (l b : Int) : -1000000 ≤ dirY l b ∧ dirY l b ≤ 1000000 := rnd_unit _ (unit_prod _ _ (cosI_bd b) (sinI_bd l))
theorem dirZ_bd (b : Int) : -1000000 ≤ dirZ b ∧ dirZ b ≤ 1000000 := sinI_bd b
theorem rotX_bd {x z : Int} (hx : -1000000 ≤ x ∧ x ≤ 1000000) (hz : -1000000 ≤ z ∧ z ≤ 1000000) (a : Int) : -2000000 ≤ rotX x z a ∧ rotX x z a ≤ 2000000 := by
  have := unit_prod _ _ hx (cosI_bd a)
  have := unit_prod _ _ hz (sinI_bd a)
  exact rnd_two _ (by omega)
theorem rotZ_bd {x z : Int} (hx : -1000000 ≤ x ∧ x ≤ 1000000) (hz : -1000000 ≤ z ∧ z ≤ 1000000) (a : Int) : -2000000 ≤ rotZ x z a ∧ rotZ x z a ≤ 2000000 := by
  have := unit_prod _ _ hz (cosI_bd a)
  have := unit_prod _ _ hx (sinI_bd a)
  exact rnd_two _ (by omega)
theorem vVec_ok {x y z : Int} (hx : -2000000 ≤ x ∧ x ≤ 2000000) (hy : -2000000 ≤ y ∧ y ≤ 2000000) (hz : -2000000 ≤ z ∧ z ≤ 2000000) : vVec x y z = true := by
  have h1 : inB x (-2000000) 2000000 = true := (inB_iff _ _ _).2 hx
  have h2 : inB y (-2000000) 2000000 = true := (inB_iff _ _ _).2 hy
  have h3 : inB z (-2000000) 2000000 = true := (inB_iff _ _ _).2 hz
  simp [vVec, h1, h2, h3]
/-- the direction of a star over a horizon: north, west (or east), up -/
def hvX (la s r d : Int) : Int := rotZ (dirX (r - s) d) (dirZ d) la
def hvY (s r d : Int) : Int := dirY (r - s) d
def hvZ (la s r d : Int) : Int := rotX (dirX (r - s) d) (dirZ d) la
theorem hvX_bd (la s r d : Int) : -2000000 ≤ hvX la s r d ∧ hvX la s r d ≤ 2000000 := rotZ_bd (dirX_bd _ _) (dirZ_bd _) _
theorem hvY_bd (s r d : Int) : -1000000 ≤ hvY s r d ∧ hvY s r d ≤ 1000000 := dirY_bd _ _
theorem hvZ_bd (la s r d : Int) : -2000000 ≤ hvZ la s r d ∧ hvZ la s r d ≤ 2000000 := rotX_bd (dirX_bd _ _) (dirZ_bd _) _
theorem hv_ok (la s r d : Int) : vVec (hvX la s r d) (hvY s r d) (hvZ la s r d) = true := by
  have := hvY_bd s r d
  exact vVec_ok (hvX_bd _ _ _ _) (by omega) (hvZ_bd _ _ _ _)
/-- what HorizontalVector answers -/
def hvO (n : List UInt8) (lo la s r d : Int) : Int × Int × Int × Int := if askI n lo la s r d == 0 then (hvX la s r d, hvY s r d, hvZ la s r d, 0) else (0, 0, 0, askI n lo la s r d)
theorem hvO_ok {n : List UInt8} {lo la s r d : Int} (h : askI n lo la s r d = 0) : hvO n lo la s r d = (hvX la s r d, hvY s r d, hvZ la s r d, 0) := by rw [hvO, h]; rfl
theorem hvO_no {n : List UInt8} {lo la s r d : Int} (h : ¬ askI n lo la s r d = 0) : hvO n lo la s r d = (0, 0, 0, askI n lo la s r d) := by rw [hvO, if_neg (by simpa using h)]
/-- is a star not up, an hour angle behind its culmination -/
def dnP (la d h : Int) : Bool := decide (hvZ la h 0 d ≤ 0)
end Go.Proofs.YtpnfhienffekoaaGreatDoor
end
section
namespace Go.Proofs.YtpnfhienffekoaaGreatDoor
set_option linter.unusedVariables false
set_option linter.unusedSimpArgs false
theorem norm_all : (List.range 90).all (fun k => decide (970000000000 ≤ sinAt k * sinAt k + sinAt (89 - k) * sinAt (89 - k))) = true := by decide +kernel
theorem norm_at {k : Nat} (h : k < 90) : 970000000000 ≤ sinAt k * sinAt k + sinAt (89 - k) * sinAt (89 - k) := of_decide_eq_true (List.all_eq_true.1 norm_all k (List.mem_range.2 h))
theorem sq_mono {a b : Int} (h0 : 0 ≤ a) (h : a ≤ b) : a * a ≤ b * b := Int.mul_le_mul h h h0 (by omega)
theorem sinQ_ge {a : Int} {k : Nat} (h0 : 1000 * (k : Int) ≤ a) (h1 : a ≤ 1000 * ((k : Int) + 1)) (hk : k < 90) : sinAt k ≤ sinQ a := by
  have hs := sinAt_step k hk
  by_cases h : a = 1000 * ((k : Int) + 1)
  · subst h
    have := sinQ_zero (k + 1)
    rw [show (1000 : Int) * ((k + 1 : Nat) : Int) = 1000 * ((k : Int) + 1) by omega] at this
    omega
  · have hq := sinQ_step k (a % 1000) hk (by omega) (by omega)
    unfold sinQ
    rw [show (a / 1000).toNat = k by omega]
    omega
theorem normQ {r : Int} (h0 : 0 ≤ r) (h1 : r ≤ 90000) : 970000000000 ≤ sinQ r * sinQ r + sinQ (90000 - r) * sinQ (90000 - r) := by
  by_cases h : r = 90000
  · subst h
    have := sinQ_zero 90; have e : sinAt 90 = 1000000 := rfl; rw [e] at this; have e2 : (1000 * ((90 : Nat) : Int)) = 90000 := rfl; rw [e2] at this
    rw [this]
    have e0 := sinQ_bd (90000 - 90000) (by omega) (by omega)
    have := Int.mul_nonneg e0.1 e0.1
    omega
  · obtain ⟨k, hk⟩ : ∃ k : Nat, r / 1000 = k := ⟨(r / 1000).toNat, by omega⟩
    have hk9 : k < 90 := by omega
    have a1 := sinQ_ge (a := r) (k := k) (by omega) (by omega) hk9
    have a2 := sinQ_ge (a := 90000 - r) (k := 89 - k) (by omega) (by omega) (by omega)
    have b1 := sinAt_bd k (by omega)
    have b2 := sinAt_bd (89 - k) (by omega)
    have c1 := sq_mono b1.1 a1
    have c2 := sq_mono b2.1 a2
    have := norm_at hk9
    omega
theorem sinH_lo {x : Int} (h : x ≤ 90000) : sinH x = sinQ x := by rw [sinH, if_neg (by omega)]
theorem sinH_hi {x : Int} (h : 90000 ≤ x) : sinH x = sinQ (180000 - x) := by
  by_cases e : x = 90000
  · subst e; rfl
  · rw [sinH, if_pos (by omega)]
theorem sinN_lo {x : Int} (h : x < 180000) : sinN x = sinH x := by rw [sinN, if_neg (by omega)]
theorem sinN_hi {x : Int} (h : 180000 ≤ x) : sinN x = -(sinH (x - 180000)) := by rw [sinN, if_pos h]
/-- the sine and the cosine together -/
theorem norm_sc (a : Int) : 970000000000 ≤ sinI a * sinI a + cosI a * cosI a := by
  have hb := nrm_bd a
  unfold cosI
  unfold sinI
  generalize nrm a = b at *
  have e : ∀ x y : Int, 970000000000 ≤ x * x + y * y → 970000000000 ≤ (-x) * (-x) + y * y := fun x y h => by rwa [Int.neg_mul_neg]
  have e2 : ∀ x y : Int, 970000000000 ≤ x * x + y * y → 970000000000 ≤ x * x + (-y) * (-y) := fun x y h => by rwa [Int.neg_mul_neg]
  have e3 : ∀ x y : Int, 970000000000 ≤ x * x + y * y → 970000000000 ≤ y * y + x * x := fun x y h => by rwa [Int.add_comm]
  by_cases h1 : b < 90000
  · rw [nrm_of (by omega) (by omega), sinN_lo (by omega), sinN_lo (by omega), sinH_lo (by omega), sinH_hi (by omega), show 180000 - (b + 90000) = 90000 - b by omega]
    exact normQ (by omega) (by omega)
  · by_cases h2 : b < 180000
    · rw [nrm_of (a := b + 90000) (by omega) (by omega), sinN_lo (x := b) (by omega), sinN_hi (x := b + 90000) (by omega), sinH_hi (x := b) (by omega), sinH_lo (x := b + 90000 - 180000) (by omega)]
      refine e2 _ _ (e3 _ _ ?_)
      have := normQ (r := b - 90000) (by omega) (by omega)
      rwa [show 90000 - (b - 90000) = 180000 - b by omega, show b - 90000 = b + 90000 - 180000 by omega] at this
    · by_cases h3 : b < 270000
      · rw [nrm_of (a := b + 90000) (by omega) (by omega), sinN_hi (x := b) (by omega), sinN_hi (x := b + 90000) (by omega), sinH_lo (x := b - 180000) (by omega), sinH_hi (x := b + 90000 - 180000) (by omega)]
        refine e _ _ (e2 _ _ ?_)
        have := normQ (r := b - 180000) (by omega) (by omega)
        rwa [show 90000 - (b - 180000) = 180000 - (b + 90000 - 180000) by omega] at this
      · rw [show nrm (b + 90000) = b - 270000 by unfold nrm; omega, sinN_hi (x := b) (by omega), sinN_lo (x := b - 270000) (by omega), sinH_hi (x := b - 180000) (by omega), sinH_lo (x := b - 270000) (by omega)]
        refine e _ _ (e3 _ _ ?_)
        have := normQ (r := b - 270000) (by omega) (by omega)
        rwa [show 90000 - (b - 270000) = 180000 - (b - 180000) by omega] at this
theorem dot_id (x z c s : Int) : (x * c + z * s) * (x * c + z * s) + (z * c - x * s) * (z * c - x * s) = (x * x + z * z) * (c * c + s * s) := by grind
/-- what rounds to 0 is small -/
theorem rnd_zero {a : Int} (h : rnd a 1000000 = 0) : -500000 ≤ a ∧ a ≤ 500000 := by
  unfold rnd at h
  split at h <;> omega
theorem sq_rnd0 {a : Int} (h : -500000 ≤ a ∧ a ≤ 500000) : a * a ≤ 250000000000 := by
  have := mul_small a a 500000 500000 h
  rcases Int.le_total 0 a with h0 | h0
  · have := sq_mono h0 h.2; omega
  · have := sq_mono (a := -a) (b := 500000) (by omega) (by omega)
    rw [Int.neg_mul_neg] at this; omega
/-- a turned vector is zero only where the vector is -/
theorem rot_zero {x z a : Int} (h1 : rotX x z a = 0) (h2 : rotZ x z a = 0) : x = 0 ∧ z = 0 := by
  have s1 := sq_rnd0 (rnd_zero h1)
  have s2 := sq_rnd0 (rnd_zero h2)
  have hd := dot_id x z (cosI a) (sinI a)
  have hn := norm_sc a
  have hc : (x * x + z * z) * 970000000000 ≤ (x * x + z * z) * (cosI a * cosI a + sinI a * sinI a) := Int.mul_le_mul_of_nonneg_left (by omega) (by
    have hx : 0 ≤ x * x := by rcases Int.le_total 0 x with h | h; exact Int.mul_nonneg h h; exact Int.mul_nonneg_of_nonpos_of_nonpos h h
    have hz : 0 ≤ z * z := by rcases Int.le_total 0 z with h | h; exact Int.mul_nonneg h h; exact Int.mul_nonneg_of_nonpos_of_nonpos h h
    omega)
  have h0 : x * x + z * z ≤ 0 := by omega
  have key : ∀ y : Int, y ≠ 0 → 1 ≤ y * y := fun y hy => by
    rcases Int.lt_or_gt_of_ne hy with h | h
    · have := sq_mono (a := 1) (b := -y) (by omega) (by omega); rw [Int.neg_mul_neg] at this; omega
    · have := sq_mono (a := 1) (b := y) (by omega) (by omega); omega
  have nn : ∀ y : Int, 0 ≤ y * y := fun y => by
    by_cases hy : y = 0
    · subst hy; decide
    · have := key y hy; omega
  constructor
  · by_cases hx : x = 0
    · exact hx
    · have := key x hx; have := nn z; omega
  · by_cases hz : z = 0
    · exact hz
    · have := key z hz; have := nn x; omega
/-- a direction is not zero -/
theorem dir_zero {l b : Int} (h1 : dirX l b = 0) (h2 : dirY l b = 0) (h3 : dirZ b = 0) : False := by
  have s1 := sq_rnd0 (rnd_zero h1)
  have s2 := sq_rnd0 (rnd_zero h2)
  have hn := norm_sc b
  have hl := norm_sc l
  rw [show sinI b = 0 from h3] at hn
  have e : (cosI b * cosI l) * (cosI b * cosI l) + (cosI b * sinI l) * (cosI b * sinI l) = (cosI b * cosI b) * (cosI l * cosI l + sinI l * sinI l) := by grind
  have hb : 970000000000 ≤ cosI b * cosI b := by simpa using hn
  have hc : (970000000000 : Int) * 970000000000 ≤ (cosI b * cosI b) * (cosI l * cosI l + sinI l * sinI l) := Int.mul_le_mul hb (by omega) (by omega) (by omega)
  omega
end Go.Proofs.YtpnfhienffekoaaGreatDoor
end
section
namespace Go.Proofs.YtpnfhienffekoaaGreatDoor
set_option linter.unusedVariables false
set_option linter.unusedSimpArgs false
def rootU : Nat → Nat
  | 0 => 0
  | n + 1 => if (rootU n + 1) * (rootU n + 1) ≤ n + 1 then rootU n + 1 else rootU n
theorem rootU_spec (n : Nat) : rootU n * rootU n ≤ n ∧ n < (rootU n + 1) * (rootU n + 1) := by
  induction n with
  | zero => exact ⟨Nat.le_refl _, by show 0 < (0 + 1) * (0 + 1); omega⟩
  | succ n ih =>
    unfold rootU
    generalize rootU n = r at *
    split
    · rename_i h
      refine ⟨h, ?_⟩
      have : (r + 1 + 1) * (r + 1 + 1) = (r + 1) * (r + 1) + 2 * r + 3 := by simp only [Nat.add_mul, Nat.mul_add]; omega
      omega
    · exact ⟨by omega, by omega⟩
/-- the greatest number whose square is at most n; 0 if n is negative -/
def rootI (n : Int) : Int := rootU n.toNat
theorem rootI_neg {n : Int} (h : n ≤ 0) : rootI n = 0 := by
  have : n.toNat = 0 := by omega
  rw [rootI, this]; rfl
theorem rootI_nonneg (n : Int) : 0 ≤ rootI n := Int.natCast_nonneg _
theorem sq_lt_sq {a b : Nat} (h : a * a < b * b) : a < b := by
  by_cases hc : b ≤ a
  · have := Nat.mul_le_mul hc hc; omega
  · omega
theorem rootI_spec (n : Int) (h : 0 ≤ n) : rootI n * rootI n ≤ n ∧ n < (rootI n + 1) * (rootI n + 1) := by
  obtain ⟨k, rfl⟩ : ∃ k : Nat, n = k := ⟨n.toNat, by omega⟩
  have := rootU_spec k
  rw [rootI, Int.toNat_natCast]
  constructor
  · exact_mod_cast this.1
  · exact_mod_cast this.2
theorem rootI_unique (n : Int) (r : Nat) (h1 : (r : Int) * r ≤ n) (h2 : n < ((r : Int) + 1) * ((r : Int) + 1)) : rootI n = r := by
  have h0 : 0 ≤ n := by have : 0 ≤ (r : Int) * r := Int.mul_nonneg (by omega) (by omega); omega
  obtain ⟨k, rfl⟩ : ∃ k : Nat, n = k := ⟨n.toNat, by omega⟩
  have hs := rootU_spec k
  rw [rootI, Int.toNat_natCast]
  have a1 : r * r ≤ k := by exact_mod_cast h1
  have a2 : k < (r + 1) * (r + 1) := by exact_mod_cast h2
  have b1 : r < rootU k + 1 := sq_lt_sq (by omega)
  have b2 : rootU k < r + 1 := sq_lt_sq (by omega)
  have : rootU k = r := by omega
  rw [this]
theorem rootI_le (n : Int) (c : Nat) (h : n < ((c : Int) + 1) * ((c : Int) + 1)) : rootI n ≤ c := by
  by_cases h0 : 0 ≤ n
  · have hs := rootI_spec n h0
    have h1 := rootI_nonneg n
    obtain ⟨r, hr⟩ : ∃ r : Nat, rootI n = r := ⟨(rootI n).toNat, by omega⟩
    rw [hr] at hs ⊢
    have : r * r < (c + 1) * (c + 1) := by
      have : (r : Int) * r < ((c : Int) + 1) * ((c : Int) + 1) := by omega
      exact_mod_cast this
    have := sq_lt_sq this
    omega
  · rw [rootI_neg (by omega)]; omega
/-- squares up to the greatest root that a number of 64 bits has -/
theorem sq_small (r : Nat) (h : r ≤ 3037000499) : 0 ≤ (r : Int) * r ∧ (r : Int) * r ≤ 9223372030926249001 := by
  have h1 : r * r ≤ 3037000499 * 3037000499 := Nat.mul_le_mul h h
  have h2 : (r : Int) * r = ((r * r : Nat) : Int) := by rw [Int.natCast_mul]
  rw [h2]; omega
end Go.Proofs.YtpnfhienffekoaaGreatDoor
end
section
namespace Go.Proofs.YtpnfhienffekoaaGreatDoor
set_option linter.unusedVariables false
set_option linter.unusedSimpArgs false
/-- a vector -/
structure V3 where
  x : Int
  y : Int
  z : Int
/-- its parts are at most one -/
def V3.sm (v : V3) : Prop := (-1000000 ≤ v.x ∧ v.x ≤ 1000000) ∧ (-1000000 ≤ v.y ∧ v.y ≤ 1000000) ∧ (-1000000 ≤ v.z ∧ v.z ≤ 1000000)
/-- its parts are at most two -/
def V3.md (v : V3) : Prop := (-2000000 ≤ v.x ∧ v.x ≤ 2000000) ∧ (-2000000 ≤ v.y ∧ v.y ≤ 2000000) ∧ (-2000000 ≤ v.z ∧ v.z ≤ 2000000)
def crV (a b : V3) : V3 := ⟨rnd (a.y * b.z - a.z * b.y) 1000000, rnd (a.z * b.x - a.x * b.z) 1000000, rnd (a.x * b.y - a.y * b.x) 1000000⟩
def sqV (v : V3) : Int := v.x * v.x + v.y * v.y + v.z * v.z
def lenV (v : V3) : Int := rootI (sqV v)
def dotV (a b : V3) : Int := rnd (a.x * b.x + a.y * b.y + a.z * b.z) 1000000
def zeroV (v : V3) : Bool := (v.x == 0) && ((v.y == 0) && (v.z == 0))
def sepOk (a b : V3) : Bool := !(zeroV a || (zeroV b || ((lenV (crV a b) == 0) && (dotV a b == 0))))
/-- the angle between two vectors; 0 if there is none -/
def sepI (a b : V3) : Int := if sepOk a b then arcI (lenV (crV a b)) (dotV a b) else 0
def dirV (l b : Int) : V3 := ⟨dirX l b, dirY l b, dirZ b⟩
theorem dirV_sm (l b : Int) : (dirV l b).sm := ⟨dirX_bd l b, dirY_bd l b, dirZ_bd b⟩
theorem V3.sm.md {v : V3} (h : v.sm) : v.md := by
  obtain ⟨⟨h1, h2⟩, ⟨h3, h4⟩, h5, h6⟩ := h
  exact ⟨⟨by omega, by omega⟩, ⟨by omega, by omega⟩, by omega, by omega⟩
theorem rnd_minus (a b : Int) (hb : 0 < b) : rnd (-a) b = -(rnd a b) := by
  rcases Int.lt_trichotomy a 0 with h | h | h
  · rw [rnd_neg a b h hb, Int.neg_neg]
  · subst h
    have : rnd 0 b = 0 := by rw [rnd, if_pos (by omega)]; exact Int.ediv_eq_zero_of_lt (by omega) (by omega)
    rw [Int.neg_zero, this]; rfl
  · rw [rnd_neg (-a) b (by omega) hb, Int.neg_neg]
theorem crV_swap (a b : V3) : crV b a = ⟨-(crV a b).x, -(crV a b).y, -(crV a b).z⟩ := by
  have e (p q r s : Int) : p * q - r * s = -(s * r - q * p) := by rw [Int.mul_comm p q, Int.mul_comm r s]; omega
  unfold crV
  simp only
  rw [e b.y a.z b.z a.y, e b.z a.x b.x a.z, e b.x a.y b.y a.x, rnd_minus _ _ (by omega), rnd_minus _ _ (by omega), rnd_minus _ _ (by omega)]
theorem lenV_swap (a b : V3) : lenV (crV b a) = lenV (crV a b) := by
  rw [crV_swap a b]; simp only [lenV, sqV, Int.neg_mul_neg]
theorem dotV_swap (a b : V3) : dotV b a = dotV a b := by
  unfold dotV; rw [Int.mul_comm b.x, Int.mul_comm b.y, Int.mul_comm b.z]
theorem sepOk_swap (a b : V3) : sepOk b a = sepOk a b := by
  unfold sepOk; rw [lenV_swap, dotV_swap]; cases zeroV a <;> cases zeroV b <;> rfl
theorem sepI_swap (a b : V3) : sepI b a = sepI a b := by unfold sepI; rw [sepOk_swap, lenV_swap, dotV_swap]
theorem crV_md {a b : V3} (ha : a.sm) (hb : b.sm) : (crV a b).md := by
  obtain ⟨a1, a2, a3⟩ := ha
  obtain ⟨b1, b2, b3⟩ := hb
  have p1 := unit_prod _ _ a2 b3
  have p2 := unit_prod _ _ a3 b2
  have p3 := unit_prod _ _ a3 b1
  have p4 := unit_prod _ _ a1 b3
  have p5 := unit_prod _ _ a1 b2
  have p6 := unit_prod _ _ a2 b1
  exact ⟨rnd_two _ (by omega), rnd_two _ (by omega), rnd_two _ (by omega)⟩
theorem sq_bd (x : Int) (h : -2000000 ≤ x ∧ x ≤ 2000000) : 0 ≤ x * x ∧ x * x ≤ 4000000000000 := by
  rcases Int.le_total 0 x with h0 | h0
  · have := mul_small x x 2000000 2000000 h ⟨h0, h.2⟩
    have := Int.mul_nonneg h0 h0; omega
  · have e : x * x = -x * -x := by rw [Int.neg_mul_neg]
    have := mul_small (-x) (-x) 2000000 2000000 ⟨by omega, by omega⟩ ⟨by omega, by omega⟩
    have := Int.mul_nonneg (show 0 ≤ -x by omega) (show 0 ≤ -x by omega)
    rw [e]; omega
theorem sqV_bd {v : V3} (h : v.md) : 0 ≤ sqV v ∧ sqV v ≤ 12000000000000 := by
  obtain ⟨h1, h2, h3⟩ := h
  have := sq_bd _ h1
  have := sq_bd _ h2
  have := sq_bd _ h3
  unfold sqV; omega
theorem lenV_bd {v : V3} (h : v.md) : 0 ≤ lenV v ∧ lenV v ≤ 4000000 := by
  have := sqV_bd h
  exact ⟨rootI_nonneg _, rootI_le _ 4000000 (by have e : ((4000000 : Nat) : Int) = 4000000 := rfl; rw [e]; omega)⟩
theorem dotV_bd {a b : V3} (ha : a.sm) (hb : b.sm) : -3000000 ≤ dotV a b ∧ dotV a b ≤ 3000000 := by
  obtain ⟨a1, a2, a3⟩ := ha
  obtain ⟨b1, b2, b3⟩ := hb
  have p1 := unit_prod _ _ a1 b1
  have p2 := unit_prod _ _ a2 b2
  have p3 := unit_prod _ _ a3 b3
  exact rnd_between _ _ _ _ (by omega) (by omega) (by omega)
/-- what Separation answers -/
def sepO (a b : V3) : Int × Int := if sepOk a b then (arcI (lenV (crV a b)) (dotV a b), 0) else (0, 6)
theorem sepO_fst (a b : V3) : (sepO a b).1 = sepI a b := by unfold sepO sepI; split <;> rfl
theorem sepI_bd (a b : V3) : 0 ≤ sepI a b ∧ sepI a b < 360000 := by
  unfold sepI; split
  · exact arcI_bd _ _
  · omega
/-- the arc behind a separation -/
theorem arcO_sep {a b : V3} (ha : a.sm) (hb : b.sm) (h1 : zeroV a = false) (h2 : zeroV b = false) : arcO (lenV (crV a b)) (dotV a b) = sepO a b := by
  have l := lenV_bd (crV_md ha hb)
  have d := dotV_bd ha hb
  have i1 : inB (dotV a b) (-1000000000000) 1000000000000 = true := (inB_iff _ _ _).2 (by omega)
  have i2 : inB (lenV (crV a b)) (-1000000000000) 1000000000000 = true := (inB_iff _ _ _).2 (by omega)
  unfold arcO sepO sepOk
  rw [h1, h2, i1, i2]
  cases lenV (crV a b) == 0 <;> cases dotV a b == 0 <;> rfl
theorem sepO_zero {a b : V3} (h : zeroV a = true ∨ zeroV b = true) : sepO a b = (0, 6) := by
  unfold sepO sepOk
  rcases h with h | h
  · rw [h]; rfl
  · rw [h]; cases zeroV a <;> rfl
end Go.Proofs.YtpnfhienffekoaaGreatDoor
end
section
namespace Go.Proofs.YtpnfhienffekoaaGreatDoor
set_option linter.unusedVariables false
set_option linter.unusedSimpArgs false
/-- what SettingHour answers -/
def settO (n : List UInt8) (lo la d : Int) : Int × Int := if vSite n lo la then (if inB d (-90000) 90000 then (if dnP la d 0 || !dnP la d 180000 then (0, 6) else (bsI (dnP la d) 0 180000, 0)) else (0, 2)) else (0, 1)
theorem settO_site {n : List UInt8} {lo la d : Int} (h : vSite n lo la = false) : settO n lo la d = (0, 1) := by rw [settO, h]; rfl
theorem settO_range {n : List UInt8} {lo la d : Int} (h : vSite n lo la = true) (h2 : inB d (-90000) 90000 = false) : settO n lo la d = (0, 2) := by rw [settO, h, h2]; rfl
theorem settO_low {n : List UInt8} {lo la d : Int} (h : vSite n lo la = true) (h2 : inB d (-90000) 90000 = true) (h3 : dnP la d 0 = true) : settO n lo la d = (0, 6) := by rw [settO, h, h2, h3]; rfl
theorem settO_high {n : List UInt8} {lo la d : Int} (h : vSite n lo la = true) (h2 : inB d (-90000) 90000 = true) (h3 : dnP la d 0 = false) (h4 : dnP la d 180000 = false) : settO n lo la d = (0, 6) := by rw [settO, h, h2, h3, h4]; rfl
theorem settO_yes {n : List UInt8} {lo la d : Int} (h : vSite n lo la = true) (h2 : inB d (-90000) 90000 = true) (h3 : dnP la d 0 = false) (h4 : dnP la d 180000 = true) : settO n lo la d = (bsI (dnP la d) 0 180000, 0) := by rw [settO, h, h2, h3, h4]; rfl
theorem settO_bd (n : List UInt8) (lo la d : Int) : 0 ≤ (settO n lo la d).1 ∧ (settO n lo la d).1 ≤ 180000 := by
  have := bsI_bd (dnP la d) 0 180000 (by omega)
  unfold settO; repeat' split
  all_goals (simp; try omega)
theorem askI_zero {n : List UInt8} {lo la d h : Int} (h1 : vSite n lo la = true) (h2 : 0 ≤ h ∧ h ≤ 359999) (h3 : inB d (-90000) 90000 = true) : askI n lo la h 0 d = 0 := by
  have e1 : inB h 0 359999 = true := (inB_iff _ _ _).2 h2
  have e2 : inB 0 0 359999 = true := by decide
  simp [askI, h1, e1, e2, h3]
def settI (la d : Int) : Int := if dnP la d 0 || !dnP la d 180000 then 0 else bsI (dnP la d) 0 180000
def setB (la d : Int) : Bool := !(dnP la d 0 || !dnP la d 180000)
theorem set_no {la d : Int} (h : (dnP la d 0 || !dnP la d 180000) = true) : settI la d = 0 ∧ setB la d = false := by rw [settI, setB, h]; exact ⟨rfl, rfl⟩
theorem set_yes {la d : Int} (h : (dnP la d 0 || !dnP la d 180000) = false) : settI la d = bsI (dnP la d) 0 180000 ∧ setB la d = true := by rw [settI, setB, h]; exact ⟨rfl, rfl⟩
/-- what RisingOf and SettingOf answer -/
def riseO (n : List UInt8) (lo la r d : Int) (sg : Int) : Int × Int := if vSite n lo la then (if vDir r d then (if (settO n lo la d).2 == 0 then (nrm (r + sg * (settO n lo la d).1), 0) else (0, (settO n lo la d).2)) else (0, 2)) else (0, 1)
theorem riseO_site {n : List UInt8} {lo la r d sg : Int} (h : vSite n lo la = false) : riseO n lo la r d sg = (0, 1) := by rw [riseO, h]; rfl
theorem riseO_range {n : List UInt8} {lo la r d sg : Int} (h : vSite n lo la = true) (h2 : vDir r d = false) : riseO n lo la r d sg = (0, 2) := by rw [riseO, h, h2]; rfl
theorem riseO_no {n : List UInt8} {lo la r d sg : Int} (h : vSite n lo la = true) (h2 : vDir r d = true) (h3 : (settO n lo la d).2 = 6) : riseO n lo la r d sg = (0, 6) := by rw [riseO, h, h2, h3]; rfl
theorem riseO_yes {n : List UInt8} {lo la r d sg : Int} {h : Int} (h1 : vSite n lo la = true) (h2 : vDir r d = true) (h3 : settO n lo la d = (h, 0)) : riseO n lo la r d sg = (nrm (r + sg * h), 0) := by rw [riseO, h1, h2, h3]; rfl
theorem vDir_bd {r d : Int} (h : vDir r d = true) : 0 ≤ r ∧ r ≤ 359999 ∧ -90000 ≤ d ∧ d ≤ 90000 := by
  simp only [vDir, Bool.and_eq_true, inB_iff] at h; omega
theorem vDir_d {r d : Int} (h : vDir r d = true) : inB d (-90000) 90000 = true := by
  have := vDir_bd h; exact (inB_iff _ _ _).2 (by omega)
/-- the four ways of SettingHour -/
theorem sett_cases (la d : Int) : dnP la d 0 = true ∨ (dnP la d 0 = false ∧ dnP la d 180000 = false) ∨ (dnP la d 0 = false ∧ dnP la d 180000 = true) := by
  cases dnP la d 0 <;> cases dnP la d 180000 <;> simp
theorem settO_two {n : List UInt8} {lo la d : Int} (h : vSite n lo la = true) (h2 : inB d (-90000) 90000 = true) : (settO n lo la d = (0, 6) ∧ (dnP la d 0 || !dnP la d 180000) = true) ∨ (∃ k, settO n lo la d = (k, 0) ∧ 0 ≤ k ∧ k ≤ 180000 ∧ k = bsI (dnP la d) 0 180000 ∧ (dnP la d 0 || !dnP la d 180000) = false) := by
  cases hq : (dnP la d 0 || !dnP la d 180000) with
  | true => exact .inl ⟨by rw [settO, h, h2, hq]; rfl, rfl⟩
  | false =>
    have := bsI_bd (dnP la d) 0 180000 (by omega)
    exact .inr ⟨_, by rw [settO, h, h2, hq]; rfl, this.1, this.2, rfl, rfl⟩
end Go.Proofs.YtpnfhienffekoaaGreatDoor
end
section
namespace Go.Proofs.YtpnfhienffekoaaGreatDoor
set_option linter.unusedVariables false
set_option linter.unusedSimpArgs false
def lonI (v : V3) : Int := (arcO v.y v.x).1
def flatI (v : V3) : Int := rootI (v.x * v.x + v.y * v.y)
def latR (v : V3) : Int := arcI v.z (flatI v)
def latI (v : V3) : Int := if 90000 < latR v then latR v - 360000 else latR v
/-- what AnglesOf answers -/
def anglesO (v : V3) : Int × Int × Int := if zeroV v then (0, 0, 6) else (lonI v, latI v, 0)
theorem anglesO_zero {v : V3} (h : zeroV v = true) : anglesO v = (0, 0, 6) := by rw [anglesO, if_pos h]
theorem anglesO_yes {v : V3} (h : zeroV v = false) : anglesO v = (lonI v, latI v, 0) := by rw [anglesO, if_neg (by rw [h]; exact Bool.false_ne_true)]
theorem flatI_bd {v : V3} (h : v.md) : 0 ≤ flatI v ∧ flatI v ≤ 4000000 := by
  obtain ⟨h1, h2, _⟩ := h
  have := sq_bd _ h1
  have := sq_bd _ h2
  exact ⟨rootI_nonneg _, rootI_le _ 4000000 (by have e : ((4000000 : Nat) : Int) = 4000000 := rfl; rw [e]; omega)⟩
theorem sq_zero {x : Int} (h : x * x ≤ 0) : x = 0 := by
  rcases Int.lt_trichotomy x 0 with h0 | h0 | h0
  · have := Int.mul_pos_of_neg_of_neg h0 h0; omega
  · exact h0
  · have := Int.mul_pos h0 h0; omega
theorem flat_zero {v : V3} (h : v.md) (h0 : flatI v = 0) : v.x = 0 ∧ v.y = 0 := by
  obtain ⟨h1, h2, _⟩ := h
  have a1 := sq_bd _ h1
  have a2 := sq_bd _ h2
  have := (rootI_spec (v.x * v.x + v.y * v.y) (by omega)).2
  rw [show rootI (v.x * v.x + v.y * v.y) = 0 from h0] at this
  exact ⟨sq_zero (by omega), sq_zero (by omega)⟩
theorem inB_big {x : Int} (h : -4000000 ≤ x ∧ x ≤ 4000000) : inB x (-1000000000000) 1000000000000 = true := (inB_iff _ _ _).2 (by omega)
theorem lat_arc {v : V3} (h : v.md) (hz : zeroV v = false) : arcO v.z (flatI v) = (latR v, 0) := by
  have f := flatI_bd h
  have i1 : inB (flatI v) (-1000000000000) 1000000000000 = true := inB_big (by omega)
  have i2 : inB v.z (-1000000000000) 1000000000000 = true := inB_big (by have := h.2.2; omega)
  have : (flatI v == 0 && v.z == 0) = false := by
    cases hf : flatI v == 0 with
    | false => rfl
    | true =>
      have := flat_zero h (by simpa using hf)
      simp only [zeroV, this.1, this.2, beq_self_eq_true, Bool.true_and] at hz
      rw [hz]; rfl
  rw [arcO, i1, i2, this]; rfl
theorem lon_arc {v : V3} (h : v.md) (hz : ¬ (v.x = 0 ∧ v.y = 0)) : lonI v = arcI v.y v.x := by
  have i1 : inB v.x (-1000000000000) 1000000000000 = true := inB_big (by have := h.1; omega)
  have i2 : inB v.y (-1000000000000) 1000000000000 = true := inB_big (by have := h.2.1; omega)
  have : (v.x == 0 && v.y == 0) = false := by
    cases hx : v.x == 0 with
    | false => rfl
    | true =>
      cases hy : v.y == 0 with
      | false => rfl
      | true => exact absurd ⟨by simpa using hx, by simpa using hy⟩ hz
  rw [lonI, arcO, i1, i2, this]; rfl
theorem lon_none {v : V3} (hz : v.x = 0 ∧ v.y = 0) : lonI v = 0 := by
  have i1 : inB 0 (-1000000000000) 1000000000000 = true := by decide
  rw [lonI, hz.1, hz.2, arcO, i1]; rfl
theorem lonI_bd {v : V3} (h : v.md) : 0 ≤ lonI v ∧ lonI v < 360000 := by
  by_cases hz : v.x = 0 ∧ v.y = 0
  · rw [lon_none hz]; omega
  · rw [lon_arc h hz]; exact arcI_bd _ _
def hvV (la s r d : Int) : V3 := ⟨hvX la s r d, hvY s r d, hvZ la s r d⟩
theorem hvV_md (la s r d : Int) : (hvV la s r d).md := by
  have := hvY_bd s r d
  exact ⟨hvX_bd _ _ _ _, ⟨by show -2000000 ≤ hvY s r d; omega, by show hvY s r d ≤ 2000000; omega⟩, hvZ_bd _ _ _ _⟩
/-- what Horizontal answers -/
def horO (n : List UInt8) (lo la s r d : Int) : Int × Int × Int := if askI n lo la s r d == 0 then anglesO (hvV la s r d) else (0, 0, askI n lo la s r d)
theorem horO_ok {n : List UInt8} {lo la s r d : Int} (h : askI n lo la s r d = 0) : horO n lo la s r d = anglesO (hvV la s r d) := by rw [horO, h]; rfl
theorem horO_no {n : List UInt8} {lo la s r d : Int} (h : ¬ askI n lo la s r d = 0) : horO n lo la s r d = (0, 0, askI n lo la s r d) := by rw [horO, if_neg (by simpa using h)]
/-- the vector of a direction over a horizon, turned back -/
def eqV (la a h : Int) : V3 := ⟨rotX (dirZ h) (dirX a h) (-la), dirY a h, rotZ (dirZ h) (dirX a h) (-la)⟩
theorem eqV_md (la a h : Int) : (eqV la a h).md := by
  have := dirY_bd a h
  exact ⟨rotX_bd (dirZ_bd _) (dirX_bd _ _) _, ⟨by show -2000000 ≤ dirY a h; omega, by show dirY a h ≤ 2000000; omega⟩, rotZ_bd (dirZ_bd _) (dirX_bd _ _) _⟩
/-- what EquatorialOf answers -/
def equO (n : List UInt8) (lo la s a h : Int) : Int × Int × Int := if askI n lo la s a h == 0 then (if zeroV (eqV la a h) then (0, 0, 6) else (nrm (s + lonI (eqV la a h)), latI (eqV la a h), 0)) else (0, 0, askI n lo la s a h)
theorem equO_no {n : List UInt8} {lo la s a h : Int} (hk : ¬ askI n lo la s a h = 0) : equO n lo la s a h = (0, 0, askI n lo la s a h) := by rw [equO, if_neg (by simpa using hk)]
theorem equO_zero {n : List UInt8} {lo la s a h : Int} (hk : askI n lo la s a h = 0) (hz : zeroV (eqV la a h) = true) : equO n lo la s a h = (0, 0, 6) := by rw [equO, hk, hz]; rfl
theorem equO_yes {n : List UInt8} {lo la s a h : Int} (hk : askI n lo la s a h = 0) (hz : zeroV (eqV la a h) = false) : equO n lo la s a h = (nrm (s + lonI (eqV la a h)), latI (eqV la a h), 0) := by rw [equO, hk, hz]; rfl
end Go.Proofs.YtpnfhienffekoaaGreatDoor
end
section
namespace Go.Proofs.YtpnfhienffekoaaGreatDoor
set_option linter.unusedVariables false
set_option linter.unusedSimpArgs false
theorem rnd_mono {a c b : Int} (hb : 0 < b) (h : a ≤ c) : rnd a b ≤ rnd c b := by
  unfold rnd
  by_cases h1 : 0 ≤ a
  · rw [if_pos h1, if_pos (by omega)]
    exact Int.ediv_le_ediv (by omega) (by omega)
  · rw [if_neg h1]
    have h3 : 0 ≤ (b - 2 * a) / (2 * b) := Int.ediv_nonneg (by omega) (by omega)
    by_cases h2 : 0 ≤ c
    · rw [if_pos h2]
      have : 0 ≤ (2 * c + b) / (2 * b) := Int.ediv_nonneg (by omega) (by omega)
      omega
    · rw [if_neg h2]
      have : (b - 2 * c) / (2 * b) ≤ (b - 2 * a) / (2 * b) := Int.ediv_le_ediv (by omega) (by omega)
      omega
theorem sinAt_mono : ∀ (m k : Nat), k ≤ m → m ≤ 90 → sinAt k ≤ sinAt m
  | 0, k, h, _ => by obtain rfl : k = 0 := by omega
                     exact Int.le_refl _
  | m + 1, k, h, hm => by
    by_cases e : k = m + 1
    · subst e; exact Int.le_refl _
    · have := sinAt_mono m k (by omega) (by omega)
      have := sinAt_step m (by omega)
      omega
theorem sinQ_le {a : Int} {k : Nat} (h0 : 1000 * (k : Int) ≤ a) (h1 : a < 1000 * ((k : Int) + 1)) (hk : k < 90) : sinQ a ≤ sinAt (k + 1) := by
  have hs := sinAt_step k hk
  have hq := sinQ_step k (a % 1000) hk (by omega) (by omega)
  unfold sinQ
  rw [show (a / 1000).toNat = k by omega]
  omega
theorem sinQ_mono {a c : Int} (h0 : 0 ≤ a) (h : a ≤ c) (h1 : c ≤ 90000) : sinQ a ≤ sinQ c := by
  by_cases e : c = 90000
  · subst e
    have := sinQ_zero 90
    have e2 : (1000 * ((90 : Nat) : Int)) = 90000 := rfl
    rw [e2] at this
    have e3 : sinAt 90 = 1000000 := rfl
    have := sinQ_bd a h0 (by omega)
    omega
  · obtain ⟨k, hk⟩ : ∃ k : Nat, a / 1000 = k := ⟨(a / 1000).toNat, by omega⟩
    obtain ⟨m, hm⟩ : ∃ m : Nat, c / 1000 = m := ⟨(c / 1000).toNat, by omega⟩
    by_cases hkm : k = m
    · subst hkm
      have hs := sinAt_step k (by omega)
      unfold sinQ
      rw [show (a / 1000).toNat = k by omega, show (c / 1000).toNat = k by omega]
      have := rnd_mono (b := 1000) (by omega) (Int.mul_le_mul_of_nonneg_left (show a % 1000 ≤ c % 1000 by omega) (show 0 ≤ sinAt (k + 1) - sinAt k by omega))
      omega
    · have h2 := sinQ_le (a := a) (k := k) (by omega) (by omega) (by omega)
      have h3 := sinQ_ge (a := c) (k := m) (by omega) (by omega) (by omega)
      have h4 := sinAt_mono m (k + 1) (by omega) (by omega)
      omega
/-- the cosine from 0 to half a turn -/
theorem cosI_lo {a : Int} (h0 : 0 ≤ a) (h1 : a ≤ 90000) : cosI a = sinQ (90000 - a) := by
  unfold cosI sinI
  rw [nrm_of (a := a) (by omega) (by omega), nrm_of (by omega) (by omega)]
  by_cases e : a = 90000
  · subst e
    rw [sinN_hi (by omega), sinH_lo (by omega)]
    have := sinQ_zero 0
    have e2 : (1000 * ((0 : Nat) : Int)) = 0 := rfl
    rw [e2] at this
    show -sinQ 0 = sinQ 0
    rw [this]; rfl
  · rw [sinN_lo (by omega), sinH_hi (by omega), show 180000 - (a + 90000) = 90000 - a by omega]
theorem cosI_hi {a : Int} (h0 : 90000 ≤ a) (h1 : a ≤ 180000) : cosI a = -(sinQ (a - 90000)) := by
  unfold cosI sinI
  rw [nrm_of (a := a) (by omega) (by omega), nrm_of (by omega) (by omega), sinN_hi (by omega), sinH_lo (by omega), show a + 90000 - 180000 = a - 90000 by omega]
theorem cosI_hi2 {a : Int} (h0 : 180000 ≤ a) (h1 : a ≤ 270000) : cosI a = -(sinQ (270000 - a)) := by
  by_cases e : a = 270000
  · subst e; decide +kernel
  · unfold cosI sinI
    rw [nrm_of (a := a) (by omega) (by omega), nrm_of (by omega) (by omega), sinN_hi (by omega), sinH_hi (by omega), show 180000 - (a + 90000 - 180000) = 270000 - a by omega]
theorem cosI_lo2 {a : Int} (h0 : 270000 ≤ a) (h1 : a < 360000) : cosI a = sinQ (a - 270000) := by
  unfold cosI sinI
  rw [nrm_of (a := a) (by omega) (by omega), show nrm (a + 90000) = a - 270000 by unfold nrm; omega, sinN_lo (by omega), sinH_lo (by omega)]
theorem cosI_nrm (a : Int) : cosI (nrm a) = cosI a := by
  unfold cosI
  rw [show nrm (nrm a) = nrm a by unfold nrm; omega]
theorem cosI_even {a : Int} (h0 : 0 ≤ a) (h1 : a < 360000) : cosI (-a) = cosI a := by
  by_cases e : a = 0
  · subst e; rfl
  · rw [← cosI_nrm (-a), nrm_neg a h0 h1, if_neg e]
    by_cases h2 : a ≤ 90000
    · rw [cosI_lo h0 h2]
      by_cases e2 : a = 90000
      · subst e2; decide +kernel
      · rw [cosI_lo2 (by omega) (by omega), show 360000 - a - 270000 = 90000 - a by omega]
    · by_cases h3 : a ≤ 180000
      · rw [cosI_hi (by omega) h3, cosI_hi2 (by omega) (by omega), show 270000 - (360000 - a) = a - 90000 by omega]
      · by_cases h4 : a ≤ 270000
        · rw [cosI_hi2 (by omega) h4, cosI_hi (by omega) (by omega), show 360000 - a - 90000 = 270000 - a by omega]
        · rw [cosI_lo2 (by omega) h1, cosI_lo (by omega) (by omega), show 90000 - (360000 - a) = a - 270000 by omega]
theorem cosI_fall {a c : Int} (h0 : 0 ≤ a) (h : a ≤ c) (h1 : c ≤ 180000) : cosI c ≤ cosI a := by
  by_cases h2 : c ≤ 90000
  · rw [cosI_lo (by omega) h2, cosI_lo h0 (by omega)]
    exact sinQ_mono (by omega) (by omega) (by omega)
  · rw [cosI_hi (a := c) (by omega) h1]
    have b1 := sinQ_bd (c - 90000) (by omega) (by omega)
    by_cases h3 : a ≤ 90000
    · rw [cosI_lo h0 h3]
      have := sinQ_bd (90000 - a) (by omega) (by omega)
      omega
    · rw [cosI_hi (a := a) (by omega) (by omega)]
      have := sinQ_mono (a := a - 90000) (c := c - 90000) (by omega) (by omega) (by omega)
      omega
theorem cosI_pos {a : Int} (h0 : -90000 ≤ a) (h1 : a ≤ 90000) : 0 ≤ cosI a := by
  by_cases h : 0 ≤ a
  · rw [cosI_lo h h1]; exact (sinQ_bd _ (by omega) (by omega)).1
  · rw [show a = -(-a) by omega, cosI_even (by omega) (by omega), cosI_lo (by omega) (by omega)]; exact (sinQ_bd _ (by omega) (by omega)).1
/-- a star sinks with the cosine of its hour angle -/
theorem hvZ_cos {la d s r s' r' : Int} (hla : -90000 ≤ la ∧ la ≤ 90000) (hd : -90000 ≤ d ∧ d ≤ 90000) (h : cosI (r - s) ≤ cosI (r' - s')) : hvZ la s r d ≤ hvZ la s' r' d := by
  have c1 := cosI_pos hd.1 hd.2
  have c2 := cosI_pos hla.1 hla.2
  have h1 : dirX (r - s) d ≤ dirX (r' - s') d := rnd_mono (by omega) (Int.mul_le_mul_of_nonneg_left h c1)
  unfold hvZ rotX
  refine rnd_mono (by omega) ?_
  have := Int.mul_le_mul_of_nonneg_right h1 c2
  omega
/-- above the horizon before it sets -/
theorem up_before {la d r u : Int} (hla : -90000 ≤ la ∧ la ≤ 90000) (hd : -90000 ≤ d ∧ d ≤ 90000) (h0 : dnP la d 0 = false) (h1 : dnP la d 180000 = true) (hu : absI u < bsI (dnP la d) 0 180000) : 0 < hvZ la (nrm (r + u)) r d := by
  have hb := bsI_bd (dnP la d) 0 180000 (by omega)
  have ha := (bsI_at (dnP la d) 0 180000 (by omega)).2
  generalize bsI (dnP la d) 0 180000 = h at *
  have hab := absI_bd u
  rcases ha with ha | ha
  · omega
  · simp only [dnP, decide_eq_false_iff_not, Int.not_le] at ha
    refine Int.lt_of_lt_of_le ha (hvZ_cos hla hd ?_)
    rw [show (0 : Int) - (h - 1) = -(h - 1) by omega, cosI_even (by omega) (by omega)]
    have e : cosI (r - nrm (r + u)) = cosI (absI u) := by
      rw [← cosI_nrm (r - nrm (r + u))]
      have e1 : nrm (r - nrm (r + u)) = nrm (-u) := by unfold nrm; omega
      rw [e1, cosI_nrm]
      unfold absI
      split
      · rfl
      · rw [cosI_even (by omega) (by omega)]
    rw [e]
    exact cosI_fall (by omega) (by omega) (by omega)
/-- the hour at which a star sets -/
theorem set_pos {la d : Int} (h0 : dnP la d 0 = false) (h1 : dnP la d 180000 = true) : 1 ≤ bsI (dnP la d) 0 180000 ∧ bsI (dnP la d) 0 180000 ≤ 180000 := by
  have hb := bsI_bd (dnP la d) 0 180000 (by omega)
  have ha := (bsI_at (dnP la d) 0 180000 (by omega)).1
  generalize bsI (dnP la d) 0 180000 = h at *
  refine ⟨?_, hb.2⟩
  by_cases e : h = 0
  · subst e
    rcases ha with ha | ha
    · omega
    · rw [h0] at ha; cases ha
  · omega
theorem rise_set {r h : Int} (hr : 0 ≤ r ∧ r ≤ 359999) (h0 : 0 ≤ h) (h1 : h ≤ 180000) : betI (nrm (r + (-1) * h)) r = betI (nrm (r + 1 * h)) r ∧ nrm (nrm (r + 1 * h) - r) = h := by
  unfold betI difI nrm
  constructor
  · repeat' split
    all_goals omega
  · omega
end Go.Proofs.YtpnfhienffekoaaGreatDoor
end
