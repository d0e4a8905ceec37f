/- Plain functions: a search by halves; the angle of a direction; angles between angles. Nothing of the program is named here. -/
import Derived.Test.YtbpjnopnhmoigaaDoorPlainAng
namespace Go.Proofs.YtbpjnopnhmoigaaDoor
set_option linter.unusedVariables false
set_option linter.unusedSimpArgs false

/-- a search by halves, with fuel -/
def bs (p : Int → Bool) : Nat → Int → Int → Int
  | 0, lo, _ => lo
  | n + 1, lo, hi => if lo < hi then (if p ((lo + hi) / 2) then bs p n lo ((lo + hi) / 2) else bs p n ((lo + hi) / 2 + 1) hi) else lo
theorem bs_fuel (p : Int → Bool) : ∀ (n m : Nat) (lo hi : Int), (hi - lo).toNat ≤ n → (hi - lo).toNat ≤ m → bs p n lo hi = bs p m lo hi
  | 0, 0, _, _, _, _ => rfl
  | 0, m + 1, lo, hi, h, _ => by
    have : ¬ lo < hi := by omega
    rw [bs, bs, if_neg this]
  | n + 1, 0, lo, hi, _, h => by
    have : ¬ lo < hi := by omega
    rw [bs, bs, if_neg this]
  | n + 1, m + 1, lo, hi, h1, h2 => by
    rw [bs, bs]
    by_cases hc : lo < hi
    · rw [if_pos hc, if_pos hc, bs_fuel p n m lo _ (by omega) (by omega), bs_fuel p n m _ hi (by omega) (by omega)]
    · rw [if_neg hc, if_neg hc]
/-- the least place from lo to hi at which p holds, if p is rising -/
def bsI (p : Int → Bool) (lo hi : Int) : Int := bs p (hi - lo).toNat lo hi
theorem bsI_end (p : Int → Bool) (lo hi : Int) (h : ¬ lo < hi) : bsI p lo hi = lo := by
  have : (hi - lo).toNat = 0 := by omega
  rw [bsI, this, bs]
theorem bsI_step (p : Int → Bool) (lo hi : Int) (h : lo < hi) : bsI p lo hi = if p ((lo + hi) / 2) then bsI p lo ((lo + hi) / 2) else bsI p ((lo + hi) / 2 + 1) hi := by
  obtain ⟨n, hn⟩ : ∃ n, (hi - lo).toNat = n + 1 := ⟨(hi - lo).toNat - 1, by omega⟩
  rw [bsI, hn, bs, if_pos h, bsI, bsI, bs_fuel p n ((lo + hi) / 2 - lo).toNat lo _ (by omega) (by omega), bs_fuel p n (hi - ((lo + hi) / 2 + 1)).toNat _ hi (by omega) (by omega)]
theorem bsI_yes (p : Int → Bool) (lo hi : Int) (h : lo < hi) (hp : p ((lo + hi) / 2) = true) : bsI p lo hi = bsI p lo ((lo + hi) / 2) := by rw [bsI_step p lo hi h, if_pos hp]
theorem bsI_no (p : Int → Bool) (lo hi : Int) (h : lo < hi) (hp : p ((lo + hi) / 2) = false) : bsI p lo hi = bsI p ((lo + hi) / 2 + 1) hi := by rw [bsI_step p lo hi h, if_neg (by rw [hp]; exact Bool.false_ne_true)]
theorem bs_bd (p : Int → Bool) : ∀ (n : Nat) (lo hi : Int), lo ≤ hi → lo ≤ bs p n lo hi ∧ bs p n lo hi ≤ hi
  | 0, lo, hi, h => by rw [bs]; omega
  | n + 1, lo, hi, h => by
    rw [bs]
    split
    · split
      · have := bs_bd p n lo ((lo + hi) / 2) (by omega); omega
      · have := bs_bd p n ((lo + hi) / 2 + 1) hi (by omega); omega
    · omega
theorem bsI_bd (p : Int → Bool) (lo hi : Int) (h : lo ≤ hi) : lo ≤ bsI p lo hi ∧ bsI p lo hi ≤ hi := bs_bd p _ lo hi h
/-- what was found has p, or is the end; what stands before it has not, or it is the beginning -/
theorem bs_at (p : Int → Bool) : ∀ (n : Nat) (lo hi : Int), (hi - lo).toNat ≤ n → lo ≤ hi → (bs p n lo hi = hi ∨ p (bs p n lo hi) = true) ∧ (bs p n lo hi = lo ∨ p (bs p n lo hi - 1) = false)
  | 0, lo, hi, hf, h => by rw [bs]; exact ⟨.inl (by omega), .inl rfl⟩
  | n + 1, lo, hi, hf, h => by
    rw [bs]
    split
    · rename_i hlt
      cases hp : p ((lo + hi) / 2) with
      | true =>
        rw [if_pos rfl]
        obtain ⟨h1, h2⟩ := bs_at p n lo ((lo + hi) / 2) (by omega) (by omega)
        refine ⟨?_, h2⟩
        rcases h1 with h1 | h1
        · right; rw [h1]; exact hp
        · exact .inr h1
      | false =>
        rw [if_neg Bool.false_ne_true]
        obtain ⟨h1, h2⟩ := bs_at p n ((lo + hi) / 2 + 1) hi (by omega) (by omega)
        refine ⟨h1, ?_⟩
        rcases h2 with h2 | h2
        · right; rw [h2, show (lo + hi) / 2 + 1 - 1 = (lo + hi) / 2 by omega]; exact hp
        · exact .inr h2
    · exact ⟨.inl (by omega), .inl rfl⟩
theorem bsI_at (p : Int → Bool) (lo hi : Int) (h : lo ≤ hi) : (bsI p lo hi = hi ∨ p (bsI p lo hi) = true) ∧ (bsI p lo hi = lo ∨ p (bsI p lo hi - 1) = false) := bs_at p _ lo hi (Nat.le_refl _) h

def minI (a b : Int) : Int := if a < b then a else b
def maxI (a b : Int) : Int := if b < a then a else b
/-- does the angle m of the first eighth reach the direction (v, u) -/
def arcP (u v m : Int) : Bool := decide (cosI m * u ≤ sinI m * v)
/-- the angle of the first eighth -/
def arcL (u v : Int) : Int := bsI (arcP u v) 0 45000
/-- the angle in the first quarter -/
def arcB (ay ax : Int) : Int := if ax < ay then 90000 - arcL (minI ax ay) (maxI ax ay) else arcL (minI ax ay) (maxI ax ay)
/-- the angle of a direction -/
def arcI (y x : Int) : Int :=
  if 0 ≤ x ∧ 0 ≤ y then arcB (absI y) (absI x) else if 0 ≤ y then 180000 - arcB (absI y) (absI x) else if x < 0 then 180000 + arcB (absI y) (absI x) else nrm (-arcB (absI y) (absI x))
theorem arcL_bd (u v : Int) : 0 ≤ arcL u v ∧ arcL u v ≤ 45000 := bsI_bd _ _ _ (by omega)
theorem arcB_bd (a b : Int) : 0 ≤ arcB a b ∧ arcB a b ≤ 90000 := by
  unfold arcB; have := arcL_bd (minI b a) (maxI b a); split <;> omega
theorem arcI_bd (y x : Int) : 0 ≤ arcI y x ∧ arcI y x < 360000 := by
  have := arcB_bd (absI y) (absI x)
  have := nrm_bd (-arcB (absI y) (absI x))
  unfold arcI; split
  · omega
  · split
    · omega
    · split <;> omega
/-- what ArcTangent answers -/
def arcO (y x : Int) : Int × Int := if inB x (-1000000000000) 1000000000000 && inB y (-1000000000000) 1000000000000 then (if x == 0 && y == 0 then (0, 6) else (arcI y x, 0)) else (0, 2)
def difI (a b : Int) : Int := nrm (nrm b - nrm a)
/-- the lesser angle between two angles -/
def betI (a b : Int) : Int := if difI a b ≤ 180000 then difI a b else 360000 - difI a b
/-- the angle from one angle to another -/
def sgnI (a b : Int) : Int := if 180000 < difI a b then difI a b - 360000 else difI a b
theorem difI_bd (a b : Int) : 0 ≤ difI a b ∧ difI a b < 360000 := nrm_bd _
theorem betI_bd (a b : Int) : 0 ≤ betI a b ∧ betI a b ≤ 180000 := by unfold betI; have := difI_bd a b; split <;> omega
theorem nrm_neg (d : Int) (h0 : 0 ≤ d) (h1 : d < 360000) : nrm (-d) = if d = 0 then 0 else 360000 - d := by unfold nrm; split <;> omega
end Go.Proofs.YtbpjnopnhmoigaaDoor
