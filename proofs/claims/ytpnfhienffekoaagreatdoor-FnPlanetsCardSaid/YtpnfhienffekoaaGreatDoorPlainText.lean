/- Texts, plainly: decimal numbers and how they are read, the parts of a line between bytes of one kind. -/
import Derived.Lib.ItoaMem
import Derived.Lib.ItoaLen
import Derived.Lib.ParseIntBCases
import Derived.Lib.SplitLaws
import Derived.Lib.Strings
namespace Go.Proofs.YtpnfhienffekoaaGreatDoor
set_option linter.unusedVariables false
set_option linter.unusedSimpArgs false
open Go.Lib

/-- what digits spell, behind a number -/
def valD (acc : Nat) : List UInt8 → Nat
  | [] => acc
  | c :: r => valD (acc * 10 + (c.toNat - 48)) r
def isD (c : UInt8) : Bool := decide (48 ≤ c.toNat) && decide (c.toNat ≤ 57)
theorem isD_iff (c : UInt8) : isD c = true ↔ 48 ≤ c.toNat ∧ c.toNat ≤ 57 := by simp [isD]
theorem valD_append : ∀ (a b : List UInt8) (acc : Nat), valD acc (a ++ b) = valD (valD acc a) b
  | [], _, _ => rfl
  | c :: r, b, acc => valD_append r b _
theorem valD_snoc (acc : Nat) (a : List UInt8) (c : UInt8) : valD acc (a ++ [c]) = valD acc a * 10 + (c.toNat - 48) := by rw [valD_append]; rfl
theorem valD_ge : ∀ (l : List UInt8) (acc : Nat), acc ≤ valD acc l
  | [], _ => Nat.le_refl _
  | c :: r, acc => Nat.le_trans (by omega) (valD_ge r (acc * 10 + (c.toNat - 48)))
theorem valD_lt : ∀ (l : List UInt8) (acc : Nat), l.all isD = true → valD acc l < (acc + 1) * 10 ^ l.length
  | [], acc, _ => by
    show acc < (acc + 1) * 10 ^ 0
    rw [Nat.pow_zero]; omega
  | c :: r, acc, h => by
    rw [List.all_cons, Bool.and_eq_true, isD_iff] at h
    have h1 := valD_lt r (acc * 10 + (c.toNat - 48)) h.2
    have h2 : (acc * 10 + (c.toNat - 48) + 1) * 10 ^ r.length ≤ ((acc + 1) * 10) * 10 ^ r.length := Nat.mul_le_mul_right _ (by omega)
    have h3 : (acc + 1) * 10 ^ (c :: r).length = ((acc + 1) * 10) * 10 ^ r.length := by
      rw [List.length_cons, Nat.pow_succ, Nat.mul_comm (10 ^ r.length) 10, ← Nat.mul_assoc]
    rw [h3]
    exact Nat.lt_of_lt_of_le h1 h2
theorem ofNat_digit (c : UInt8) (h : isD c = true) : UInt8.ofNat (48 + (c.toNat - 48)) = c := by
  rw [isD_iff] at h
  rw [show 48 + (c.toNat - 48) = c.toNat by omega]
  simp

/-! the numeral -/
theorem decDigits_big {u : Nat} (h : ¬ u < 10) : decDigits u = decDigits (u / 10) ++ [UInt8.ofNat (48 + u % 10)] := by rw [decDigits, dif_neg h]
theorem ofNat_toNat {k : Nat} (h : k < 10) : (UInt8.ofNat (48 + k)).toNat = 48 + k := by
  rw [UInt8.toNat_ofNat']; omega
theorem decDigits_all (u : Nat) : (decDigits u).all isD = true := by
  induction u using Nat.strongRecOn with
  | _ u ih =>
    by_cases h : u < 10
    · rw [decDigits_one h, List.all_cons, List.all_nil, Bool.and_true, isD_iff, ofNat_toNat h]; omega
    · rw [decDigits_big h, List.all_append, ih _ (by omega), List.all_cons, List.all_nil, Bool.and_true, Bool.true_and, isD_iff, ofNat_toNat (by omega)]; omega
theorem decDigits_val (u : Nat) : valD 0 (decDigits u) = u := by
  induction u using Nat.strongRecOn with
  | _ u ih =>
    by_cases h : u < 10
    · rw [decDigits_one h]; show 0 * 10 + ((UInt8.ofNat (48 + u)).toNat - 48) = u; rw [ofNat_toNat h]; omega
    · rw [decDigits_big h, valD_snoc, ih _ (by omega), ofNat_toNat (by omega)]; omega
theorem decDigits_ne (u : Nat) : decDigits u ≠ [] := by
  intro e
  have := decDigits_length u
  have := nDigits_pos u
  rw [e] at *; simp at *; omega
theorem head_append {a b : List UInt8} (h : a ≠ []) : (a ++ b).head? = a.head? := by cases a with | nil => exact absurd rfl h | cons x r => rfl
theorem decDigits_head (u : Nat) (h1 : 1 ≤ u) : (decDigits u).head? ≠ some 48 := by
  induction u using Nat.strongRecOn with
  | _ u ih =>
    by_cases h : u < 10
    · rw [decDigits_one h]
      intro e
      have e2 : UInt8.ofNat (48 + u) = 48 := by simpa using e
      have := congrArg UInt8.toNat e2
      rw [ofNat_toNat h] at this
      have h48 : (48 : UInt8).toNat = 48 := rfl
      omega
    · rw [decDigits_big h, head_append (decDigits_ne _)]
      exact ih _ (by omega) (by omega)
theorem valD_pos : ∀ (ds : List UInt8), ds ≠ [] → ds.all isD = true → ds.head? ≠ some 48 → 1 ≤ valD 0 ds
  | [], h, _, _ => absurd rfl h
  | c :: r, _, h, h48 => by
    rw [List.all_cons, Bool.and_eq_true, isD_iff] at h
    have hc : c.toNat ≠ 48 := fun e => h48 (by show some c = some 48; congr 1; exact UInt8.toNat_inj.1 e)
    exact Nat.le_trans (show 1 ≤ 0 * 10 + (c.toNat - 48) by omega) (valD_ge r _)
theorem decDigits_of (ds : List UInt8) (hne : ds ≠ []) (hall : ds.all isD = true) (h48 : ds.head? ≠ some 48 ∨ ds.length = 1) : decDigits (valD 0 ds) = ds := by
  suffices H : ∀ (k : Nat) (ds : List UInt8), ds.length = k → ds ≠ [] → ds.all isD = true → (ds.head? ≠ some 48 ∨ ds.length = 1) → decDigits (valD 0 ds) = ds from H _ ds rfl hne hall h48
  intro k
  induction k with
  | zero => intro ds h hne; exact absurd (List.eq_nil_of_length_eq_zero h) hne
  | succ k ih =>
    intro ds hl hne hall h48
    obtain ⟨r, c, rfl⟩ : ∃ r c, ds = r ++ [c] := ⟨ds.dropLast, ds.getLast hne, (List.dropLast_concat_getLast hne).symm⟩
    rw [List.all_append, Bool.and_eq_true, List.all_cons, List.all_nil, Bool.and_true] at hall
    obtain ⟨hr, hc⟩ := hall
    have hc' := (isD_iff c).1 hc
    rw [List.length_append, List.length_singleton] at hl
    by_cases hrn : r = []
    · subst hrn
      show decDigits (0 * 10 + (c.toNat - 48)) = [c]
      rw [decDigits_one (by omega), show 48 + (0 * 10 + (c.toNat - 48)) = 48 + (c.toNat - 48) by omega, ofNat_digit c hc]
    · have hrl : 1 ≤ r.length := List.length_pos_iff.2 hrn
      have hh : r.head? ≠ some 48 := by
        rcases h48 with h | h
        · rwa [head_append hrn] at h
        · rw [List.length_append, List.length_singleton] at h; omega
      have hp := valD_pos r hrn hr hh
      rw [valD_snoc, decDigits_big (by omega), show (valD 0 r * 10 + (c.toNat - 48)) / 10 = valD 0 r by omega, show (valD 0 r * 10 + (c.toNat - 48)) % 10 = c.toNat - 48 by omega, ofNat_digit c hc, ih r (by omega) hrn hr (.inl hh)]

/-! the library's reading -/
theorem parseM_digits (M : Nat) (hM : M ≤ 18446744073709551615) : ∀ (l : List UInt8) (acc : Nat), l.all isD = true → valD acc l ≤ M → parseUintM M acc l = .ok (valD acc l)
  | [], _, _, _ => rfl
  | c :: r, acc, h, hv => by
    rw [List.all_cons, Bool.and_eq_true, isD_iff] at h
    have hge := valD_ge r (acc * 10 + (c.toNat - 48))
    have hv' : valD (acc * 10 + (c.toNat - 48)) r ≤ M := hv
    rw [parseUintM, if_pos h.1, if_neg (by omega), if_neg (by omega), parseM_digits M hM r _ h.2 hv']
    rfl
theorem parseM_ok (M : Nat) : ∀ (l : List UInt8) (acc u : Nat), parseUintM M acc l = .ok u → l.all isD = true ∧ u = valD acc l
  | [], acc, u, h => by
    simp only [parseUintM] at h
    injection h with h
    exact ⟨rfl, h.symm⟩
  | c :: r, acc, u, h => by
    simp only [parseUintM] at h
    split at h
    · rename_i hc
      split at h
      · cases h
      · split at h
        · cases h
        · have := parseM_ok M r _ u h
          exact ⟨by rw [List.all_cons, this.1, Bool.and_true, isD_iff]; exact hc, this.2⟩
    · cases h

/-- a number as the reference reads it -/
def numL (l : List UInt8) : Option Int :=
  if (if l.head? = some 45 then l.tail else l) = [] ∨ 18 < (if l.head? = some 45 then l.tail else l).length ∨ (if l.head? = some 45 then l.tail else l).head? = some 48 ∧ 1 < l.length then none
  else if (if l.head? = some 45 then l.tail else l).all isD then some (if l.head? = some 45 then -(valD 0 l.tail : Int) else (valD 0 l : Int))
  else none
/-- a number as the program reads it -/
def decI (l : List UInt8) : Option Int :=
  if 1 ≤ (trimPrefix l [45]).length ∧ (trimPrefix l [45]).length ≤ 18 then
    match parseIntB 64 l with
    | .ok n => if itoa n = l then some n else none
    | _ => none
  else none
theorem trim_minus (r : List UInt8) : trimPrefix (45 :: r) [45] = r := by simp [trimPrefix, hasPrefix, List.isPrefixOf]
theorem trim_other (l : List UInt8) (h : l.head? ≠ some 45) : trimPrefix l [45] = l := by
  cases l with
  | nil => rfl
  | cons c r =>
    have hc : c ≠ 45 := fun e => h (by rw [e]; rfl)
    simp [trimPrefix, hasPrefix, List.isPrefixOf, Ne.symm hc]
theorem numL_minus (r : List UInt8) : numL (45 :: r) = if r = [] ∨ 18 < r.length ∨ r.head? = some 48 then none else if r.all isD then some (-(valD 0 r : Int)) else none := by
  unfold numL
  simp only [List.head?_cons, if_true, List.tail_cons, List.length_cons]
  by_cases hr : r = []
  · simp [hr]
  · have : 1 < r.length + 1 := by have := List.length_pos_iff.2 hr; omega
    simp only [this, and_true]
theorem numL_plain (l : List UInt8) (h : l.head? ≠ some 45) : numL l = if l = [] ∨ 18 < l.length ∨ l.head? = some 48 ∧ 1 < l.length then none else if l.all isD then some (valD 0 l : Int) else none := by
  unfold numL; simp only [h, if_false]
theorem itoa_of_nat (u : Nat) : itoa (u : Int) = decDigits u := itoa_nonneg u
theorem head_digit {l : List UInt8} (h : l.all isD = true) : l.head? ≠ some 45 ∧ l.head? ≠ some 43 := by
  cases l with
  | nil => simp
  | cons c r =>
    rw [List.all_cons, Bool.and_eq_true, isD_iff] at h
    constructor
    · intro e
      have : c = 45 := by simpa using e
      subst this; exact absurd h.1.1 (by decide)
    · intro e
      have : c = 43 := by simpa using e
      subst this; exact absurd h.1.1 (by decide)
theorem itoa_numL (n : Int) (h : n.natAbs < 1000000000000000000) : numL (itoa n) = some n := by
  have hlen : ∀ u : Nat, u < 1000000000000000000 → (decDigits u).length ≤ 18 := fun u hu => by
    rw [decDigits_length]
    by_cases h0 : 18 < nDigits u
    · exfalso
      have : ∀ k u, nDigits u = k + 1 → 1 ≤ u → 10 ^ k ≤ u := by
        intro k
        induction k with
        | zero => intro u _ h; simpa using h
        | succ k ih =>
          intro u hk hu
          by_cases h9 : u < 10
          · rw [nDigits_small h9] at hk; omega
          · rw [nDigits_big h9] at hk
            have := ih (u / 10) (by omega) (by omega)
            rw [Nat.pow_succ]; omega
      have hu1 : 1 ≤ u := by
        by_cases h9 : u < 10
        · rw [nDigits_small h9] at h0; omega
        · omega
      have h2 := this (nDigits u - 1) u (by omega) hu1
      have h3 : (10 : Nat) ^ 18 ≤ 10 ^ (nDigits u - 1) := Nat.pow_le_pow_right (by omega) (by omega)
      have h4 : (10 : Nat) ^ 18 = 1000000000000000000 := by decide
      omega
    · omega
  by_cases hn : n < 0
  · obtain ⟨u, rfl⟩ : ∃ u : Nat, n = -(u : Int) := ⟨n.natAbs, by omega⟩
    rw [itoa_neg u (by omega), numL_minus]
    have h1 := decDigits_head u (by omega)
    have h2 := hlen u (by omega)
    rw [if_neg (by simp only [decDigits_ne, h1, or_false, false_or]; omega), if_pos (decDigits_all u), decDigits_val]
  · obtain ⟨u, rfl⟩ : ∃ u : Nat, n = (u : Int) := ⟨n.toNat, by omega⟩
    rw [itoa_of_nat, numL_plain _ (head_digit (decDigits_all u)).1]
    have h2 := hlen u (by omega)
    rw [if_neg, if_pos (decDigits_all u), decDigits_val]
    rintro (h1 | h1 | ⟨h1, h3⟩)
    · exact decDigits_ne u h1
    · omega
    · by_cases h0 : u = 0
      · subst h0; rw [decDigits_one (by omega)] at h3; simp at h3
      · exact decDigits_head u (by omega) h1
/-- the number that is read has this very text -/
theorem numL_itoa {l : List UInt8} {n : Int} (h : numL l = some n) : itoa n = l ∧ n.natAbs < 1000000000000000000 ∧ l ≠ [] := by
  have hb : ∀ ds : List UInt8, ds.all isD = true → ds.length ≤ 18 → valD 0 ds < 1000000000000000000 := fun ds h1 h2 => by
    have := valD_lt ds 0 h1
    have h3 : (10 : Nat) ^ ds.length ≤ 10 ^ 18 := Nat.pow_le_pow_right (by omega) h2
    have h4 : (10 : Nat) ^ 18 = 1000000000000000000 := by decide
    omega
  by_cases h45 : l.head? = some 45
  · obtain ⟨r, rfl⟩ : ∃ r, l = 45 :: r := by
      cases l with
      | nil => cases h45
      | cons c r => exact ⟨r, by rw [show c = 45 by simpa using h45]⟩
    rw [numL_minus] at h
    split at h
    · cases h
    · rename_i hn
      split at h
      · rename_i hall
        injection h with h
        subst h
        have hne : r ≠ [] := fun e => hn (.inl e)
        have hh : r.head? ≠ some 48 := fun e => hn (.inr (.inr e))
        have hp := valD_pos r hne hall hh
        have := hb r hall (by by_cases hx : 18 < r.length; exact absurd (.inr (.inl hx)) hn; omega)
        refine ⟨?_, by omega, by simp⟩
        rw [itoa_neg _ hp, decDigits_of r hne hall (.inl hh)]
      · cases h
  · rw [numL_plain l h45] at h
    split at h
    · cases h
    · rename_i hn
      split at h
      · rename_i hall
        injection h with h
        subst h
        have hne : l ≠ [] := fun e => hn (.inl e)
        have hl : l.length ≤ 18 := by by_cases hx : 18 < l.length; exact absurd (.inr (.inl hx)) hn; omega
        have := hb l hall hl
        refine ⟨?_, by omega, hne⟩
        rw [itoa_of_nat, decDigits_of l hne hall]
        by_cases hx : l.head? = some 48
        · by_cases h1 : 1 < l.length
          · exact absurd (.inr (.inr ⟨hx, h1⟩)) hn
          · have := List.length_pos_iff.2 hne; exact .inr (by omega)
        · exact .inl hx
      · cases h
theorem parse_itoa (n : Int) (h : n.natAbs < 1000000000000000000) : parseIntB 64 (itoa n) = .ok n := by
  have hM : (2 : Nat) ^ 64 - 1 = 18446744073709551615 := by decide
  have hu : ∀ u : Nat, u < 1000000000000000000 → parseUintB 64 (decDigits u) = .ok u := fun u hu => by
    unfold parseUintB
    rw [if_neg (decDigits_ne u), hM, parseM_digits _ (by omega) _ 0 (decDigits_all u) (by rw [decDigits_val]; omega), decDigits_val]
  have h63 : (2 : Nat) ^ (64 - 1) = 9223372036854775808 := by decide
  by_cases hn : n < 0
  · obtain ⟨u, rfl⟩ : ∃ u : Nat, n = -(u : Int) := ⟨n.natAbs, by omega⟩
    rw [itoa_neg u (by omega), parseIntB_minus, hu u (by omega), signedC, h63, if_neg (by omega)]
  · obtain ⟨u, rfl⟩ : ∃ u : Nat, n = (u : Int) := ⟨n.toNat, by omega⟩
    rw [itoa_of_nat]
    have hh := head_digit (decDigits_all u)
    have hne := decDigits_ne u
    have hp := hu u (by omega)
    generalize decDigits u = ds at *
    cases ds with
    | nil => exact absurd rfl hne
    | cons c r =>
      rw [parseIntB_plain 64 c r (fun e => hh.2 (by show some c = some 43; congr 1; exact UInt8.toNat_inj.1 e)) (fun e => hh.1 (by show some c = some 45; congr 1; exact UInt8.toNat_inj.1 e)), hp, signlessC, h63, if_neg (by omega)]
theorem itoa_head (n : Int) : (itoa n).head? = some 45 ↔ n < 0 := by
  by_cases hn : n < 0
  · obtain ⟨u, rfl⟩ : ∃ u : Nat, n = -(u : Int) := ⟨n.natAbs, by omega⟩
    rw [itoa_neg u (by omega)]; simp; omega
  · obtain ⟨u, rfl⟩ : ∃ u : Nat, n = (u : Int) := ⟨n.toNat, by omega⟩
    rw [itoa_of_nat]
    simp only [(head_digit (decDigits_all u)).1, false_iff]; omega
theorem decI_numL (l : List UInt8) : decI l = numL l := by
  cases hn : numL l with
  | some n =>
    obtain ⟨h1, h2, h3⟩ := numL_itoa hn
    have hp := parse_itoa n h2
    rw [h1] at hp
    unfold decI
    have hlen : 1 ≤ (trimPrefix l [45]).length ∧ (trimPrefix l [45]).length ≤ 18 := by
      by_cases h45 : l.head? = some 45
      · obtain ⟨r, rfl⟩ : ∃ r, l = 45 :: r := by
          cases l with
          | nil => cases h45
          | cons c r => exact ⟨r, by rw [show c = 45 by simpa using h45]⟩
        rw [trim_minus]
        rw [numL_minus] at hn
        split at hn
        · cases hn
        · rename_i hx
          have : r ≠ [] := fun e => hx (.inl e)
          have := List.length_pos_iff.2 this
          exact ⟨by omega, by by_cases hx2 : 18 < r.length; exact absurd (.inr (.inl hx2)) hx; omega⟩
      · rw [trim_other l h45]
        rw [numL_plain l h45] at hn
        split at hn
        · cases hn
        · rename_i hx
          have := List.length_pos_iff.2 h3
          exact ⟨by omega, by by_cases hx2 : 18 < l.length; exact absurd (.inr (.inl hx2)) hx; omega⟩
    rw [if_pos hlen, hp]
    simp only [h1, if_true]
  | none =>
    unfold decI
    split
    · rename_i hlen
      split
      · rename_i n hp
        split
        · rename_i hi
          exfalso
          have hnat : n.natAbs < 1000000000000000000 := by
            have h10 : (10 : Nat) ^ 18 = 1000000000000000000 := by decide
            have hlt : ∀ u : Nat, (decDigits u).length ≤ 18 → u < 1000000000000000000 := fun u hu => by
              have := lt_pow_nDigits u
              rw [decDigits_length] at hu
              have h3 : (10 : Nat) ^ nDigits u ≤ 10 ^ 18 := Nat.pow_le_pow_right (by omega) hu
              omega
            subst hi
            by_cases hn0 : n < 0
            · obtain ⟨u, rfl⟩ : ∃ u : Nat, n = -(u : Int) := ⟨n.natAbs, by omega⟩
              rw [itoa_neg u (by omega), trim_minus] at hlen
              have := hlt u hlen.2; omega
            · obtain ⟨u, rfl⟩ : ∃ u : Nat, n = (u : Int) := ⟨n.toNat, by omega⟩
              rw [itoa_of_nat, trim_other _ (head_digit (decDigits_all u)).1] at hlen
              have := hlt u hlen.2; omega
          have := itoa_numL n hnat
          rw [hi, hn] at this
          cases this
        · rfl
      · rfl
    · rfl

/-! the parts of a line -/
def partsL (c : UInt8) : List UInt8 → List (List UInt8)
  | [] => [[]]
  | b :: r => if b = c then [] :: partsL c r else ((b :: (partsL c r).headD []) :: (partsL c r).tail)
theorem partsL_ne (c : UInt8) : ∀ l, partsL c l ≠ []
  | [] => by simp [partsL]
  | b :: r => by unfold partsL; split <;> simp
theorem partsL_cons (c : UInt8) (l : List UInt8) : ∃ p ps, partsL c l = p :: ps := by
  cases h : partsL c l with
  | nil => exact absurd h (partsL_ne c l)
  | cons p ps => exact ⟨p, ps, rfl⟩
theorem partsL_miss (c : UInt8) : ∀ l : List UInt8, (∀ b ∈ l, b ≠ c) → partsL c l = [l]
  | [], _ => rfl
  | b :: r, h => by
    unfold partsL
    rw [if_neg (h b (List.mem_cons_self ..)), partsL_miss c r (fun x hx => h x (List.mem_cons_of_mem _ hx))]
    rfl
theorem partsL_hit (c : UInt8) : ∀ (a r : List UInt8), (∀ b ∈ a, b ≠ c) → partsL c (a ++ c :: r) = a :: partsL c r
  | [], r, _ => by show partsL c (c :: r) = _; rw [partsL, if_pos rfl]
  | b :: a, r, h => by
    show partsL c (b :: (a ++ c :: r)) = _
    rw [partsL, if_neg (h b (List.mem_cons_self ..)), partsL_hit c a r (fun x hx => h x (List.mem_cons_of_mem _ hx))]
    rfl
/-- the parts joined again -/
def joinC (c : UInt8) : List (List UInt8) → List UInt8
  | [] => []
  | [p] => p
  | p :: q :: r => p ++ c :: joinC c (q :: r)
theorem joinC_parts (c : UInt8) : ∀ l, joinC c (partsL c l) = l
  | [] => rfl
  | b :: r => by
    have ih := joinC_parts c r
    unfold partsL
    obtain ⟨p, ps, hp⟩ := partsL_cons c r
    rw [hp] at ih ⊢
    split
    · rename_i h
      subst h
      show [] ++ b :: joinC b (p :: ps) = _
      rw [ih]; rfl
    · cases ps with
      | nil => show b :: p = b :: r; rw [show p = r from ih]
      | cons q ps => show (b :: p) ++ c :: joinC c (q :: ps) = b :: r; rw [List.cons_append]; congr 1
theorem parts_free (c : UInt8) : ∀ l : List UInt8, ∀ p ∈ partsL c l, ∀ b ∈ p, b ≠ c
  | [], p, hp, b, hb => by
    rw [show p = [] by simpa [partsL] using hp] at hb; cases hb
  | x :: r, p, hp, b, hb => by
    have ih := parts_free c r
    unfold partsL at hp
    obtain ⟨q, qs, hq⟩ := partsL_cons c r
    rw [hq] at hp ih
    split at hp
    · rcases List.mem_cons.1 hp with rfl | hp
      · cases hb
      · exact ih p hp b hb
    · rename_i hx
      rcases List.mem_cons.1 hp with rfl | hp
      · rcases List.mem_cons.1 hb with rfl | hb
        · exact hx
        · exact ih q (List.mem_cons_self ..) b hb
      · exact ih p (List.mem_cons_of_mem _ hp) b hb
theorem parts_join (c : UInt8) : ∀ ps : List (List UInt8), ps ≠ [] → (∀ p ∈ ps, ∀ b ∈ p, b ≠ c) → partsL c (joinC c ps) = ps
  | [], h, _ => absurd rfl h
  | [p], _, h => partsL_miss c p (h p (List.mem_cons_self ..))
  | p :: q :: r, _, h => by
    show partsL c (p ++ c :: joinC c (q :: r)) = _
    rw [partsL_hit c p _ (h p (List.mem_cons_self ..)), parts_join c (q :: r) (by simp) (fun x hx => h x (List.mem_cons_of_mem _ hx))]
theorem parts_length (c : UInt8) : ∀ l : List UInt8, (partsL c l).length ≤ l.length + 1
  | [] => Nat.le_refl _
  | b :: r => by
    have := parts_length c r
    unfold partsL
    obtain ⟨p, ps, hp⟩ := partsL_cons c r
    rw [hp] at this ⊢
    split <;> simp at * <;> omega
/-- the library's parts -/
theorem index_one_spec (c : UInt8) : ∀ l : List UInt8, (index l [c] = -1 ∧ ∀ b ∈ l, b ≠ c) ∨ (∃ a r, l = a ++ c :: r ∧ index l [c] = (a.length : Int) ∧ ∀ b ∈ a, b ≠ c)
  | [] => .inl ⟨rfl, fun b hb => by cases hb⟩
  | b :: r => by
    rw [index_one]
    have ih := index_one_spec c r
    rw [index_one] at ih
    unfold indexByte
    by_cases hb : b = c
    · subst hb
      exact .inr ⟨[], r, rfl, by simp, fun b hb => by cases hb⟩
    · rw [if_neg (by simpa using hb)]
      rcases ih with ⟨h1, h2⟩ | ⟨a, t, rfl, h1, h2⟩
      · refine .inl ⟨by rw [h1]; rfl, fun x hx => ?_⟩
        rcases List.mem_cons.1 hx with rfl | hx
        · exact hb
        · exact h2 x hx
      · refine .inr ⟨b :: a, t, rfl, ?_, fun x hx => ?_⟩
        · rw [h1, if_neg (by rw [beq_iff_eq]; omega)]; simp
        · rcases List.mem_cons.1 hx with rfl | hx
          · exact hb
          · exact h2 x hx
theorem splitK_parts (c : UInt8) : ∀ (k : Nat) (l : List UInt8), count l [c] = k → splitK [c] 0 k l = partsL c l
  | 0, l, hk => by
    rcases index_one_spec c l with ⟨h1, h2⟩ | ⟨a, r, rfl, h1, h2⟩
    · rw [partsL_miss c l h2]; rfl
    · have := count_hit (sub := [c]) (by simp) h1
      omega
  | k + 1, l, hk => by
    rcases index_one_spec c l with ⟨h1, h2⟩ | ⟨a, r, rfl, h1, h2⟩
    · have := count_miss h1; omega
    · have hc := count_hit (sub := [c]) (by simp) h1
      have hd : (a ++ c :: r).drop (a.length + 1) = r := by
        rw [show a ++ c :: r = (a ++ [c]) ++ r by simp, show a.length + 1 = (a ++ [c]).length by simp, List.drop_left]
      rw [List.length_singleton, hd] at hc
      have hm : ¬ (index (a ++ c :: r) [c] == -1) = true := by rw [h1, beq_iff_eq]; omega
      have e : (index (a ++ c :: r) [c]).toNat = a.length := by rw [h1]; exact Int.toNat_natCast _
      rw [splitK, if_neg hm, e, List.length_singleton, hd, Nat.add_zero, List.take_left, splitK_parts c k r (by omega), partsL_hit c a r h2]
theorem split_parts (l : List UInt8) (c : UInt8) : split l [c] = partsL c l := splitK_parts c _ l rfl
theorem cut_parts (l : List UInt8) (c : UInt8) : (cut l [c]).1 = (partsL c l).headD [] ∧ (cut l [c]).2.1 = joinC c (partsL c l).tail := by
  rcases index_one_spec c l with ⟨h1, h2⟩ | ⟨a, r, rfl, h1, h2⟩
  · unfold cut
    rw [if_neg (by rw [h1]; omega), partsL_miss c l h2]
    exact ⟨rfl, rfl⟩
  · have hd : (a ++ c :: r).drop (a.length + 1) = r := by
      rw [show a ++ c :: r = (a ++ [c]) ++ r by simp, show a.length + 1 = (a ++ [c]).length by simp, List.drop_left]
    unfold cut
    rw [if_pos (by rw [h1]; omega), partsL_hit c a r h2, h1, Int.toNat_natCast, List.length_singleton, hd, List.take_left]
    exact ⟨rfl, (joinC_parts c r).symm⟩
end Go.Proofs.YtpnfhienffekoaaGreatDoor
