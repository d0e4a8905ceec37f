/- PlainText, PlainRead, PlainWord, in one text. -/
import Derived.Lib.ItoaMem
import Derived.Lib.ItoaLen
import Derived.Lib.ParseIntBCases
import Derived.Lib.SplitLaws
import Derived.Lib.Strings
import Derived.Test.YtpnfhienffekoaaGreatDoorGrpList
namespace Go.Proofs.YtpnfhienffekoaaGreatDoor
set_option linter.unusedVariables false
set_option linter.unusedSimpArgs false
open Go.Lib

/-- what digits spell, behind a number -/
def valD (acc : Nat) : List UInt8 → Nat
  | [] => acc
  | c :: r => valD (acc * 10 + (c.toNat - 48)) r
def isD (c : UInt8) : Bool := decide (48 ≤ c.toNat) && decide (c.toNat ≤ 57)
theorem isD_iff (c : UInt8) : isD c = true ↔ 48 ≤ c.toNat ∧ c.toNat ≤ 57 := by simp [isD]
theorem valD_append : ∀ (a b : List UInt8) (acc : Nat), valD acc (a ++ b) = valD (valD acc a) b
  | [], _, _ => rfl
  | c :: r, b, acc => valD_append r b _
theorem valD_snoc (acc : Nat) (a : List UInt8) (c : UInt8) : valD acc (a ++ [c]) = valD acc a * 10 + (c.toNat - 48) := by rw [valD_append]; rfl
theorem valD_ge : ∀ (l : List UInt8) (acc : Nat), acc ≤ valD acc l
  | [], _ => Nat.le_refl _
  | c :: r, acc => Nat.le_trans (by omega) (valD_ge r (acc * 10 + (c.toNat - 48)))
theorem valD_lt : ∀ (l : List UInt8) (acc : Nat), l.all isD = true → valD acc l < (acc + 1) * 10 ^ l.length
  | [], acc, _ => by
    show acc < (acc + 1) * 10 ^ 0
    rw [Nat.pow_zero]; omega
  | c :: r, acc, h => by
    rw [List.all_cons, Bool.and_eq_true, isD_iff] at h
    have h1 := valD_lt r (acc * 10 + (c.toNat - 48)) h.2
    have h2 : (acc * 10 + (c.toNat - 48) + 1) * 10 ^ r.length ≤ ((acc + 1) * 10) * 10 ^ r.length := Nat.mul_le_mul_right _ (by omega)
    have h3 : (acc + 1) * 10 ^ (c :: r).length = ((acc + 1) * 10) * 10 ^ r.length := by
      rw [List.length_cons, Nat.pow_succ, Nat.mul_comm (10 ^ r.length) 10, ← Nat.mul_assoc]
    rw [h3]
    exact Nat.lt_of_lt_of_le h1 h2
theorem ofNat_digit (c : UInt8) (h : isD c = true) : UInt8.ofNat (48 + (c.toNat - 48)) = c := by
  rw [isD_iff] at h
  rw [show 48 + (c.toNat - 48) = c.toNat by omega]
  simp

/-! the numeral -/
theorem decDigits_big {u : Nat} (h : ¬ u < 10) : decDigits u = decDigits (u / 10) ++ [UInt8.ofNat (48 + u % 10)] := by rw [decDigits, dif_neg h]
theorem ofNat_toNat {k : Nat} (h : k < 10) : (UInt8.ofNat (48 + k)).toNat = 48 + k := by
  rw [UInt8.toNat_ofNat']; omega
theorem decDigits_all (u : Nat) : (decDigits u).all isD = true := by
  induction u using Nat.strongRecOn with
  | _ u ih =>
    by_cases h : u < 10
    · rw [decDigits_one h, List.all_cons, List.all_nil, Bool.and_true, isD_iff, ofNat_toNat h]; omega
    · rw [decDigits_big h, List.all_append, ih _ (by omega), List.all_cons, List.all_nil, Bool.and_true, Bool.true_and, isD_iff, ofNat_toNat (by omega)]; omega
theorem decDigits_val (u : Nat) : valD 0 (decDigits u) = u := by
  induction u using Nat.strongRecOn with
  | _ u ih =>
    by_cases h : u < 10
    · rw [decDigits_one h]; show 0 * 10 + ((UInt8.ofNat (48 + u)).toNat - 48) = u; rw [ofNat_toNat h]; omega
    · rw [decDigits_big h, valD_snoc, ih _ (by omega), ofNat_toNat (by omega)]; omega
theorem decDigits_ne (u : Nat) : decDigits u ≠ [] := by
  intro e
  have := decDigits_length u
  have := nDigits_pos u
  rw [e] at *; simp at *; omega
theorem head_append {a b : List UInt8} (h : a ≠ []) : (a ++ b).head? = a.head? := by cases a with | nil => exact absurd rfl h | cons x r => rfl
theorem decDigits_head (u : Nat) (h1 : 1 ≤ u) : (decDigits u).head? ≠ some 48 := by
  induction u using Nat.strongRecOn with
  | _ u ih =>
    by_cases h : u < 10
    · rw [decDigits_one h]
      intro e
      have e2 : UInt8.ofNat (48 + u) = 48 := by simpa using e
      have := congrArg UInt8.toNat e2
      rw [ofNat_toNat h] at this
      have h48 : (48 : UInt8).toNat = 48 := rfl
      omega
    · rw [decDigits_big h, head_append (decDigits_ne _)]
      exact ih _ (by omega) (by omega)
theorem valD_pos : ∀ (ds : List UInt8), ds ≠ [] → ds.all isD = true → ds.head? ≠ some 48 → 1 ≤ valD 0 ds
  | [], h, _, _ => absurd rfl h
  | c :: r, _, h, h48 => by
    rw [List.all_cons, Bool.and_eq_true, isD_iff] at h
    have hc : c.toNat ≠ 48 := fun e => h48 (by show some c = some 48; congr 1; exact UInt8.toNat_inj.1 e)
    exact Nat.le_trans (show 1 ≤ 0 * 10 + (c.toNat - 48) by omega) (valD_ge r _)
theorem decDigits_of (ds : List UInt8) (hne : ds ≠ []) (hall : ds.all isD = true) (h48 : ds.head? ≠ some 48 ∨ ds.length = 1) : decDigits (valD 0 ds) = ds := by
  suffices H : ∀ (k : Nat) (ds : List UInt8), ds.length = k → ds ≠ [] → ds.all isD = true → (ds.head? ≠ some 48 ∨ ds.length = 1) → decDigits (valD 0 ds) = ds from H _ ds rfl hne hall h48
  intro k
  induction k with
  | zero => intro ds h hne; exact absurd (List.eq_nil_of_length_eq_zero h) hne
  | succ k ih =>
    intro ds hl hne hall h48
    obtain ⟨r, c, rfl⟩ : ∃ r c, ds = r ++ [c] := ⟨ds.dropLast, ds.getLast hne, (List.dropLast_concat_getLast hne).symm⟩
    rw [List.all_append, Bool.and_eq_true, List.all_cons, List.all_nil, Bool.and_true] at hall
    obtain ⟨hr, hc⟩ := hall
    have hc' := (isD_iff c).1 hc
    rw [List.length_append, List.length_singleton] at hl
    by_cases hrn : r = []
    · subst hrn
      show decDigits (0 * 10 + (c.toNat - 48)) = [c]
      rw [decDigits_one (by omega), show 48 + (0 * 10 + (c.toNat - 48)) = 48 + (c.toNat - 48) by omega, ofNat_digit c hc]
    · have hrl : 1 ≤ r.length := List.length_pos_iff.2 hrn
      have hh : r.head? ≠ some 48 := by
        rcases h48 with h | h
        · rwa [head_append hrn] at h
        · rw [List.length_append, List.length_singleton] at h; omega
      have hp := valD_pos r hrn hr hh
      rw [valD_snoc, decDigits_big (by omega), show (valD 0 r * 10 + (c.toNat - 48)) / 10 = valD 0 r by omega, show (valD 0 r * 10 + (c.toNat - 48)) % 10 = c.toNat - 48 by omega, ofNat_digit c hc, ih r (by omega) hrn hr (.inl hh)]

/-! the library's reading -/
theorem parseM_digits (M : Nat) (hM : M ≤ 18446744073709551615) : ∀ (l : List UInt8) (acc : Nat), l.all isD = true → valD acc l ≤ M → parseUintM M acc l = .ok (valD acc l)
  | [], _, _, _ => rfl
  | c :: r, acc, h, hv => by
    rw [List.all_cons, Bool.and_eq_true, isD_iff] at h
    have hge := valD_ge r (acc * 10 + (c.toNat - 48))
    have hv' : valD (acc * 10 + (c.toNat - 48)) r ≤ M := hv
    rw [parseUintM, if_pos h.1, if_neg (by omega), if_neg (by omega), parseM_digits M hM r _ h.2 hv']
    rfl
theorem parseM_ok (M : Nat) : ∀ (l : List UInt8) (acc u : Nat), parseUintM M acc l = .ok u → l.all isD = true ∧ u = valD acc l
  | [], acc, u, h => by
    simp only [parseUintM] at h
    injection h with h
    exact ⟨rfl, h.symm⟩
  | c :: r, acc, u, h => by
    simp only [parseUintM] at h
    split at h
    · rename_i hc
      split at h
      · cases h
      · split at h
        · cases h
        · have := parseM_ok M r _ u h
          exact ⟨by rw [List.all_cons, this.1, Bool.and_true, isD_iff]; exact hc, this.2⟩
    · cases h

/-- a number as the reference reads it -/
def numL (l : List UInt8) : Option Int :=
  if (if l.head? = some 45 then l.tail else l) = [] ∨ 18 < (if l.head? = some 45 then l.tail else l).length ∨ (if l.head? = some 45 then l.tail else l).head? = some 48 ∧ 1 < l.length then none
  else if (if l.head? = some 45 then l.tail else l).all isD then some (if l.head? = some 45 then -(valD 0 l.tail : Int) else (valD 0 l : Int))
  else none
/-- a number as the program reads it -/
def decI (l : List UInt8) : Option Int :=
  if 1 ≤ (trimPrefix l [45]).length ∧ (trimPrefix l [45]).length ≤ 18 then
    match parseIntB 64 l with
    | .ok n => if itoa n = l then some n else none
    | _ => none
  else none
theorem trim_minus (r : List UInt8) : trimPrefix (45 :: r) [45] = r := by simp [trimPrefix, hasPrefix, List.isPrefixOf]
theorem trim_other (l : List UInt8) (h : l.head? ≠ some 45) : trimPrefix l [45] = l := by
  cases l with
  | nil => rfl
  | cons c r =>
    have hc : c ≠ 45 := fun e => h (by rw [e]; rfl)
    simp [trimPrefix, hasPrefix, List.isPrefixOf, Ne.symm hc]
theorem numL_minus (r : List UInt8) : numL (45 :: r) = if r = [] ∨ 18 < r.length ∨ r.head? = some 48 then none else if r.all isD then some (-(valD 0 r : Int)) else none := by
  unfold numL
  simp only [List.head?_cons, if_true, List.tail_cons, List.length_cons]
  by_cases hr : r = []
  · simp [hr]
  · have : 1 < r.length + 1 := by have := List.length_pos_iff.2 hr; omega
    simp only [this, and_true]
theorem numL_plain (l : List UInt8) (h : l.head? ≠ some 45) : numL l = if l = [] ∨ 18 < l.length ∨ l.head? = some 48 ∧ 1 < l.length then none else if l.all isD then some (valD 0 l : Int) else none := by
  unfold numL; simp only [h, if_false]
theorem itoa_of_nat (u : Nat) : itoa (u : Int) = decDigits u := itoa_nonneg u
theorem head_digit {l : List UInt8} (h : l.all isD = true) : l.head? ≠ some 45 ∧ l.head? ≠ some 43 := by
  cases l with
  | nil => simp
  | cons c r =>
    rw [List.all_cons, Bool.and_eq_true, isD_iff] at h
    constructor
    · intro e
      have : c = 45 := by simpa using e
      subst this; exact absurd h.1.1 (by decide)
    · intro e
      have : c = 43 := by simpa using e
      subst this; exact absurd h.1.1 (by decide)
theorem itoa_numL (n : Int) (h : n.natAbs < 1000000000000000000) : numL (itoa n) = some n := by
  have hlen : ∀ u : Nat, u < 1000000000000000000 → (decDigits u).length ≤ 18 := fun u hu => by
    rw [decDigits_length]
    by_cases h0 : 18 < nDigits u
    · exfalso
      have : ∀ k u, nDigits u = k + 1 → 1 ≤ u → 10 ^ k ≤ u := by
        intro k
        induction k with
        | zero => intro u _ h; simpa using h
        | succ k ih =>
          intro u hk hu
          by_cases h9 : u < 10
          · rw [nDigits_small h9] at hk; omega
          · rw [nDigits_big h9] at hk
            have := ih (u / 10) (by omega) (by omega)
            rw [Nat.pow_succ]; omega
      have hu1 : 1 ≤ u := by
        by_cases h9 : u < 10
        · rw [nDigits_small h9] at h0; omega
        · omega
      have h2 := this (nDigits u - 1) u (by omega) hu1
      have h3 : (10 : Nat) ^ 18 ≤ 10 ^ (nDigits u - 1) := Nat.pow_le_pow_right (by omega) (by omega)
      have h4 : (10 : Nat) ^ 18 = 1000000000000000000 := by decide
      omega
    · omega
  by_cases hn : n < 0
  · obtain ⟨u, rfl⟩ : ∃ u : Nat, n = -(u : Int) := ⟨n.natAbs, by omega⟩
    rw [itoa_neg u (by omega), numL_minus]
    have h1 := decDigits_head u (by omega)
    have h2 := hlen u (by omega)
    rw [if_neg (by simp only [decDigits_ne, h1, or_false, false_or]; omega), if_pos (decDigits_all u), decDigits_val]
  · obtain ⟨u, rfl⟩ : ∃ u : Nat, n = (u : Int) := ⟨n.toNat, by omega⟩
    rw [itoa_of_nat, numL_plain _ (head_digit (decDigits_all u)).1]
    have h2 := hlen u (by omega)
    rw [if_neg, if_pos (decDigits_all u), decDigits_val]
    rintro (h1 | h1 | ⟨h1, h3⟩)
    · exact decDigits_ne u h1
    · omega
    · by_cases h0 : u = 0
      · subst h0; rw [decDigits_one (by omega)] at h3; simp at h3
      · exact decDigits_head u (by omega) h1
/-- the number that is read has this very text -/
theorem numL_itoa {l : List UInt8} {n : Int} (h : numL l = some n) : itoa n = l ∧ n.natAbs < 1000000000000000000 ∧ l ≠ [] := by
  have hb : ∀ ds : List UInt8, ds.all isD = true → ds.length ≤ 18 → valD 0 ds < 1000000000000000000 := fun ds h1 h2 => by
    have := valD_lt ds 0 h1
    have h3 : (10 : Nat) ^ ds.length ≤ 10 ^ 18 := Nat.pow_le_pow_right (by omega) h2
    have h4 : (10 : Nat) ^ 18 = 1000000000000000000 := by decide
    omega
  by_cases h45 : l.head? = some 45
  · obtain ⟨r, rfl⟩ : ∃ r, l = 45 :: r := by
      cases l with
      | nil => cases h45
      | cons c r => exact ⟨r, by rw [show c = 45 by simpa using h45]⟩
    rw [numL_minus] at h
    split at h
    · cases h
    · rename_i hn
      split at h
      · rename_i hall
        injection h with h
        subst h
        have hne : r ≠ [] := fun e => hn (.inl e)
        have hh : r.head? ≠ some 48 := fun e => hn (.inr (.inr e))
        have hp := valD_pos r hne hall hh
        have := hb r hall (by by_cases hx : 18 < r.length; exact absurd (.inr (.inl hx)) hn; omega)
        refine ⟨?_, by omega, by simp⟩
        rw [itoa_neg _ hp, decDigits_of r hne hall (.inl hh)]
      · cases h
  · rw [numL_plain l h45] at h
    split at h
    · cases h
    · rename_i hn
      split at h
      · rename_i hall
        injection h with h
        subst h
        have hne : l ≠ [] := fun e => hn (.inl e)
        have hl : l.length ≤ 18 := by by_cases hx : 18 < l.length; exact absurd (.inr (.inl hx)) hn; omega
        have := hb l hall hl
        refine ⟨?_, by omega, hne⟩
        rw [itoa_of_nat, decDigits_of l hne hall]
        by_cases hx : l.head? = some 48
        · by_cases h1 : 1 < l.length
          · exact absurd (.inr (.inr ⟨hx, h1⟩)) hn
          · have := List.length_pos_iff.2 hne; exact .inr (by omega)
        · exact .inl hx
      · cases h
theorem parse_itoa (n : Int) (h : n.natAbs < 1000000000000000000) : parseIntB 64 (itoa n) = .ok n := by
  have hM : (2 : Nat) ^ 64 - 1 = 18446744073709551615 := by decide
  have hu : ∀ u : Nat, u < 1000000000000000000 → parseUintB 64 (decDigits u) = .ok u := fun u hu => by
    unfold parseUintB
    rw [if_neg (decDigits_ne u), hM, parseM_digits _ (by omega) _ 0 (decDigits_all u) (by rw [decDigits_val]; omega), decDigits_val]
  have h63 : (2 : Nat) ^ (64 - 1) = 9223372036854775808 := by decide
  by_cases hn : n < 0
  · obtain ⟨u, rfl⟩ : ∃ u : Nat, n = -(u : Int) := ⟨n.natAbs, by omega⟩
    rw [itoa_neg u (by omega), parseIntB_minus, hu u (by omega), signedC, h63, if_neg (by omega)]
  · obtain ⟨u, rfl⟩ : ∃ u : Nat, n = (u : Int) := ⟨n.toNat, by omega⟩
    rw [itoa_of_nat]
    have hh := head_digit (decDigits_all u)
    have hne := decDigits_ne u
    have hp := hu u (by omega)
    generalize decDigits u = ds at *
    cases ds with
    | nil => exact absurd rfl hne
    | cons c r =>
      rw [parseIntB_plain 64 c r (fun e => hh.2 (by show some c = some 43; congr 1; exact UInt8.toNat_inj.1 e)) (fun e => hh.1 (by show some c = some 45; congr 1; exact UInt8.toNat_inj.1 e)), hp, signlessC, h63, if_neg (by omega)]
theorem itoa_head (n : Int) : (itoa n).head? = some 45 ↔ n < 0 := by
  by_cases hn : n < 0
  · obtain ⟨u, rfl⟩ : ∃ u : Nat, n = -(u : Int) := ⟨n.natAbs, by omega⟩
    rw [itoa_neg u (by omega)]; simp; omega
  · obtain ⟨u, rfl⟩ : ∃ u : Nat, n = (u : Int) := ⟨n.toNat, by omega⟩
    rw [itoa_of_nat]
    simp only [(head_digit (decDigits_all u)).1, false_iff]; omega
theorem decI_numL (l : List UInt8) : decI l = numL l := by
  cases hn : numL l with
  | some n =>
    obtain ⟨h1, h2, h3⟩ := numL_itoa hn
    have hp := parse_itoa n h2
    rw [h1] at hp
    unfold decI
    have hlen : 1 ≤ (trimPrefix l [45]).length ∧ (trimPrefix l [45]).length ≤ 18 := by
      by_cases h45 : l.head? = some 45
      · obtain ⟨r, rfl⟩ : ∃ r, l = 45 :: r := by
          cases l with
          | nil => cases h45
          | cons c r => exact ⟨r, by rw [show c = 45 by simpa using h45]⟩
        rw [trim_minus]
        rw [numL_minus] at hn
        split at hn
        · cases hn
        · rename_i hx
          have : r ≠ [] := fun e => hx (.inl e)
          have := List.length_pos_iff.2 this
          exact ⟨by omega, by by_cases hx2 : 18 < r.length; exact absurd (.inr (.inl hx2)) hx; omega⟩
      · rw [trim_other l h45]
        rw [numL_plain l h45] at hn
        split at hn
        · cases hn
        · rename_i hx
          have := List.length_pos_iff.2 h3
          exact ⟨by omega, by by_cases hx2 : 18 < l.length; exact absurd (.inr (.inl hx2)) hx; omega⟩
    rw [if_pos hlen, hp]
    simp only [h1, if_true]
  | none =>
    unfold decI
    split
    · rename_i hlen
      split
      · rename_i n hp
        split
        · rename_i hi
          exfalso
          have hnat : n.natAbs < 1000000000000000000 := by
            have h10 : (10 : Nat) ^ 18 = 1000000000000000000 := by decide
            have hlt : ∀ u : Nat, (decDigits u).length ≤ 18 → u < 1000000000000000000 := fun u hu => by
              have := lt_pow_nDigits u
              rw [decDigits_length] at hu
              have h3 : (10 : Nat) ^ nDigits u ≤ 10 ^ 18 := Nat.pow_le_pow_right (by omega) hu
              omega
            subst hi
            by_cases hn0 : n < 0
            · obtain ⟨u, rfl⟩ : ∃ u : Nat, n = -(u : Int) := ⟨n.natAbs, by omega⟩
              rw [itoa_neg u (by omega), trim_minus] at hlen
              have := hlt u hlen.2; omega
            · obtain ⟨u, rfl⟩ : ∃ u : Nat, n = (u : Int) := ⟨n.toNat, by omega⟩
              rw [itoa_of_nat, trim_other _ (head_digit (decDigits_all u)).1] at hlen
              have := hlt u hlen.2; omega
          have := itoa_numL n hnat
          rw [hi, hn] at this
          cases this
        · rfl
      · rfl
    · rfl

/-! the parts of a line -/
def partsL (c : UInt8) : List UInt8 → List (List UInt8)
  | [] => [[]]
  | b :: r => if b = c then [] :: partsL c r else ((b :: (partsL c r).headD []) :: (partsL c r).tail)
theorem partsL_ne (c : UInt8) : ∀ l, partsL c l ≠ []
  | [] => by simp [partsL]
  | b :: r => by unfold partsL; split <;> simp
theorem partsL_cons (c : UInt8) (l : List UInt8) : ∃ p ps, partsL c l = p :: ps := by
  cases h : partsL c l with
  | nil => exact absurd h (partsL_ne c l)
  | cons p ps => exact ⟨p, ps, rfl⟩
theorem partsL_miss (c : UInt8) : ∀ l : List UInt8, (∀ b ∈ l, b ≠ c) → partsL c l = [l]
  | [], _ => rfl
  | b :: r, h => by
    unfold partsL
    rw [if_neg (h b (List.mem_cons_self ..)), partsL_miss c r (fun x hx => h x (List.mem_cons_of_mem _ hx))]
    rfl
theorem partsL_hit (c : UInt8) : ∀ (a r : List UInt8), (∀ b ∈ a, b ≠ c) → partsL c (a ++ c :: r) = a :: partsL c r
  | [], r, _ => by show partsL c (c :: r) = _; rw [partsL, if_pos rfl]
  | b :: a, r, h => by
    show partsL c (b :: (a ++ c :: r)) = _
    rw [partsL, if_neg (h b (List.mem_cons_self ..)), partsL_hit c a r (fun x hx => h x (List.mem_cons_of_mem _ hx))]
    rfl
/-- the parts joined again -/
def joinC (c : UInt8) : List (List UInt8) → List UInt8
  | [] => []
  | [p] => p
  | p :: q :: r => p ++ c :: joinC c (q :: r)
theorem joinC_parts (c : UInt8) : ∀ l, joinC c (partsL c l) = l
  | [] => rfl
  | b :: r => by
    have ih := joinC_parts c r
    unfold partsL
    obtain ⟨p, ps, hp⟩ := partsL_cons c r
    rw [hp] at ih ⊢
    split
    · rename_i h
      subst h
      show [] ++ b :: joinC b (p :: ps) = _
      rw [ih]; rfl
    · cases ps with
      | nil => show b :: p = b :: r; rw [show p = r from ih]
      | cons q ps => show (b :: p) ++ c :: joinC c (q :: ps) = b :: r; rw [List.cons_append]; congr 1
theorem parts_free (c : UInt8) : ∀ l : List UInt8, ∀ p ∈ partsL c l, ∀ b ∈ p, b ≠ c
  | [], p, hp, b, hb => by
    rw [show p = [] by simpa [partsL] using hp] at hb; cases hb
  | x :: r, p, hp, b, hb => by
    have ih := parts_free c r
    unfold partsL at hp
    obtain ⟨q, qs, hq⟩ := partsL_cons c r
    rw [hq] at hp ih
    split at hp
    · rcases List.mem_cons.1 hp with rfl | hp
      · cases hb
      · exact ih p hp b hb
    · rename_i hx
      rcases List.mem_cons.1 hp with rfl | hp
      · rcases List.mem_cons.1 hb with rfl | hb
        · exact hx
        · exact ih q (List.mem_cons_self ..) b hb
      · exact ih p (List.mem_cons_of_mem _ hp) b hb
theorem parts_join (c : UInt8) : ∀ ps : List (List UInt8), ps ≠ [] → (∀ p ∈ ps, ∀ b ∈ p, b ≠ c) → partsL c (joinC c ps) = ps
  | [], h, _ => absurd rfl h
  | [p], _, h => partsL_miss c p (h p (List.mem_cons_self ..))
  | p :: q :: r, _, h => by
    show partsL c (p ++ c :: joinC c (q :: r)) = _
    rw [partsL_hit c p _ (h p (List.mem_cons_self ..)), parts_join c (q :: r) (by simp) (fun x hx => h x (List.mem_cons_of_mem _ hx))]
theorem parts_length (c : UInt8) : ∀ l : List UInt8, (partsL c l).length ≤ l.length + 1
  | [] => Nat.le_refl _
  | b :: r => by
    have := parts_length c r
    unfold partsL
    obtain ⟨p, ps, hp⟩ := partsL_cons c r
    rw [hp] at this ⊢
    split <;> simp at * <;> omega
/-- the library's parts -/
theorem index_one_spec (c : UInt8) : ∀ l : List UInt8, (index l [c] = -1 ∧ ∀ b ∈ l, b ≠ c) ∨ (∃ a r, l = a ++ c :: r ∧ index l [c] = (a.length : Int) ∧ ∀ b ∈ a, b ≠ c)
  | [] => .inl ⟨rfl, fun b hb => by cases hb⟩
  | b :: r => by
    rw [index_one]
    have ih := index_one_spec c r
    rw [index_one] at ih
    unfold indexByte
    by_cases hb : b = c
    · subst hb
      exact .inr ⟨[], r, rfl, by simp, fun b hb => by cases hb⟩
    · rw [if_neg (by simpa using hb)]
      rcases ih with ⟨h1, h2⟩ | ⟨a, t, rfl, h1, h2⟩
      · refine .inl ⟨by rw [h1]; rfl, fun x hx => ?_⟩
        rcases List.mem_cons.1 hx with rfl | hx
        · exact hb
        · exact h2 x hx
      · refine .inr ⟨b :: a, t, rfl, ?_, fun x hx => ?_⟩
        · rw [h1, if_neg (by rw [beq_iff_eq]; omega)]; simp
        · rcases List.mem_cons.1 hx with rfl | hx
          · exact hb
          · exact h2 x hx
theorem splitK_parts (c : UInt8) : ∀ (k : Nat) (l : List UInt8), count l [c] = k → splitK [c] 0 k l = partsL c l
  | 0, l, hk => by
    rcases index_one_spec c l with ⟨h1, h2⟩ | ⟨a, r, rfl, h1, h2⟩
    · rw [partsL_miss c l h2]; rfl
    · have := count_hit (sub := [c]) (by simp) h1
      omega
  | k + 1, l, hk => by
    rcases index_one_spec c l with ⟨h1, h2⟩ | ⟨a, r, rfl, h1, h2⟩
    · have := count_miss h1; omega
    · have hc := count_hit (sub := [c]) (by simp) h1
      have hd : (a ++ c :: r).drop (a.length + 1) = r := by
        rw [show a ++ c :: r = (a ++ [c]) ++ r by simp, show a.length + 1 = (a ++ [c]).length by simp, List.drop_left]
      rw [List.length_singleton, hd] at hc
      have hm : ¬ (index (a ++ c :: r) [c] == -1) = true := by rw [h1, beq_iff_eq]; omega
      have e : (index (a ++ c :: r) [c]).toNat = a.length := by rw [h1]; exact Int.toNat_natCast _
      rw [splitK, if_neg hm, e, List.length_singleton, hd, Nat.add_zero, List.take_left, splitK_parts c k r (by omega), partsL_hit c a r h2]
theorem split_parts (l : List UInt8) (c : UInt8) : split l [c] = partsL c l := splitK_parts c _ l rfl
theorem cut_parts (l : List UInt8) (c : UInt8) : (cut l [c]).1 = (partsL c l).headD [] ∧ (cut l [c]).2.1 = joinC c (partsL c l).tail := by
  rcases index_one_spec c l with ⟨h1, h2⟩ | ⟨a, r, rfl, h1, h2⟩
  · unfold cut
    rw [if_neg (by rw [h1]; omega), partsL_miss c l h2]
    exact ⟨rfl, rfl⟩
  · have hd : (a ++ c :: r).drop (a.length + 1) = r := by
      rw [show a ++ c :: r = (a ++ [c]) ++ r by simp, show a.length + 1 = (a ++ [c]).length by simp, List.drop_left]
    unfold cut
    rw [if_pos (by rw [h1]; omega), partsL_hit c a r h2, h1, Int.toNat_natCast, List.length_singleton, hd, List.take_left]
    exact ⟨rfl, (joinC_parts c r).symm⟩
end Go.Proofs.YtpnfhienffekoaaGreatDoor
namespace Go.Proofs.YtpnfhienffekoaaGreatDoor
set_option linter.unusedVariables false
set_option linter.unusedSimpArgs false
open Go.Lib

/-- all words as numbers -/
def numsL : List (List UInt8) → Option (List Int)
  | [] => some []
  | w :: r => match numL w, numsL r with
    | some a, some b => some (a :: b)
    | _, _ => none
theorem numsL_cons {w : List UInt8} {r : List (List UInt8)} {a : Int} {b : List Int} (h : numL w = some a) (h2 : numsL r = some b) : numsL (w :: r) = some (a :: b) := by simp only [numsL, h, h2]
theorem numsL_head {w : List UInt8} {r : List (List UInt8)} (h : numL w = none) : numsL (w :: r) = none := by simp only [numsL, h]
theorem numsL_tail {w : List UInt8} {r : List (List UInt8)} (h : numsL r = none) : numsL (w :: r) = none := by cases hw : numL w <;> simp only [numsL, h, hw]
theorem numsL_some : ∀ {ws : List (List UInt8)} {ns : List Int}, numsL ws = some ns → ws = ns.map itoa ∧ ∀ n ∈ ns, n.natAbs < 1000000000000000000
  | [], ns, h => by simp only [numsL, Option.some.injEq] at h; subst h; exact ⟨rfl, fun n hn => by cases hn⟩
  | w :: r, ns, h => by
    cases hw : numL w with
    | none => rw [numsL_head hw] at h; cases h
    | some a =>
      cases hr : numsL r with
      | none => rw [numsL_tail hr] at h; cases h
      | some b =>
        rw [numsL_cons hw hr] at h
        injection h with h
        subst h
        obtain ⟨h1, h2⟩ := numsL_some hr
        obtain ⟨h3, h4, _⟩ := numL_itoa hw
        refine ⟨by rw [List.map_cons, h3, ← h1], fun n hn => ?_⟩
        rcases List.mem_cons.1 hn with rfl | hn
        · exact h4
        · exact h2 n hn
theorem numsL_itoa : ∀ {ns : List Int}, (∀ n ∈ ns, n.natAbs < 1000000000000000000) → numsL (ns.map itoa) = some ns
  | [], _ => rfl
  | n :: r, h => numsL_cons (itoa_numL n (h n (List.mem_cons_self ..))) (numsL_itoa fun x hx => h x (List.mem_cons_of_mem _ hx))
theorem numsL_snoc : ∀ {ws : List (List UInt8)} {w : List UInt8} {ns : List Int} {n : Int}, numsL ws = some ns → numL w = some n → numsL (ws ++ [w]) = some (ns ++ [n])
  | [], w, ns, n, h, hw => by simp only [numsL, Option.some.injEq] at h; subst h; exact numsL_cons hw rfl
  | v :: r, w, ns, n, h, hw => by
    cases hv : numL v with
    | none => rw [numsL_head hv] at h; cases h
    | some a =>
      cases hr : numsL r with
      | none => rw [numsL_tail hr] at h; cases h
      | some b =>
        rw [numsL_cons hv hr] at h
        injection h with h
        subst h
        exact numsL_cons hv (numsL_snoc hr hw)
theorem numsL_none : ∀ {ws : List (List UInt8)} {w : List UInt8}, w ∈ ws → numL w = none → numsL ws = none
  | [], w, h, _ => by cases h
  | v :: r, w, h, hw => by
    rcases List.mem_cons.1 h with rfl | h
    · exact numsL_head hw
    · exact numsL_tail (numsL_none h hw)
theorem numsL_length {ws : List (List UInt8)} {ns : List Int} (h : numsL ws = some ns) : ns.length = ws.length := by rw [(numsL_some h).1, List.length_map]
theorem itoa_free (n : Int) (c : UInt8) (hc : c ≠ 45) (hd : isD c = false) : ∀ b ∈ itoa n, b ≠ c := by
  have hall : ∀ u : Nat, ∀ b ∈ decDigits u, b ≠ c := fun u b hb e => by
    have := List.all_eq_true.1 (decDigits_all u) b hb
    rw [e, hd] at this; cases this
  intro b hb
  unfold itoa at hb
  split at hb
  · rcases List.mem_cons.1 hb with rfl | hb
    · exact Ne.symm hc
    · exact hall _ b hb
  · exact hall _ b hb
theorem itoa_free45 (n : Int) (h : 0 ≤ n) : ∀ b ∈ itoa n, b ≠ 45 := by
  intro b hb e
  unfold itoa at hb
  rw [if_neg (by omega)] at hb
  have := List.all_eq_true.1 (decDigits_all _) b hb
  rw [e] at this; exact absurd this (by decide)
theorem itoa_ne (n : Int) : itoa n ≠ [] := by
  unfold itoa; split
  · simp
  · exact decDigits_ne _
theorem name_free {l : List UInt8} (h : isName l = true) (c : UInt8) (hc : nameCh c = false) : ∀ b ∈ l, b ≠ c := by
  intro b hb e
  cases l with
  | nil => cases hb
  | cons x r =>
    simp only [isName, Bool.and_eq_true] at h
    have := List.all_eq_true.1 h.2 b hb
    rw [e, hc] at this; cases this
theorem name_ne {l : List UInt8} (h : isName l = true) : l ≠ [] := by intro e; subst e; cases h
theorem joinC_cons (c : UInt8) (p : List UInt8) : ∀ ps : List (List UInt8), joinC c (p :: ps) = p ++ ps.flatMap (fun q => c :: q)
  | [] => by simp [joinC]
  | q :: r => by show p ++ c :: joinC c (q :: r) = _; rw [joinC_cons c q r]; simp
theorem joinC_mem (c x : UInt8) : ∀ ps : List (List UInt8), (∀ p ∈ ps, ∀ b ∈ p, b ≠ x) → c ≠ x → ∀ b ∈ joinC c ps, b ≠ x
  | [], _, _, b, hb => by cases hb
  | [p], h, _, b, hb => h p (List.mem_cons_self ..) b hb
  | p :: q :: r, h, hc, b, hb => by
    have hb : b ∈ p ++ c :: joinC c (q :: r) := hb
    rcases List.mem_append.1 hb with hb | hb
    · exact h p (List.mem_cons_self ..) b hb
    · rcases List.mem_cons.1 hb with rfl | hb
      · exact hc
      · exact joinC_mem c x (q :: r) (fun y hy => h y (List.mem_cons_of_mem _ hy)) hc b hb
theorem filter_full {ps : List (List UInt8)} (h : ∀ p ∈ ps, p ≠ []) : ps.filter (fun p => !p.isEmpty) = ps :=
  List.filter_eq_self.2 fun p hp => by have := h p hp; cases p with | nil => exact absurd rfl this | cons => rfl
theorem opt_ext {α : Type} {a b : Option α} (h : ∀ x, a = some x ↔ b = some x) : a = b := by
  cases a with
  | none =>
    cases b with
    | none => rfl
    | some y => exact ((h y).2 rfl)
  | some x => exact ((h x).1 rfl).symm

/-! stars -/
def starT (id : List UInt8) (n : List Int) : List UInt8 := joinC 32 (id :: n.map itoa)
def mkStar (ws : List (List UInt8)) : Option (List UInt8 × List Int) :=
  if ws.length = 5 then match numsL ws.tail with
    | some n => if vStar (ws.headD []) (n.getD 0 0) (n.getD 1 0) (n.getD 2 0) (n.getD 3 0) = true then some (ws.headD [], n) else none
    | none => none
  else none
def readStarR (l : List UInt8) : Option (List UInt8 × List Int) := mkStar (partsL 32 l)
def wordsL (l : List UInt8) : List (List UInt8) := (partsL 32 l).filter (fun p => !p.isEmpty)
def readStarI (l : List UInt8) : Option (List UInt8 × List Int) := match mkStar (wordsL l) with
  | some (id, n) => if starT id n = l then some (id, n) else none
  | none => none
def StarText (l : List UInt8) (id : List UInt8) (n : List Int) : Prop := n.length = 4 ∧ vStar id (n.getD 0 0) (n.getD 1 0) (n.getD 2 0) (n.getD 3 0) = true ∧ starT id n = l
theorem mkStar_some {ws : List (List UInt8)} {id : List UInt8} {n : List Int} (h : mkStar ws = some (id, n)) : ws = id :: n.map itoa ∧ n.length = 4 ∧ vStar id (n.getD 0 0) (n.getD 1 0) (n.getD 2 0) (n.getD 3 0) = true := by
  unfold mkStar at h
  split at h
  · rename_i hl
    cases ws with
    | nil => simp at hl
    | cons w r =>
      rw [List.tail_cons] at h
      cases hn : numsL r with
      | none => rw [hn] at h; cases h
      | some ns =>
        rw [hn] at h
        simp only at h
        split at h
        · rename_i hv
          injection h with h
          injection h with h1 h2
          subst h2
          have h1 : w = id := h1
          subst h1
          have := numsL_length hn
          rw [List.length_cons] at hl
          exact ⟨by rw [(numsL_some hn).1], by omega, hv⟩
        · cases h
  · cases h
theorem vStar_parts {s : List UInt8} {r d m c : Int} (h : vStar s r d m c = true) : isName s = true ∧ (0 ≤ r ∧ r ≤ 359999) ∧ (-90000 ≤ d ∧ d ≤ 90000) ∧ (-200 ≤ m ∧ m ≤ 800) ∧ (-50 ≤ c ∧ c ≤ 250) := by
  simpa only [vStar, vDir, inB, Bool.and_eq_true, decide_eq_true_eq, and_assoc] using h
theorem four {n : List Int} (h : n.length = 4) : ∃ a b c d, n = [a, b, c, d] := by
  match n, h with
  | [a, b, c, d], _ => exact ⟨a, b, c, d, rfl⟩
theorem three {n : List Int} (h : n.length = 3) : ∃ a b c, n = [a, b, c] := by
  match n, h with
  | [a, b, c], _ => exact ⟨a, b, c, rfl⟩
theorem star_small {id : List UInt8} {n : List Int} (h4 : n.length = 4) (hv : vStar id (n.getD 0 0) (n.getD 1 0) (n.getD 2 0) (n.getD 3 0) = true) : ∀ x ∈ n, x.natAbs < 1000000000000000000 := by
  obtain ⟨a, b, c, d, rfl⟩ := four h4
  obtain ⟨_, h1, h2, h3, h5⟩ := vStar_parts hv
  simp only [List.getD_cons_zero, List.getD_cons_succ] at h1 h2 h3 h5
  intro x hx
  simp only [List.mem_cons, List.not_mem_nil, or_false] at hx
  rcases hx with rfl | rfl | rfl | rfl <;> omega
theorem mkStar_of {id : List UInt8} {n : List Int} (h4 : n.length = 4) (hv : vStar id (n.getD 0 0) (n.getD 1 0) (n.getD 2 0) (n.getD 3 0) = true) : mkStar (id :: n.map itoa) = some (id, n) := by
  unfold mkStar
  rw [if_pos (by simp [h4]), List.tail_cons, numsL_itoa (star_small h4 hv)]
  simp only [List.headD_cons, hv, if_true]
theorem starT_parts {id : List UInt8} {n : List Int} (hn : isName id = true) : partsL 32 (starT id n) = id :: n.map itoa :=
  parts_join 32 _ (by simp) fun p hp => by
    rcases List.mem_cons.1 hp with rfl | hp
    · exact name_free hn 32 (by decide)
    · obtain ⟨x, _, rfl⟩ := List.mem_map.1 hp
      exact itoa_free x 32 (by decide) (by decide)
theorem starT_words {id : List UInt8} {n : List Int} (hn : isName id = true) : wordsL (starT id n) = id :: n.map itoa := by
  unfold wordsL
  rw [starT_parts hn]
  refine filter_full fun p hp => ?_
  rcases List.mem_cons.1 hp with rfl | hp
  · exact name_ne hn
  · obtain ⟨x, _, rfl⟩ := List.mem_map.1 hp
    exact itoa_ne x
theorem readStarR_iff (l id : List UInt8) (n : List Int) : readStarR l = some (id, n) ↔ StarText l id n := by
  constructor
  · intro h
    obtain ⟨h1, h2, h3⟩ := mkStar_some h
    exact ⟨h2, h3, by unfold starT; rw [← h1, joinC_parts]⟩
  · rintro ⟨h1, h2, rfl⟩
    unfold readStarR
    rw [starT_parts (vStar_parts h2).1, mkStar_of h1 h2]
theorem readStarI_iff (l id : List UInt8) (n : List Int) : readStarI l = some (id, n) ↔ StarText l id n := by
  constructor
  · intro h
    unfold readStarI at h
    split at h
    · rename_i id' n' hm
      split at h
      · rename_i ht
        injection h with h
        injection h with e1 e2
        subst e1 e2
        obtain ⟨_, h2, h3⟩ := mkStar_some hm
        exact ⟨h2, h3, ht⟩
      · cases h
    · cases h
  · rintro ⟨h1, h2, rfl⟩
    unfold readStarI
    rw [starT_words (vStar_parts h2).1, mkStar_of h1 h2]
    simp only [if_true]
theorem readStar_eq (l : List UInt8) : readStarI l = readStarR l := opt_ext fun ⟨id, n⟩ => (readStarI_iff l id n).trans (readStarR_iff l id n).symm

/-! angles and sites -/
def pad3 (r : Nat) : List UInt8 := List.replicate (3 - (decDigits r).length) 48 ++ decDigits r
def angT (a : Int) : List UInt8 := (if a < 0 then [45] else []) ++ (decDigits (a.natAbs / 1000) ++ 46 :: pad3 (a.natAbs % 1000))
def angText (a : Int) : List UInt8 := if inB a (-359999) 359999 = true then angT a else []
theorem decDigits_len3 {r : Nat} (h : r < 1000) : 1 ≤ (decDigits r).length ∧ (decDigits r).length ≤ 3 := by
  rw [decDigits_length]
  refine ⟨nDigits_pos r, ?_⟩
  by_cases h1 : r < 10
  · rw [nDigits_small h1]; omega
  · rw [nDigits_big h1]
    by_cases h2 : r / 10 < 10
    · rw [nDigits_small h2]; omega
    · rw [nDigits_big h2, nDigits_small (by omega)]; omega
theorem pad3_len {r : Nat} (h : r < 1000) : (pad3 r).length = 3 := by
  have := decDigits_len3 h
  unfold pad3; rw [List.length_append, List.length_replicate]; omega
theorem valD_acc : ∀ (l : List UInt8) (acc : Nat), valD acc l = acc * 10 ^ l.length + valD 0 l
  | [], acc => by
    show acc = acc * 10 ^ 0 + 0
    rw [Nat.pow_zero]; omega
  | c :: r, acc => by
    show valD (acc * 10 + (c.toNat - 48)) r = _ + valD (0 * 10 + (c.toNat - 48)) r
    rw [valD_acc r (acc * 10 + (c.toNat - 48)), valD_acc r (0 * 10 + (c.toNat - 48)), List.length_cons, Nat.pow_succ, Nat.add_mul, Nat.add_mul, Nat.mul_comm (10 ^ r.length) 10, Nat.mul_assoc]
    omega
theorem valD_zeros : ∀ (k : Nat) (l : List UInt8), valD 0 (List.replicate k 48 ++ l) = valD 0 l
  | 0, l => by simp
  | k + 1, l => by
    rw [List.replicate_succ, List.cons_append]
    have h : valD 0 (48 :: (List.replicate k 48 ++ l)) = valD 0 (List.replicate k 48 ++ l) := rfl
    rw [h, valD_zeros k l]
theorem pad3_all (r : Nat) : (pad3 r).all isD = true := by
  unfold pad3
  rw [List.all_append, decDigits_all, Bool.and_true, List.all_eq_true]
  intro x hx
  rw [(List.mem_replicate.1 hx).2]; decide
theorem pad3_val (r : Nat) : valD 0 (pad3 r) = r := by unfold pad3; rw [valD_zeros, decDigits_val]
theorem ang_val (u : Nat) : valD 0 (decDigits (u / 1000) ++ pad3 (u % 1000)) = u := by
  rw [valD_append, valD_acc, decDigits_val, pad3_len (Nat.mod_lt _ (by omega)), pad3_val]
  omega
theorem ang_all (u : Nat) : (decDigits (u / 1000) ++ pad3 (u % 1000)).all isD = true := by rw [List.all_append, decDigits_all, pad3_all]; rfl
def AngText (l : List UInt8) (a : Int) : Prop := inB a (-359999) 359999 = true ∧ angT a = l
/-- as the reference reads an angle -/
def angTl (l : List UInt8) : List UInt8 := if l.head? = some 45 then l.tail else l
def angDs (t : List UInt8) : List UInt8 := t.take (t.length - 4) ++ t.drop (t.length - 3)
def angVal (l : List UInt8) : Int := if l.head? = some 45 then -(valD 0 (angDs (angTl l)) : Int) else (valD 0 (angDs (angTl l)) : Int)
def angR (l : List UInt8) : Option Int :=
  if (angTl l).length < 5 ∨ 7 < (angTl l).length ∨ (angTl l)[(angTl l).length - 4]? ≠ some 46 then none
  else if (angDs (angTl l)).all isD = true then (if inB (angVal l) (-359999) 359999 = true ∧ angT (angVal l) = l then some (angVal l) else none) else none
/-- as the program reads an angle -/
def angI (l : List UInt8) : Option Int :=
  if indexByte l 46 < 0 ∨ (l.length : Int) ≠ indexByte l 46 + 4 then none
  else match parseIntB 64 (l.take (indexByte l 46).toNat ++ l.drop ((indexByte l 46).toNat + 1)) with
    | .ok n => if angText n = l then some n else none
    | _ => none
theorem angT_head (a : Int) : (angT a).head? = some 45 ↔ a < 0 := by
  unfold angT
  by_cases h : a < 0
  · rw [if_pos h]; simp [h]
  · rw [if_neg h, List.nil_append, head_append (decDigits_ne _)]
    simp only [h, iff_false]
    exact (head_digit (decDigits_all _)).1
theorem angR_iff (l : List UInt8) (a : Int) : angR l = some a ↔ AngText l a := by
  constructor
  · intro h
    unfold angR at h
    by_cases h1 : (angTl l).length < 5 ∨ 7 < (angTl l).length ∨ (angTl l)[(angTl l).length - 4]? ≠ some 46
    · rw [if_pos h1] at h; cases h
    · rw [if_neg h1] at h
      by_cases h2 : (angDs (angTl l)).all isD = true
      · rw [if_pos h2] at h
        by_cases h3 : inB (angVal l) (-359999) 359999 = true ∧ angT (angVal l) = l
        · rw [if_pos h3] at h
          injection h with h
          rw [h] at h3
          exact h3
        · rw [if_neg h3] at h; cases h
      · rw [if_neg h2] at h; cases h
  · rintro ⟨hb, rfl⟩
    rw [inB_iff] at hb
    obtain ⟨q, p, hq, hp, hlq, hlp, hall, hval, hform⟩ : ∃ q p : List UInt8, q = decDigits (a.natAbs / 1000) ∧ p = pad3 (a.natAbs % 1000) ∧ (1 ≤ q.length ∧ q.length ≤ 3) ∧ p.length = 3 ∧ (q ++ p).all isD = true ∧ valD 0 (q ++ p) = a.natAbs ∧ angT a = (if a < 0 then [45] else []) ++ (q ++ 46 :: p) :=
      ⟨_, _, rfl, rfl, decDigits_len3 (by omega), pad3_len (Nat.mod_lt _ (by omega)), ang_all _, ang_val _, rfl⟩
    have ht : angTl (angT a) = q ++ 46 :: p := by
      unfold angTl
      by_cases h : a < 0
      · rw [if_pos ((angT_head a).2 h), hform, if_pos h]; rfl
      · rw [if_neg (fun e => h ((angT_head a).1 e)), hform, if_neg h]; rfl
    have hl : (q ++ 46 :: p).length = q.length + 4 := by rw [List.length_append, List.length_cons, hlp]
    have hds : angDs (q ++ 46 :: p) = q ++ p := by
      unfold angDs
      rw [hl, show q.length + 4 - 4 = q.length by omega, List.take_left, show q.length + 4 - 3 = (q ++ [46]).length by simp, show q ++ 46 :: p = (q ++ [46]) ++ p by simp, List.drop_left]
    have hat : (q ++ 46 :: p)[(q ++ 46 :: p).length - 4]? = some 46 := by
      rw [hl, show q.length + 4 - 4 = q.length by omega, List.getElem?_append_right (Nat.le_refl _), Nat.sub_self]; rfl
    have ha : angVal (angT a) = a := by
      unfold angVal
      rw [ht, hds, hval]
      by_cases h : a < 0
      · rw [if_pos ((angT_head a).2 h)]; omega
      · rw [if_neg (fun e => h ((angT_head a).1 e))]; omega
    have h1 : ¬ ((angTl (angT a)).length < 5 ∨ 7 < (angTl (angT a)).length ∨ (angTl (angT a))[(angTl (angT a)).length - 4]? ≠ some 46) := by
      rw [ht]
      rintro (h | h | h)
      · omega
      · omega
      · exact h hat
    have h2 : (angDs (angTl (angT a))).all isD = true := by rw [ht, hds]; exact hall
    unfold angR
    rw [if_neg h1, if_pos h2, ha, if_pos ⟨(inB_iff _ _ _).2 hb, rfl⟩]
theorem indexByte_at (c : UInt8) : ∀ (a r : List UInt8), (∀ b ∈ a, b ≠ c) → indexByte (a ++ c :: r) c = (a.length : Int)
  | [], r, _ => by simp [indexByte]
  | b :: a, r, h => by
    have ih := indexByte_at c a r (fun x hx => h x (List.mem_cons_of_mem _ hx))
    have hb := h b (List.mem_cons_self ..)
    rw [List.cons_append, indexByte, if_neg (by simpa using hb), ih, if_neg (by rw [beq_iff_eq]; omega)]
    simp
theorem parse_digits {ds : List UInt8} (hne : ds ≠ []) (hall : ds.all isD = true) (hv : valD 0 ds < 1000000000) : parseIntB 64 ds = .ok (valD 0 ds : Int) ∧ parseIntB 64 (45 :: ds) = .ok (-(valD 0 ds : Int)) := by
  have hM : (2 : Nat) ^ 64 - 1 = 18446744073709551615 := by decide
  have h63 : (2 : Nat) ^ (64 - 1) = 9223372036854775808 := by decide
  have hp : parseUintB 64 ds = .ok (valD 0 ds) := by
    unfold parseUintB
    rw [if_neg hne, hM, parseM_digits _ (by omega) _ 0 hall (by omega)]
  constructor
  · have hh := head_digit hall
    generalize valD 0 ds = u at *
    cases ds with
    | nil => exact absurd rfl hne
    | cons c r =>
      rw [parseIntB_plain 64 c r (fun e => hh.2 (by show some c = some 43; congr 1; exact UInt8.toNat_inj.1 e)) (fun e => hh.1 (by show some c = some 45; congr 1; exact UInt8.toNat_inj.1 e)), hp, signlessC, h63, if_neg (by omega)]
  · rw [parseIntB_minus, hp, signedC, h63, if_neg (by omega)]
theorem angI_iff (l : List UInt8) (a : Int) : angI l = some a ↔ AngText l a := by
  constructor
  · intro h
    unfold angI at h
    split at h
    · cases h
    · rename_i hd
      split at h
      · split at h
        · rename_i n hp ht
          injection h with h
          subst h
          unfold angText at ht
          split at ht
          · rename_i hb
            exact ⟨hb, ht⟩
          · exfalso
            subst ht
            exact hd (.inl (by decide))
        · cases h
      · cases h
  · rintro ⟨hb, rfl⟩
    have hb' := (inB_iff _ _ _).1 hb
    obtain ⟨q, p, hq, hp, hlq, hlp, hall, hval, hform⟩ : ∃ q p : List UInt8, q = decDigits (a.natAbs / 1000) ∧ p = pad3 (a.natAbs % 1000) ∧ (1 ≤ q.length ∧ q.length ≤ 3) ∧ p.length = 3 ∧ (q ++ p).all isD = true ∧ valD 0 (q ++ p) = a.natAbs ∧ angT a = ((if a < 0 then [45] else []) ++ q) ++ 46 :: p :=
      ⟨_, _, rfl, rfl, decDigits_len3 (by omega), pad3_len (Nat.mod_lt _ (by omega)), ang_all _, ang_val _, by unfold angT; rw [List.append_assoc]⟩
    have hqall : q.all isD = true := by rw [hq]; exact decDigits_all _
    have hfree : ∀ b ∈ (if a < 0 then [45] else []) ++ q, b ≠ (46 : UInt8) := by
      intro b hb e
      rcases List.mem_append.1 hb with hb | hb
      · split at hb
        · rw [show b = 45 by simpa using hb] at e; exact absurd e (by decide)
        · cases hb
      · have := List.all_eq_true.1 hqall b hb
        rw [e] at this; exact absurd this (by decide)
    have hix := indexByte_at 46 _ p hfree
    rw [← hform] at hix
    have hlen : ((angT a).length : Int) = indexByte (angT a) 46 + 4 := by rw [hix, hform, List.length_append, List.length_cons, hlp]; omega
    have hcut : (angT a).take (indexByte (angT a) 46).toNat ++ (angT a).drop ((indexByte (angT a) 46).toNat + 1) = (if a < 0 then [45] else []) ++ (q ++ p) := by
      rw [hix, Int.toNat_natCast, hform, List.take_left, ← List.append_assoc (if a < 0 then [45] else []) q p]
      generalize (if a < 0 then [45] else []) ++ q = z
      rw [show z ++ 46 :: p = (z ++ [46]) ++ p by simp, show z.length + 1 = (z ++ [46]).length by simp, List.drop_left]
    have hqp : q ++ p ≠ [] := by intro e; have h9 := congrArg List.length e; rw [List.length_append, hlp, List.length_nil] at h9; omega
    have hpd := parse_digits hqp hall (by rw [hval]; omega)
    rw [hval] at hpd
    have hpar : parseIntB 64 ((if a < 0 then [45] else []) ++ (q ++ p)) = .ok a := by
      by_cases h : a < 0
      · rw [if_pos h]; rw [show ([45] : List UInt8) ++ (q ++ p) = 45 :: (q ++ p) from rfl, hpd.2]; congr 1; omega
      · rw [if_neg h, List.nil_append, hpd.1]; congr 1; omega
    have hnot : ¬ (indexByte (angT a) 46 < 0 ∨ ((angT a).length : Int) ≠ indexByte (angT a) 46 + 4) := by
      rintro (h | h)
      · rw [hix] at h; omega
      · exact h hlen
    unfold angI
    rw [if_neg hnot, hcut, hpar]
    simp only [angText, hb, if_true]
theorem ang_eq (l : List UInt8) : angI l = angR l := opt_ext fun a => (angI_iff l a).trans (angR_iff l a).symm
theorem angT_free (a : Int) (c : UInt8) (h45 : c ≠ 45) (h46 : c ≠ 46) (hd : isD c = false) : ∀ b ∈ angT a, b ≠ c := by
  intro b hb e
  have hall : ∀ (l : List UInt8), l.all isD = true → b ∈ l → False := fun l hl hb => by
    have := List.all_eq_true.1 hl b hb
    rw [e, hd] at this; cases this
  unfold angT at hb
  rcases List.mem_append.1 hb with hb | hb
  · split at hb
    · rw [show b = 45 by simpa using hb] at e; exact h45 e.symm
    · cases hb
  · rcases List.mem_append.1 hb with hb | hb
    · exact hall _ (decDigits_all _) hb
    · rcases List.mem_cons.1 hb with rfl | hb
      · exact h46 e.symm
      · exact hall _ (pad3_all _) hb
theorem angT_ne (a : Int) : angT a ≠ [] := by
  unfold angT; intro e
  have := congrArg List.length e
  simp at this
def siteT (nm : List UInt8) (lo la : Int) : List UInt8 := joinC 32 [nm, angT lo, angT la]
def mkSite (rd : List UInt8 → Option Int) (ws : List (List UInt8)) : Option (List UInt8 × Int × Int) :=
  if ws.length = 3 then match rd (ws.getD 1 []), rd (ws.getD 2 []) with
    | some lo, some la => if vSite (ws.headD []) lo la = true then some (ws.headD [], lo, la) else none
    | _, _ => none
  else none
def readSiteR (l : List UInt8) : Option (List UInt8 × Int × Int) := mkSite angR (partsL 32 l)
def readSiteI (l : List UInt8) : Option (List UInt8 × Int × Int) := match mkSite angI (wordsL l) with
  | some (nm, lo, la) => if siteT nm lo la = l then some (nm, lo, la) else none
  | none => none
def SiteText (l : List UInt8) (x : List UInt8 × Int × Int) : Prop := vSite x.1 x.2.1 x.2.2 = true ∧ siteT x.1 x.2.1 x.2.2 = l
theorem vSite_parts {s : List UInt8} {a b : Int} (h : vSite s a b = true) : isName s = true ∧ (-180000 ≤ a ∧ a ≤ 180000) ∧ (-90000 ≤ b ∧ b ≤ 90000) := by
  simpa only [vSite, inB, Bool.and_eq_true, decide_eq_true_eq, and_assoc] using h
theorem mkSite_some {rd : List UInt8 → Option Int} (hrd : ∀ l a, rd l = some a ↔ AngText l a) {ws : List (List UInt8)} {x : List UInt8 × Int × Int} (h : mkSite rd ws = some x) : ws = [x.1, angT x.2.1, angT x.2.2] ∧ vSite x.1 x.2.1 x.2.2 = true := by
  unfold mkSite at h
  split at h
  · rename_i hl
    match ws, hl with
    | [w0, w1, w2], _ =>
      change (match rd w1, rd w2 with | some lo, some la => if vSite w0 lo la = true then some (w0, lo, la) else none | _, _ => none) = some x at h
      cases h1 : rd w1 with
      | none => rw [h1] at h; cases h
      | some lo =>
        cases h2 : rd w2 with
        | none => rw [h1, h2] at h; cases h
        | some la =>
          rw [h1, h2] at h
          simp only at h
          by_cases hv : vSite w0 lo la = true
          · rw [if_pos hv] at h
            injection h with h
            subst h
            exact ⟨by rw [((hrd _ _).1 h1).2, ((hrd _ _).1 h2).2], hv⟩
          · rw [if_neg hv] at h; cases h
  · cases h
theorem mkSite_of {rd : List UInt8 → Option Int} (hrd : ∀ l a, rd l = some a ↔ AngText l a) {x : List UInt8 × Int × Int} (hv : vSite x.1 x.2.1 x.2.2 = true) : mkSite rd [x.1, angT x.2.1, angT x.2.2] = some x := by
  obtain ⟨_, h1, h2⟩ := vSite_parts hv
  have e1 : rd (angT x.2.1) = some x.2.1 := (hrd _ _).2 ⟨(inB_iff _ _ _).2 (by omega), rfl⟩
  have e2 : rd (angT x.2.2) = some x.2.2 := (hrd _ _).2 ⟨(inB_iff _ _ _).2 (by omega), rfl⟩
  unfold mkSite
  simp only [List.length_cons, List.length_nil, List.getD_cons_zero, List.getD_cons_succ, List.headD_cons, e1, e2, hv, if_true]
theorem siteT_parts {nm : List UInt8} {lo la : Int} (hn : isName nm = true) : partsL 32 (siteT nm lo la) = [nm, angT lo, angT la] :=
  parts_join 32 _ (by simp) fun p hp => by
    simp only [List.mem_cons, List.not_mem_nil, or_false] at hp
    rcases hp with rfl | rfl | rfl
    · exact name_free hn 32 (by decide)
    · exact angT_free lo 32 (by decide) (by decide) (by decide)
    · exact angT_free la 32 (by decide) (by decide) (by decide)
theorem siteT_words {nm : List UInt8} {lo la : Int} (hn : isName nm = true) : wordsL (siteT nm lo la) = [nm, angT lo, angT la] := by
  unfold wordsL
  rw [siteT_parts hn]
  refine filter_full fun p hp => ?_
  simp only [List.mem_cons, List.not_mem_nil, or_false] at hp
  rcases hp with rfl | rfl | rfl
  · exact name_ne hn
  · exact angT_ne lo
  · exact angT_ne la
theorem readSiteR_iff (l : List UInt8) (x : List UInt8 × Int × Int) : readSiteR l = some x ↔ SiteText l x := by
  constructor
  · intro h
    obtain ⟨h1, h2⟩ := mkSite_some angR_iff h
    exact ⟨h2, by unfold siteT; rw [← h1, joinC_parts]⟩
  · rintro ⟨h1, rfl⟩
    unfold readSiteR
    rw [siteT_parts (vSite_parts h1).1, mkSite_of angR_iff h1]
theorem readSiteI_iff (l : List UInt8) (x : List UInt8 × Int × Int) : readSiteI l = some x ↔ SiteText l x := by
  constructor
  · intro h
    unfold readSiteI at h
    split at h
    · rename_i nm lo la hm
      split at h
      · rename_i ht
        injection h with h
        subst h
        exact ⟨(mkSite_some angI_iff hm).2, ht⟩
      · cases h
    · cases h
  · rintro ⟨h1, rfl⟩
    unfold readSiteI
    rw [siteT_words (vSite_parts h1).1, mkSite_of angI_iff h1]
    simp only [if_true]
theorem readSite_eq (l : List UInt8) : readSiteI l = readSiteR l := opt_ext fun x => (readSiteI_iff l x).trans (readSiteR_iff l x).symm

/-! lists of numbers and planets -/
def fitsL (n : List Int) : Bool := n.all fun x => inB x (-1000000000000) 1000000000000
def listR (l : List UInt8) : Option (List Int) :=
  if l = [45] then some []
  else if 64 < (partsL 44 l).length then none
  else match numsL (partsL 44 l) with
    | some n => if fitsL n = true then some n else none
    | none => none
def planT (id : List UInt8) (n : List Int) : List UInt8 := joinC 32 [id, joinC 44 (n.map itoa)]
def mkPlan (id rest : List UInt8) : Option (List UInt8 × List Int) := match listR rest with
  | some n => if n.length = 3 then (if vPlanet id (n.getD 0 0) (n.getD 1 0) (n.getD 2 0) = true then some (id, n) else none) else none
  | none => none
def readPlanR (l : List UInt8) : Option (List UInt8 × List Int) := if (partsL 32 l).length = 2 then mkPlan ((partsL 32 l).headD []) ((partsL 32 l).getD 1 []) else none
def readPlanI (l : List UInt8) : Option (List UInt8 × List Int) := match mkPlan ((partsL 32 l).headD []) (joinC 32 (partsL 32 l).tail) with
  | some (id, n) => if planT id n = l then some (id, n) else none
  | none => none
def PlanText (l : List UInt8) (x : List UInt8 × List Int) : Prop := x.2.length = 3 ∧ vPlanet x.1 (x.2.getD 0 0) (x.2.getD 1 0) (x.2.getD 2 0) = true ∧ planT x.1 x.2 = l
theorem vPlanet_parts {s : List UInt8} {a b c : Int} (h : vPlanet s a b c = true) : isName s = true ∧ (1000 ≤ a ∧ a ≤ 100000000) ∧ (1 ≤ b ∧ b ≤ 50000) ∧ (0 ≤ c ∧ c ≤ 359999) := by
  simpa only [vPlanet, inB, Bool.and_eq_true, decide_eq_true_eq, and_assoc] using h
theorem mkPlan_some {id rest : List UInt8} {x : List UInt8 × List Int} (h : mkPlan id rest = some x) : x.1 = id ∧ rest = joinC 44 (x.2.map itoa) ∧ x.2.length = 3 ∧ vPlanet x.1 (x.2.getD 0 0) (x.2.getD 1 0) (x.2.getD 2 0) = true := by
  unfold mkPlan at h
  cases hl : listR rest with
  | none => rw [hl] at h; cases h
  | some n =>
    rw [hl] at h
    simp only at h
    split at h
    · rename_i h3
      split at h
      · rename_i hv
        injection h with h
        subst h
        refine ⟨rfl, ?_, h3, hv⟩
        unfold listR at hl
        split at hl
        · injection hl with hl; subst hl; cases h3
        · split at hl
          · cases hl
          · cases hn : numsL (partsL 44 rest) with
            | none => rw [hn] at hl; cases hl
            | some m =>
              rw [hn] at hl
              simp only at hl
              split at hl
              · injection hl with hl
                subst hl
                show rest = joinC 44 (m.map itoa)
                rw [← (numsL_some hn).1, joinC_parts]
              · cases hl
      · cases h
    · cases h
theorem mkPlan_of {x : List UInt8 × List Int} (h3 : x.2.length = 3) (hv : vPlanet x.1 (x.2.getD 0 0) (x.2.getD 1 0) (x.2.getD 2 0) = true) : mkPlan x.1 (joinC 44 (x.2.map itoa)) = some x := by
  obtain ⟨id, n⟩ := x
  obtain ⟨a, b, c, rfl⟩ := three h3
  obtain ⟨_, h1, h2, h4⟩ := vPlanet_parts hv
  simp only [List.getD_cons_zero, List.getD_cons_succ] at h1 h2 h4
  have hsm : ∀ x ∈ [a, b, c], x.natAbs < 1000000000000000000 := by
    intro x hx
    simp only [List.mem_cons, List.not_mem_nil, or_false] at hx
    rcases hx with rfl | rfl | rfl <;> omega
  have hp : partsL 44 (joinC 44 ([a, b, c].map itoa)) = [a, b, c].map itoa := parts_join 44 _ (by simp) fun p hp => by
    obtain ⟨x, _, rfl⟩ := List.mem_map.1 hp
    exact itoa_free x 44 (by decide) (by decide)
  have hne : joinC 44 ([a, b, c].map itoa) ≠ [45] := by
    intro e
    rw [e] at hp
    have h1 := congrArg List.length hp
    have h2 : (partsL 44 [45]).length = 1 := by decide
    have h3 : ([a, b, c].map itoa).length = 3 := rfl
    omega
  unfold mkPlan listR
  rw [if_neg hne, hp, if_neg (by simp), numsL_itoa hsm]
  have hf : fitsL [a, b, c] = true := by
    simp only [fitsL, List.all_cons, List.all_nil, Bool.and_true, Bool.and_eq_true, inB_iff]; omega
  simp only [hf, if_true, List.length_cons, List.length_nil]
  rw [if_pos hv]
theorem planT_parts {id : List UInt8} {n : List Int} (hn : isName id = true) : partsL 32 (planT id n) = [id, joinC 44 (n.map itoa)] :=
  parts_join 32 _ (by simp) fun p hp => by
    simp only [List.mem_cons, List.not_mem_nil, or_false] at hp
    rcases hp with rfl | rfl
    · exact name_free hn 32 (by decide)
    · exact joinC_mem 44 32 _ (fun p hp => by
        obtain ⟨x, _, rfl⟩ := List.mem_map.1 hp
        exact itoa_free x 32 (by decide) (by decide)) (by decide)
theorem readPlanR_iff (l : List UInt8) (x : List UInt8 × List Int) : readPlanR l = some x ↔ PlanText l x := by
  constructor
  · intro h
    unfold readPlanR at h
    split at h
    · rename_i h2
      obtain ⟨h1, h3, h4, h5⟩ := mkPlan_some h
      refine ⟨h4, h5, ?_⟩
      have hj := joinC_parts 32 l
      generalize partsL 32 l = ps at *
      match ps, h2 with
      | [w0, w1], _ =>
        unfold planT
        rw [h1, ← h3]; exact hj
    · cases h
  · rintro ⟨h1, h2, rfl⟩
    unfold readPlanR
    rw [planT_parts (vPlanet_parts h2).1]
    exact (if_pos rfl).trans (mkPlan_of h1 h2)
theorem readPlanI_iff (l : List UInt8) (x : List UInt8 × List Int) : readPlanI l = some x ↔ PlanText l x := by
  constructor
  · intro h
    unfold readPlanI at h
    split at h
    · rename_i id n hm
      split at h
      · rename_i ht
        injection h with h
        subst h
        obtain ⟨_, _, h3, h4⟩ := mkPlan_some hm
        exact ⟨h3, h4, ht⟩
      · cases h
    · cases h
  · rintro ⟨h1, h2, rfl⟩
    unfold readPlanI
    rw [planT_parts (vPlanet_parts h2).1]
    have := mkPlan_of h1 h2
    simp only [List.headD_cons, List.tail_cons, joinC, this, if_true]
theorem readPlan_eq (l : List UInt8) : readPlanI l = readPlanR l := opt_ext fun x => (readPlanI_iff l x).trans (readPlanR_iff l x).symm

/-! figures -/
def lineT (x : List Int) : List UInt8 := joinC 45 (x.map itoa)
def figT (nm : List UInt8) (L : List (List Int)) : List UInt8 := joinC 32 (nm :: L.map lineT)
/-- a line as the reference reads it -/
def lineR (w : List UInt8) : Option (List Int) := if (partsL 45 w).length = 2 then numsL (partsL 45 w) else none
/-- a line as the program reads it -/
def lineI (w : List UInt8) : Option (List Int) := numsL [(partsL 45 w).headD [], joinC 45 (partsL 45 w).tail]
def linesL (rd : List UInt8 → Option (List Int)) : List (List UInt8) → Option (List (List Int))
  | [] => some []
  | w :: r => match rd w, linesL rd r with
    | some a, some b => some (a :: b)
    | _, _ => none
theorem linesL_cons {rd : List UInt8 → Option (List Int)} {w : List UInt8} {r : List (List UInt8)} {a : List Int} {b : List (List Int)} (h : rd w = some a) (h2 : linesL rd r = some b) : linesL rd (w :: r) = some (a :: b) := by simp only [linesL, h, h2]
theorem linesL_head {rd : List UInt8 → Option (List Int)} {w : List UInt8} {r : List (List UInt8)} (h : rd w = none) : linesL rd (w :: r) = none := by simp only [linesL, h]
theorem linesL_tail {rd : List UInt8 → Option (List Int)} {w : List UInt8} {r : List (List UInt8)} (h : linesL rd r = none) : linesL rd (w :: r) = none := by cases hw : rd w <;> simp only [linesL, h, hw]
theorem linesL_snoc {rd : List UInt8 → Option (List Int)} : ∀ {ws : List (List UInt8)} {w : List UInt8} {L : List (List Int)} {x : List Int}, linesL rd ws = some L → rd w = some x → linesL rd (ws ++ [w]) = some (L ++ [x])
  | [], w, L, x, h, hw => by simp only [linesL, Option.some.injEq] at h; subst h; exact linesL_cons hw rfl
  | v :: r, w, L, x, h, hw => by
    cases hv : rd v with
    | none => rw [linesL_head hv] at h; cases h
    | some a =>
      cases hr : linesL rd r with
      | none => rw [linesL_tail hr] at h; cases h
      | some b =>
        rw [linesL_cons hv hr] at h
        injection h with h
        subst h
        exact linesL_cons hv (linesL_snoc hr hw)
theorem linesL_none {rd : List UInt8 → Option (List Int)} : ∀ {ws : List (List UInt8)} {w : List UInt8}, w ∈ ws → rd w = none → linesL rd ws = none
  | [], w, h, _ => by cases h
  | v :: r, w, h, hw => by
    rcases List.mem_cons.1 h with rfl | h
    · exact linesL_head hw
    · exact linesL_tail (linesL_none h hw)
theorem linesL_text {rd : List UInt8 → Option (List Int)} (hrd : ∀ w x, rd w = some x → lineT x = w) : ∀ {ws : List (List UInt8)} {L : List (List Int)}, linesL rd ws = some L → ws = L.map lineT
  | [], L, h => by simp only [linesL, Option.some.injEq] at h; subst h; rfl
  | v :: r, L, h => by
    cases hv : rd v with
    | none => rw [linesL_head hv] at h; cases h
    | some a =>
      cases hr : linesL rd r with
      | none => rw [linesL_tail hr] at h; cases h
      | some b =>
        rw [linesL_cons hv hr] at h
        injection h with h
        subst h
        rw [List.map_cons, hrd v a hv, ← linesL_text hrd hr]
theorem linesL_of {rd : List UInt8 → Option (List Int)} : ∀ {L : List (List Int)}, (∀ x ∈ L, rd (lineT x) = some x) → linesL rd (L.map lineT) = some L
  | [], _ => rfl
  | x :: r, h => linesL_cons (h x (List.mem_cons_self ..)) (linesL_of fun y hy => h y (List.mem_cons_of_mem _ hy))
def figOk (nm : List UInt8) (L : List (List Int)) : Bool := isName nm && vLines 24 L
def readFigR (l : List UInt8) : Option (List UInt8 × List (List Int)) := match linesL lineR (partsL 32 l).tail with
  | some L => if figOk ((partsL 32 l).headD []) L = true then some ((partsL 32 l).headD [], L) else none
  | none => none
def readFigI (l : List UInt8) : Option (List UInt8 × List (List Int)) := if wordsL l = [] then none else match linesL lineI (wordsL l).tail with
  | some L => if (if figOk ((wordsL l).headD []) L = true then figT ((wordsL l).headD []) L else []) = l then some ((wordsL l).headD [], L) else none
  | none => none
def FigText (l : List UInt8) (x : List UInt8 × List (List Int)) : Prop := figOk x.1 x.2 = true ∧ figT x.1 x.2 = l
theorem lineR_text (w : List UInt8) (x : List Int) (h : lineR w = some x) : lineT x = w := by
  unfold lineR at h
  split at h
  · unfold lineT; rw [← (numsL_some h).1, joinC_parts]
  · cases h
theorem line_parts {n : Int} {x : List Int} (h : lineOk n x = true) : partsL 45 (lineT x) = x.map itoa := by
  obtain ⟨a, b, rfl, h0, h1, _⟩ := lineOk_two h
  refine parts_join 45 _ (by simp) fun p hp => ?_
  simp only [List.map_cons, List.map_nil, List.mem_cons, List.not_mem_nil, or_false] at hp
  rcases hp with rfl | rfl
  · exact itoa_free45 a h0
  · exact itoa_free45 b (by omega)
theorem line_nums {x : List Int} (h : lineOk 24 x = true) : numsL (x.map itoa) = some x := by
  obtain ⟨a, b, rfl, h0, h1, h2⟩ := lineOk_two h
  refine numsL_itoa fun y hy => ?_
  simp only [List.mem_cons, List.not_mem_nil, or_false] at hy
  rcases hy with rfl | rfl <;> omega
theorem lineR_of {x : List Int} (h : lineOk 24 x = true) : lineR (lineT x) = some x := by
  unfold lineR
  rw [line_parts h, line_nums h, if_pos]
  obtain ⟨a, b, rfl, _⟩ := lineOk_two h; rfl
theorem lineI_of {x : List Int} (h : lineOk 24 x = true) : lineI (lineT x) = some x := by
  unfold lineI
  rw [line_parts h]
  have := line_nums h
  obtain ⟨a, b, rfl, _⟩ := lineOk_two h
  exact this
theorem line_free {n : Int} {x : List Int} (h : lineOk n x = true) : ∀ b ∈ lineT x, b ≠ 32 :=
  joinC_mem 45 32 _ (fun p hp => by
    obtain ⟨y, _, rfl⟩ := List.mem_map.1 hp
    exact itoa_free y 32 (by decide) (by decide)) (by decide)
theorem line_ne {n : Int} {x : List Int} (h : lineOk n x = true) : lineT x ≠ [] := by
  obtain ⟨a, b, rfl, _⟩ := lineOk_two h
  show itoa a ++ 45 :: itoa b ≠ []
  simp
theorem vLines_mem {n : Int} {L : List (List Int)} (h : vLines n L = true) : ∀ x ∈ L, lineOk n x = true := fun x hx => by
  obtain ⟨k, hk⟩ := List.getElem?_of_mem hx
  exact vLines_ok h hk
theorem figOk_parts {nm : List UInt8} {L : List (List Int)} (h : figOk nm L = true) : isName nm = true ∧ vLines 24 L = true := by simpa only [figOk, Bool.and_eq_true] using h
theorem figT_parts {nm : List UInt8} {L : List (List Int)} (h : figOk nm L = true) : partsL 32 (figT nm L) = nm :: L.map lineT :=
  parts_join 32 _ (by simp) fun p hp => by
    rcases List.mem_cons.1 hp with rfl | hp
    · exact name_free (figOk_parts h).1 32 (by decide)
    · obtain ⟨x, hx, rfl⟩ := List.mem_map.1 hp
      exact line_free (vLines_mem (figOk_parts h).2 x hx)
theorem figT_words {nm : List UInt8} {L : List (List Int)} (h : figOk nm L = true) : wordsL (figT nm L) = nm :: L.map lineT := by
  unfold wordsL
  rw [figT_parts h]
  refine filter_full fun p hp => ?_
  rcases List.mem_cons.1 hp with rfl | hp
  · exact name_ne (figOk_parts h).1
  · obtain ⟨x, hx, rfl⟩ := List.mem_map.1 hp
    exact line_ne (vLines_mem (figOk_parts h).2 x hx)
theorem readFigR_iff (l : List UInt8) (x : List UInt8 × List (List Int)) : readFigR l = some x ↔ FigText l x := by
  constructor
  · intro h
    unfold readFigR at h
    obtain ⟨p, ps, hp⟩ := partsL_cons 32 l
    rw [hp] at h
    change (match linesL lineR ps with | some L => if figOk p L = true then some (p, L) else none | none => none) = some x at h
    cases hL : linesL lineR ps with
    | none => rw [hL] at h; cases h
    | some L =>
      rw [hL] at h
      simp only at h
      by_cases hv : figOk p L = true
      · rw [if_pos hv] at h
        injection h with h
        subst h
        refine ⟨hv, ?_⟩
        show joinC 32 (p :: L.map lineT) = l
        rw [← linesL_text lineR_text hL, ← hp, joinC_parts]
      · rw [if_neg hv] at h; cases h
  · obtain ⟨nm, L⟩ := x
    rintro ⟨h1, rfl⟩
    unfold readFigR
    have h1 : figOk nm L = true := h1
    rw [figT_parts h1]
    simp only [List.headD_cons, List.tail_cons]
    rw [linesL_of fun x hx => lineR_of (vLines_mem (figOk_parts h1).2 x hx)]
    simp only [h1, if_true]
theorem readFigI_iff (l : List UInt8) (x : List UInt8 × List (List Int)) : readFigI l = some x ↔ FigText l x := by
  constructor
  · intro h
    unfold readFigI at h
    by_cases hw : wordsL l = []
    · rw [if_pos hw] at h; cases h
    · rw [if_neg hw] at h
      cases hL : linesL lineI (wordsL l).tail with
      | none => rw [hL] at h; cases h
      | some L =>
        rw [hL] at h
        simp only at h
        by_cases ht : (if figOk ((wordsL l).headD []) L = true then figT ((wordsL l).headD []) L else []) = l
        · rw [if_pos ht] at h
          injection h with h
          subst h
          by_cases hv : figOk ((wordsL l).headD []) L = true
          · rw [if_pos hv] at ht; exact ⟨hv, ht⟩
          · rw [if_neg hv] at ht
            exfalso
            subst ht
            exact hw (by decide)
        · rw [if_neg ht] at h; cases h
  · obtain ⟨nm, L⟩ := x
    rintro ⟨h1, rfl⟩
    have h1 : figOk nm L = true := h1
    unfold readFigI
    rw [figT_words h1, if_neg (by simp)]
    simp only [List.headD_cons, List.tail_cons]
    rw [linesL_of fun x hx => lineI_of (vLines_mem (figOk_parts h1).2 x hx)]
    simp only [h1, if_true]
theorem readFig_eq (l : List UInt8) : readFigI l = readFigR l := opt_ext fun x => (readFigI_iff l x).trans (readFigR_iff l x).symm
end Go.Proofs.YtpnfhienffekoaaGreatDoor
namespace Go.Proofs.YtpnfhienffekoaaGreatDoor
set_option linter.unusedVariables false
set_option linter.unusedSimpArgs false
open Go.Lib
/-! a line is divided -/
structure SplitAt (c : UInt8) (l : List UInt8) (P : List (List UInt8)) (f k : Nat) : Prop where
  le : f ≤ k
  eq : P ++ partsL c (l.drop f) = partsL c l
  free : ∀ (j : Nat) (b : UInt8), f ≤ j → j < k → l[j]? = some b → b ≠ c
theorem SplitAt.start (c : UInt8) (l : List UInt8) : SplitAt c l [] 0 0 := ⟨Nat.le_refl _, by simp, fun j b h1 h2 => by omega⟩
theorem mem_span {l : List UInt8} {f k : Nat} {b : UInt8} (h : b ∈ (l.drop f).take (k - f)) : ∃ j, f ≤ j ∧ j < k ∧ l[j]? = some b := by
  obtain ⟨i, hi⟩ := List.getElem?_of_mem h
  rw [List.getElem?_take] at hi
  split at hi
  · rw [List.getElem?_drop] at hi
    exact ⟨f + i, by omega, by omega, hi⟩
  · cases hi
theorem SplitAt.span {c : UInt8} {l : List UInt8} {P : List (List UInt8)} {f k : Nat} (h : SplitAt c l P f k) : ∀ b ∈ (l.drop f).take (k - f), b ≠ c := fun b hb => by
  obtain ⟨j, h1, h2, h3⟩ := mem_span hb
  exact h.free j b h1 h2 h3
theorem drop_cons_at {l : List UInt8} {k : Nat} {b : UInt8} (h : l[k]? = some b) : l.drop k = b :: l.drop (k + 1) := by
  obtain ⟨hk, rfl⟩ := List.getElem?_eq_some_iff.1 h
  exact List.drop_eq_getElem_cons hk
theorem SplitAt.hit {c : UInt8} {l : List UInt8} {P : List (List UInt8)} {f k : Nat} (h : SplitAt c l P f k) (hk : l[k]? = some c) : SplitAt c l (P ++ [(l.drop f).take (k - f)]) (k + 1) (k + 1) := by
  refine ⟨Nat.le_refl _, ?_, fun j b h1 h2 => by omega⟩
  have e : l.drop f = (l.drop f).take (k - f) ++ c :: l.drop (k + 1) := by
    conv => lhs; rw [← List.take_append_drop (k - f) (l.drop f)]
    rw [List.drop_drop, show f + (k - f) = k by have := h.le; omega, drop_cons_at hk]
  rw [← h.eq]
  conv => rhs; rw [e]
  rw [partsL_hit c _ _ h.span, List.append_assoc]; rfl
theorem SplitAt.miss {c : UInt8} {l : List UInt8} {P : List (List UInt8)} {f k : Nat} {b : UInt8} (h : SplitAt c l P f k) (hk : l[k]? = some b) (hb : b ≠ c) : SplitAt c l P f (k + 1) :=
  ⟨by have := h.le; omega, h.eq, fun j x h1 h2 h3 => by
    by_cases e : j = k
    · subst e; rw [hk] at h3; injection h3 with h3; subst h3; exact hb
    · exact h.free j x h1 (by omega) h3⟩
theorem SplitAt.last {c : UInt8} {l : List UInt8} {P : List (List UInt8)} {f k : Nat} (h : SplitAt c l P f k) (hk : l.length ≤ k) : P ++ [l.drop f] = partsL c l := by
  rw [← h.eq, partsL_miss c (l.drop f)]
  intro b hb
  obtain ⟨i, hi⟩ := List.getElem?_of_mem hb
  rw [List.getElem?_drop] at hi
  have : f + i < l.length := (List.getElem?_eq_some_iff.1 hi).1
  exact h.free (f + i) b (by omega) (by omega) hi
theorem SplitAt.len {c : UInt8} {l : List UInt8} {P : List (List UInt8)} {f k : Nat} (h : SplitAt c l P f k) : P.length ≤ l.length := by
  have h1 := congrArg List.length h.eq
  have h2 := parts_length c l
  rw [List.length_append] at h1
  have h3 : 1 ≤ (partsL c (l.drop f)).length := List.length_pos_iff.2 (partsL_ne c _)
  omega
/-! the words of a line -/
theorem filter_snoc {α : Type} (p : α → Bool) {P : List α} {k : Nat} {x : α} (h : P[k]? = some x) : (P.take (k + 1)).filter p = (P.take k).filter p ++ (if p x = true then [x] else []) := by
  rw [List.take_add_one, h, List.filter_append]
  simp only [Option.toList, List.filter_cons, List.filter_nil]
/-! a number is read -/
def numV (l : List UInt8) : Int := (numL l).getD 0
def numB (l : List UInt8) : Bool := (numL l).isSome
theorem numV_none {l : List UInt8} (h : numL l = none) : numV l = 0 ∧ numB l = false := by simp [numV, numB, h]
theorem numV_some {l : List UInt8} {n : Int} (h : numL l = some n) : numV l = n ∧ numB l = true := by simp [numV, numB, h]
theorem numL_nil : numL [] = none := rfl
theorem numL_m0 {l r : List UInt8} (e : l = 45 :: r) (h : r = []) : numL l = none := by rw [e, numL_minus, if_pos (.inl h)]
theorem numL_m18 {l r : List UInt8} (e : l = 45 :: r) (h : 18 < r.length) : numL l = none := by rw [e, numL_minus, if_pos (.inr (.inl h))]
theorem numL_m48 {l r : List UInt8} (e : l = 45 :: r) (h : r.head? = some 48) : numL l = none := by rw [e, numL_minus, if_pos (.inr (.inr h))]
theorem numL_mbad {l r : List UInt8} (e : l = 45 :: r) (h : r.all isD = false) : numL l = none := by
  rw [e, numL_minus]; split
  · rfl
  · rw [if_neg (by rw [h]; exact Bool.false_ne_true)]
theorem numL_mok {l r : List UInt8} (e : l = 45 :: r) (h0 : r ≠ []) (h18 : r.length ≤ 18) (h48 : r.head? ≠ some 48) (h : r.all isD = true) : numL l = some (-(valD 0 r : Int)) := by
  rw [e, numL_minus, if_neg, if_pos h]
  rintro (h1 | h1 | h1)
  · exact h0 h1
  · omega
  · exact h48 h1
theorem numL_p18 {l : List UInt8} (e : l.head? ≠ some 45) (h : 18 < l.length) : numL l = none := by rw [numL_plain l e, if_pos (.inr (.inl h))]
theorem numL_p48 {l : List UInt8} (e : l.head? ≠ some 45) (h : l.head? = some 48) (h1 : 1 < l.length) : numL l = none := by rw [numL_plain l e, if_pos (.inr (.inr ⟨h, h1⟩))]
theorem numL_pbad {l : List UInt8} (e : l.head? ≠ some 45) (h : l.all isD = false) : numL l = none := by
  rw [numL_plain l e]; split
  · rfl
  · rw [if_neg (by rw [h]; exact Bool.false_ne_true)]
theorem numL_pok {l : List UInt8} (e : l.head? ≠ some 45) (h0 : l ≠ []) (h18 : l.length ≤ 18) (h48 : l.head? = some 48 → l.length ≤ 1) (h : l.all isD = true) : numL l = some (valD 0 l : Int) := by
  rw [numL_plain l e, if_neg, if_pos h]
  rintro (h1 | h1 | ⟨h1, h2⟩)
  · exact h0 h1
  · omega
  · have := h48 h1; omega
/-- digits so far -/
structure DigAt (l : List UInt8) (a k n : Nat) : Prop where
  le : a ≤ k
  all : ((l.drop a).take (k - a)).all isD = true
  val : valD 0 ((l.drop a).take (k - a)) = n
theorem DigAt.start (l : List UInt8) (a : Nat) : DigAt l a a 0 := ⟨Nat.le_refl _, by rw [Nat.sub_self, List.take_zero]; rfl, by rw [Nat.sub_self, List.take_zero]; rfl⟩
theorem DigAt.step {l : List UInt8} {a k n : Nat} {b : UInt8} (h : DigAt l a k n) (hb : l[k]? = some b) (hd : isD b = true) : DigAt l a (k + 1) (n * 10 + (b.toNat - 48)) := by
  have e : (l.drop a).take (k + 1 - a) = (l.drop a).take (k - a) ++ [b] := by
    rw [show k + 1 - a = (k - a) + 1 by have := h.le; omega, List.take_add_one, List.getElem?_drop, show a + (k - a) = k by have := h.le; omega, hb]; rfl
  exact ⟨by have := h.le; omega, by rw [e, List.all_append, h.all]; simp [hd], by rw [e, valD_snoc, h.val]⟩
theorem DigAt.last {l : List UInt8} {a k n : Nat} (h : DigAt l a k n) (hk : l.length ≤ k) : (l.drop a).all isD = true ∧ valD 0 (l.drop a) = n := by
  have e : (l.drop a).take (k - a) = l.drop a := List.take_of_length_le (by rw [List.length_drop]; omega)
  rw [← e]; exact ⟨h.all, h.val⟩
theorem digs_bad {l : List UInt8} {a k : Nat} {b : UInt8} (ha : a ≤ k) (hb : l[k]? = some b) (hd : isD b = false) : (l.drop a).all isD = false := by
  rw [Bool.eq_false_iff]
  intro h
  have := List.all_eq_true.1 h b (List.mem_of_getElem? (i := k - a) (by rw [List.getElem?_drop, show a + (k - a) = k by omega]; exact hb))
  rw [hd] at this; cases this
theorem DigAt.lt {l : List UInt8} {a k n : Nat} (h : DigAt l a k n) (h1 : k ≤ l.length) (h17 : k - a ≤ 17) : n < 100000000000000000 := by
  have h2 := valD_lt _ 0 h.all
  rw [h.val, List.length_take, List.length_drop, Nat.zero_add, Nat.one_mul] at h2
  have h3 : (10 : Nat) ^ min (k - a) (l.length - a) ≤ 10 ^ 17 := Nat.pow_le_pow_right (by omega) (by omega)
  have h4 : (10 : Nat) ^ 17 = 100000000000000000 := by decide
  omega
/-- a number that may be negative -/
theorem signed_num {l r : List UInt8} (e : l = 45 :: r) : numL l = (match numL r with | some n => if 0 < n then some (-n) else none | none => none) := by
  subst e
  rw [numL_minus]
  by_cases h45 : r.head? = some 45
  · obtain ⟨t, rfl⟩ : ∃ t, r = 45 :: t := by
      cases r with
      | nil => cases h45
      | cons c t => exact ⟨t, by rw [show c = 45 by simpa using h45]⟩
    have h1 : (45 :: t).all isD = false := by rw [List.all_cons]; rfl
    rw [h1]
    have hl : (if 45 :: t = [] ∨ 18 < (45 :: t).length ∨ (45 :: t).head? = some 48 then none else if false = true then some (-(valD 0 (45 :: t) : Int)) else none) = none := by split <;> rfl
    rw [hl, numL_minus]
    split
    · rename_i n h
      split at h
      · cases h
      · split at h
        · injection h with h; subst h; rw [if_neg (by omega)]
        · cases h
    · rfl
  · rw [numL_plain r h45]
    by_cases h0 : r = []
    · subst h0; rfl
    · by_cases h18 : 18 < r.length
      · rw [if_pos (.inr (.inl h18)), if_pos (.inr (.inl h18))]
      · by_cases hall : r.all isD = true
        · by_cases h48 : r.head? = some 48
          · rw [if_pos (.inr (.inr h48))]
            by_cases h1 : 1 < r.length
            · rw [if_pos (.inr (.inr ⟨h48, h1⟩))]
            · rw [if_neg (by rintro (h | h | h); exact h0 h; exact h18 h; exact h1 h.2), if_pos hall]
              obtain ⟨c, rfl⟩ : ∃ c, r = [c] := by
                match r, h0 with
                | [c], _ => exact ⟨c, rfl⟩
                | c :: d :: t, _ => simp at h1
              have : c = 48 := by simpa using h48
              subst this
              rfl
          · rw [if_neg (by rintro (h | h | h); exact h0 h; exact h18 h; exact h48 h), if_pos hall, if_neg (by rintro (h | h | h); exact h0 h; exact h18 h; exact h48 h.1), if_pos hall]
            have := valD_pos r h0 hall h48
            simp only
            rw [if_pos (by omega)]
        · have hf : r.all isD = false := by simpa using hall
          rw [hf]
          have a1 : (if r = [] ∨ 18 < r.length ∨ r.head? = some 48 then none else if false = true then some (-(valD 0 r : Int)) else none) = none := by split <;> rfl
          have a2 : (if r = [] ∨ 18 < r.length ∨ r.head? = some 48 ∧ 1 < r.length then none else if false = true then some (valD 0 r : Int) else none) = none := by split <;> rfl
          rw [a1, a2]
theorem parts_mem (c : UInt8) : ∀ (l : List UInt8), ∀ p ∈ partsL c l, p.length ≤ l.length
  | [], p, hp => by rw [show p = [] by simpa [partsL] using hp]; simp
  | x :: r, p, hp => by
    have ih := parts_mem c r
    unfold partsL at hp
    obtain ⟨q, qs, hq⟩ := partsL_cons c r
    rw [hq] at hp ih
    split at hp
    · rcases List.mem_cons.1 hp with rfl | hp
      · simp
      · have := ih p hp; rw [List.length_cons]; omega
    · rcases List.mem_cons.1 hp with rfl | hp
      · have := ih q (List.mem_cons_self ..); simp only [List.headD_cons, List.length_cons]; omega
      · have := ih p (List.mem_cons_of_mem _ hp); rw [List.length_cons]; omega
end Go.Proofs.YtpnfhienffekoaaGreatDoor
