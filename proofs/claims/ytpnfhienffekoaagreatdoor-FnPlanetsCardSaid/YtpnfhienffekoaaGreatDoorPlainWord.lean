/- Lines divided and numbers read, step by step, plainly. -/
import Derived.Test.YtpnfhienffekoaaGreatDoorPlainRead
namespace Go.Proofs.YtpnfhienffekoaaGreatDoor
set_option linter.unusedVariables false
set_option linter.unusedSimpArgs false
open Go.Lib
/-! a line is divided -/
structure SplitAt (c : UInt8) (l : List UInt8) (P : List (List UInt8)) (f k : Nat) : Prop where
  le : f ≤ k
  eq : P ++ partsL c (l.drop f) = partsL c l
  free : ∀ (j : Nat) (b : UInt8), f ≤ j → j < k → l[j]? = some b → b ≠ c
theorem SplitAt.start (c : UInt8) (l : List UInt8) : SplitAt c l [] 0 0 := ⟨Nat.le_refl _, by simp, fun j b h1 h2 => by omega⟩
theorem mem_span {l : List UInt8} {f k : Nat} {b : UInt8} (h : b ∈ (l.drop f).take (k - f)) : ∃ j, f ≤ j ∧ j < k ∧ l[j]? = some b := by
  obtain ⟨i, hi⟩ := List.getElem?_of_mem h
  rw [List.getElem?_take] at hi
  split at hi
  · rw [List.getElem?_drop] at hi
    exact ⟨f + i, by omega, by omega, hi⟩
  · cases hi
theorem SplitAt.span {c : UInt8} {l : List UInt8} {P : List (List UInt8)} {f k : Nat} (h : SplitAt c l P f k) : ∀ b ∈ (l.drop f).take (k - f), b ≠ c := fun b hb => by
  obtain ⟨j, h1, h2, h3⟩ := mem_span hb
  exact h.free j b h1 h2 h3
theorem drop_cons_at {l : List UInt8} {k : Nat} {b : UInt8} (h : l[k]? = some b) : l.drop k = b :: l.drop (k + 1) := by
  obtain ⟨hk, rfl⟩ := List.getElem?_eq_some_iff.1 h
  exact List.drop_eq_getElem_cons hk
theorem SplitAt.hit {c : UInt8} {l : List UInt8} {P : List (List UInt8)} {f k : Nat} (h : SplitAt c l P f k) (hk : l[k]? = some c) : SplitAt c l (P ++ [(l.drop f).take (k - f)]) (k + 1) (k + 1) := by
  refine ⟨Nat.le_refl _, ?_, fun j b h1 h2 => by omega⟩
  have e : l.drop f = (l.drop f).take (k - f) ++ c :: l.drop (k + 1) := by
    conv => lhs; rw [← List.take_append_drop (k - f) (l.drop f)]
    rw [List.drop_drop, show f + (k - f) = k by have := h.le; omega, drop_cons_at hk]
  rw [← h.eq]
  conv => rhs; rw [e]
  rw [partsL_hit c _ _ h.span, List.append_assoc]; rfl
theorem SplitAt.miss {c : UInt8} {l : List UInt8} {P : List (List UInt8)} {f k : Nat} {b : UInt8} (h : SplitAt c l P f k) (hk : l[k]? = some b) (hb : b ≠ c) : SplitAt c l P f (k + 1) :=
  ⟨by have := h.le; omega, h.eq, fun j x h1 h2 h3 => by
    by_cases e : j = k
    · subst e; rw [hk] at h3; injection h3 with h3; subst h3; exact hb
    · exact h.free j x h1 (by omega) h3⟩
theorem SplitAt.last {c : UInt8} {l : List UInt8} {P : List (List UInt8)} {f k : Nat} (h : SplitAt c l P f k) (hk : l.length ≤ k) : P ++ [l.drop f] = partsL c l := by
  rw [← h.eq, partsL_miss c (l.drop f)]
  intro b hb
  obtain ⟨i, hi⟩ := List.getElem?_of_mem hb
  rw [List.getElem?_drop] at hi
  have : f + i < l.length := (List.getElem?_eq_some_iff.1 hi).1
  exact h.free (f + i) b (by omega) (by omega) hi
theorem SplitAt.len {c : UInt8} {l : List UInt8} {P : List (List UInt8)} {f k : Nat} (h : SplitAt c l P f k) : P.length ≤ l.length := by
  have h1 := congrArg List.length h.eq
  have h2 := parts_length c l
  rw [List.length_append] at h1
  have h3 : 1 ≤ (partsL c (l.drop f)).length := List.length_pos_iff.2 (partsL_ne c _)
  omega
/-! the words of a line -/
theorem filter_snoc {α : Type} (p : α → Bool) {P : List α} {k : Nat} {x : α} (h : P[k]? = some x) : (P.take (k + 1)).filter p = (P.take k).filter p ++ (if p x = true then [x] else []) := by
  rw [List.take_add_one, h, List.filter_append]
  simp only [Option.toList, List.filter_cons, List.filter_nil]
/-! a number is read -/
def numV (l : List UInt8) : Int := (numL l).getD 0
def numB (l : List UInt8) : Bool := (numL l).isSome
theorem numV_none {l : List UInt8} (h : numL l = none) : numV l = 0 ∧ numB l = false := by simp [numV, numB, h]
theorem numV_some {l : List UInt8} {n : Int} (h : numL l = some n) : numV l = n ∧ numB l = true := by simp [numV, numB, h]
theorem numL_nil : numL [] = none := rfl
theorem numL_m0 {l r : List UInt8} (e : l = 45 :: r) (h : r = []) : numL l = none := by rw [e, numL_minus, if_pos (.inl h)]
theorem numL_m18 {l r : List UInt8} (e : l = 45 :: r) (h : 18 < r.length) : numL l = none := by rw [e, numL_minus, if_pos (.inr (.inl h))]
theorem numL_m48 {l r : List UInt8} (e : l = 45 :: r) (h : r.head? = some 48) : numL l = none := by rw [e, numL_minus, if_pos (.inr (.inr h))]
theorem numL_mbad {l r : List UInt8} (e : l = 45 :: r) (h : r.all isD = false) : numL l = none := by
  rw [e, numL_minus]; split
  · rfl
  · rw [if_neg (by rw [h]; exact Bool.false_ne_true)]
theorem numL_mok {l r : List UInt8} (e : l = 45 :: r) (h0 : r ≠ []) (h18 : r.length ≤ 18) (h48 : r.head? ≠ some 48) (h : r.all isD = true) : numL l = some (-(valD 0 r : Int)) := by
  rw [e, numL_minus, if_neg, if_pos h]
  rintro (h1 | h1 | h1)
  · exact h0 h1
  · omega
  · exact h48 h1
theorem numL_p18 {l : List UInt8} (e : l.head? ≠ some 45) (h : 18 < l.length) : numL l = none := by rw [numL_plain l e, if_pos (.inr (.inl h))]
theorem numL_p48 {l : List UInt8} (e : l.head? ≠ some 45) (h : l.head? = some 48) (h1 : 1 < l.length) : numL l = none := by rw [numL_plain l e, if_pos (.inr (.inr ⟨h, h1⟩))]
theorem numL_pbad {l : List UInt8} (e : l.head? ≠ some 45) (h : l.all isD = false) : numL l = none := by
  rw [numL_plain l e]; split
  · rfl
  · rw [if_neg (by rw [h]; exact Bool.false_ne_true)]
theorem numL_pok {l : List UInt8} (e : l.head? ≠ some 45) (h0 : l ≠ []) (h18 : l.length ≤ 18) (h48 : l.head? = some 48 → l.length ≤ 1) (h : l.all isD = true) : numL l = some (valD 0 l : Int) := by
  rw [numL_plain l e, if_neg, if_pos h]
  rintro (h1 | h1 | ⟨h1, h2⟩)
  · exact h0 h1
  · omega
  · have := h48 h1; omega
/-- digits so far -/
structure DigAt (l : List UInt8) (a k n : Nat) : Prop where
  le : a ≤ k
  all : ((l.drop a).take (k - a)).all isD = true
  val : valD 0 ((l.drop a).take (k - a)) = n
theorem DigAt.start (l : List UInt8) (a : Nat) : DigAt l a a 0 := ⟨Nat.le_refl _, by rw [Nat.sub_self, List.take_zero]; rfl, by rw [Nat.sub_self, List.take_zero]; rfl⟩
theorem DigAt.step {l : List UInt8} {a k n : Nat} {b : UInt8} (h : DigAt l a k n) (hb : l[k]? = some b) (hd : isD b = true) : DigAt l a (k + 1) (n * 10 + (b.toNat - 48)) := by
  have e : (l.drop a).take (k + 1 - a) = (l.drop a).take (k - a) ++ [b] := by
    rw [show k + 1 - a = (k - a) + 1 by have := h.le; omega, List.take_add_one, List.getElem?_drop, show a + (k - a) = k by have := h.le; omega, hb]; rfl
  exact ⟨by have := h.le; omega, by rw [e, List.all_append, h.all]; simp [hd], by rw [e, valD_snoc, h.val]⟩
theorem DigAt.last {l : List UInt8} {a k n : Nat} (h : DigAt l a k n) (hk : l.length ≤ k) : (l.drop a).all isD = true ∧ valD 0 (l.drop a) = n := by
  have e : (l.drop a).take (k - a) = l.drop a := List.take_of_length_le (by rw [List.length_drop]; omega)
  rw [← e]; exact ⟨h.all, h.val⟩
theorem digs_bad {l : List UInt8} {a k : Nat} {b : UInt8} (ha : a ≤ k) (hb : l[k]? = some b) (hd : isD b = false) : (l.drop a).all isD = false := by
  rw [Bool.eq_false_iff]
  intro h
  have := List.all_eq_true.1 h b (List.mem_of_getElem? (i := k - a) (by rw [List.getElem?_drop, show a + (k - a) = k by omega]; exact hb))
  rw [hd] at this; cases this
theorem DigAt.lt {l : List UInt8} {a k n : Nat} (h : DigAt l a k n) (h1 : k ≤ l.length) (h17 : k - a ≤ 17) : n < 100000000000000000 := by
  have h2 := valD_lt _ 0 h.all
  rw [h.val, List.length_take, List.length_drop, Nat.zero_add, Nat.one_mul] at h2
  have h3 : (10 : Nat) ^ min (k - a) (l.length - a) ≤ 10 ^ 17 := Nat.pow_le_pow_right (by omega) (by omega)
  have h4 : (10 : Nat) ^ 17 = 100000000000000000 := by decide
  omega
/-- a number that may be negative -/
theorem signed_num {l r : List UInt8} (e : l = 45 :: r) : numL l = (match numL r with | some n => if 0 < n then some (-n) else none | none => none) := by
  subst e
  rw [numL_minus]
  by_cases h45 : r.head? = some 45
  · obtain ⟨t, rfl⟩ : ∃ t, r = 45 :: t := by
      cases r with
      | nil => cases h45
      | cons c t => exact ⟨t, by rw [show c = 45 by simpa using h45]⟩
    have h1 : (45 :: t).all isD = false := by rw [List.all_cons]; rfl
    rw [h1]
    have hl : (if 45 :: t = [] ∨ 18 < (45 :: t).length ∨ (45 :: t).head? = some 48 then none else if false = true then some (-(valD 0 (45 :: t) : Int)) else none) = none := by split <;> rfl
    rw [hl, numL_minus]
    split
    · rename_i n h
      split at h
      · cases h
      · split at h
        · injection h with h; subst h; rw [if_neg (by omega)]
        · cases h
    · rfl
  · rw [numL_plain r h45]
    by_cases h0 : r = []
    · subst h0; rfl
    · by_cases h18 : 18 < r.length
      · rw [if_pos (.inr (.inl h18)), if_pos (.inr (.inl h18))]
      · by_cases hall : r.all isD = true
        · by_cases h48 : r.head? = some 48
          · rw [if_pos (.inr (.inr h48))]
            by_cases h1 : 1 < r.length
            · rw [if_pos (.inr (.inr ⟨h48, h1⟩))]
            · rw [if_neg (by rintro (h | h | h); exact h0 h; exact h18 h; exact h1 h.2), if_pos hall]
              obtain ⟨c, rfl⟩ : ∃ c, r = [c] := by
                match r, h0 with
                | [c], _ => exact ⟨c, rfl⟩
                | c :: d :: t, _ => simp at h1
              have : c = 48 := by simpa using h48
              subst this
              rfl
          · rw [if_neg (by rintro (h | h | h); exact h0 h; exact h18 h; exact h48 h), if_pos hall, if_neg (by rintro (h | h | h); exact h0 h; exact h18 h; exact h48 h.1), if_pos hall]
            have := valD_pos r h0 hall h48
            simp only
            rw [if_pos (by omega)]
        · have hf : r.all isD = false := by simpa using hall
          rw [hf]
          have a1 : (if r = [] ∨ 18 < r.length ∨ r.head? = some 48 then none else if false = true then some (-(valD 0 r : Int)) else none) = none := by split <;> rfl
          have a2 : (if r = [] ∨ 18 < r.length ∨ r.head? = some 48 ∧ 1 < r.length then none else if false = true then some (valD 0 r : Int) else none) = none := by split <;> rfl
          rw [a1, a2]
theorem parts_mem (c : UInt8) : ∀ (l : List UInt8), ∀ p ∈ partsL c l, p.length ≤ l.length
  | [], p, hp => by rw [show p = [] by simpa [partsL] using hp]; simp
  | x :: r, p, hp => by
    have ih := parts_mem c r
    unfold partsL at hp
    obtain ⟨q, qs, hq⟩ := partsL_cons c r
    rw [hq] at hp ih
    split at hp
    · rcases List.mem_cons.1 hp with rfl | hp
      · simp
      · have := ih p hp; rw [List.length_cons]; omega
    · rcases List.mem_cons.1 hp with rfl | hp
      · have := ih q (List.mem_cons_self ..); simp only [List.headD_cons, List.length_cons]; omega
      · have := ih p (List.mem_cons_of_mem _ hp); rw [List.length_cons]; omega
end Go.Proofs.YtpnfhienffekoaaGreatDoor
