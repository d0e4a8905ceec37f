/- Plain laws on sorting in place by insertion and by merging (the order of equals kept). Nothing of the program is named here. -/
import Derived.Test.YtbpjnopnhmoigaaDoorPlainStars
namespace Go.Proofs.YtbpjnopnhmoigaaDoor
set_option linter.unusedVariables false
set_option linter.unusedSimpArgs false
/-- one number before another: by the key, then by itself -/
def lx (ky : Int → Int) (a b : Int) : Prop := ky a < ky b ∨ (ky a = ky b ∧ a < b)
theorem lx_trans {ky : Int → Int} {a b c : Int} (h : lx ky a b) (k : lx ky b c) : lx ky a c := by unfold lx at *; omega
theorem lx_irrefl {ky : Int → Int} {a : Int} (h : lx ky a a) : False := by unfold lx at h; omega
theorem lx_asymm {ky : Int → Int} {a b : Int} (h : lx ky a b) (k : lx ky b a) : False := lx_irrefl (lx_trans h k)
theorem lx_lt {ky : Int → Int} {a b : Int} (h : ky a < ky b) : lx ky a b := .inl h
theorem lx_ge {ky : Int → Int} {a b : Int} (h : ¬ ky b < ky a) (k : a < b) : lx ky a b := by unfold lx; omega
def gt (l : List Int) (i : Nat) : Int := l.getD i 0
theorem gt_at {l : List Int} {i : Nat} {x : Int} (h : l[i]? = some x) : gt l i = x := by simp [gt, List.getD, h]
theorem at_gt {l : List Int} {i : Nat} (h : i < l.length) : l[i]? = some (gt l i) := by simp [gt, List.getD, h]
theorem gt_set_self {l : List Int} {i : Nat} {x : Int} (h : i < l.length) : gt (l.set i x) i = x := by simp [gt, List.getD, h]
theorem gt_set_ne {l : List Int} {i j : Nat} {x : Int} (h : i ≠ j) : gt (l.set i x) j = gt l j := by simp [gt, List.getD, List.getElem?_set_ne h]
/-- two numbers change their places -/
def swp (l : List Int) (i j : Nat) : List Int := (l.set i (gt l j)).set j (gt l i)
theorem swp_length (l : List Int) (i j : Nat) : (swp l i j).length = l.length := by simp [swp]
theorem gt_swp {l : List Int} {i j : Nat} (hi : i < l.length) (hj : j < l.length) (p : Nat) : gt (swp l i j) p = if p = j then gt l i else if p = i then gt l j else gt l p := by
  unfold swp
  by_cases h : p = j
  · subst h; rw [if_pos rfl, gt_set_self (by simpa using hj)]
  · rw [if_neg h, gt_set_ne (Ne.symm h)]
    by_cases h2 : p = i
    · subst h2; rw [if_pos rfl, gt_set_self hi]
    · rw [if_neg h2, gt_set_ne (Ne.symm h2)]
/-- rising by the order from a to b -/
def Srt (ky : Int → Int) (l : List Int) (a b : Nat) : Prop := ∀ i j, a ≤ i → i < j → j < b → lx ky (gt l i) (gt l j)
/-- the numbers of the first part are less than those of the second -/
def Lss (l : List Int) (a m b : Nat) : Prop := ∀ i j, a ≤ i → i < m → m ≤ j → j < b → gt l i < gt l j
/-- the same numbers in a window, the rest untouched -/
structure Sme (l l' : List Int) (a b : Nat) : Prop where
  len : l'.length = l.length
  out : ∀ i, (i < a ∨ b ≤ i) → gt l' i = gt l i
  to : ∀ i, a ≤ i → i < b → ∃ j, a ≤ j ∧ j < b ∧ gt l' i = gt l j
  back : ∀ i, a ≤ i → i < b → ∃ j, a ≤ j ∧ j < b ∧ gt l i = gt l' j
theorem Sme.refl (l : List Int) (a b : Nat) : Sme l l a b := ⟨rfl, fun _ _ => rfl, fun i h k => ⟨i, h, k, rfl⟩, fun i h k => ⟨i, h, k, rfl⟩⟩
theorem Sme.trans {l l1 l2 : List Int} {a b : Nat} (h : Sme l l1 a b) (k : Sme l1 l2 a b) : Sme l l2 a b :=
  ⟨k.len.trans h.len, fun i hi => (k.out i hi).trans (h.out i hi),
   fun i h1 h2 => by obtain ⟨j, a1, a2, a3⟩ := k.to i h1 h2; obtain ⟨q, b1, b2, b3⟩ := h.to j a1 a2; exact ⟨q, b1, b2, a3.trans b3⟩,
   fun i h1 h2 => by obtain ⟨j, a1, a2, a3⟩ := h.back i h1 h2; obtain ⟨q, b1, b2, b3⟩ := k.back j a1 a2; exact ⟨q, b1, b2, a3.trans b3⟩⟩
theorem Sme.mono {l l' : List Int} {a b a' b' : Nat} (h : Sme l l' a b) (ha : a' ≤ a) (hb : b ≤ b') : Sme l l' a' b' :=
  ⟨h.len, fun i hi => h.out i (by omega),
   fun i h1 h2 => by
     by_cases hi : a ≤ i ∧ i < b
     · obtain ⟨j, a1, a2, a3⟩ := h.to i hi.1 hi.2; exact ⟨j, by omega, by omega, a3⟩
     · exact ⟨i, h1, h2, h.out i (by omega)⟩,
   fun i h1 h2 => by
     by_cases hi : a ≤ i ∧ i < b
     · obtain ⟨j, a1, a2, a3⟩ := h.back i hi.1 hi.2; exact ⟨j, by omega, by omega, a3⟩
     · exact ⟨i, h1, h2, (h.out i (by omega)).symm⟩⟩
theorem Sme.swp {l : List Int} {a b i j : Nat} (hi : i < l.length) (hj : j < l.length) (h1 : a ≤ i) (h2 : i < b) (h3 : a ≤ j) (h4 : j < b) : Sme l (swp l i j) a b := by
  refine ⟨swp_length l i j, fun p hp => ?_, fun p hp hq => ?_, fun p hp hq => ?_⟩
  · rw [gt_swp hi hj, if_neg (by omega), if_neg (by omega)]
  · rw [gt_swp hi hj]
    by_cases e : p = j
    · exact ⟨i, h1, h2, by rw [if_pos e]⟩
    · by_cases e2 : p = i
      · exact ⟨j, h3, h4, by rw [if_neg e, if_pos e2]⟩
      · exact ⟨p, hp, hq, by rw [if_neg e, if_neg e2]⟩
  · by_cases e : p = j
    · subst e
      refine ⟨i, h1, h2, ?_⟩
      rw [gt_swp hi hj]
      by_cases e2 : i = p
      · rw [if_pos e2, e2]
      · rw [if_neg e2, if_pos rfl]
    · by_cases e2 : p = i
      · subst e2; exact ⟨j, h3, h4, by rw [gt_swp hi hj, if_pos rfl]⟩
      · exact ⟨p, hp, hq, by rw [gt_swp hi hj, if_neg e, if_neg e2]⟩
/-- two rising lists of the same numbers are one -/
theorem srt_uniq {ky : Int → Int} {l l' : List Int} (hs : Srt ky l 0 l.length) (hs' : Srt ky l' 0 l'.length) (hm : Sme l l' 0 l.length) : l' = l := by
  have hlen := hm.len
  have key : ∀ n i, i < n → i < l.length → gt l' i = gt l i := by
    intro n
    induction n with
    | zero => intro i h; omega
    | succ n ih =>
      intro i hi hil
      obtain ⟨j, _, hj, ej⟩ := hm.to i (by omega) hil
      obtain ⟨k, _, hk, ek⟩ := hm.back i (by omega) hil
      by_cases hji : j < i
      · have := ih j (by omega) hj
        have h2 := hs' j i (by omega) hji (by omega)
        rw [this, ← ej] at h2
        exact absurd h2 lx_irrefl
      · by_cases hki : k < i
        · have := ih k (by omega) hk
          have h2 := hs k i (by omega) hki hil
          rw [← this, ← ek] at h2
          exact absurd h2 lx_irrefl
        · by_cases e1 : j = i
          · rw [ej, e1]
          · by_cases e2 : k = i
            · rw [ek, e2]
            · have a1 := hs i j (by omega) (by omega) hj
              have a2 := hs' i k (by omega) (by omega) (by omega)
              rw [← ej, ek] at a1
              exact absurd a2 (fun h => lx_asymm h a1)
  apply List.ext_getElem?
  intro i
  by_cases h : i < l.length
  · rw [at_gt h, at_gt (by omega), key (i + 1) i (by omega) h]
  · rw [List.getElem?_eq_none (by omega), List.getElem?_eq_none (by omega)]
/-- inside an insertion: the number at place j is on its way down -/
structure Ins (ky : Int → Int) (l : List Int) (a j i : Nat) : Prop where
  s1 : ∀ p q, a ≤ p → p < q → q ≤ i → p ≠ j → q ≠ j → lx ky (gt l p) (gt l q)
  s2 : ∀ q, j < q → q ≤ i → lx ky (gt l j) (gt l q)
  big : ∀ p, a ≤ p → p ≤ i → p ≠ j → gt l p < gt l j
theorem Ins.start {ky : Int → Int} {l : List Int} {a i : Nat} (hs : Srt ky l a i) (hb : ∀ p, a ≤ p → p < i → gt l p < gt l i) : Ins ky l a i i :=
  ⟨fun p q h1 h2 h3 h4 h5 => hs p q h1 h2 (by omega), fun q h1 h2 => by omega, fun p h1 h2 h3 => hb p h1 (by omega)⟩
theorem Ins.done {ky : Int → Int} {l : List Int} {a j i : Nat} (h : Ins ky l a j i) (hd : j = a ∨ ¬ ky (gt l j) < ky (gt l (j - 1))) (haj : a ≤ j) (hji : j ≤ i) : Srt ky l a (i + 1) := by
  intro p q h1 h2 h3
  by_cases e1 : p = j
  · subst e1; exact h.s2 q h2 (by omega)
  · by_cases e2 : q = j
    · subst e2
      rcases hd with e | hd
      · omega
      · have h4 : lx ky (gt l (q - 1)) (gt l q) := lx_ge hd (h.big (q - 1) (by omega) (by omega) (by omega))
        by_cases e3 : p = q - 1
        · rw [e3]; exact h4
        · exact lx_trans (h.s1 p (q - 1) h1 (by omega) (by omega) e1 (by omega)) h4
    · exact h.s1 p q h1 h2 (by omega) e1 e2
theorem Ins.step {ky : Int → Int} {l : List Int} {a j i : Nat} (h : Ins ky l a j i) (hd : ky (gt l j) < ky (gt l (j - 1))) (haj : a < j) (hji : j ≤ i) (hi : i < l.length) : Ins ky (swp l j (j - 1)) a (j - 1) i := by
  have hj : j < l.length := by omega
  have hj1 : j - 1 < l.length := by omega
  have G := fun p => gt_swp hj hj1 p
  have lj : lx ky (gt l j) (gt l (j - 1)) := lx_lt hd
  refine ⟨fun p q h1 h2 h3 h4 h5 => ?_, fun q h1 h2 => ?_, fun p h1 h2 h3 => ?_⟩
  · rw [G p, G q, if_neg h4, if_neg h5]
    by_cases e1 : p = j
    · subst e1
      rw [if_pos rfl, if_neg (by omega)]
      exact h.s1 (p - 1) q (by omega) (by omega) h3 (by omega) (by omega)
    · rw [if_neg e1]
      by_cases e2 : q = j
      · subst e2
        rw [if_pos rfl]
        exact h.s1 p (q - 1) h1 (by omega) (by omega) e1 (by omega)
      · rw [if_neg e2]; exact h.s1 p q h1 h2 h3 e1 e2
  · rw [G (j - 1), G q, if_pos rfl, if_neg (by omega)]
    by_cases e : q = j
    · rw [if_pos e]; exact lj
    · rw [if_neg e]; exact h.s2 q (by omega) h2
  · rw [G (j - 1), G p, if_pos rfl, if_neg h3]
    by_cases e : p = j
    · rw [if_pos e]; exact h.big (j - 1) (by omega) (by omega) (by omega)
    · rw [if_neg e]; exact h.big p h1 h2 e
/-- what a turn of two neighbouring parts leaves -/
structure Rot (l l' : List Int) (a m b : Nat) : Prop where
  len : l'.length = l.length
  out : ∀ p, (p < a ∨ b ≤ p) → gt l' p = gt l p
  lo : ∀ p, a ≤ p → p < a + (b - m) → gt l' p = gt l (p + (m - a))
  hi : ∀ p, a + (b - m) ≤ p → p < b → gt l' p = gt l (p - (b - m))
theorem Rot.sme {l l' : List Int} {a m b : Nat} (h : Rot l l' a m b) (h1 : a ≤ m) (h2 : m ≤ b) : Sme l l' a b := by
  refine ⟨h.len, h.out, fun p hp hq => ?_, fun p hp hq => ?_⟩
  · by_cases e : p < a + (b - m)
    · exact ⟨p + (m - a), by omega, by omega, h.lo p hp e⟩
    · exact ⟨p - (b - m), by omega, by omega, h.hi p (by omega) hq⟩
  · by_cases e : p < m
    · exact ⟨p + (b - m), by omega, by omega, by rw [h.hi (p + (b - m)) (by omega) (by omega)]; congr 1; omega⟩
    · exact ⟨p - (m - a), by omega, by omega, by rw [h.lo (p - (m - a)) (by omega) (by omega)]; congr 1; omega⟩
/-- what an exchange of two blocks of n numbers leaves -/
structure Xch (l l' : List Int) (a b n : Nat) : Prop where
  len : l'.length = l.length
  out : ∀ p, (p < a ∨ (a + n ≤ p ∧ p < b) ∨ b + n ≤ p) → gt l' p = gt l p
  lo : ∀ p, a ≤ p → p < a + n → gt l' p = gt l (p - a + b)
  hi : ∀ p, b ≤ p → p < b + n → gt l' p = gt l (p - b + a)
theorem Xch.start (l : List Int) (a b : Nat) (h : a ≤ b) : Xch l l a b 0 := ⟨rfl, fun _ _ => rfl, fun p h1 h2 => by omega, fun p h1 h2 => by omega⟩
theorem Xch.step {l l' : List Int} {a b n : Nat} (h : Xch l l' a b n) (hab : a + n < b) (hb : b + n < l.length) : Xch l (swp l' (a + n) (b + n)) a b (n + 1) := by
  have hl := h.len
  have G := fun p => gt_swp (l := l') (i := a + n) (j := b + n) (by omega) (by omega) p
  refine ⟨(swp_length _ _ _).trans hl, fun p hp => ?_, fun p h1 h2 => ?_, fun p h1 h2 => ?_⟩
  · rw [G, if_neg (by omega), if_neg (by omega)]; exact h.out p (by omega)
  · rw [G, if_neg (by omega)]
    by_cases e : p = a + n
    · subst e; rw [if_pos rfl, h.out (b + n) (by omega)]; congr 1; omega
    · rw [if_neg e]; exact h.lo p h1 (by omega)
  · rw [G]
    by_cases e : p = b + n
    · subst e; rw [if_pos rfl, h.out (a + n) (by omega)]; congr 1; omega
    · rw [if_neg e, if_neg (by omega)]; exact h.hi p h1 (by omega)
/-- where each number will be when two neighbouring parts have been turned -/
def rt (l : List Int) (a m b p : Nat) : Int := if p < a ∨ b ≤ p then gt l p else if p < a + (b - m) then gt l (p + (m - a)) else gt l (p - (b - m))
theorem Rot.of {l l' : List Int} {a m b : Nat} (h1 : a ≤ m) (h2 : m ≤ b) (hl : l'.length = l.length) (h : ∀ p, gt l' p = rt l a m b p) : Rot l l' a m b := by
  refine ⟨hl, fun p hp => ?_, fun p hp hq => ?_, fun p hp hq => ?_⟩
  · rw [h, rt, if_pos hp]
  · rw [h, rt, if_neg (by omega), if_pos hq]
  · rw [h, rt, if_neg (by omega), if_neg (by omega)]
theorem Rot.triv {l : List Int} {a m b : Nat} (h : ¬ (a < m ∧ m < b)) (h1 : a ≤ m) (h2 : m ≤ b) : Rot l l a m b := by
  refine ⟨rfl, fun _ _ => rfl, fun p hp hq => ?_, fun p hp hq => ?_⟩
  · congr 1; omega
  · congr 1; omega
/-- the way of the turn: what is left to be turned is the window m - i, m, m + j -/
structure Tng (T : Nat → Int) (n : Nat) (l : List Int) (m i j : Nat) : Prop where
  len : l.length = n
  lo : ∀ p, p < m - i → gt l p = T p
  hi : ∀ p, m + j ≤ p → gt l p = T p
  w1 : ∀ p, m - i ≤ p → p < m - i + j → gt l (p + i) = T p
  w2 : ∀ p, m - i + j ≤ p → p < m + j → gt l (p - j) = T p
theorem Tng.start {l : List Int} {a m b : Nat} (h1 : a ≤ m) (h2 : m ≤ b) : Tng (rt l a m b) l.length l m (m - a) (b - m) := by
  refine ⟨rfl, fun p hp => ?_, fun p hp => ?_, fun p hp hq => ?_, fun p hp hq => ?_⟩
  · rw [rt, if_pos (by omega)]
  · rw [rt, if_pos (by omega)]
  · rw [rt, if_neg (by omega), if_pos (by omega)]
  · rw [rt, if_neg (by omega), if_neg (by omega)]
theorem Tng.more {T : Nat → Int} {n : Nat} {l l' : List Int} {m i j : Nat} (h : Tng T n l m i j) (hij : j < i) (him : i ≤ m) (hx : Xch l l' (m - i) m j) : Tng T n l' m (i - j) j := by
  refine ⟨hx.len.trans h.len, fun p hp => ?_, fun p hp => ?_, fun p hp hq => ?_, fun p hp hq => ?_⟩
  · by_cases e : p < m - i
    · rw [hx.out p (by omega)]; exact h.lo p e
    · rw [hx.lo p (by omega) (by omega), ← h.w1 p (by omega) (by omega)]; congr 1; omega
  · rw [hx.out p (by omega)]; exact h.hi p hp
  · rw [hx.hi _ (by omega) (by omega), ← h.w2 p (by omega) (by omega)]; congr 1; omega
  · rw [hx.out _ (by omega)]; exact h.w2 p (by omega) (by omega)
theorem Tng.less {T : Nat → Int} {n : Nat} {l l' : List Int} {m i j : Nat} (h : Tng T n l m i j) (hij : i < j) (him : i ≤ m) (hx : Xch l l' (m - i) (m + j - i) i) : Tng T n l' m i (j - i) := by
  refine ⟨hx.len.trans h.len, fun p hp => ?_, fun p hp => ?_, fun p hp hq => ?_, fun p hp hq => ?_⟩
  · rw [hx.out p (by omega)]; exact h.lo p hp
  · by_cases e : m + j ≤ p
    · rw [hx.out p (by omega)]; exact h.hi p e
    · rw [hx.hi p (by omega) (by omega), ← h.w2 p (by omega) (by omega)]; congr 1; omega
  · rw [hx.out _ (by omega)]; exact h.w1 p (by omega) (by omega)
  · rw [hx.lo _ (by omega) (by omega), ← h.w1 p (by omega) (by omega)]; congr 1; omega
theorem Tng.last {T : Nat → Int} {n : Nat} {l l' : List Int} {m i : Nat} (h : Tng T n l m i i) (him : i ≤ m) (hx : Xch l l' (m - i) m i) : l'.length = n ∧ ∀ p, gt l' p = T p := by
  refine ⟨hx.len.trans h.len, fun p => ?_⟩
  by_cases e1 : p < m - i
  · rw [hx.out p (by omega)]; exact h.lo p e1
  · by_cases e2 : p < m
    · rw [hx.lo p (by omega) (by omega), ← h.w1 p (by omega) (by omega)]; congr 1; omega
    · by_cases e3 : p < m + i
      · rw [hx.hi p (by omega) (by omega), ← h.w2 p (by omega) (by omega)]; congr 1; omega
      · rw [hx.out p (by omega)]; exact h.hi p (by omega)
/-- the first number sinks into the second part -/
theorem Rot.up {l l' : List Int} {a k : Nat} (h : Rot l l' a (a + 1) (k + 1)) (hak : a ≤ k) (hk : k + 1 < l.length) : Rot l (swp l' k (k + 1)) a (a + 1) (k + 2) := by
  have hl := h.len
  have G := fun p => gt_swp (l := l') (i := k) (j := k + 1) (by omega) (by omega) p
  have e0 : gt l' k = gt l a := by rw [h.hi k (by omega) (by omega)]; congr 1; omega
  have e1 : gt l' (k + 1) = gt l (k + 1) := h.out _ (by omega)
  refine ⟨(swp_length _ _ _).trans hl, fun p hp => ?_, fun p hp hq => ?_, fun p hp hq => ?_⟩
  · rw [G, if_neg (by omega), if_neg (by omega)]; exact h.out p (by omega)
  · rw [G, if_neg (by omega)]
    by_cases e : p = k
    · subst e; rw [if_pos rfl, e1]; congr 1; omega
    · rw [if_neg e]; exact h.lo p hp (by omega)
  · obtain rfl : p = k + 1 := by omega
    rw [G, if_pos rfl, e0]; congr 1; omega
/-- the last number climbs into the first part -/
theorem Rot.down {l l' : List Int} {k m : Nat} (h : Rot l l' (k + 1) m (m + 1)) (hkm : k + 1 ≤ m) (hm : m < l.length) : Rot l (swp l' (k + 1) k) k m (m + 1) := by
  have hl := h.len
  have G := fun p => gt_swp (l := l') (i := k + 1) (j := k) (by omega) (by omega) p
  have e0 : gt l' (k + 1) = gt l m := by rw [h.lo (k + 1) (by omega) (by omega)]; congr 1; omega
  have e1 : gt l' k = gt l k := h.out _ (by omega)
  refine ⟨(swp_length _ _ _).trans hl, fun p hp => ?_, fun p hp hq => ?_, fun p hp hq => ?_⟩
  · rw [G, if_neg (by omega), if_neg (by omega)]; exact h.out p (by omega)
  · obtain rfl : p = k := by omega
    rw [G, if_pos rfl, e0]; congr 1; omega
  · rw [G, if_neg (by omega)]
    by_cases e : p = k + 1
    · subst e; rw [if_pos rfl, e1]; congr 1; omega
    · rw [if_neg e]; exact h.hi p (by omega) hq
section
variable {ky : Int → Int} {l l' : List Int} {a m b : Nat}
/-- the place of the first number among the second part is found -/
theorem one_first (hs : Srt ky l (a + 1) b) {i : Nat} (hi1 : a + 1 ≤ i) (hi2 : i ≤ b) (h1 : ∀ q, a + 1 ≤ q → q < i → lx ky (gt l q) (gt l a)) (h2 : ∀ q, i ≤ q → q < b → lx ky (gt l a) (gt l q)) (hr : Rot l l' a (a + 1) i) : Srt ky l' a b := by
  have val : ∀ p, a ≤ p → p < b → gt l' p = (if p < i - 1 then gt l (p + 1) else if p = i - 1 then gt l a else gt l p) := by
    intro p hp hq
    by_cases e : p < i - 1
    · rw [if_pos e, hr.lo p hp (by omega)]; congr 1; omega
    · rw [if_neg e]
      by_cases e2 : p = i - 1
      · rw [if_pos e2, hr.hi p (by omega) (by omega)]; congr 1; omega
      · rw [if_neg e2, hr.out p (by omega)]
  intro p q hp hpq hq
  rw [val p hp (by omega), val q (by omega) hq]
  by_cases e1 : p < i - 1
  · rw [if_pos e1]
    by_cases e2 : q < i - 1
    · rw [if_pos e2]; exact hs _ _ (by omega) (by omega) (by omega)
    · rw [if_neg e2]
      by_cases e3 : q = i - 1
      · rw [if_pos e3]; exact h1 _ (by omega) (by omega)
      · rw [if_neg e3]; exact hs _ _ (by omega) (by omega) (by omega)
  · rw [if_neg e1, if_neg (show ¬ q < i - 1 by omega), if_neg (show ¬ q = i - 1 by omega)]
    by_cases e3 : p = i - 1
    · rw [if_pos e3]; exact h2 _ (by omega) hq
    · rw [if_neg e3]; exact hs _ _ (by omega) hpq hq
/-- the place of the last number among the first part is found -/
theorem one_last (hs : Srt ky l a m) {i : Nat} (hi1 : a ≤ i) (hi2 : i ≤ m) (h1 : ∀ q, a ≤ q → q < i → lx ky (gt l q) (gt l m)) (h2 : ∀ q, i ≤ q → q < m → lx ky (gt l m) (gt l q)) (hr : Rot l l' i m (m + 1)) : Srt ky l' a (m + 1) := by
  have val : ∀ p, a ≤ p → p < m + 1 → gt l' p = (if p < i then gt l p else if p = i then gt l m else gt l (p - 1)) := by
    intro p hp hq
    by_cases e : p < i
    · rw [if_pos e, hr.out p (by omega)]
    · rw [if_neg e]
      by_cases e2 : p = i
      · rw [if_pos e2, hr.lo p (by omega) (by omega)]; congr 1; omega
      · rw [if_neg e2, hr.hi p (by omega) (by omega)]; congr 1; omega
  intro p q hp hpq hq
  rw [val p hp (by omega), val q (by omega) hq]
  by_cases e1 : p < i
  · rw [if_pos e1]
    by_cases e2 : q < i
    · rw [if_pos e2]; exact hs _ _ hp hpq (by omega)
    · rw [if_neg e2]
      by_cases e3 : q = i
      · rw [if_pos e3]; exact h1 _ hp e1
      · rw [if_neg e3]; exact hs _ _ hp (by omega) (by omega)
  · rw [if_neg e1, if_neg (show ¬ q < i by omega), if_neg (show ¬ q = i by omega)]
    by_cases e3 : p = i
    · rw [if_pos e3]; exact h2 _ (by omega) (by omega)
    · rw [if_neg e3]; exact hs _ _ (by omega) (by omega) (by omega)
/-- the search of the place where two parts are cut: n is the sum of the middle and m -/
structure Fnd (ky : Int → Int) (l : List Int) (n lo hi s r : Nat) : Prop where
  o1 : lo ≤ s
  o2 : s ≤ r
  o3 : r ≤ hi
  c1 : ∀ c, lo ≤ c → c < s → lx ky (gt l c) (gt l (n - 1 - c))
  c2 : ∀ c, r ≤ c → c < hi → lx ky (gt l (n - 1 - c)) (gt l c)
/-- the bounds of the search -/
structure Bnd (a m b n lo hi : Nat) : Prop where
  b1 : a ≤ lo
  b2 : hi ≤ m
  b3 : lo ≤ hi
  b4 : hi + m ≤ n
  b5 : n ≤ lo + b
theorem Fnd.up {n lo hi s r c : Nat} (hB : Bnd a m b n lo hi) (hs1 : Srt ky l a m) (hs2 : Srt ky l m b) (hl : Lss l a m b) (h : Fnd ky l n lo hi s r) (h1 : s ≤ c) (h2 : c < r) (hc : ¬ ky (gt l (n - 1 - c)) < ky (gt l c)) : Fnd ky l n lo hi (c + 1) r := by
  obtain ⟨b1, b2, b3, b4, b5⟩ := hB
  obtain ⟨o1, o2, o3, c1, c2⟩ := h
  have k : lx ky (gt l c) (gt l (n - 1 - c)) := lx_ge hc (hl c (n - 1 - c) (by omega) (by omega) (by omega) (by omega))
  refine ⟨by omega, by omega, o3, fun q h3 h4 => ?_, c2⟩
  by_cases e : q = c
  · rw [e]; exact k
  · exact lx_trans (hs1 q c (by omega) (by omega) (by omega)) (lx_trans k (hs2 (n - 1 - c) (n - 1 - q) (by omega) (by omega) (by omega)))
theorem Fnd.down {n lo hi s r c : Nat} (hB : Bnd a m b n lo hi) (hs1 : Srt ky l a m) (hs2 : Srt ky l m b) (h : Fnd ky l n lo hi s r) (h1 : s ≤ c) (h2 : c < r) (hc : ky (gt l (n - 1 - c)) < ky (gt l c)) : Fnd ky l n lo hi s c := by
  obtain ⟨b1, b2, b3, b4, b5⟩ := hB
  obtain ⟨o1, o2, o3, c1, c2⟩ := h
  have k : lx ky (gt l (n - 1 - c)) (gt l c) := lx_lt hc
  refine ⟨o1, h1, by omega, c1, fun q h3 h4 => ?_⟩
  by_cases e : q = c
  · rw [e]; exact k
  · exact lx_trans (hs2 (n - 1 - q) (n - 1 - c) (by omega) (by omega) (by omega)) (lx_trans k (hs1 c q (by omega) (by omega) (by omega)))
/-- behind the turn two smaller tasks are left, and all of the first half comes before all of the second -/
theorem cut_done {mid n lo hi s : Nat} (hB : Bnd a m b n lo hi) (hn : n = mid + m) (ham : a ≤ m) (hmb : m ≤ b) (hmid : a ≤ mid ∧ mid ≤ b) (hlo : lo = a ∨ lo + b = n) (hhi : hi = m ∨ hi = mid) (hs1 : Srt ky l a m) (hs2 : Srt ky l m b) (hl : Lss l a m b) (h : Fnd ky l n lo hi s s)
    (hr : Rot l l' s m (n - s)) : s ≤ mid ∧ mid ≤ n - s ∧ n - s ≤ b ∧ a ≤ s ∧ Srt ky l' a s ∧ Srt ky l' s mid ∧ Srt ky l' mid (n - s) ∧ Srt ky l' (n - s) b ∧ Lss l' a s mid ∧ Lss l' mid (n - s) b ∧ (∀ p q, a ≤ p → p < mid → mid ≤ q → q < b → lx ky (gt l' p) (gt l' q)) := by
  obtain ⟨b1, b2, b3, b4, b5⟩ := hB
  obtain ⟨o1, _, o3, c1, c2⟩ := h
  have hsm : s ≤ mid := by omega
  -- the four pieces
  have v1 : ∀ p, a ≤ p → p < s → gt l' p = gt l p := fun p h1 h2 => hr.out p (.inl h2)
  have v2 : ∀ p, s ≤ p → p < mid → gt l' p = gt l (p + (m - s)) := fun p h1 h2 => hr.lo p h1 (by omega)
  have v3 : ∀ p, mid ≤ p → p < n - s → gt l' p = gt l (p - (n - s - m)) := fun p h1 h2 => hr.hi p (by omega) h2
  have v4 : ∀ p, n - s ≤ p → p < b → gt l' p = gt l p := fun p h1 h2 => hr.out p (.inr h1)
  refine ⟨hsm, by omega, by omega, by omega, fun p q h1 h2 h3 => ?_, fun p q h1 h2 h3 => ?_, fun p q h1 h2 h3 => ?_, fun p q h1 h2 h3 => ?_, fun p q h1 h2 h3 h4 => ?_, fun p q h1 h2 h3 h4 => ?_, fun p q h1 h2 h3 h4 => ?_⟩
  · rw [v1 p h1 (by omega), v1 q (by omega) h3]; exact hs1 p q h1 h2 (by omega)
  · rw [v2 p h1 (by omega), v2 q (by omega) h3]; exact hs2 _ _ (by omega) (by omega) (by omega)
  · rw [v3 p h1 (by omega), v3 q (by omega) h3]; exact hs1 _ _ (by omega) (by omega) (by omega)
  · rw [v4 p h1 (by omega), v4 q (by omega) h3]; exact hs2 p q (by omega) h2 h3
  · rw [v1 p h1 h2, v2 q h3 h4]; exact hl _ _ (by omega) (by omega) (by omega) (by omega)
  · rw [v3 p h1 h2, v4 q h3 h4]; exact hl _ _ (by omega) (by omega) (by omega) (by omega)
  · by_cases e1 : p < s
    · rw [v1 p h1 e1]
      by_cases e2 : q < n - s
      · rw [v3 q h3 e2]; exact hs1 _ _ (by omega) (by omega) (by omega)
      · rw [v4 q (by omega) h4]
        have hlos : lo < s := by omega
        have k := c1 (s - 1) (by omega) (by omega)
        have k1 : lx ky (gt l p) (gt l (n - 1 - (s - 1))) := by
          by_cases e : p = s - 1
          · rw [e]; exact k
          · exact lx_trans (hs1 p (s - 1) h1 (by omega) (by omega)) k
        by_cases e : q = n - 1 - (s - 1)
        · rw [e]; exact k1
        · exact lx_trans k1 (hs2 _ _ (by omega) (by omega) h4)
    · rw [v2 p (by omega) h2]
      by_cases e2 : q < n - s
      · rw [v3 q h3 e2]
        have hshi : s < hi := by omega
        have k := c2 s (by omega) hshi
        have k1 : lx ky (gt l (p + (m - s))) (gt l s) := by
          by_cases e : p + (m - s) = n - 1 - s
          · rw [e]; exact k
          · exact lx_trans (hs2 _ _ (by omega) (by omega) (by omega)) k
        by_cases e : q - (n - s - m) = s
        · rw [e]; exact k1
        · exact lx_trans k1 (hs1 _ _ (by omega) (by omega) (by omega))
      · rw [v4 q (by omega) h4]; exact hs2 _ _ (by omega) (by omega) h4
/-- the two halves are sorted: so is the whole -/
theorem halves {l1 l2 l3 : List Int} {mid : Nat} (ha : a ≤ mid) (hb : mid ≤ b) (hx : ∀ p q, a ≤ p → p < mid → mid ≤ q → q < b → lx ky (gt l1 p) (gt l1 q)) (h2 : Sme l1 l2 a mid) (s2 : Srt ky l2 a mid) (h3 : Sme l2 l3 mid b) (s3 : Srt ky l3 mid b) : Srt ky l3 a b := by
  intro p q h4 h5 h6
  by_cases e1 : q < mid
  · rw [h3.out p (by omega), h3.out q (by omega)]; exact s2 p q h4 h5 e1
  · by_cases e2 : p < mid
    · rw [h3.out p (by omega)]
      obtain ⟨i, i1, i2, i3⟩ := h2.to p h4 e2
      obtain ⟨j, j1, j2, j3⟩ := h3.to q (by omega) h6
      rw [i3, j3, h2.out j (by omega)]; exact hx i j i1 i2 j1 j2
    · exact s3 p q (by omega) h5 h6
theorem Srt.keep {l1 l2 : List Int} {c d : Nat} (h : Srt ky l1 c d) (hs : Sme l1 l2 a b) (hd : d ≤ a ∨ b ≤ c) : Srt ky l2 c d := fun p q h1 h2 h3 => by
  rw [hs.out p (by omega), hs.out q (by omega)]; exact h p q h1 h2 h3
theorem Lss.keep {l1 l2 : List Int} {c d e : Nat} (h : Lss l1 c d e) (hs : Sme l1 l2 a b) (hd : e ≤ a ∨ b ≤ c) : Lss l2 c d e := fun p q h1 h2 h3 h4 => by
  rw [hs.out p (by omega), hs.out q (by omega)]; exact h p q h1 h2 h3 h4
theorem Lss.sme {l1 l2 l3 : List Int} {c d e : Nat} (h : Lss l1 c d e) (h1 : Sme l1 l2 c d) (h2 : Sme l2 l3 d e) : Lss l3 c d e := fun p q a1 a2 a3 a4 => by
  obtain ⟨i, i1, i2, i3⟩ := h1.to p a1 a2
  obtain ⟨j, j1, j2, j3⟩ := h2.to q a3 a4
  rw [h2.out p (.inl a2), i3, j3, h1.out j (.inr j1)]; exact h i j i1 i2 j1 j2
end
end Go.Proofs.YtbpjnopnhmoigaaDoor
