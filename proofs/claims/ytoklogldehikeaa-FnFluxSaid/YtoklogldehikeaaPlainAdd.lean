/- Plain functions on a star put into a list. Nothing of the program is named here. -/
import Derived.Test.YtoklogldehikeaaPlainStars
namespace Go.Proofs.Ytoklogldehikeaa
set_option linter.unusedVariables false
set_option linter.unusedSimpArgs false
theorem bl_irrefl : ∀ a : List UInt8, Op.bytesLess a a = false
  | [] => rfl
  | x :: a => by
    have h : ¬ x < x := by simp [UInt8.lt_irrefl]
    simp [Op.bytesLess, h, bl_irrefl a]
theorem bl_trans : ∀ {a b c : List UInt8}, Op.bytesLess a b = true → Op.bytesLess b c = true → Op.bytesLess a c = true
  | _, [], _, h, _ => by simp [Op.bytesLess] at h
  | _, _ :: _, [], _, h => by simp [Op.bytesLess] at h
  | [], _ :: _, _ :: _, _, _ => rfl
  | x :: a, y :: b, z :: c, h1, h2 => by
    simp only [Op.bytesLess, Bool.or_eq_true, decide_eq_true_eq, Bool.and_eq_true, beq_iff_eq] at h1 h2 ⊢
    rcases h1 with h1 | ⟨rfl, h1⟩
    · rcases h2 with h2 | ⟨rfl, h2⟩
      · exact .inl (UInt8.lt_trans h1 h2)
      · exact .inl h1
    · rcases h2 with h2 | ⟨rfl, h2⟩
      · exact .inl h2
      · exact .inr ⟨rfl, bl_trans h1 h2⟩
theorem bl_tri : ∀ {a b : List UInt8}, Op.bytesLess a b = false → Op.bytesLess b a = false → a = b
  | [], [], _, _ => rfl
  | [], _ :: _, h, _ => by simp [Op.bytesLess] at h
  | _ :: _, [], _, h => by simp [Op.bytesLess] at h
  | x :: a, y :: b, h1, h2 => by
    simp only [Op.bytesLess, Bool.or_eq_false_iff, decide_eq_false_iff_not, Bool.and_eq_false_iff, beq_eq_false_iff_ne] at h1 h2
    have e : x = y := by
      have a1 := UInt8.not_lt.1 h1.1
      have a2 := UInt8.not_lt.1 h2.1
      exact UInt8.le_antisymm a2 a1
    subst e
    have e := bl_tri (a := a) (b := b) (by rcases h1.2 with h | h; exact absurd rfl h; exact h) (by rcases h2.2 with h | h; exact absurd rfl h; exact h)
    rw [e]
theorem ltS_irrefl (a : ByteArray) : ltS a a = false := bl_irrefl _
theorem ltS_trans {a b c : ByteArray} (h : ltS a b = true) (k : ltS b c = true) : ltS a c = true := bl_trans h k
/-- the place where a name belongs -/
def IsAt (l : List Sta) (id : ByteArray) (k : Nat) : Prop := k ≤ l.length ∧ (∀ j x, j < k → l[j]? = some x → ltS x.id id = true) ∧ (∀ x, l[k]? = some x → ltS x.id id = false)
theorem IsAt.uniq {l : List Sta} {id : ByteArray} {k k' : Nat} (h : IsAt l id k) (h' : IsAt l id k') : k = k' := by
  obtain ⟨a1, a2, a3⟩ := h
  obtain ⟨b1, b2, b3⟩ := h'
  rcases Nat.lt_trichotomy k k' with hlt | e | hlt
  · obtain ⟨x, hx⟩ := at_lt (l := l) (k := k) (by omega)
    have := b2 k x hlt hx
    rw [a3 x hx] at this; cases this
  · exact e
  · obtain ⟨x, hx⟩ := at_lt (l := l) (k := k') (by omega)
    have := a2 k' x hlt hx
    rw [b3 x hx] at this; cases this
def addK (id : ByteArray) : List Sta → Nat
  | [] => 0
  | x :: l => if ltS x.id id then addK id l + 1 else 0
theorem addK_is (id : ByteArray) : ∀ l : List Sta, IsAt l id (addK id l)
  | [] => ⟨Nat.le_refl _, fun j x hj _ => absurd hj (by simp [addK]), fun x hx => by simp at hx⟩
  | y :: l => by
    obtain ⟨a1, a2, a3⟩ := addK_is id l
    rw [addK]
    cases hy : ltS y.id id with
    | true =>
      rw [if_pos rfl]
      refine ⟨by simp; exact a1, fun j x hj hx => ?_, fun x hx => a3 x (by simpa using hx)⟩
      cases j with
      | zero => simp only [List.getElem?_cons_zero, Option.some.injEq] at hx; subst hx; exact hy
      | succ j => exact a2 j x (by omega) (by simpa using hx)
    | false =>
      refine ⟨Nat.zero_le _, fun j x hj _ => absurd hj (by simp), fun x hx => ?_⟩
      simp only [Bool.false_eq_true, if_false, List.getElem?_cons_zero, Option.some.injEq] at hx
      subst hx; exact hy
theorem vStars_lt2 {l : List Sta} (h : vStars l = true) {i j : Nat} {x y : Sta} (hij : i < j) (hx : l[i]? = some x) (hy : l[j]? = some y) : ltS x.id y.id = true := by
  induction j generalizing y with
  | zero => omega
  | succ j ih =>
    have hj : j + 1 < l.length := (List.getElem?_eq_some_iff.1 hy).1
    obtain ⟨z, hz⟩ := at_lt (l := l) (k := j) (by omega)
    have h1 := vStars_lt h hy hz
    by_cases e : i = j
    · subst e
      rw [hx] at hz; cases hz; exact h1
    · exact ltS_trans (ih (by omega) hz) h1
end Go.Proofs.Ytoklogldehikeaa
