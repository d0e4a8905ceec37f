/- A list of numbers appended to a row of numbers of the call's own. -/
import Derived.Test.YtbpjnopnhmoigaaDoorOwnRows
namespace Go.Proofs.YtbpjnopnhmoigaaDoor
set_option linter.unusedVariables false
set_option linter.unusedSimpArgs false
open Go.RowKit
theorem Ints.take {w : World} {A : Option Addr} {l : List Int} (h : Ints w A l) (k : Nat) : Ints w A (l.take k) := fun hl => by
  obtain ⟨b, o, e, hc⟩ := h (by rw [List.length_take] at hl; omega)
  refine ⟨b, o, e, fun i x hx => hc i x ?_⟩
  rw [List.getElem?_take] at hx
  split at hx
  · exact hx
  · cases hx
theorem Ints.drop {w : World} {b o c : Nat} {l : List Int} (h : Ints w (some ⟨b, o, none⟩) l) (k : Nat) (hc : l.length ≤ c) : Ints w (if c = k then some ⟨b, o, none⟩ else some ⟨b, o + k, none⟩) (l.drop k) := fun hl => by
  rw [List.length_drop] at hl
  obtain ⟨b', o', e, hs⟩ := h (by omega)
  obtain ⟨rfl, rfl⟩ : b = b' ∧ o = o' := by injection e with e; injection e with e1 e2; exact ⟨e1, e2⟩
  refine ⟨b, o + k, by rw [if_neg (by omega)], fun i x hx => ?_⟩
  rw [List.getElem?_drop] at hx
  have := hs _ _ hx
  rw [show o + k + i = o + (k + i) by omega]; exact this
theorem run_app_ints (W : World) (base : Nat) (v : Value) (l ys : List Int) (A : Option Addr) (m c : Nat) (ty : TypeId) (hown : OwnI W base v l) (hm : ys.length = m) (hc : Ints W A ys) (h0 : A = none → c = 0 ∧ m = 0) (hl : l.length + m ≤ 1099511627776) (hb : base ≤ W.heap.size) :
    ∃ v' w', (Builtin.append_ #[24, 24] ty #[v, .slice A m c]).run Tryd.prog W = .ok v' w' ∧ OwnI w' base v' (l ++ ys) ∧ W.grownBy w' v.ownBlock := by
  obtain ⟨i0, hi0, hz0, hz1, hz2⟩ := info_parts info_num
  subst hm
  cases A with
  | none =>
    obtain ⟨rfl, h2⟩ := h0 rfl
    have e : ys = [] := List.eq_nil_of_length_eq_zero h2
    subst e
    exact ⟨v, W, run_append_owned_none (P := Tryd.prog) W base _ ty _ i0 1 Tryd.underlying24 hi0 v l.length (numCells l) hown, by simpa using hown, grown_of_below (Below.refl _ _) _⟩
  | some a =>
    have hl1 : l.length + ys.length ≤ maxLen := Nat.le_trans hl (by decide)
    have hl2 := Nat.mul_le_mul_right 8 hl
    obtain ⟨v', w', hr, h1, h2, _⟩ := run_append_own (P := Tryd.prog) W base 24 ty 2 i0 _ 1 8 Tryd.underlying24 hi0 hz0 hz1 hz2 rfl (by decide) v l.length (numCells l) hown a ys.length c (numCells ys) (by rw [numCells_length, Nat.mul_one]) (fun j u hj => by
      have hpos : 0 < ys.length := by
        have := (List.getElem?_eq_some_iff.1 hj).1
        rw [numCells_length] at this; omega
      obtain ⟨b, o, e, hst⟩ := hc hpos
      obtain rfl : a = ⟨b, o, none⟩ := Option.some.inj e
      rw [addr_add]
      have hj2 : j < ys.length := by
        have := (List.getElem?_eq_some_iff.1 hj).1
        rw [numCells_length] at this; exact this
      obtain ⟨x, hx⟩ := at_lt (l := ys) (k := j) hj2
      have hu : Value.int .i64 x = u := Option.some.inj ((numCells_at hx).symm.trans hj)
      rw [← hu]
      exact hst j x hx)
      (fun u hu => by
        simp only [numCells, List.mem_map] at hu
        obtain ⟨x, _, h⟩ := hu; subst h; rfl)
      hl1 (Nat.le_trans hl2 (by decide)) hb
    refine ⟨v', w', hr, ?_, h2⟩
    have e : numCells (l ++ ys) = numCells l ++ numCells ys := by simp [numCells]
    rw [OwnI, e, List.length_append]; exact h1
theorem wpList_app_ints {W : World} {ops : Array Oper} {rest : List Oper} {o : Oper} {a : Act} {Q : Exit → Act → World → Prop} (hgd : o.guard = none) (s x : Operand)
    (ho : o.op = .call { callee := .builtin .append, args := #[s, x], argTypes := #[24, 24] })
    (base : Nat) (v : Value) (l ys : List Int) (A : Option Addr) (m c : Nat) (hs : a.eval s = v) (hx : a.eval x = .slice A m c) (hown : OwnI W base v l) (hm : ys.length = m) (hc : Ints W A ys) (h0 : A = none → c = 0 ∧ m = 0) (hl : l.length + m ≤ 1099511627776) (hb : base ≤ W.heap.size)
    (h : ∀ v' w', OwnI w' base v' (l ++ ys) → W.grownBy w' v.ownBlock → wpList Tryd.prog ops Q rest (a.put o.dst v') w') : wpList Tryd.prog ops Q (o :: rest) a W := by
  refine wpList_plain hgd fun K hK => ?_
  obtain ⟨v', w', hr, h1, h2⟩ := run_app_ints W base v l ys A m c o.type hown hm hc h0 hl hb
  unfold Oper.wp execOp
  simp only [ho, resolve, invoke, builtin, Sem.run_bind, Sem.run_pure, Result.andThen_ok, List.map_toArray, List.map_cons, List.map_nil, hs, hx, hr]
  exact hK _ _ (h v' w' h1 h2)
theorem OwnI.base_le {w : World} {b1 b2 : Nat} {v : Value} {l : List Int} (h : OwnI w b1 v l) (hb : b2 ≤ b1) : OwnI w b2 v l := by
  refine ⟨h.1, ?_⟩
  rcases h.2 with h2 | ⟨g, cap, cur, h1, h2, hr⟩
  · exact .inl h2
  · exact .inr ⟨g, cap, cur, h1, Nat.le_trans hb h2, hr⟩
theorem OwnI.form2 {w : World} {base : Nat} {v : Value} {l : List Int} (h : OwnI w base v l) : ∃ A c, v = .slice A l.length c ∧ Ints w A l ∧ l.length ≤ c ∧ c ≤ 9223372036854775807 ∧ (A = none → c = 0 ∧ l.length = 0) ∧ (A = none ∨ ∃ g, A = some ⟨g, 0, none⟩) := by
  rcases h.blk with ⟨rfl, rfl⟩ | ⟨g, cap, cs, rfl, hb, hB, h2, h3, h4, h5⟩
  · exact ⟨none, 0, rfl, fun h => absurd h (by simp), by simp, by omega, fun _ => ⟨rfl, rfl⟩, .inl rfl⟩
  · obtain ⟨A, c, e, hI⟩ := h.form
    injection e with e1 e2 e3
    subst e1 e3
    exact ⟨_, _, rfl, hI, h4, by unfold maxLen at h3; omega, fun h => (by cases h), .inr ⟨g, rfl⟩⟩
set_option maxHeartbeats 1000000 in
theorem l00Own_any (A : Option Addr) (n c base : Nat) (l : List Int) (w : World) (hl : l.length = n) (hn : n ≤ 1048576) (hc : n ≤ c) (hc2 : c ≤ 9223372036854775807) (h0 : A = none → c = 0 ∧ n = 0) (hA : Ints w A l) (hb : base ≤ w.heap.size) :
    Calls Tryd.prog 76 #[.slice A n c] w fun e w' => ∃ v : Value, e = .returned v ∧ OwnI w' base v l ∧ Below w.heap.size w w' := by
  have HL := Lib.hid hl; clear hl
  have hb0 : Below w.heap.size w (w.alloc (.cells #[] 2)) := below_alloc (Below.refl _ _) _
  have hE := (OwnI.empty w w.heap.size (Nat.le_refl _))
  have hA1 := hA.below hb0
  have H0 := Lib.hid h0
  clear h0 hA
  go_enter Tryd.func76, Tryd.ntmps76
  go_wp2_with (at_builtin; refine wpList_app_ints rfl (.tmp 3) (.tmp 4) rfl w.heap.size _ [] l A n c rfl rfl hE HL.out hA1 H0.out (by simp only [List.length_nil]; omega) hb0.size ?_; intro v7 w7 hO7 hg7)
  go_ret
  exact ⟨v7, rfl, by simpa using hO7.base_le hb, below_of_grown hb0 hg7 hb0.size (fun q hq => (hE.lt q hq).1)⟩
end Go.Proofs.YtbpjnopnhmoigaaDoor
