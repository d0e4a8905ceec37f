/- Rows of texts: how they lie in memory, how a call appends to one of its own. -/
import Derived.Test.YtpnfhienffekoaaGreatDoorTxt
namespace Go.Proofs.YtpnfhienffekoaaGreatDoor
set_option linter.unusedVariables false
set_option linter.unusedSimpArgs false
open Go.RowKit
def strCells (l : List ByteArray) : List Value := l.map Value.string
theorem strCells_length (l : List ByteArray) : (strCells l).length = l.length := by simp [strCells]
theorem strCells_at {l : List ByteArray} {k : Nat} {x : ByteArray} (h : l[k]? = some x) : (strCells l)[k]? = some (.string x) := by simp [strCells, h]
/-- the slice that begins there reads as these texts -/
def Strs (w : World) (A : Option Addr) (l : List ByteArray) : Prop := 0 < l.length → ∃ b o, A = some ⟨b, o, none⟩ ∧ ∀ k x, l[k]? = some x → w.cell? ⟨b, o + k, none⟩ = some (.string x)
theorem Strs.below {w w' : World} {A : Option Addr} {l : List ByteArray} (h : Strs w A l) (hb : Below w.heap.size w w') : Strs w' A l := fun hl => by
  obtain ⟨b, o, e, h1⟩ := h hl
  refine ⟨b, o, e, fun k x hx => ?_⟩
  have hlt := World.block_lt_of_cell? w ⟨b, o + k, none⟩ (h1 k x hx)
  rw [hb.cell (by simpa using hlt)]; exact h1 k x hx
theorem Strs.later {w : World} {A : Option Addr} {l : List ByteArray} (h : Strs w A l) (y : Later w) : Strs y.w A l := h.below y.below
theorem Strs.only {w w' : World} {A : Option Addr} {l : List ByteArray} {g : Nat} (h : Strs w A l) (k : w.grownBy w' (some g)) (hne : ∀ a, 0 < l.length → A = some a → a.block ≠ g) : Strs w' A l := fun hl => by
  obtain ⟨b, o, rfl, hc⟩ := h hl
  have hb : b ≠ g := hne ⟨b, o, none⟩ hl rfl
  refine ⟨b, o, rfl, fun i x hx => ?_⟩
  have hlt := World.block_lt_of_cell? w ⟨b, o + i, none⟩ (hc i x hx)
  have e := k.block b hlt (fun e => hb (by injection e))
  exact (World.cell?_of_block e).trans (hc i x hx)
theorem Strs.drop {w : World} {b o c : Nat} {l : List ByteArray} (h : Strs w (some ⟨b, o, none⟩) l) (k : Nat) (hc : l.length ≤ c) : Strs w (if c = k then some ⟨b, o, none⟩ else some ⟨b, o + k, none⟩) (l.drop k) := fun hl => by
  rw [List.length_drop] at hl
  obtain ⟨b', o', e, hs⟩ := h (by omega)
  obtain ⟨rfl, rfl⟩ : b = b' ∧ o = o' := by injection e with e; injection e with e1 e2; exact ⟨e1, e2⟩
  refine ⟨b, o + k, by rw [if_neg (by omega)], fun i x hx => ?_⟩
  rw [List.getElem?_drop] at hx
  have := hs _ _ hx
  rw [show o + k + i = o + (k + i) by omega]; exact this
theorem Blk.strs {w : World} {g : Nat} {t : TypeId} {l : List ByteArray} (h : Blk w g t (strCells l)) : Strs w (some ⟨g, 0, none⟩) l := fun _ => ⟨g, 0, rfl, fun k x hx => by rw [h.cell]; simpa using strCells_at hx⟩
theorem Strs.of_own {w : World} {base : Nat} {e : TypeId} {A : Option Addr} {n c : Nat} {l : List ByteArray} (h : w.ownsRow base e 1 (.slice A n c) n (strCells l)) : Strs w A l := fun hl => by
  rcases h.2 with ⟨hv, hn⟩ | ⟨g, cap, cur, hv, _, hh, _, _, hs, ht⟩
  · exfalso
    have := h.1
    rw [strCells_length, hn] at this; omega
  · injection hv with hA _ _
    subst hA
    refine ⟨g, 0, rfl, fun k x hx => ?_⟩
    have hu := strCells_at hx
    rw [← ht, List.getElem?_take] at hu
    split at hu
    · rw [cell_of_row w g (0 + k) cur e (0, 0) hh]; simpa using hu
    · cases hu
theorem info_str : (Tryz.prog.info? 9).map (fun i => (i.zero, i.size, i.bytes)) = some (some (.string ByteArray.empty), 1, 16) := by kernel_rfl
/-- the value is a row made after base that reads as these texts -/
def OwnT (w : World) (base : Nat) (v : Value) (l : List ByteArray) : Prop := w.ownsRow base 9 1 v l.length (strCells l)
theorem OwnT.nil (w : World) (base : Nat) : OwnT w base (.slice none 0 0) [] := World.ownsRow_nil w base _ 1
theorem OwnT.below {w w' : World} {base : Nat} {v : Value} {l : List ByteArray} (h : OwnT w base v l) (hb : Below w.heap.size w w') : OwnT w' base v l := own_below h hb
theorem OwnT.lt {w : World} {base : Nat} {v : Value} {l : List ByteArray} (h : OwnT w base v l) : ∀ k, v.ownBlock = some k → base ≤ k ∧ k < w.heap.size := World.ownsRow.lt h
theorem OwnT.alloc {w : World} {base : Nat} {v : Value} {l : List ByteArray} (h : OwnT w base v l) (o : Obj) : OwnT (w.alloc o) base v l := World.ownsRow.alloc h o
theorem OwnT.form {w : World} {base : Nat} {v : Value} {l : List ByteArray} (h : OwnT w base v l) : ∃ A c, v = .slice A l.length c ∧ Strs w A l ∧ l.length ≤ c ∧ c ≤ 9223372036854775807 ∧ (A = none → c = 0 ∧ l.length = 0) ∧ (A = none ∨ ∃ g, A = some ⟨g, 0, none⟩) := by
  rcases id h.2 with ⟨hv, hn⟩ | ⟨g, cap, cur, hv, hr⟩
  · exact ⟨none, 0, by rw [hn]; exact hv, fun hl => by omega, by omega, by omega, fun _ => ⟨rfl, hn⟩, .inl rfl⟩
  · obtain ⟨_, _, h3, h4, _⟩ := hr
    refine ⟨some ⟨g, 0, none⟩, cap, hv, Strs.of_own (base := base) (e := 9) (c := cap) (n := l.length) ?_, h3, by unfold maxLen at h4; omega, fun e => (by cases e), .inr ⟨g, rfl⟩⟩
    subst hv; exact h
theorem OwnT.empty (w : World) (base : Nat) (h : base ≤ w.heap.size) : OwnT (w.alloc (.cells #[] 9)) base (.slice (some ⟨w.heap.size, 0, none⟩) 0 0) [] :=
  ⟨rfl, .inr ⟨w.heap.size, 0, #[], rfl, h, by have := Blk.new w 9 []; exact this, Nat.le_refl _, by simp [maxLen], rfl, rfl⟩⟩
theorem OwnT.base_le {w : World} {b1 b2 : Nat} {v : Value} {l : List ByteArray} (h : OwnT w b1 v l) (hb : b2 ≤ b1) : OwnT w b2 v l := by
  refine ⟨h.1, ?_⟩
  rcases h.2 with h2 | ⟨g, cap, cur, h1, h2, hr⟩
  · exact .inl h2
  · exact .inr ⟨g, cap, cur, h1, Nat.le_trans hb h2, hr⟩
/-- one text is appended -/
theorem run_app_str (W : World) (base : Nat) (v : Value) (l : List ByteArray) (y : ByteArray) (b c : Nat) (ty : TypeId) (hown : OwnT W base v l) (hc : W.cell? ⟨b, 0, none⟩ = some (.string y)) (hl : l.length ≤ 1099511627776) (hb : base ≤ W.heap.size) :
    ∃ v' w', (Builtin.append_ #[104, 104] ty #[v, .slice (some ⟨b, 0, none⟩) 1 c]).run Tryz.prog W = .ok v' w' ∧ OwnT w' base v' (l ++ [y]) ∧ W.grownBy w' v.ownBlock ∧ v' ≠ .slice none 0 0 := by
  obtain ⟨i0, hi0, hz0, hz1, hz2⟩ := info_parts info_str
  obtain ⟨v', w', hr, h1, h2, h3⟩ := run_append_own (P := Tryz.prog) W base 104 ty 9 i0 _ 1 16 Tryz.underlying104 hi0 hz0 hz1 hz2 rfl (by decide) v l.length (strCells l) hown ⟨b, 0, none⟩ 1 c [.string y] rfl (fun j u hj => by
      cases j with
      | zero => simp only [List.getElem?_cons_zero, Option.some.injEq] at hj; subst hj; rw [addr_add]; exact hc
      | succ j => simp at hj) (fun u hu => by simp only [List.mem_singleton] at hu; subst hu; rfl) (by simp only [maxLen]; omega) (by omega) hb
  refine ⟨v', w', hr, ?_, h2, fun e => by have := (h3.1 e).2; omega⟩
  have e : strCells (l ++ [y]) = strCells l ++ [.string y] := by simp [strCells]
  rw [OwnT, e, List.length_append]; exact h1
theorem wpList_app_str {W : World} {ops : Array Oper} {rest : List Oper} {o : Oper} {a : Act} {Q : Exit → Act → World → Prop} (hgd : o.guard = none) (s x : Operand)
    (ho : o.op = .call { callee := .builtin .append, args := #[s, x], argTypes := #[104, 104] })
    (base : Nat) (v : Value) (l : List ByteArray) (y : ByteArray) (b c : Nat) (hs : a.eval s = v) (hx : a.eval x = .slice (some ⟨b, 0, none⟩) 1 c) (hown : OwnT W base v l) (hc : W.cell? ⟨b, 0, none⟩ = some (.string y)) (hl : l.length ≤ 1099511627776) (hb : base ≤ W.heap.size)
    (h : ∀ v' w', OwnT w' base v' (l ++ [y]) → W.grownBy w' v.ownBlock → v' ≠ .slice none 0 0 → wpList Tryz.prog ops Q rest (a.put o.dst v') w') : wpList Tryz.prog ops Q (o :: rest) a W := by
  refine wpList_plain hgd fun K hK => ?_
  obtain ⟨v', w', hr, h1, h2, h3⟩ := run_app_str W base v l y b c o.type hown hc hl hb
  unfold Oper.wp execOp
  simp only [ho, resolve, invoke, builtin, Sem.run_bind, Sem.run_pure, Result.andThen_ok, List.map_toArray, List.map_cons, List.map_nil, hs, hx, hr]
  exact hK _ _ (h v' w' h1 h2 h3)
end Go.Proofs.YtpnfhienffekoaaGreatDoor
