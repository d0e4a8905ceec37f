/- Rows of stars that a call made itself: appended to, held against one another, marked. -/
import Derived.Test.YtbpjnopnhmoigaaDoorOwnRows
import Derived.Test.YtbpjnopnhmoigaaDoorMark
namespace Go.Proofs.YtbpjnopnhmoigaaDoor
set_option linter.unusedVariables false
set_option linter.unusedSimpArgs false
open Go.RowKit
/-- the value is a row made after base that reads as these numbers -/
def OwnS (w : World) (base : Nat) (v : Value) (l : List Sta) : Prop := w.ownsRow base 78 5 v l.length (staCells l)
theorem OwnS.nil (w : World) (base : Nat) : OwnS w base (.slice none 0 0) [] := World.ownsRow_nil w base _ 5
theorem OwnS.below {w w' : World} {base : Nat} {v : Value} {l : List Sta} (h : OwnS w base v l) (hb : Below w.heap.size w w') : OwnS w' base v l := own_below h hb
theorem OwnS.only {w w' : World} {base : Nat} {v : Value} {l : List Sta} {row : Option Nat} (h : OwnS w base v l) (hg : w.grownBy w' row) (hne : ∀ k, v.ownBlock = some k → row = some k → False) : OwnS w' base v l := own_only h hg hne
theorem OwnS.lt {w : World} {base : Nat} {v : Value} {l : List Sta} (h : OwnS w base v l) : ∀ k, v.ownBlock = some k → base ≤ k ∧ k < w.heap.size := World.ownsRow.lt h
theorem OwnS.alloc {w : World} {base : Nat} {v : Value} {l : List Sta} (h : OwnS w base v l) (o : Obj) : OwnS (w.alloc o) base v l := World.ownsRow.alloc h o
theorem OwnS.form {w : World} {base : Nat} {v : Value} {l : List Sta} (h : OwnS w base v l) : ∃ A c, v = .slice A l.length c ∧ Stars w A l := by
  rcases h.2 with ⟨hv, hn⟩ | ⟨g, cap, cur, hv, hr⟩
  · exact ⟨none, 0, by rw [hn]; exact hv, fun hl => by omega⟩
  · refine ⟨some ⟨g, 0, none⟩, cap, hv, Stars.of_own (base := base) (e := 78) (c := cap) (n := l.length) ?_⟩
    subst hv; exact h
theorem OwnS.blk {w : World} {base : Nat} {v : Value} {l : List Sta} (h : OwnS w base v l) : (v = .slice none 0 0 ∧ l = []) ∨ ∃ g cap cs, v = .slice (some ⟨g, 0, none⟩) l.length cap ∧ base ≤ g ∧ Blk w g 78 cs ∧ l.length * 5 ≤ cs.length ∧ cap ≤ maxLen ∧ l.length ≤ cap ∧ cs.length = cap * 5 ∧ cs.take (l.length * 5) = staCells l := by
  rcases h.2 with ⟨hv, hn⟩ | ⟨g, cap, cur, hv, hb, hg, h1, h2, h3, h4⟩
  · exact .inl ⟨hv, List.eq_nil_of_length_eq_zero hn⟩
  · exact .inr ⟨g, cap, cur.toList, hv, hb, by rw [Blk]; simpa using hg, by simp; omega, h2, h1, by simp; omega, h4⟩
theorem OwnS.of_blk {w : World} {base g cap : Nat} {l : List Sta} {cs : List Value} (hb : base ≤ g) (hB : Blk w g 78 cs) (h1 : l.length ≤ cap) (h2 : cap ≤ maxLen) (h3 : cs.length = cap * 5) (h4 : cs.take (l.length * 5) = staCells l) : OwnS w base (.slice (some ⟨g, 0, none⟩) l.length cap) l :=
  ⟨staCells_length l, .inr ⟨g, cap, cs.toArray, rfl, hb, hB, h1, h2, by simp [h3], by simpa using h4⟩⟩
theorem OwnS.at_ {w W : World} {base : Nat} {v : Value} {l : List Sta} {o : Obj} (h : OwnS w base v l) (e : W = w.alloc o) : OwnS W base v l := by rw [e]; exact h.alloc o
theorem OwnS.empty (w : World) (base : Nat) (h : base ≤ w.heap.size) : OwnS (w.alloc (.cells #[] 78)) base (.slice (some ⟨w.heap.size, 0, none⟩) 0 0) [] :=
  OwnS.of_blk (cs := []) h (Blk.new w 78 []) (Nat.le_refl _) (by simp [maxLen]) rfl rfl
/-- stars are appended -/
theorem run_app_stars (W : World) (base : Nat) (v : Value) (l ys : List Sta) (A : Option Addr) (m c : Nat) (ty : TypeId) (hown : OwnS W base v l) (hm : ys.length = m) (hc : Stars W A ys) (h0 : A = none → c = 0 ∧ m = 0) (hl : l.length + m ≤ 1099511627776) (hb : base ≤ W.heap.size) :
    ∃ v' w', (Builtin.append_ #[27, 27] ty #[v, .slice A m c]).run Tryd.prog W = .ok v' w' ∧ OwnS w' base v' (l ++ ys) ∧ W.grownBy w' v.ownBlock := by
  obtain ⟨i0, hi0, hz0, hz1, hz2⟩ := info_parts info_star
  subst hm
  cases A with
  | none =>
    obtain ⟨rfl, h2⟩ := h0 rfl
    have e : ys = [] := List.eq_nil_of_length_eq_zero h2
    subst e
    exact ⟨v, W, run_append_owned_none (P := Tryd.prog) W base _ ty _ i0 5 Tryd.underlying27 hi0 v l.length (staCells l) hown, by simpa using hown, grown_of_below (Below.refl _ _) _⟩
  | some a =>
    obtain ⟨v', w', hr, h1, h2, _⟩ := run_append_own (P := Tryd.prog) W base 27 ty 78 i0 _ 5 48 Tryd.underlying27 hi0 hz0 hz1 hz2 rfl (by decide) v l.length (staCells l) hown a ys.length c (staCells ys) (staCells_length ys) (fun j u hj => by
      have hpos : 0 < ys.length := by
        cases ys with
        | nil => simp [staCells] at hj
        | cons y ys => simp
      obtain ⟨b, o, e, hst⟩ := hc hpos
      obtain rfl : a = ⟨b, o, none⟩ := Option.some.inj e
      rw [addr_add]
      have hj2 : j < ys.length * 5 := by
        have := (List.getElem?_eq_some_iff.1 hj).1
        rw [staCells_length] at this; exact this
      obtain ⟨x, hx⟩ := at_lt (l := ys) (k := j / 5) (by omega)
      have hs := hst _ x hx
      have he := staCells_at hx (j % 5) (by omega)
      rw [show j / 5 * 5 + j % 5 = j by omega, hj] at he
      obtain ⟨d0, d1, d2, d3, d4⟩ := hs
      have hcase : j % 5 = 0 ∨ j % 5 = 1 ∨ j % 5 = 2 ∨ j % 5 = 3 ∨ j % 5 = 4 := by omega
      rcases hcase with h | h | h | h | h
      · rw [h] at he; simp only [Sta.cells, List.getElem?_cons_zero, Option.some.injEq] at he; subst he; rw [show o + j = o + j / 5 * 5 by omega]; exact d0
      · rw [h] at he; simp only [Sta.cells, List.getElem?_cons_succ, List.getElem?_cons_zero, Option.some.injEq] at he; subst he; rw [show o + j = o + j / 5 * 5 + 1 by omega]; exact d1
      · rw [h] at he; simp only [Sta.cells, List.getElem?_cons_succ, List.getElem?_cons_zero, Option.some.injEq] at he; subst he; rw [show o + j = o + j / 5 * 5 + 2 by omega]; exact d2
      · rw [h] at he; simp only [Sta.cells, List.getElem?_cons_succ, List.getElem?_cons_zero, Option.some.injEq] at he; subst he; rw [show o + j = o + j / 5 * 5 + 3 by omega]; exact d3
      · rw [h] at he; simp only [Sta.cells, List.getElem?_cons_succ, List.getElem?_cons_zero, Option.some.injEq] at he; subst he; rw [show o + j = o + j / 5 * 5 + 4 by omega]; exact d4)
      (fun u hu => by
        simp only [staCells, List.mem_flatMap, Sta.cells, List.mem_cons, List.not_mem_nil, or_false] at hu
        obtain ⟨x, _, h | h | h | h | h⟩ := hu <;> subst h <;> rfl)
      (by simp only [maxLen]; omega) (by omega) hb
    refine ⟨v', w', hr, ?_, h2⟩
    have e : staCells (l ++ ys) = staCells l ++ staCells ys := by simp [staCells]
    rw [OwnS, e, List.length_append]; exact h1
theorem wpList_app_stars {W : World} {ops : Array Oper} {rest : List Oper} {o : Oper} {a : Act} {Q : Exit → Act → World → Prop} (hgd : o.guard = none) (s x : Operand)
    (ho : o.op = .call { callee := .builtin .append, args := #[s, x], argTypes := #[27, 27] })
    (base : Nat) (v : Value) (l ys : List Sta) (A : Option Addr) (m c : Nat) (hs : a.eval s = v) (hx : a.eval x = .slice A m c) (hown : OwnS W base v l) (hm : ys.length = m) (hc : Stars W A ys) (h0 : A = none → c = 0 ∧ m = 0) (hl : l.length + m ≤ 1099511627776) (hb : base ≤ W.heap.size)
    (h : ∀ v' w', OwnS w' base v' (l ++ ys) → W.grownBy w' v.ownBlock → wpList Tryd.prog ops Q rest (a.put o.dst v') w') : wpList Tryd.prog ops Q (o :: rest) a W := by
  refine wpList_plain hgd fun K hK => ?_
  obtain ⟨v', w', hr, h1, h2⟩ := run_app_stars W base v l ys A m c o.type hown hm hc h0 hl hb
  unfold Oper.wp execOp
  simp only [ho, resolve, invoke, builtin, Sem.run_bind, Sem.run_pure, Result.andThen_ok, List.map_toArray, List.map_cons, List.map_nil, hs, hx, hr]
  exact hK _ _ (h v' w' h1 h2)
theorem eqOwnS_same (b1 b2 : Nat) (v1 v2 : Value) (l : List Sta) (w : World) (hl : l.length ≤ 9223372036854775807) (h1 : OwnS w b1 v1 l) (h2 : OwnS w b2 v2 l) :
    Calls Tryd.prog 16 #[v1, v2] w fun e w' => e = .returned (.bool true) ∧ Below w.heap.size w w' := by
  obtain ⟨A1, c1, rfl, i1⟩ := h1.form
  obtain ⟨A2, c2, rfl, i2⟩ := h2.form
  exact eqStarS_same A1 A2 l.length c1 c2 l w rfl hl i1 i2
set_option maxHeartbeats 1000000 in
theorem markStarS_nil (j : Nat) (w : World) (h0 : 0 < j) (h1 : j ≤ 100000000) :
    Calls Tryd.prog 17 #[.slice none 0 0, .int .i64 j] w fun e w' => e = .returned (.int .i64 j) ∧ w = w' := by
  go_enter Tryd.func17, Tryd.ntmps17
  go_wp2_with (fail)
  go_loop [1, 5] (fun v i => i = .int .i64 0 ∧ v = .int .i64 j) (fun _ i => 0)
  case atStart => exact ⟨rfl, rfl⟩
  case round =>
    obtain ⟨rfl, rfl⟩ := hrel
    go_wp2
    go_ret
    exact ⟨rfl, rfl⟩
theorem markOwnS_any (base : Nat) (v : Value) (l : List Sta) (w : World) (hl : l.length ≤ 1048576) (hown : OwnS w base v l) :
    Calls Tryd.prog 17 #[v, .int .i64 1] w fun e w' => e = .returned (.int .i64 (1 + 5 * (l.length : Int))) ∧ OwnS w' base v (markL 1 l.length) ∧ w.grownBy w' v.ownBlock := by
  rcases hown.blk with ⟨rfl, rfl⟩ | ⟨g, cap, cs, rfl, hb, hB, h2, h3, h4, h5, h6⟩
  · refine (markStarS_nil 1 w (by omega) (by omega)).mono ?_
    rintro e w' ⟨rfl, rfl⟩
    exact ⟨rfl, OwnS.nil _ _, grown_of_below (Below.refl _ _) _⟩
  · refine (markStarS_any g l.length cap cs 1 w h2 hl hB (by omega) (by omega)).mono ?_
    rintro e w' ⟨ds, rfl, hD, hdl, hdt, hg⟩
    refine ⟨by congr 2, ?_, hg⟩
    have := OwnS.of_blk (l := markL 1 l.length) hb hD (by rw [markL_length]; exact h4) h3 (by omega) (by rw [markL_length]; exact hdt)
    rw [markL_length] at this; exact this
end Go.Proofs.YtbpjnopnhmoigaaDoor
