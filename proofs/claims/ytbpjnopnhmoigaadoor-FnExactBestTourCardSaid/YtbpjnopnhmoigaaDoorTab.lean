/- A table of numbers that a call makes row by row, and the memory of the reference's search for the shortest tour. -/
import Derived.Test.YtbpjnopnhmoigaaDoorBest
import Derived.Test.YtbpjnopnhmoigaaDoorGrpFigs
import Derived.Deep.RegionLaw
namespace Go.Proofs.YtbpjnopnhmoigaaDoor
set_option linter.unusedVariables false
set_option linter.unusedSimpArgs false
open Go.RowKit
/-- the value is a row, made after base, of these values -/
def OwnV (w : World) (base : Nat) (v : Value) (vs : List Value) : Prop := w.ownsRow base 24 1 v vs.length vs
theorem OwnV.nil (w : World) (base : Nat) : OwnV w base (.slice none 0 0) [] := World.ownsRow_nil w base _ 1
theorem OwnV.below {w w' : World} {base : Nat} {v : Value} {l : List Value} (h : OwnV w base v l) (hb : Below w.heap.size w w') : OwnV w' base v l := own_below h hb
theorem OwnV.lt {w : World} {base : Nat} {v : Value} {l : List Value} (h : OwnV w base v l) : ∀ k, v.ownBlock = some k → base ≤ k ∧ k < w.heap.size := World.ownsRow.lt h
theorem OwnV.alloc {w : World} {base : Nat} {v : Value} {l : List Value} (h : OwnV w base v l) (o : Obj) : OwnV (w.alloc o) base v l := World.ownsRow.alloc h o
theorem run_app_v (W : World) (base : Nat) (v : Value) (l : List Value) (y : Value) (b c : Nat) (ty : TypeId) (hy : y.oneCell' = true) (hown : OwnV W base v l) (hc : W.cell? ⟨b, 0, none⟩ = some y) (hl : l.length ≤ 1099511627776) (hb : base ≤ W.heap.size) :
    ∃ v' w', (Builtin.append_ #[34, 34] ty #[v, .slice (some ⟨b, 0, none⟩) 1 c]).run Tryd.prog W = .ok v' w' ∧ OwnV w' base v' (l ++ [y]) ∧ W.grownBy w' v.ownBlock ∧ (v'.ownBlock = v.ownBlock ∨ v'.ownBlock = some W.heap.size) := by
  obtain ⟨i0, hi0, hz0, hz1, hz2⟩ := info_parts info_list
  have hnews : ∀ (j : Nat) u, ([y])[j]? = some u → W.cell? ((⟨b, 0, none⟩ : Addr).add j) = some u := fun j u hj => by
    cases j with
    | zero => simp only [List.getElem?_cons_zero, Option.some.injEq] at hj; subst hj; rw [addr_add]; exact hc
    | succ j => simp at hj
  obtain ⟨v', w', hr, h1, h2, _⟩ := World.ownsRow.lt hown |> fun _ => run_append_own (P := Tryd.prog) W base 34 ty 24 i0 _ 1 24 Tryd.underlying34 hi0 hz0 hz1 hz2 rfl (by decide) v l.length l hown ⟨b, 0, none⟩ 1 c [y] rfl hnews (fun u hu => by simp only [List.mem_singleton] at hu; subst hu; exact hy) (by simp only [maxLen]; omega) (by omega) hb
  refine ⟨v', w', hr, by rw [OwnV, List.length_append]; exact h1, h2, ?_⟩
  have hlen : ([y]).length = 1 * i0.size := by rw [hz1]; rfl
  rcases hown.2 with ⟨rfl, hn⟩ | ⟨g, cap, cur, rfl, hbg, hg, hnc, hcm, hcs, htake⟩
  · have hr2 := run_append_nil (P := Tryd.prog) W 34 ty 24 i0 _ Tryd.underlying34 hi0 hz0 ⟨b, 0, none⟩ 1 c _ hlen hnews (by omega) (by omega) (by rw [hz2]; decide)
    rw [hr2] at hr
    injection hr with e1 e2
    exact .inr (by rw [← e1]; rfl)
  · by_cases hroom : l.length + 1 ≤ cap
    · have hfit : l.length * i0.size + ([y]).length ≤ cur.size := by rw [hlen, hz1, hcs, ← Nat.add_mul]; exact Nat.mul_le_mul_right _ hroom
      have hr2 := run_append_room (P := Tryd.prog) W 34 ty 24 i0 Tryd.underlying34 hi0 g l.length cap cur hg ⟨b, 0, none⟩ 1 c _ hlen hnews (fun u hu => by simp only [List.mem_singleton] at hu; subst hu; exact hy) hroom hfit
      rw [hr2] at hr
      injection hr with e1 e2
      exact .inl (by rw [← e1]; rfl)
    · have holds : ∀ j u, l[j]? = some u → W.cell? ((⟨g, 0, none⟩ : Addr).add j) = some u := World.ownsRow.cells hown (g := g) rfl
      have hr2 := run_append_grow (P := Tryd.prog) W 34 ty 24 i0 _ Tryd.underlying34 hi0 hz0 ⟨g, 0, none⟩ l.length cap l (by rw [hz1, Nat.mul_one]) holds ⟨b, 0, none⟩ 1 c _ hlen hnews (by omega) (by omega) (growslice_fits (by omega) (by rw [hz2]; omega))
      rw [hr2] at hr
      injection hr with e1 e2
      exact .inr (by rw [← e1]; rfl)
theorem wpList_app_v {W : World} {ops : Array Oper} {rest : List Oper} {o : Oper} {a : Act} {Q : Exit → Act → World → Prop} (hgd : o.guard = none) (s x : Operand)
    (ho : o.op = .call { callee := .builtin .append, args := #[s, x], argTypes := #[34, 34] })
    (base : Nat) (v : Value) (l : List Value) (y : Value) (b c : Nat) (hs : a.eval s = v) (hx : a.eval x = .slice (some ⟨b, 0, none⟩) 1 c) (hy : y.oneCell' = true) (hown : OwnV W base v l) (hc : W.cell? ⟨b, 0, none⟩ = some y) (hl : l.length ≤ 1099511627776) (hb : base ≤ W.heap.size)
    (h : ∀ v' w', OwnV w' base v' (l ++ [y]) → W.grownBy w' v.ownBlock → (v'.ownBlock = v.ownBlock ∨ v'.ownBlock = some W.heap.size) → wpList Tryd.prog ops Q rest (a.put o.dst v') w') : wpList Tryd.prog ops Q (o :: rest) a W := by
  refine wpList_plain hgd fun K hK => ?_
  obtain ⟨v', w', hr, h1, h2, h3⟩ := run_app_v W base v l y b c o.type hy hown hc hl hb
  unfold Oper.wp execOp
  simp only [ho, resolve, invoke, builtin, Sem.run_bind, Sem.run_pure, Result.andThen_ok, List.map_toArray, List.map_cons, List.map_nil, hs, hx, hr]
  exact hK _ _ (h v' w' h1 h2 h3)
/-- a number appended, as one step of a region that draws its order -/
theorem step_app_int {W : World} {ops : Array Oper} {o : Oper} {a : Act} {K : Act → World → Prop} {Q : Exit → Act → World → Prop} {E : Prop} (hgd : o.guard = none) (s x : Operand)
    (ho : o.op = .call { callee := .builtin .append, args := #[s, x], argTypes := #[24, 24] })
    (base : Nat) (v : Value) (l : List Int) (y : Int) (b c : Nat) (hs : a.eval s = v) (hx : a.eval x = .slice (some ⟨b, 0, none⟩) 1 c) (hown : OwnI W base v l) (hc : W.cell? ⟨b, 0, none⟩ = some (.int .i64 y)) (hl : l.length ≤ 1099511627776) (hb : base ≤ W.heap.size)
    (h : ∀ v' w', OwnI w' base v' (l ++ [y]) → W.grownBy w' v.ownBlock → K (a.put o.dst v') w') :
    if Region.wanted o (yielded ops a.tmps) = true then Oper.wp Tryd.prog o a W K Q else E := by
  have hw : Region.wanted o (yielded ops a.tmps) = true := by simp [Region.wanted, hgd]
  rw [if_pos hw]
  obtain ⟨v', w', hr, h1, h2⟩ := run_app_int W base v l y b c o.type hown hc hl hb
  unfold Oper.wp execOp
  simp only [ho, resolve, invoke, builtin, Sem.run_bind, Sem.run_pure, Result.andThen_ok, List.map_toArray, List.map_cons, List.map_nil, hs, hx, hr]
  exact h v' w' h1 h2
theorem OwnV.form {w : World} {base : Nat} {v : Value} {l : List Value} (h : OwnV w base v l) : ∃ A c, v = .slice A l.length c ∧ l.length ≤ c ∧ c ≤ 9223372036854775807 ∧ (A = none → c = 0 ∧ l.length = 0) ∧ (A = none ∨ ∃ g, A = some ⟨g, 0, none⟩ ∧ base ≤ g ∧ g < w.heap.size ∧ ∀ (j : Nat) u, l[j]? = some u → w.cell? ⟨g, j, none⟩ = some u) := by
  rcases h.2 with ⟨hv, hn⟩ | ⟨g, cap, cur, hv, hb, hg, h1, h2, h3, h4⟩
  · exact ⟨none, 0, by rw [hn]; exact hv, by omega, by omega, fun _ => ⟨rfl, hn⟩, .inl rfl⟩
  · refine ⟨some ⟨g, 0, none⟩, cap, hv, h1, by unfold maxLen at h2; omega, fun e => (by cases e), .inr ⟨g, rfl, hb, (World.ownsRow.lt h g (by rw [hv]; rfl)).2, fun j u hu => ?_⟩⟩
    rw [cell_of_row w g j cur 24 (0, 0) hg]
    have := congrArg (fun t => t[j]?) h4
    simp only [Nat.mul_one] at this
    rw [List.getElem?_take, if_pos (List.getElem?_eq_some_iff.1 hu).1, hu] at this
    simpa using this
/-- one row of the table -/
def gapRow (l : List Sta) (i k : Nat) : List Int := (List.range k).map (fun j => gapL l i j)
theorem gapRow_length (l : List Sta) (i k : Nat) : (gapRow l i k).length = k := by simp [gapRow]
theorem gapRow_succ (l : List Sta) (i k : Nat) : gapRow l i (k + 1) = gapRow l i k ++ [gapL l i k] := by rw [gapRow, List.range_succ, List.map_append]; rfl
theorem gapRow_at {l : List Sta} {i k j : Nat} (h : j < k) : (gapRow l i k)[j]? = some (gapL l i j) := by rw [gapRow, List.getElem?_map, List.getElem?_range h]; rfl
/-- the first rows of the table lie in memory -/
structure TabR (w : World) (base : Nat) (vt : Value) (l : List Sta) (n i : Nat) : Prop where
  own : ∃ rows, OwnV w base vt rows ∧ rows.length = i ∧ ∀ (j : Nat) r, rows[j]? = some r → ∃ q c, r = .slice (some ⟨q, 0, none⟩) n c ∧ OwnI w base r (gapRow l j n) ∧ vt.ownBlock ≠ some q
section
variable {w w' : World} {base n i : Nat} {vt : Value} {l : List Sta}
theorem TabR.start (w : World) (base : Nat) (l : List Sta) (n : Nat) : TabR w base (.slice none 0 0) l n 0 := ⟨[], OwnV.nil w base, rfl, fun j r h => by simp at h⟩
theorem TabR.keep (h : TabR w base vt l n i) (hb : Below w.heap.size w w') : TabR w' base vt l n i := by
  obtain ⟨rows, h1, h2, h3⟩ := h.own
  refine ⟨rows, h1.below hb, h2, fun j r hr => ?_⟩
  obtain ⟨q, c, e, h4, h5⟩ := h3 j r hr
  exact ⟨q, c, e, h4.below hb, h5⟩
theorem TabR.turned {row : Option Nat} (h : TabR w base vt l n i) (hg : w.grownBy w' row) (hne : ∀ k, row = some k → k < base) : TabR w' base vt l n i := by
  obtain ⟨rows, h1, h2, h3⟩ := h.own
  refine ⟨rows, own_only h1 hg (fun k e1 e2 => by have := (h1.lt k e1).1; have := hne k e2; omega), h2, fun j r hr => ?_⟩
  obtain ⟨q, c, e, h4, h5⟩ := h3 j r hr
  exact ⟨q, c, e, h4.only hg (fun k e1 e2 => by have := (h4.lt k e1).1; have := hne k e2; omega), h5⟩
theorem TabR.form (h : TabR w base vt l n i) : ∃ A c, vt = .slice A i c ∧ (vt.ownBlock = none ∨ ∃ g, vt.ownBlock = some g ∧ base ≤ g ∧ g < w.heap.size) := by
  obtain ⟨rows, h1, h2, h3⟩ := h.own
  obtain ⟨A, c, e, _, _, _, h4⟩ := h1.form
  refine ⟨A, c, by rw [e, h2], ?_⟩
  cases hv : vt.ownBlock with
  | none => exact .inl rfl
  | some k => exact .inr ⟨k, rfl, h1.lt k hv⟩
/-- what an append of a row makes -/
theorem TabR.snoc {rows : List Value} {vt' : Value} {q c : Nat} (h1 : OwnV w base vt rows) (h2 : rows.length = i) (h3 : ∀ (j : Nat) r, rows[j]? = some r → ∃ q c, r = .slice (some ⟨q, 0, none⟩) n c ∧ OwnI w base r (gapRow l j n) ∧ vt.ownBlock ≠ some q)
    (hr : OwnI w base (.slice (some ⟨q, 0, none⟩) n c) (gapRow l i n)) (hq : vt.ownBlock ≠ some q) (hO : OwnV w' base vt' (rows ++ [.slice (some ⟨q, 0, none⟩) n c])) (hg : w.grownBy w' vt.ownBlock) (hv : vt'.ownBlock = vt.ownBlock ∨ vt'.ownBlock = some w.heap.size) : TabR w' base vt' l n (i + 1) := by
  have key : ∀ q c j, OwnI w base (.slice (some ⟨q, 0, none⟩) n c) (gapRow l j n) → vt.ownBlock ≠ some q → OwnI w' base (.slice (some ⟨q, 0, none⟩) n c) (gapRow l j n) ∧ vt'.ownBlock ≠ some q := fun q c j ho hne => by
    refine ⟨ho.only hg (fun k e1 e2 => hne (e2.trans e1.symm)), fun e => ?_⟩
    have hlt := (ho.lt q rfl).2
    rcases hv with hv | hv
    · exact hne (hv ▸ e)
    · rw [hv] at e; injection e with e; omega
  refine ⟨_, hO, by simp [h2], fun j r hj => ?_⟩
  by_cases hji : j < rows.length
  · rw [List.getElem?_append_left hji] at hj
    obtain ⟨q', c', rfl, h4, h5⟩ := h3 j r hj
    obtain ⟨h6, h7⟩ := key q' c' j h4 h5
    exact ⟨q', c', rfl, h6, h7⟩
  · rw [List.getElem?_append_right (by omega)] at hj
    obtain rfl : j = i := by
      have := (List.getElem?_eq_some_iff.1 hj).1
      simp only [List.length_singleton] at this
      omega
    rw [h2, Nat.sub_self, List.getElem?_cons_zero, Option.some.injEq] at hj
    subst hj
    obtain ⟨h6, h7⟩ := key q c j hr hq
    exact ⟨q, c, rfl, h6, h7⟩
end
/-- the table in memory, in blocks of that range -/
structure TabAt (w : World) (l : List Sta) (tb n lo hi : Nat) : Prop where
  cells : ∀ i j : Nat, i < n → j < n → ∃ q c, w.cell? ⟨tb, i, none⟩ = some (.slice (some ⟨q, 0, none⟩) n c) ∧ w.cell? ⟨q, j, none⟩ = some (.int .i64 (gapL l i j)) ∧ lo ≤ q ∧ q < hi
  tlo : lo ≤ tb
  thi : tb < hi
  sz : hi ≤ w.heap.size
theorem TabAt.only {w w' : World} {l : List Sta} {tb n lo hi : Nat} (h : TabAt w l tb n lo hi) (hb : ∀ q, lo ≤ q → q < hi → w'.heap[q]? = w.heap[q]?) (hs : w.heap.size ≤ w'.heap.size) : TabAt w' l tb n lo hi := by
  refine ⟨fun i j hi' hj => ?_, h.tlo, h.thi, Nat.le_trans h.sz hs⟩
  obtain ⟨q, c, h1, h2, h3, h4⟩ := h.cells i j hi' hj
  exact ⟨q, c, by rw [World.cell?_of_block (w := w) (hb tb h.tlo h.thi)]; exact h1, by rw [World.cell?_of_block (w := w) (hb q h3 h4)]; exact h2, h3, h4⟩
theorem TabAt.keep {w w' : World} {l : List Sta} {tb n lo hi : Nat} (h : TabAt w l tb n lo hi) (hb : Below w.heap.size w w') : TabAt w' l tb n lo hi :=
  h.only (fun q _ h2 => hb.block q (Nat.lt_of_lt_of_le h2 h.sz)) hb.size
theorem TabAt.set {w : World} {l : List Sta} {tb n lo hi : Nat} (h : TabAt w l tb n lo hi) (p : Addr) (u : Value) (hp : p.block < lo) : TabAt (w.setCell p u) l tb n lo hi :=
  h.only (fun q h1 _ => Below.heap_setCell w p u q (by omega)) (by simp)
theorem TabR.at_ {w : World} {base n : Nat} {vt : Value} {l : List Sta} (h : TabR w base vt l n n) (hn : 0 < n) : ∃ tb c, vt = .slice (some ⟨tb, 0, none⟩) n c ∧ TabAt w l tb n base w.heap.size := by
  obtain ⟨rows, h1, h2, h3⟩ := h.own
  obtain ⟨A, c, e, _, _, h5, h4⟩ := h1.form
  rcases h4 with h4 | ⟨g, rfl, hg1, hg2, hc⟩
  · have := (h5 h4).2; omega
  · refine ⟨g, c, by rw [e, h2], ⟨fun i j hi hj => ?_, hg1, hg2, Nat.le_refl _⟩⟩
    obtain ⟨r, hr⟩ := at_lt (l := rows) (k := i) (by omega)
    obtain ⟨q, c', rfl, h6, h7⟩ := h3 i r hr
    obtain ⟨hq1, hq2⟩ := h6.lt q rfl
    refine ⟨q, c', hc i _ hr, ?_, hq1, hq2⟩
    obtain ⟨b, o, eb, hst⟩ := h6.ints (gapRow_length _ _ _) (by rw [gapRow_length]; omega)
    injection eb with eb
    injection eb with e1 e2
    subst e1 e2
    have := hst j _ (gapRow_at hj)
    rwa [Nat.zero_add] at this
def runCells (vt vo : Value) (len : Int) (vb : Value) (s : Srch) (b : Int) (f : Bool) : List Value := [vt, vo, .int .i64 len, vb, .int .i64 s.least, .int .i64 (b - s.left), .int .i64 b, .bool f]
/-- the reference's search in memory -/
structure RunSt (w : World) (base g lo hi tb n tc : Nat) (l : List Sta) (vo : Value) (ord : List Int) (len : Int) (vb : Value) (s : Srch) (b : Int) (f : Bool) : Prop where
  blk : Blk w g 87 (runCells (.slice (some ⟨tb, 0, none⟩) n tc) vo len vb s b f)
  bg : base ≤ g
  gl : g < lo
  tab : TabAt w l tb n lo hi
  ord : OwnI w base vo ord
  best : OwnI w base vb s.best
  sep : ∀ q, vo.ownBlock = some q → vb.ownBlock = some q → False
  og : ∀ q, vo.ownBlock = some q → q ≠ g ∧ (q < lo ∨ hi ≤ q)
  vg : ∀ q, vb.ownBlock = some q → q ≠ g
section
variable {w w' : World} {base g lo hi tb n tc : Nat} {l : List Sta} {vo vb : Value} {ord : List Int} {len b : Int} {s : Srch} {f : Bool}
theorem RunSt.keep (h : RunSt w base g lo hi tb n tc l vo ord len vb s b f) (hb : Below w.heap.size w w') : RunSt w' base g lo hi tb n tc l vo ord len vb s b f :=
  ⟨h.blk.keep hb, h.bg, h.gl, h.tab.keep hb, h.ord.below hb, h.best.below hb, h.sep, h.og, h.vg⟩
theorem RunSt.full_ (h : RunSt w base g lo hi tb n tc l vo ord len vb s b f) : RunSt (w.setCell ⟨g, 7, none⟩ (.bool true)) base g lo hi tb n tc l vo ord len vb s b true :=
  ⟨h.blk.set_ 7 _, h.bg, h.gl, h.tab.set _ _ h.gl, own_set h.ord _ _ (fun q hq => (h.og q hq).1), own_set h.best _ _ h.vg, h.sep, h.og, h.vg⟩
theorem RunSt.nodes_ (h : RunSt w base g lo hi tb n tc l vo ord len vb s b f) : RunSt (w.setCell ⟨g, 5, none⟩ (.int .i64 (b - s.left + 1))) base g lo hi tb n tc l vo ord len vb ⟨s.best, s.least, s.left - 1⟩ b f := by
  have e : b - s.left + 1 = b - (s.left - 1) := by omega
  rw [e]
  exact ⟨h.blk.set_ 5 _, h.bg, h.gl, h.tab.set _ _ h.gl, own_set h.ord _ _ (fun q hq => (h.og q hq).1), own_set h.best _ _ h.vg, h.sep, h.og, h.vg⟩
theorem RunSt.len_ (h : RunSt w base g lo hi tb n tc l vo ord len vb s b f) (x : Int) : RunSt (w.setCell ⟨g, 2, none⟩ (.int .i64 x)) base g lo hi tb n tc l vo ord x vb s b f :=
  ⟨h.blk.set_ 2 _, h.bg, h.gl, h.tab.set _ _ h.gl, own_set h.ord _ _ (fun q hq => (h.og q hq).1), own_set h.best _ _ h.vg, h.sep, h.og, h.vg⟩
theorem RunSt.app {k : Int} {v' : Value} (h : RunSt w base g lo hi tb n tc l vo ord len vb s b f) (hO : OwnI w' base v' (ord ++ [k])) (hg : w.grownBy w' vo.ownBlock) (hl : v'.ownBlock = vo.ownBlock ∨ v'.ownBlock = some w.heap.size) :
    RunSt (w'.setCell ⟨g, 1, none⟩ v') base g lo hi tb n tc l v' (ord ++ [k]) len vb s b f := by
  have hlt := h.blk.lt
  have hv : ∀ q, v'.ownBlock = some q → q ≠ g ∧ (q < lo ∨ hi ≤ q) := fun q hq => by
    rcases hl with e | e
    · exact h.og q (e ▸ hq)
    · have := h.tab.sz
      rw [e] at hq; injection hq with hq; omega
  have htab : TabAt w' l tb n lo hi := h.tab.only (fun q h1 h2 => hg.block q (Nat.lt_of_lt_of_le h2 h.tab.sz) (fun e => by have := (h.og q e.symm).2; omega)) hg.size
  refine ⟨(h.blk.grownP hg (fun q hq => (h.og q hq).1.symm)).set_ 1 _, h.bg, h.gl, htab.set _ _ h.gl, own_set hO _ _ (fun q hq => (hv q hq).1), own_set (h.best.only hg (fun q h1 h2 => h.sep q h2 h1)) _ _ h.vg, fun q h1 h2 => ?_, hv, h.vg⟩
  rcases hl with e | e
  · exact h.sep q (e ▸ h1) h2
  · have := (h.best.lt q h2).2
    rw [e] at h1; injection h1 with h1; omega
theorem RunSt.short {k : Int} {q m cap : Nat} (h : RunSt w base g lo hi tb n tc l (.slice (some ⟨q, 0, none⟩) (m + 1) cap) (ord ++ [k]) len vb s b f) (hm : ord.length = m) :
    RunSt (w.setCell ⟨g, 1, none⟩ (.slice (some ⟨q, 0, none⟩) m cap)) base g lo hi tb n tc l (.slice (some ⟨q, 0, none⟩) m cap) ord len vb s b f :=
  ⟨h.blk.set_ 1 _, h.bg, h.gl, h.tab.set _ _ h.gl, own_set (h.ord.short hm) _ _ (fun q hq => (h.og q hq).1), own_set h.best _ _ h.vg, h.sep, h.og, h.vg⟩
theorem RunSt.least_ (h : RunSt w base g lo hi tb n tc l vo ord len vb s b f) (x : Int) : RunSt (w.setCell ⟨g, 4, none⟩ (.int .i64 x)) base g lo hi tb n tc l vo ord len vb ⟨s.best, x, s.left⟩ b f :=
  ⟨h.blk.set_ 4 _, h.bg, h.gl, h.tab.set _ _ h.gl, own_set h.ord _ _ (fun q hq => (h.og q hq).1), own_set h.best _ _ h.vg, h.sep, h.og, h.vg⟩
theorem RunSt.best_ {v' : Value} {L : List Int} (h : RunSt w base g lo hi tb n tc l vo ord len vb s b f) (hO : OwnI w' w.heap.size v' L) (hb : Below w.heap.size w w') :
    RunSt (w'.setCell ⟨g, 3, none⟩ v') base g lo hi tb n tc l vo ord len v' ⟨L, s.least, s.left⟩ b f := by
  have hlt := h.blk.lt
  have hv : ∀ q, v'.ownBlock = some q → q ≠ g := fun q hq => by have := (hO.lt q hq).1; omega
  refine ⟨(h.blk.keep hb).set_ 3 _, h.bg, h.gl, (h.tab.keep hb).set _ _ h.gl, own_set (h.ord.below hb) _ _ (fun q hq => (h.og q hq).1), own_set (hO.base_le (Nat.le_trans h.bg (Nat.le_of_lt hlt))) _ _ hv, fun q h1 h2 => ?_, h.og, hv⟩
  have := (hO.lt q h2).1
  have := (h.ord.lt q h1).2
  omega
theorem RunSt.cells (h : RunSt w base g lo hi tb n tc l vo ord len vb s b f) : w.cell? ⟨g, 0, none⟩ = some (.slice (some ⟨tb, 0, none⟩) n tc) ∧ w.cell? ⟨g, 1, none⟩ = some vo ∧ w.cell? ⟨g, 2, none⟩ = some (.int .i64 len) ∧ w.cell? ⟨g, 3, none⟩ = some vb ∧ w.cell? ⟨g, 4, none⟩ = some (.int .i64 s.least) ∧ w.cell? ⟨g, 5, none⟩ = some (.int .i64 (b - s.left)) ∧ w.cell? ⟨g, 6, none⟩ = some (.int .i64 b) ∧ w.cell? ⟨g, 7, none⟩ = some (.bool f) ∧ g < w.heap.size :=
  ⟨by rw [h.blk.cell]; rfl, by rw [h.blk.cell]; rfl, by rw [h.blk.cell]; rfl, by rw [h.blk.cell]; rfl, by rw [h.blk.cell]; rfl, by rw [h.blk.cell]; rfl, by rw [h.blk.cell]; rfl, by rw [h.blk.cell]; rfl, h.blk.lt⟩
theorem RunSt.frz (h : RunSt w base g lo hi tb n tc l vo ord len vb s b f) : w.frozen? ⟨g, 1, none⟩ = false ∧ w.frozen? ⟨g, 2, none⟩ = false ∧ w.frozen? ⟨g, 3, none⟩ = false ∧ w.frozen? ⟨g, 4, none⟩ = false ∧ w.frozen? ⟨g, 5, none⟩ = false ∧ w.frozen? ⟨g, 7, none⟩ = false :=
  ⟨h.blk.frozen _, h.blk.frozen _, h.blk.frozen _, h.blk.frozen _, h.blk.frozen _, h.blk.frozen _⟩
end
end Go.Proofs.YtbpjnopnhmoigaaDoor
