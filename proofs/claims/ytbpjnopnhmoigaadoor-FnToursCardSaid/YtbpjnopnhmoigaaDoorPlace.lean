/- A number appended to a row of the call's own: the row stays in its block, or moves to a new one. -/
import Derived.Test.YtbpjnopnhmoigaaDoorGrpOwn
import Derived.Test.YtbpjnopnhmoigaaDoorNTour
namespace Go.Proofs.YtbpjnopnhmoigaaDoor
set_option linter.unusedVariables false
set_option linter.unusedSimpArgs false
open Go.RowKit
theorem run_app_int2 (W : World) (base : Nat) (v : Value) (l : List Int) (y : Int) (b c : Nat) (ty : TypeId) (hown : OwnI W base v l) (hc : W.cell? ⟨b, 0, none⟩ = some (.int .i64 y)) (hl : l.length ≤ 1099511627776) (hb : base ≤ W.heap.size) :
    ∃ v' w', (Builtin.append_ #[24, 24] ty #[v, .slice (some ⟨b, 0, none⟩) 1 c]).run Tryd.prog W = .ok v' w' ∧ OwnI w' base v' (l ++ [y]) ∧ W.grownBy w' v.ownBlock ∧ (v'.ownBlock = v.ownBlock ∨ v'.ownBlock = some W.heap.size) := by
  obtain ⟨v', w', hr, h1, h2⟩ := run_app_int W base v l y b c ty hown hc hl hb
  refine ⟨v', w', hr, h1, h2, ?_⟩
  obtain ⟨i0, hi0, hz0, hz1, hz2⟩ := info_parts info_num
  have hnews : ∀ (j : Nat) u, ([Value.int .i64 y])[j]? = some u → W.cell? ((⟨b, 0, none⟩ : Addr).add j) = some u := fun j u hj => by
    cases j with
    | zero => simp only [List.getElem?_cons_zero, Option.some.injEq] at hj; subst hj; rw [addr_add]; exact hc
    | succ j => simp at hj
  have hlen : ([Value.int .i64 y]).length = 1 * i0.size := by rw [hz1]; rfl
  rcases hown.2 with ⟨rfl, hn⟩ | ⟨g, cap, cur, rfl, hbg, hg, hnc, hcm, hcs, htake⟩
  · have hr2 := run_append_nil (P := Tryd.prog) W 24 ty 2 i0 _ Tryd.underlying24 hi0 hz0 ⟨b, 0, none⟩ 1 c _ hlen hnews (by omega) (by omega) (by rw [hz2]; decide)
    rw [hr2] at hr
    injection hr with e1 e2
    exact .inr (by rw [← e1]; rfl)
  · by_cases hroom : l.length + 1 ≤ cap
    · have hfit : l.length * i0.size + ([Value.int .i64 y]).length ≤ cur.size := by rw [hlen, hz1, hcs, ← Nat.add_mul]; exact Nat.mul_le_mul_right _ hroom
      have hr2 := run_append_room (P := Tryd.prog) W 24 ty 2 i0 Tryd.underlying24 hi0 g l.length cap cur hg ⟨b, 0, none⟩ 1 c _ hlen hnews (fun u hu => by simp only [List.mem_singleton] at hu; subst hu; rfl) hroom hfit
      rw [hr2] at hr
      injection hr with e1 e2
      exact .inl (by rw [← e1]; rfl)
    · have holds : ∀ j u, (numCells l)[j]? = some u → W.cell? ((⟨g, 0, none⟩ : Addr).add j) = some u := World.ownsRow.cells hown (g := g) rfl
      have hr2 := run_append_grow (P := Tryd.prog) W 24 ty 2 i0 _ Tryd.underlying24 hi0 hz0 ⟨g, 0, none⟩ l.length cap (numCells l) (by rw [numCells_length, hz1, Nat.mul_one]) holds ⟨b, 0, none⟩ 1 c _ hlen hnews (by omega) (by omega) (growslice_fits (by omega) (by rw [hz2]; omega))
      rw [hr2] at hr
      injection hr with e1 e2
      exact .inr (by rw [← e1]; rfl)
theorem wpList_app_int2 {W : World} {ops : Array Oper} {rest : List Oper} {o : Oper} {a : Act} {Q : Exit → Act → World → Prop} (hgd : o.guard = none) (s x : Operand)
    (ho : o.op = .call { callee := .builtin .append, args := #[s, x], argTypes := #[24, 24] })
    (base : Nat) (v : Value) (l : List Int) (y : Int) (b c : Nat) (hs : a.eval s = v) (hx : a.eval x = .slice (some ⟨b, 0, none⟩) 1 c) (hown : OwnI W base v l) (hc : W.cell? ⟨b, 0, none⟩ = some (.int .i64 y)) (hl : l.length ≤ 1099511627776) (hb : base ≤ W.heap.size)
    (h : ∀ v' w', OwnI w' base v' (l ++ [y]) → W.grownBy w' v.ownBlock → (v'.ownBlock = v.ownBlock ∨ v'.ownBlock = some W.heap.size) → wpList Tryd.prog ops Q rest (a.put o.dst v') w') : wpList Tryd.prog ops Q (o :: rest) a W := by
  refine wpList_plain hgd fun K hK => ?_
  obtain ⟨v', w', hr, h1, h2, h3⟩ := run_app_int2 W base v l y b c o.type hown hc hl hb
  unfold Oper.wp execOp
  simp only [ho, resolve, invoke, builtin, Sem.run_bind, Sem.run_pure, Result.andThen_ok, List.map_toArray, List.map_cons, List.map_nil, hs, hx, hr]
  exact hK _ _ (h v' w' h1 h2 h3)
/-- the last number is cut off -/
theorem OwnI.short {w : World} {base g n cap : Nat} {l : List Int} {k : Int} (h : OwnI w base (.slice (some ⟨g, 0, none⟩) (n + 1) cap) (l ++ [k])) (hl : l.length = n) : OwnI w base (.slice (some ⟨g, 0, none⟩) n cap) l := by
  subst hl
  rcases h.2 with ⟨hv, _⟩ | ⟨g', cap', cur, hv, hb, hg, h1, h2, h3, h4⟩
  · cases hv
  · injection hv with e1 e2 e3
    injection e1 with e1
    injection e1 with e1
    subst e1 e3
    refine OwnI.of_blk (cs := cur.toList) hb (by rw [Blk]; simpa using hg) ?_ h2 (by simp; omega) ?_
    · rw [List.length_append, List.length_singleton] at h1; omega
    · have e : numCells (l ++ [k]) = numCells l ++ [.int .i64 k] := by simp [numCells]
      rw [e, List.length_append, List.length_singleton, Nat.mul_one] at h4
      have := congrArg (List.take l.length) h4
      rw [List.take_take, Nat.min_eq_left (by omega), List.take_append_of_le_length (by rw [numCells_length]; exact Nat.le_refl _)] at this
      rw [this]
      exact List.take_of_length_le (by rw [numCells_length]; exact Nat.le_refl _)
theorem OwnI.form3 {w : World} {base : Nat} {v : Value} {l : List Int} (h : OwnI w base v l) (h0 : 0 < l.length) : ∃ g c, v = .slice (some ⟨g, 0, none⟩) l.length c ∧ base ≤ g ∧ g < w.heap.size ∧ l.length ≤ c ∧ c ≤ 9223372036854775807 ∧ Ints w (some ⟨g, 0, none⟩) l := by
  obtain ⟨A, c, e, hI⟩ := h.form
  rcases h.blk with ⟨rfl, rfl⟩ | ⟨g, cap, cs, rfl, hb, hB, h2, h3, h4, h5⟩
  · simp at h0
  · injection e with e1 e2 e3
    subst e1 e3
    exact ⟨g, cap, rfl, hb, hB.lt, h4, by unfold maxLen at h3; omega, hI⟩
set_option maxHeartbeats 1000000 in
theorem CloneI_any (A : Option Addr) (n c : Nat) (l : List Int) (w : World) (hl : l.length = n) (hn : n ≤ 1000000000000) (hA : Ints w A l) (h0 : A = none → c = 0 ∧ n = 0) :
    Calls Tryd.prog 112 #[.slice A n c] w fun e w' => ∃ v : Value, e = .returned v ∧ OwnI w' w.heap.size v l ∧ Below w.heap.size w w' := by
  have HL := Lib.hid hl; clear hl
  have q25 : ∀ (w : World) (a : Option Addr) (n c n' c' : Nat), (binOp .eql 24 (.slice a n c) (.slice none n' c')).run Tryd.prog w = .ok (.bool a.isNone) w := fun w a n c n' c' => Lib.run_eql_slice_nil w _ _ a n c n' c' Tryd.underlying24
  cases A with
  | none =>
    obtain ⟨rfl, rfl⟩ := h0 rfl
    have e : l = [] := List.eq_nil_of_length_eq_zero HL.out
    subst e
    go_enter Tryd.func112, Tryd.ntmps112
    go_wp2
    go_ret
    exact ⟨_, rfl, OwnI.nil _ _, Below.refl _ _⟩
  | some a =>
    have h1 := OwnI.empty w w.heap.size (Nat.le_refl _)
    have h2 : Ints (w.alloc (.cells #[] 2)) (some a) l := hA.below (Below.alloc (Below.refl _ _) (Nat.le_refl _) _)
    have hl1 : ([] : List Int).length + n ≤ 1099511627776 := by simp only [List.length_nil]; omega
    have hb1 : w.heap.size ≤ (w.alloc (.cells #[] 2)).heap.size := by simp
    go_enter Tryd.func112, Tryd.ntmps112
    go_wp2_with (at_builtin; go_loud (refine wpList_app_ints rfl _ _ rfl w.heap.size _ [] l (some a) n c rfl rfl h1 HL.out h2 (fun h => by cases h) hl1 hb1 ?_; intro v' w2 hO hg))
    go_wp2
    go_ret
    exact ⟨_, rfl, by simpa using hO, below_of_grown (below_alloc (Below.refl _ _) _) hg (by simp) (fun q hq => (h1.lt q hq).1)⟩
end Go.Proofs.YtbpjnopnhmoigaaDoor
