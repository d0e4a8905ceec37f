/- Rows of lines that a call made itself: appended to, marked, held against the marks. -/
import Derived.Test.YtngkdolohokcoaaDoorGrpFigs
import Derived.Maps.AppendAt
namespace Go.Proofs.YtngkdolohokcoaaDoor
set_option linter.unusedVariables false
set_option linter.unusedSimpArgs false
open Go.RowKit
def rowVal (q : Nat) : Value := .slice (some ⟨q, 0, none⟩) 2 2
theorem own_set {w : World} {base : Nat} {e : TypeId} {size : Nat} {v : Value} {n : Nat} {xs : List Value} (h : w.ownsRow base e size v n xs) {p : Addr} (hp : p.block < base) (u : Value) : (w.setCell p u).ownsRow base e size v n xs := by
  obtain ⟨h0, hv | ⟨g, cap, cur, hv, hb, hh, h1, h2, h3, h4⟩⟩ := h
  · exact ⟨h0, .inl hv⟩
  · exact ⟨h0, .inr ⟨g, cap, cur, hv, hb, (Below.heap_setCell w p u g (by omega)).trans hh, h1, h2, h3, h4⟩⟩
/-- the marks in lines -/
def marksL (j : Int) : Nat → List (List Int)
  | 0 => []
  | n + 1 => marksL j n ++ [upFrom (j + 2 * n) 2]
theorem marksL_length (j : Int) (n : Nat) : (marksL j n).length = n := by
  induction n with
  | zero => rfl
  | succ n ih => rw [marksL, List.length_append, ih]; rfl
theorem marksL_at (j : Int) (n k : Nat) (h : k < n) : (marksL j n)[k]? = some (upFrom (j + 2 * k) 2) := by
  induction n with
  | zero => omega
  | succ n ih =>
    rw [marksL]
    by_cases hk : k < n
    · rw [List.getElem?_append_left (by rw [marksL_length]; exact hk)]; exact ih hk
    · rw [List.getElem?_append_right (by rw [marksL_length]; omega), marksL_length, show k - n = 0 by omega, show k = n by omega]; rfl
theorem info_rows : (Tryd.prog.info? 79).map (fun i => (i.zero, i.size, i.bytes)) = some (some (.slice none 0 0), 1, 24) := by kernel_rfl
/-- rows of two numbers in blocks of their own, in a row of the call's own -/
structure LinesIn (w : World) (base : Nat) (v : Value) (L : List (List Int)) (qs : List Nat) : Prop where
  len : qs.length = L.length
  row : w.ownsRow base 79 1 v L.length (qs.map rowVal)
  blk : ∀ (j q : Nat) (x : List Int), qs[j]? = some q → L[j]? = some x → base ≤ q ∧ Blk w q 2 (numCells x)
  two : ∀ x ∈ L, x.length = 2
  up : ∀ (j k p q : Nat), j < k → qs[j]? = some p → qs[k]? = some q → p < q
  off : ∀ q ∈ qs, v.ownBlock ≠ some q
def LinesOwn (w : World) (base : Nat) (v : Value) (L : List (List Int)) : Prop := ∃ qs, LinesIn w base v L qs
theorem LinesIn.nil (w : World) (base : Nat) : LinesIn w base (.slice none 0 0) [] [] :=
  ⟨rfl, World.ownsRow_nil w base _ 1, fun j q x h => (by simp at h), fun x h => (by cases h), fun j k p q _ h => (by simp at h), fun q h => (by cases h)⟩
theorem LinesIn.at_ {w : World} {base : Nat} {v : Value} {L : List (List Int)} {qs : List Nat} (h : LinesIn w base v L qs) {q : Nat} (hq : q ∈ qs) : ∃ (j : Nat) (x : List Int), qs[j]? = some q ∧ L[j]? = some x ∧ base ≤ q ∧ Blk w q 2 (numCells x) := by
  obtain ⟨j, hj⟩ := List.getElem?_of_mem hq
  obtain ⟨x, hx⟩ := at_lt (l := L) (k := j) (by rw [← h.len]; exact (List.getElem?_eq_some_iff.1 hj).1)
  exact ⟨j, x, hj, hx, h.blk j q x hj hx⟩
theorem LinesIn.qlt {w : World} {base : Nat} {v : Value} {L : List (List Int)} {qs : List Nat} (h : LinesIn w base v L qs) {q : Nat} (hq : q ∈ qs) : base ≤ q ∧ q < w.heap.size := by
  obtain ⟨j, x, _, _, h1, h2⟩ := h.at_ hq
  exact ⟨h1, h2.lt⟩
theorem LinesIn.vlt {w : World} {base : Nat} {v : Value} {L : List (List Int)} {qs : List Nat} (h : LinesIn w base v L qs) : ∀ k, v.ownBlock = some k → base ≤ k ∧ k < w.heap.size := World.ownsRow.lt h.row
theorem LinesIn.below {w w' : World} {base : Nat} {v : Value} {L : List (List Int)} {qs : List Nat} (h : LinesIn w base v L qs) (hb : Below w.heap.size w w') : LinesIn w' base v L qs :=
  ⟨h.len, own_below h.row hb, fun j q x h1 h2 => ⟨(h.blk j q x h1 h2).1, (h.blk j q x h1 h2).2.keep hb⟩, h.two, h.up, h.off⟩
theorem LinesIn.set {w : World} {base : Nat} {v : Value} {L : List (List Int)} {qs : List Nat} (h : LinesIn w base v L qs) {p : Addr} (hp : p.block < base) (u : Value) : LinesIn (w.setCell p u) base v L qs :=
  ⟨h.len, own_set h.row hp u, fun j q x h1 h2 => ⟨(h.blk j q x h1 h2).1, (h.blk j q x h1 h2).2.far (by have := (h.blk j q x h1 h2).1; omega) u⟩, h.two, h.up, h.off⟩
theorem LinesIn.within {w w' : World} {base lo hi : Nat} {v : Value} {L : List (List Int)} {qs : List Nat} (h : LinesIn w base v L qs) (hg : Within lo hi w w') (hlo : w.heap.size ≤ lo) : LinesIn w' base v L qs :=
  ⟨h.len, own_within h.row hg (fun k hk => .inl (Nat.lt_of_lt_of_le (h.vlt k hk).2 hlo)), fun j q x h1 h2 => ⟨(h.blk j q x h1 h2).1, (h.blk j q x h1 h2).2.within hg (.inl (Nat.lt_of_lt_of_le (h.blk j q x h1 h2).2.lt hlo))⟩, h.two, h.up, h.off⟩
theorem LinesIn.base_le {w : World} {b1 b2 : Nat} {v : Value} {L : List (List Int)} {qs : List Nat} (h : LinesIn w b1 v L qs) (hb : b2 ≤ b1) : LinesIn w b2 v L qs := by
  refine ⟨h.len, ⟨h.row.1, ?_⟩, fun j q x h1 h2 => ⟨Nat.le_trans hb (h.blk j q x h1 h2).1, (h.blk j q x h1 h2).2⟩, h.two, h.up, h.off⟩
  rcases h.row.2 with h2 | ⟨g, cap, cur, h1, h2, hr⟩
  · exact .inl h2
  · exact .inr ⟨g, cap, cur, h1, Nat.le_trans hb h2, hr⟩
theorem LinesIn.cells {w : World} {base : Nat} {v : Value} {L : List (List Int)} {qs : List Nat} (h : LinesIn w base v L qs) : ∃ A c, v = .slice A L.length c ∧ L.length ≤ c ∧ c ≤ 9223372036854775807 ∧ (A = none → c = 0 ∧ L.length = 0) ∧ (A = none ∨ ∃ g, A = some ⟨g, 0, none⟩ ∧ v.ownBlock = some g ∧ g < w.heap.size ∧ ∀ (j q : Nat), qs[j]? = some q → w.cell? ⟨g, j, none⟩ = some (rowVal q)) := by
  rcases h.row.2 with ⟨hv, hn⟩ | ⟨g, cap, cur, hv, hb, hh, h1, h2, h3, h4⟩
  · exact ⟨none, 0, by rw [hn]; exact hv, by omega, by omega, fun _ => ⟨rfl, hn⟩, .inl rfl⟩
  · subst hv
    refine ⟨some ⟨g, 0, none⟩, cap, rfl, h1, by unfold maxLen at h2; omega, fun e => (by cases e), .inr ⟨g, rfl, rfl, (h.vlt g rfl).2, fun j q hj => ?_⟩⟩
    have := World.ownsRow.cells h.row (g := g) rfl j (rowVal q) (by simp [hj])
    rw [addr_add] at this
    simpa using this
theorem LinesIn.lists {w : World} {base : Nat} {v : Value} {L : List (List Int)} {qs : List Nat} (h : LinesIn w base v L qs) : ∃ A c, v = .slice A L.length c ∧ Lists w A L ∧ L.length ≤ c ∧ c ≤ 9223372036854775807 ∧ (A = none → c = 0 ∧ L.length = 0) := by
  obtain ⟨A, c, hv, h1, h2, h3, h4⟩ := h.cells
  refine ⟨A, c, hv, fun hl => ?_, h1, h2, h3⟩
  rcases h4 with rfl | ⟨g, rfl, _, _, hc⟩
  · have := (h3 rfl).2; omega
  · refine ⟨g, 0, rfl, fun k x hx => ?_⟩
    obtain ⟨q, hq⟩ := at_lt (l := qs) (k := k) (by rw [h.len]; exact (List.getElem?_eq_some_iff.1 hx).1)
    have h2x := h.two x (List.mem_of_getElem? hx)
    refine ⟨some ⟨q, 0, none⟩, 2, ?_, by omega, by omega, fun e => (by cases e), (h.blk k q x hq hx).2.nums⟩
    rw [h2x, Nat.zero_add]
    exact hc k q hq
/-- a line is appended -/
theorem run_app_line (W : World) (base : Nat) (v : Value) (L : List (List Int)) (qs : List Nat) (x : List Int) (q b c : Nat) (ty : TypeId) (h : LinesIn W base v L qs) (hc : W.cell? ⟨b, 0, none⟩ = some (rowVal q)) (hx : Blk W q 2 (numCells x)) (hx2 : x.length = 2) (hbq : base ≤ q) (hup : ∀ p ∈ qs, p < q) (hoff : v.ownBlock ≠ some q) (hl : L.length ≤ 1048577) (hb : base ≤ W.heap.size) :
    ∃ v' w', (Builtin.append_ #[43, 43] ty #[v, .slice (some ⟨b, 0, none⟩) 1 c]).run Tryd.prog W = .ok v' w' ∧ LinesIn w' base v' (L ++ [x]) (qs ++ [q]) ∧ W.grownBy w' v.ownBlock := by
  obtain ⟨i0, hi0, hz0, hz1, hz2⟩ := info_parts info_rows
  obtain ⟨v', w', hr, h1, h2, _, h4⟩ := run_append_own_at (P := Tryd.prog) (w := W) base 43 ty 79 i0 _ 1 24 Tryd.underlying43 hi0 hz0 hz1 hz2 rfl (by decide) v L.length (qs.map rowVal) h.row ⟨b, 0, none⟩ 1 c [rowVal q] rfl (fun j u hj => by
      cases j with
      | zero => simp only [List.getElem?_cons_zero, Option.some.injEq] at hj; subst hj; rw [addr_add]; exact hc
      | succ j => simp at hj) (fun u hu => by simp only [List.mem_singleton] at hu; subst hu; rfl) (by simp only [maxLen]; omega) (by omega) hb
  refine ⟨v', w', hr, ⟨by simp [h.len], ?_, ?_, ?_, ?_, ?_⟩, h2⟩
  · rw [List.map_append, List.length_append]; exact h1
  · intro j p y hj hy
    by_cases hjl : j < L.length
    · rw [List.getElem?_append_left (by rw [h.len]; exact hjl)] at hj
      rw [List.getElem?_append_left hjl] at hy
      obtain ⟨g1, g2⟩ := h.blk j p y hj hy
      exact ⟨g1, g2.grown2 h2 (fun z hz e => h.off p (List.mem_of_getElem? hj) (by rw [hz, e]))⟩
    · have hj2 : j = L.length := by
        have := (List.getElem?_eq_some_iff.1 hy).1
        rw [List.length_append, List.length_singleton] at this; omega
      subst hj2
      rw [List.getElem?_append_right (by rw [h.len]; exact Nat.le_refl _), h.len, Nat.sub_self] at hj
      rw [List.getElem?_append_right (Nat.le_refl _), Nat.sub_self] at hy
      simp only [List.getElem?_cons_zero, Option.some.injEq] at hj hy
      subst hj hy
      exact ⟨hbq, hx.grown2 h2 (fun z hz e => hoff (by rw [hz, e]))⟩
  · intro y hy
    rcases List.mem_append.1 hy with hy | hy
    · exact h.two y hy
    · rw [List.mem_singleton.1 hy]; exact hx2
  · intro j k p r hjk hj hk
    by_cases hkl : k < qs.length
    · rw [List.getElem?_append_left hkl] at hk
      rw [List.getElem?_append_left (by omega)] at hj
      exact h.up j k p r hjk hj hk
    · have hk2 : k = qs.length := by
        have := (List.getElem?_eq_some_iff.1 hk).1
        rw [List.length_append, List.length_singleton] at this; omega
      subst hk2
      rw [List.getElem?_append_right (Nat.le_refl _), Nat.sub_self] at hk
      simp only [List.getElem?_cons_zero, Option.some.injEq] at hk
      subst hk
      rw [List.getElem?_append_left hjk] at hj
      exact hup p (List.mem_of_getElem? hj)
  · intro p hp e
    rcases List.mem_append.1 hp with hp | hp
    · rcases h4 with h4 | h4
      · exact h.off p hp (by rw [← h4]; exact e)
      · rw [h4] at e
        have := (h.qlt hp).2
        injection e with e; omega
    · rw [List.mem_singleton.1 hp] at e
      rcases h4 with h4 | h4
      · exact hoff (by rw [← h4]; exact e)
      · rw [h4] at e
        have := hx.lt
        injection e with e; omega
theorem wpList_app_line {W : World} {ops : Array Oper} {rest : List Oper} {o : Oper} {a : Act} {Q : Exit → Act → World → Prop} (hgd : o.guard = none) (s x : Operand)
    (ho : o.op = .call { callee := .builtin .append, args := #[s, x], argTypes := #[43, 43] })
    (base : Nat) (v : Value) (L : List (List Int)) (qs : List Nat) (y : List Int) (q b c : Nat) (hs : a.eval s = v) (hx : a.eval x = .slice (some ⟨b, 0, none⟩) 1 c) (hown : LinesIn W base v L qs) (hc : W.cell? ⟨b, 0, none⟩ = some (rowVal q)) (hy : Blk W q 2 (numCells y)) (hy2 : y.length = 2) (hbq : base ≤ q) (hup : ∀ p ∈ qs, p < q) (hoff : v.ownBlock ≠ some q) (hl : L.length ≤ 1048577) (hb : base ≤ W.heap.size)
    (h : ∀ v' w', LinesIn w' base v' (L ++ [y]) (qs ++ [q]) → W.grownBy w' v.ownBlock → wpList Tryd.prog ops Q rest (a.put o.dst v') w') : wpList Tryd.prog ops Q (o :: rest) a W := by
  refine wpList_plain hgd fun K hK => ?_
  obtain ⟨v', w', hr, h1, h2⟩ := run_app_line W base v L qs y q b c o.type hown hc hy hy2 hbq hup hoff hl hb
  unfold Oper.wp execOp
  simp only [ho, resolve, invoke, builtin, Sem.run_bind, Sem.run_pure, Result.andThen_ok, List.map_toArray, List.map_cons, List.map_nil, hs, hx, hr]
  exact hK _ _ (h v' w' h1 h2)
/-- one line is marked -/
theorem LinesIn.mark {w w' : World} {base : Nat} {v : Value} {L : List (List Int)} {qs : List Nat} {j q : Nat} {y : List Int} (h : LinesIn w base v L qs) (hj : qs[j]? = some q) (hy : y.length = 2) (hg : w.grownBy w' (some q)) (hq : Blk w' q 2 (numCells y)) : LinesIn w' base v (L.set j y) qs := by
  have hjl : j < L.length := by rw [← h.len]; exact (List.getElem?_eq_some_iff.1 hj).1
  refine ⟨by rw [List.length_set]; exact h.len, ?_, fun k p x hk hx => ?_, fun x hx => ?_, h.up, h.off⟩
  · rw [List.length_set]
    exact own_only h.row hg (fun k hk e => by injection e with e; subst e; exact h.off q (List.mem_of_getElem? hj) hk)
  · by_cases hkj : k = j
    · subst hkj
      rw [hj] at hk; injection hk with hk; subst hk
      rw [List.getElem?_set_self hjl] at hx; injection hx with hx; subst hx
      exact ⟨(h.qlt (List.mem_of_getElem? hj)).1, hq⟩
    · rw [List.getElem?_set_ne (fun e => hkj e.symm)] at hx
      obtain ⟨g1, g2⟩ := h.blk k p x hk hx
      have hpq : p ≠ q := by
        rcases Nat.lt_or_gt_of_ne hkj with hlt | hgt
        · exact Nat.ne_of_lt (h.up k j p q hlt hk hj)
        · exact Nat.ne_of_gt (h.up j k q p hgt hj hk)
      exact ⟨g1, g2.grown2 hg (fun z hz => by injection hz with hz; omega)⟩
  · rcases List.mem_or_eq_of_mem_set hx with hx | rfl
    · exact h.two x hx
    · exact hy
set_option maxHeartbeats 2000000 in
theorem markLines_any (base hi : Nat) (v : Value) (L : List (List Int)) (qs : List Nat) (j : Int) (w : World) (hn : L.length ≤ 1000) (h : LinesIn w base v L qs) (hhi : ∀ q ∈ qs, q < hi) (h0 : 0 ≤ j) (h1 : j ≤ 1000000) :
    Calls Tryd.prog 71 #[v, .int .i64 j] w fun e w' => e = .returned (.int .i64 (j + 2 * (L.length : Int))) ∧ LinesIn w' base v (marksL j L.length) qs ∧ Within base hi w w' := by
  obtain ⟨A, c, rfl, hc1, hc2, hc3, hc4⟩ := h.cells
  obtain ⟨n, hnl⟩ : ∃ n, n = L.length := ⟨_, rfl⟩
  rw [← hnl] at hc1 hn ⊢
  have HNL := Lib.hid hnl
  have HC3 := Lib.hid hc3
  have HC4 := Lib.hid hc4
  clear hnl hc3 hc4
  go_enter Tryd.func71, Tryd.ntmps71
  go_wp2_with (fail)
  go_loopw [1, 5] (fun s1 s5 wr => ∃ (k : Nat) (M : List (List Int)), k ≤ n ∧ s5 = .int .i64 (k : Int) ∧ s1 = .int .i64 (j + 2 * (k : Int)) ∧ LinesIn wr base (.slice A n c) M qs ∧ M.length = n ∧ M.take k = (marksL j n).take k ∧ Within base hi w wr) (fun _ s5 _ => n - (intOf s5).toNat)
  case atStart => exact ⟨0, L, by omega, rfl, by congr 1; omega, by rw [HNL.out]; exact h, HNL.out.symm, by simp, Within.refl _ _ _⟩
  case round =>
    obtain ⟨k, M, hk, rfl, rfl, hM, hMl, hMt, hW⟩ := hrel
    have HML := Lib.hid hMl
    have HMT := Lib.hid hMt
    clear hMl hMt
    by_cases hlt : k < n
    · rcases HC4.out with rfl | ⟨g, rfl, _, _, _⟩
      · have := (HC3.out rfl).2; have := HNL.out; omega
      · obtain ⟨A', c', e, _, _, _, hcc⟩ := hM.cells
        rw [HML.out] at e
        injection e with e1 e2 e3
        subst e1 e3
        rcases hcc with e | ⟨g', e, _, hgl, hcc⟩
        · cases e
        · injection e with e; injection e with e
          subst e
          obtain ⟨q, hq⟩ := at_lt (l := qs) (k := k) (by rw [hM.len, HML.out]; exact hlt)
          obtain ⟨x, hx⟩ := at_lt (l := M) (k := k) (by rw [HML.out]; exact hlt)
          have c0 : wr.cell? ⟨g, k, none⟩ = some (.slice (some ⟨q, 0, none⟩) 2 2) := hcc k q hq
          obtain ⟨hbq, hB⟩ := hM.blk k q x hq hx
          have hx2 := hM.two x (List.mem_of_getElem? hx)
          have hql : q < hi := hhi q (List.mem_of_getElem? hq)
          have CM := Lib.hid (markInt64S_any q 2 2 (numCells x) (j + 2 * (k : Int)) wr (by rw [numCells_length]; omega) (by omega) hB (by omega) (by omega))
          have HQ := Lib.hid hq
          have HMM := Lib.hid hM
          have hxl : (numCells x).length = 2 := by rw [numCells_length]; exact hx2
          have HXL := Lib.hid hxl
          clear hx hq hcc hM hB hx2 hxl
          go_wp2_with (fail)
          refine CM.out.mono ?_
          rintro e w2 ⟨ds, rfl, hD, hdl, hdt, hg⟩
          have hds : ds = numCells (upFrom (j + 2 * (k : Int)) 2) := by
            rw [← hdt, List.take_of_length_le (by rw [hdl]; have := HXL.out; omega)]
          subst hds
          have hM2 := HMM.out.mark HQ.out (upFrom_length _ 2) hg hD
          have HMT2 : Hid ((M.set k (upFrom (j + 2 * (k : Int)) 2)).take (k + 1) = (marksL j n).take (k + 1)) := Lib.hid (take_set_any HMT.out (marksL_at j n k hlt) (by rw [HML.out]; exact hlt))
          have HML2 : Hid ((M.set k (upFrom (j + 2 * (k : Int)) 2)).length = n) := Lib.hid (by rw [List.length_set]; exact HML.out)
          clear hdl hdt hD
          go_wp2_with (fail)
          go_roundw
          case rel => exact ⟨k + 1, _, by omega, by go_num, by congr 1; omega, hM2, HML2.out, HMT2.out, hW.trans (Within.of_grown hg hbq hql)⟩
          case measure => simp [intOf]; omega
    · obtain rfl : k = n := by omega
      have e : M = marksL j k := by
        have := HMT.out
        rwa [List.take_of_length_le (by rw [HML.out]; omega), List.take_of_length_le (by rw [marksL_length]; omega)] at this
      subst e
      go_wp2_with (fail)
      go_ret
      exact ⟨rfl, hM, hW⟩
set_option maxHeartbeats 1000000 in
theorem heldLines_any (A : Option Addr) (n c : Nat) (j : Int) (w : World) (hn : n ≤ 1000) (hS : Lists w A (marksL j n)) (h0 : 0 ≤ j) (h1 : j ≤ 1000000) :
    Calls Tryd.prog 72 #[.slice A n c, .int .i64 j] w fun e w' => e = .returned (.int .i64 (j + 2 * (n : Int))) ∧ w = w' := by
  go_enter Tryd.func72, Tryd.ntmps72
  go_wp2_with (fail)
  go_loop [1, 5] (fun s1 s5 => ∃ (k : Nat), k ≤ n ∧ s5 = .int .i64 (k : Int) ∧ s1 = .int .i64 (j + 2 * (k : Int))) (fun _ s5 => n - (intOf s5).toNat)
  case atStart => exact ⟨0, by omega, rfl, by congr 1; omega⟩
  case round =>
    obtain ⟨k, hk, rfl, rfl⟩ := hrel
    by_cases hlt : k < n
    · obtain ⟨b, o, rfl, hc⟩ := hS (by rw [marksL_length]; omega)
      obtain ⟨A1, c1, e0, _, _, _, hI⟩ := hc k _ (marksL_at j n k hlt)
      rw [upFrom_length] at e0
      have CH := Lib.hid (fun W hW => heldInt64S_same A1 2 c1 (j + 2 * (k : Int)) W (by omega) hW (by omega) (by omega))
      have hbl := World.block_lt_of_cell? w _ e0
      dsimp only at hbl
      have hge : ¬ (j + 2 * (k : Int) + 2 < 0) := by omega
      clear hc hS
      go_wp2_with (refine (CH.out _ hI).mono ?_; rintro e w2 ⟨rfl, rfl⟩)
      go_round
      case rel => exact ⟨k + 1, by omega, by go_num, by congr 1; omega⟩
      case measure => simp [intOf]; omega
    · obtain rfl : k = n := by omega
      go_wp2_with (fail)
      go_ret
      exact ⟨rfl, rfl⟩
end Go.Proofs.YtngkdolohokcoaaDoor
