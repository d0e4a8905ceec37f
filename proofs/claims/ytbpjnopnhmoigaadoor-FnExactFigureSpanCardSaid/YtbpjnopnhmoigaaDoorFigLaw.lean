/- Contracts of the functions that mark figures. -/
import Derived.Test.YtbpjnopnhmoigaaDoorFigV
namespace Go.Proofs.YtbpjnopnhmoigaaDoor
set_option linter.unusedVariables false
set_option linter.unusedSimpArgs false
open Go.RowKit
theorem len_tot {L : List (List Int)} {x : List Int} (h : x ∈ L) : x.length ≤ tot L := by
  obtain ⟨k, hk, e⟩ := List.getElem_of_mem h
  have hx : L[k]? = some x := by rw [List.getElem?_eq_getElem hk, e]
  have h1 := tot_take hx
  have h2 := tot_le L (k + 1)
  omega
theorem Copied.lists2 {w : World} {g : Nat} {L : List (List Int)} (h : Copied w g L) (hs : tot L ≤ 1048576) : Lists w (some ⟨g, 0, none⟩) L := h.lists (fun x hx => by have := len_tot hx; omega)
/-- the rows of a list that may be written -/
def RowsOf (w : World) (g hi : Nat) (L : List (List Int)) : Prop := ∃ cs : List Value, cs.length = L.length ∧ Blk w g 24 cs ∧ ∀ (j : Nat) (x : List Int), L[j]? = some x → ∃ (q : Nat) (ds : List Value), cs[j]? = some (Value.slice (some ⟨q, 0, none⟩) x.length x.length) ∧ g < q ∧ q < hi ∧ Blk w q 2 ds ∧ x.length ≤ ds.length
theorem Copied.rowsOf {w : World} {g : Nat} {L : List (List Int)} (h : Copied w g L) : RowsOf w g w.heap.size L := by
  obtain ⟨cs, h0, h1, h2⟩ := h
  refine ⟨cs, h0, h1, fun j x hx => ?_⟩
  obtain ⟨q, a, b, c⟩ := h2 j x hx
  exact ⟨q, _, a, b, c.lt, c, by rw [numCells_length]; exact Nat.le_refl _⟩
theorem RowsOf.mark {w w' : World} {g hi q : Nat} {L : List (List Int)} {ds ds' : List Value} (h : RowsOf w g hi L) (hq : g < q) (hg : w.grownBy w' (some q)) (hd : Blk w q 2 ds) (hd' : Blk w' q 2 ds') (hl : ds'.length = ds.length) : RowsOf w' g hi L := by
  obtain ⟨cs, h0, h1, h2⟩ := h
  refine ⟨cs, h0, (hg.block g h1.lt (fun e => by injection e with e; omega)).trans h1, fun j x hx => ?_⟩
  obtain ⟨q2, ds2, a, b, c, d, e⟩ := h2 j x hx
  by_cases hqq : q2 = q
  · subst hqq
    have hsame : ds2 = ds := by
      unfold Blk at d hd
      rw [d] at hd
      injection hd with hd; injection hd with hd
      simpa using hd
    exact ⟨q2, ds', a, b, c, hd', by rw [hl, ← hsame]; exact e⟩
  · exact ⟨q2, ds2, a, b, c, (hg.block q2 d.lt (fun e => by injection e with e; omega)).trans d, e⟩
set_option maxHeartbeats 1000000 in
theorem markInt64SS_any (g n hi : Nat) (L : List (List Int)) (j : Int) (w : World) (hl : L.length = n) (hR : RowsOf w g hi L) (hn : n + tot L ≤ 1048576) (h0 : 0 ≤ j) (h1 : j ≤ 1000000) :
    Calls Tryd.prog 73 #[.slice (some ⟨g, 0, none⟩) n n, .int .i64 j] w fun e w' => e = .returned (.int .i64 (j + tot L)) ∧ Within (g + 1) hi w w' := by
  have HL := Lib.hid hl; clear hl
  have hn2 : n ≤ 1048576 := by omega
  have HN := Lib.hid hn; clear hn
  go_enter Tryd.func73, Tryd.ntmps73
  go_wp2_with (fail)
  go_loopw [1, 5] (fun v i wr => ∃ k : Nat, k ≤ n ∧ i = .int .i64 k ∧ v = .int .i64 (j + tot (L.take k)) ∧ RowsOf wr g hi L ∧ Within (g + 1) hi w wr) (fun _ i _ => n - (intOf i).toNat)
  case atStart => exact ⟨0, by omega, rfl, by simp [tot], hR, Within.refl _ _ _⟩
  case round =>
    obtain ⟨k, hk, rfl, rfl, hRo, hW⟩ := hrel
    by_cases hlt : k < n
    · obtain ⟨x, hx⟩ := at_lt (l := L) (k := k) (by have := HL.out; omega)
      obtain ⟨cs, a0, a1, a2⟩ := id hRo
      obtain ⟨q, ds, b0, b1, b2, b3, b4⟩ := a2 k x hx
      have e0 : wr.cell? ⟨g, k, none⟩ = some (.slice (some ⟨q, 0, none⟩) x.length x.length) := by rw [a1.cell]; exact b0
      have HT := Lib.hid (tot_take hx)
      have hxl : x.length ≤ 1048576 := by have h2 := HT.out; have h3 := tot_le L (k + 1); have h4 := HN.out; omega
      have hk1 : tot (L.take k) ≤ 1048576 := by have h3 := tot_le L k; have h4 := HN.out; omega
      clear hx a0 a1 a2 b0
      generalize hz : tot (L.take k) = z at *
      clear hz
      have C : Hid (∀ W, W = wr → Calls Tryd.prog 18 #[.slice (some ⟨q, 0, none⟩) x.length x.length, .int .i64 (j + z)] W fun e w' => ∃ ds' : List Value, e = .returned (.int .i64 (j + z + x.length)) ∧ Blk w' q 2 ds' ∧ ds'.length = ds.length ∧ ds'.take x.length = numCells (upFrom (j + z) x.length) ∧ wr.grownBy w' (some q)) := Lib.hid (fun W e => by subst e; exact markInt64S_any q x.length x.length ds (j + z) _ b4 hxl b3 (by omega) (by omega))
      generalize x.length = m at *
      go_wp2_with (fail)
      refine (C.out _ rfl).mono ?_
      rintro e w2 ⟨ds', rfl, hD, hdl, _, hg⟩
      have hRo2 := hRo.mark b1 hg b3 hD hdl
      have HDL := Lib.hid hdl
      clear hdl
      go_wp2_with (fail)
      go_roundw
      case rel => exact ⟨k + 1, by omega, by go_num, by rw [HT.out]; go_num, hRo2, hW.trans (Within.of_grown hg b1 b2)⟩
      case measure => simp [intOf]; omega
    · obtain rfl : k = n := by omega
      go_wp2
      go_ret
      exact ⟨ret_int (by rw [tot_all (by have := HL.out; omega)]), hW⟩
set_option maxHeartbeats 1000000 in
theorem markFigure_any (nm : ByteArray) (g n : Nat) (L : List (List Int)) (j : Int) (w : World) (hl : L.length = n) (hC : Copied w g L) (hn : n + tot L ≤ 1048576) (h0 : 0 ≤ j) (h1 : j ≤ 1000000) :
    Calls Tryd.prog 29 #[.agg #[.string nm, .slice (some ⟨g, 0, none⟩) n n], .int .i64 j] w fun e w' => e = .returned (.int .i64 (j + tot L)) ∧ Within (g + 1) w.heap.size w w' := by
  have hb0 : Below w.heap.size w (w.alloc (.cells #[.string nm, .slice (some ⟨g, 0, none⟩) n n] 40)) := below_alloc (Below.refl _ _) _
  have hR : RowsOf (w.alloc (.cells #[.string nm, .slice (some ⟨g, 0, none⟩) n n] 40)) g w.heap.size L := by
    obtain ⟨cs, h0, h1, h2⟩ := hC
    refine ⟨cs, h0, h1.alloc _, fun j x hx => ?_⟩
    obtain ⟨q, a, b, c⟩ := h2 j x hx
    exact ⟨q, _, a, b, c.lt, c.alloc _, by rw [numCells_length]; exact Nat.le_refl _⟩
  have C := Lib.hid (markInt64SS_any g n w.heap.size L j _ hl hR hn h0 h1)
  clear hR hC hl hn
  have ht : 0 ≤ (tot L : Int) := by omega
  generalize tot L = z at *
  go_enter Tryd.func29, Tryd.ntmps29
  go_wp2_with (refine C.out.mono ?_; rintro e w1 ⟨rfl, hW⟩)
  go_ret
  exact ⟨rfl, (Within.of_below hb0).trans hW⟩
theorem Blk.grown2 {w w' : World} {g : Nat} {t : TypeId} {cs : List Value} {row : Option Nat} (h : Blk w g t cs) (hg : w.grownBy w' row) (hne : ∀ q, row = some q → g ≠ q) : Blk w' g t cs := (hg.block g h.lt (fun e => hne g e.symm rfl)).trans h
theorem RowsOf.keep {w w' : World} {g hi : Nat} {L : List (List Int)} (h : RowsOf w g hi L) (hb : Below w.heap.size w w') : RowsOf w' g hi L := by
  obtain ⟨cs, h0, h1, h2⟩ := h
  refine ⟨cs, h0, h1.keep hb, fun j x hx => ?_⟩
  obtain ⟨q, ds, a, b, c, d, e⟩ := h2 j x hx
  exact ⟨q, ds, a, b, c, d.keep hb, e⟩
theorem RowsOf.lt {w : World} {g hi : Nat} {L : List (List Int)} (h : RowsOf w g hi L) : g < w.heap.size := by
  obtain ⟨cs, _, h1, _⟩ := h; exact h1.lt
set_option maxHeartbeats 1000000 in
theorem markFigure_rows (nm : ByteArray) (g n hi : Nat) (L : List (List Int)) (j : Int) (w : World) (hl : L.length = n) (hC : RowsOf w g hi L) (hn : n + tot L ≤ 1048576) (h0 : 0 ≤ j) (h1 : j ≤ 1000000) :
    Calls Tryd.prog 29 #[.agg #[.string nm, .slice (some ⟨g, 0, none⟩) n n], .int .i64 j] w fun e w' => e = .returned (.int .i64 (j + tot L)) ∧ Within (g + 1) hi w w' := by
  have hb0 : Below w.heap.size w (w.alloc (.cells #[.string nm, .slice (some ⟨g, 0, none⟩) n n] 40)) := below_alloc (Below.refl _ _) _
  have C := Lib.hid (markInt64SS_any g n hi L j _ hl (hC.keep hb0) hn h0 h1)
  clear hC hl hn
  have ht : 0 ≤ (tot L : Int) := by omega
  generalize tot L = z at *
  go_enter Tryd.func29, Tryd.ntmps29
  go_wp2_with (refine C.out.mono ?_; rintro e w1 ⟨rfl, hW⟩)
  go_ret
  exact ⟨rfl, (Within.of_below hb0).trans hW⟩
theorem markStarS_int (g n c : Nat) (cs : List Value) (j : Nat) (x : Int) (w : World) (hx : x = (j : Int)) (hn : n * 5 ≤ cs.length) (hc : n ≤ 1048576) (hB : Blk w g 78 cs) (h0 : 0 < j) (h1 : j ≤ 100000000) :
    Calls Tryd.prog 17 #[.slice (some ⟨g, 0, none⟩) n c, .int .i64 x] w fun e w' => ∃ k : Int, e = .returned (.int .i64 k) ∧ 0 ≤ k ∧ w.grownBy w' (some g) := by
  subst hx
  refine (markStarS_any g n c cs j w hn hc hB h0 h1).mono ?_
  rintro e w' ⟨ds, rfl, _, _, _, hg⟩
  exact ⟨_, rfl, by omega, hg⟩
end Go.Proofs.YtbpjnopnhmoigaaDoor
