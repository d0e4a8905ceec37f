/- How lists of lists of numbers and figures lie in memory; figures copied, held against one another, marked. -/
import Derived.Test.YtbpjnopnhmoigaaDoorPlainFig
import Derived.Test.YtbpjnopnhmoigaaDoorOwnStas
import Derived.Deep.Matrix
namespace Go.Proofs.YtbpjnopnhmoigaaDoor
set_option linter.unusedVariables false
set_option linter.unusedSimpArgs false
open Go.RowKit Go.ChangeShapes Go.WideShapes Go.Deep
/-- a list of numbers lies behind that cell -/
def RowAt (w : World) (b o : Nat) (x : List Int) : Prop := ∃ (A : Option Addr) (c : Nat), w.cell? ⟨b, o, none⟩ = some (.slice A x.length c) ∧ x.length ≤ c ∧ c ≤ 9223372036854775807 ∧ (A = none → c = 0 ∧ x.length = 0) ∧ Ints w A x
def RowsAt (w : World) (b o : Nat) (L : List (List Int)) : Prop := ∀ k x, L[k]? = some x → RowAt w b (o + k) x
/-- the slice that begins there reads as this list of lists -/
def Lists (w : World) (A : Option Addr) (L : List (List Int)) : Prop := 0 < L.length → ∃ b o, A = some ⟨b, o, none⟩ ∧ RowsAt w b o L
theorem RowAt.below {w w' : World} {b o : Nat} {x : List Int} (h : RowAt w b o x) (hb : Below w.heap.size w w') : RowAt w' b o x := by
  obtain ⟨A, c, h0, h1, h2, h3, h4⟩ := h
  have hl := World.block_lt_of_cell? w ⟨b, o, none⟩ h0
  exact ⟨A, c, by rw [hb.cell (by simpa using hl)]; exact h0, h1, h2, h3, h4.below hb⟩
theorem Lists.below {w w' : World} {A : Option Addr} {L : List (List Int)} (h : Lists w A L) (hb : Below w.heap.size w w') : Lists w' A L := fun hl => by
  obtain ⟨b, o, e, h1⟩ := h hl
  exact ⟨b, o, e, fun k x hx => (h1 k x hx).below hb⟩
theorem Lists.later {w : World} {A : Option Addr} {L : List (List Int)} (h : Lists w A L) (y : Later w) : Lists y.w A L := h.below y.below
/-- the world has turned in blocks of that range alone -/
structure Within (lo hi : Nat) (w w' : World) : Prop where
  os : w'.os = w.os
  tape : w'.tape = w.tape
  output : w'.output = w.output
  size : w.heap.size ≤ w'.heap.size
  block : ∀ k, k < w.heap.size → (k < lo ∨ hi ≤ k) → w'.heap[k]? = w.heap[k]?
theorem Within.refl (lo hi : Nat) (w : World) : Within lo hi w w := ⟨rfl, rfl, rfl, Nat.le_refl _, fun _ _ _ => rfl⟩
theorem Within.trans {lo hi : Nat} {a b c : World} (h : Within lo hi a b) (k : Within lo hi b c) : Within lo hi a c :=
  ⟨k.os.trans h.os, k.tape.trans h.tape, k.output.trans h.output, Nat.le_trans h.size k.size, fun q hq hr => (k.block q (Nat.lt_of_lt_of_le hq h.size) hr).trans (h.block q hq hr)⟩
theorem Within.of_below {lo hi : Nat} {w w' : World} (h : Below w.heap.size w w') : Within lo hi w w' := ⟨h.os, h.tape, h.output, h.size, fun k hk _ => h.block k hk⟩
theorem Within.of_grown {lo hi g : Nat} {w w' : World} (h : w.grownBy w' (some g)) (h1 : lo ≤ g) (h2 : g < hi) : Within lo hi w w' :=
  ⟨h.os, h.tape, h.output, h.size, fun k hk hr => h.block k hk (fun e => by injection e with e; omega)⟩
theorem below_of_within {B lo hi : Nat} {a w w' : World} (hb : Below B a w) (hg : Within lo hi w w') (hB : B ≤ w.heap.size) (hr : B ≤ lo) : Below B a w' :=
  ⟨hg.os.trans hb.os, hg.tape.trans hb.tape, hg.output.trans hb.output, Nat.le_trans hb.size hg.size, fun k hk => (hg.block k (Nat.lt_of_lt_of_le hk hB) (.inl (Nat.lt_of_lt_of_le hk hr))).trans (hb.block k hk)⟩
theorem own_within {w w' : World} {base lo hi : Nat} {e : TypeId} {size : Nat} {v : Value} {n : Nat} {xs : List Value} (h : w.ownsRow base e size v n xs) (hg : Within lo hi w w') (hne : ∀ k, v.ownBlock = some k → k < lo ∨ hi ≤ k) : w'.ownsRow base e size v n xs := by
  obtain ⟨h0, hv | ⟨g, cap, cur, hv, hb, hh, h1, h2, h3, h4⟩⟩ := h
  · exact ⟨h0, .inl hv⟩
  · subst hv
    have hl : g < w.heap.size := by
      rcases Nat.lt_or_ge g w.heap.size with hlt | hge
      · exact hlt
      · rw [Array.getElem?_eq_none hge] at hh; cases hh
    exact ⟨h0, .inr ⟨g, cap, cur, rfl, hb, (hg.block g hl (hne g rfl)).trans hh, h1, h2, h3, h4⟩⟩
theorem Blk.within {w w' : World} {g lo hi : Nat} {t : TypeId} {cs : List Value} (h : Blk w g t cs) (hg : Within lo hi w w') (hne : g < lo ∨ hi ≤ g) : Blk w' g t cs := (hg.block g h.lt hne).trans h
section
variable {H : Type} {enc : TypeId × Value → H} {P : Program} {w : World} {base : Nat} {held : Bool}
/-- a list of lists of numbers that came in -/
theorem open_lists {t e q : TypeId} {fuel : Nat} {v : Value} {x : DataW H × List MemPlace} (ht : P.underlying t = some (.slice e)) (he : P.underlying e = some (.slice q)) (hq : P.underlying q = some (.int .i64)) (ce : P.cellsOf e = 1) (cq : P.cellsOf q = 1)
    (h : DataW.trod enc P w base (fun _ => true) held fuel t [v] = some x) :
    ∃ (A : Option Addr) (n c : Nat) (L : List (List Int)), v = .slice A n c ∧ L.length = n ∧ n ≤ 9223372036854775807 ∧ n ≤ c ∧ c ≤ 9223372036854775807 ∧ Lists w A L := by
  rcases open_int_rows ht he hq ce cq h with ⟨hcs, _⟩ | ⟨a, len, cap, A, Ln, C, Z, hcs, _, hl, hm, _, hr⟩
  · simp only [List.cons.injEq, and_true] at hcs
    subst hcs
    exact ⟨none, 0, 0, [], rfl, rfl, by omega, by omega, by omega, fun h => absurd h (by simp)⟩
  · simp only [List.cons.injEq, and_true] at hcs
    subst hcs
    refine ⟨some a, len, cap, (List.range len).map fun r => (Z r).take (Ln r), rfl, by simp, by unfold maxLen at hm; omega, hl, by unfold maxLen at hm; omega, fun hp => ?_⟩
    have hn : 0 < len := by simpa using hp
    have hsp := spot_none (hr 0 (by omega)).1
    have hsp0 : a.spot = none := hsp
    refine ⟨a.block, a.off, congrArg some (addr_of_spot hsp0), fun k x hx => ?_⟩
    rw [List.getElem?_map] at hx
    by_cases hk : k < len
    · rw [List.getElem?_range hk] at hx
      simp only [Option.map_some, Option.some.injEq] at hx
      subst hx
      obtain ⟨r1, r2, r3, r4, r5, r6, r7⟩ := hr k (by omega)
      rw [addr_of_spot hsp0, addr_add] at r1
      have hlen : ((Z k).take (Ln k)).length = Ln k := by rw [List.length_take]; omega
      refine ⟨A k, C k, by rw [hlen]; exact r1, by rw [hlen]; exact r2, by unfold maxLen at r3; omega, fun e => ⟨r6 e, by rw [hlen]; have := r6 e; omega⟩, fun hp2 => ?_⟩
      rw [hlen] at hp2
      cases hA : A k with
      | none => have := r6 hA; omega
      | some a' =>
        have hcell := (r7 a' hA).2
        have hs2 := spot_none (a := a') (hcell 0 (by omega))
        refine ⟨a'.block, a'.off, congrArg some (addr_of_spot hs2), fun j y hy => ?_⟩
        rw [List.getElem?_take] at hy
        split at hy
        · next hj =>
          have := hcell j (by omega)
          rw [addr_of_spot hs2, addr_add, List.getD_eq_getElem?_getD, hy] at this
          exact this
        · cases hy
    · rw [List.getElem?_eq_none (by simp; omega)] at hx; cases hx
end
theorem OwnI.within {w w' : World} {base lo hi : Nat} {v : Value} {l : List Int} (h : OwnI w base v l) (hg : Within lo hi w w') (hne : ∀ k, v.ownBlock = some k → k < lo ∨ hi ≤ k) : OwnI w' base v l := own_within h hg hne
theorem szInt64S_sz (A : Option Addr) (n c : Nat) (left : Int) (w : World) (hn : n ≤ 9223372036854775807) (h0 : 0 ≤ left) (h1 : left ≤ 1048576) :
    Calls Tryd.prog 113 #[.slice A n c, .int .i64 left] w fun e w' => e = .returned (.int .i64 (szI n left)) ∧ w = w' := szInt64S_any A n c left w hn h0 h1
theorem szI_or (s : Nat) (r : Int) (h : 0 ≤ r) : (szI s r = -1) ∨ (0 ≤ szI s r ∧ szI s r = r - s) := by unfold szI; split <;> omega
set_option maxHeartbeats 1000000 in
theorem szInt64SS_any (A : Option Addr) (n c : Nat) (L : List (List Int)) (left : Int) (w : World) (hl : L.length = n) (hn : n ≤ 9223372036854775807) (hS : Lists w A L) (h0 : 0 ≤ left) (h1 : left ≤ 1048576) :
    Calls Tryd.prog 63 #[.slice A n c, .int .i64 left] w (SzPost (n + tot L) left w) := by
  have HL := Lib.hid hl; clear hl
  by_cases hneg : left - n < 0
  · go_enter Tryd.func63, Tryd.ntmps63
    go_wp2
    go_ret
    exact ⟨_, rfl, .inl (by omega), Below.refl _ _⟩
  · go_enter Tryd.func63, Tryd.ntmps63
    go_wp2
    go_loop [1, 5] (fun v i => ∃ (k : Nat) (r : Int), k ≤ n ∧ i = .int .i64 k ∧ v = .int .i64 r ∧ 0 ≤ r ∧ r + tot (L.take k) = left - n) (fun _ i => n - (intOf i).toNat)
    case atStart => exact ⟨0, left - n, by omega, rfl, rfl, by omega, by simp [tot]⟩
    case round =>
      obtain ⟨k, r, hk, rfl, rfl, hr0, hr1⟩ := hrel
      have hr2 : r ≤ left := by omega
      have HR := Lib.hid hr1; clear hr1
      by_cases hlt : k < n
      · obtain ⟨x, hx⟩ := at_lt (l := L) (k := k) (by have := HL.out; omega)
        obtain ⟨b, o, rfl, hc⟩ := hS (by have := HL.out; omega)
        obtain ⟨A1, c1, e0, e1, e2, _, _⟩ := hc k x hx
        have HT := Lib.hid (tot_take hx)
        clear hx hc hS
        have hz := szI_or x.length r hr0
        have hxl : x.length ≤ 9223372036854775807 := by omega
        generalize hm : x.length = m at *
        clear hm e1
        have HZ := Lib.hid hz
        rcases hz with hz | ⟨hz1, hz2⟩
        · have C1 : Hid (∀ W, Calls Tryd.prog 113 #[.slice A1 m c1, .int .i64 r] W fun e w' => e = .returned (.int .i64 (-1)) ∧ W = w') := Lib.hid (fun W => by rw [← hz]; exact szInt64S_sz A1 m c1 r W hxl hr0 (by omega))
          clear hz
          go_wp2_with (refine (C1.out _).mono ?_; rintro e w' ⟨rfl, rfl⟩)
          go_ret
          exact ⟨_, rfl, .inl (by omega), Below.refl _ _⟩
        · have C1 : Hid (∀ W, Calls Tryd.prog 113 #[.slice A1 m c1, .int .i64 r] W fun e w' => e = .returned (.int .i64 (szI m r)) ∧ W = w') := Lib.hid (fun W => szInt64S_sz A1 m c1 r W hxl hr0 (by omega))
          have HZ2 := Lib.hid hz2
          clear hz2
          generalize szI m r = r2 at *
          go_wp2_with (refine (C1.out _).mono ?_; rintro e w' ⟨rfl, rfl⟩)
          go_round
          case rel => exact ⟨k + 1, r2, by omega, by go_num, rfl, by omega, by have := HT.out; have := HR.out; have := HZ2.out; omega⟩
          case measure => simp [intOf]; omega
      · go_wp2
        go_ret
        exact ⟨_, rfl, .inr ⟨by omega, by omega, by have := HR.out; rw [tot_all (by have := HL.out; omega)] at this; omega⟩, Below.refl _ _⟩
/-- a list of lists that was copied: the rows lie in blocks of their own, behind that of the list -/
def Copied (w : World) (g : Nat) (L : List (List Int)) : Prop := ∃ cs : List Value, cs.length = L.length ∧ Blk w g 24 cs ∧ ∀ (j : Nat) (x : List Int), L[j]? = some x → ∃ q : Nat, cs[j]? = some (Value.slice (some ⟨q, 0, none⟩) x.length x.length) ∧ g < q ∧ Blk w q 2 (numCells x)
theorem Copied.keep {w w' : World} {g : Nat} {L : List (List Int)} (h : Copied w g L) (hb : Below w.heap.size w w') : Copied w' g L := by
  obtain ⟨cs, h0, h1, h2⟩ := h
  refine ⟨cs, h0, h1.keep hb, fun j x hx => ?_⟩
  obtain ⟨q, a, b, c⟩ := h2 j x hx
  exact ⟨q, a, b, c.keep hb⟩
theorem Copied.lt {w : World} {g : Nat} {L : List (List Int)} (h : Copied w g L) : g < w.heap.size := by obtain ⟨cs, _, h1, _⟩ := h; exact h1.lt
theorem Copied.lists {w : World} {g : Nat} {L : List (List Int)} (h : Copied w g L) (hs : ∀ x ∈ L, x.length ≤ 9223372036854775807) : Lists w (some ⟨g, 0, none⟩) L := fun _ => by
  obtain ⟨cs, h0, h1, h2⟩ := h
  refine ⟨g, 0, rfl, fun k x hx => ?_⟩
  obtain ⟨q, a, b, c⟩ := h2 k x hx
  exact ⟨some ⟨q, 0, none⟩, x.length, by rw [h1.cell, Nat.zero_add]; exact a, Nat.le_refl _, hs x (List.mem_of_getElem? hx), fun e => (by cases e), c.nums⟩
theorem info_list : (Tryd.prog.info? 24).map (fun i => (i.zero, i.size, i.bytes)) = some (some (.slice none 0 0), 1, 24) := by kernel_rfl
theorem zeroLists_made (z : Array Value) (hz : z = #[.slice none 0 0]) (n : Nat) : madeCells z (n * 1) = (List.replicate n (Value.slice none 0 0)).toArray := by
  apply Array.ext_getElem?
  intro j
  by_cases hj : j < n
  · simp [madeCells, hz, hj, Nat.mod_one]
  · simp [madeCells, hz, hj]
set_option maxHeartbeats 2000000 in
theorem toInt64SS_any (A : Option Addr) (n c : Nat) (L : List (List Int)) (w : World) (hl : L.length = n) (hn : n + tot L ≤ 1048576) (hS : Lists w A L) :
    Calls Tryd.prog 65 #[.slice A n c] w fun e w' => e = .returned (.slice (some ⟨w.heap.size, 0, none⟩) n n) ∧ Copied w' w.heap.size L ∧ Below w.heap.size w w' := by
  have HL := Lib.hid hl; clear hl
  have hn2 : n ≤ 1048576 := by omega
  have HN := Lib.hid hn; clear hn
  obtain ⟨i0, hi0, hz0, hz1, hz2⟩ := info_parts info_list
  have hmk := fun W : World => run_make (P := Tryd.prog) W 34 24 i0 _ Tryd.underlying34 hi0 hz0 .i64 .i64 (n : Int) (n : Int) (by omega) (by omega) (by rw [hz2]; omega) (by omega)
  simp only [Int.toNat_natCast, hz1] at hmk
  clear hi0 hz0 hz1 hz2
  go_enter Tryd.func65, Tryd.ntmps65
  go_wp2
  rw [← Nat.mul_one n, zeroLists_made _ rfl n, Nat.mul_one]
  have hz : Blk (w.alloc (.cells (List.replicate n (Value.slice none 0 0)).toArray 24)) w.heap.size 24 (List.replicate n (Value.slice none 0 0)) := Blk.new _ _ _
  have hb0 : Below w.heap.size w (w.alloc (.cells (List.replicate n (Value.slice none 0 0)).toArray 24)) := (by repeat (first | exact Below.refl _ _ | refine below_alloc ?_ _ | refine below_drewN0 ?_ _ | refine below_drew0 ?_ | refine below_step ?_ (by assumption) | refine below_later ?_ _ | refine below_setCell0 ?_ (by first | exact Nat.le_refl _ | (simp; done) | omega | (simp; omega)) _))
  generalize w.alloc (.cells (List.replicate n (Value.slice none 0 0)).toArray 24) = W1 at *
  go_loopw [4] (fun i wr => ∃ (k : Nat) (cs : List Value), k ≤ n ∧ i = .int .i64 k ∧ cs.length = n ∧ Blk wr w.heap.size 24 cs ∧ (∀ j x, j < k → L[j]? = some x → ∃ q, cs[j]? = some (Value.slice (some ⟨q, 0, none⟩) x.length x.length) ∧ w.heap.size < q ∧ Blk wr q 2 (numCells x)) ∧ Below w.heap.size w wr) (fun i _ => n - (intOf i).toNat)
  case atStart => exact ⟨0, List.replicate n (Value.slice none 0 0), by omega, rfl, by simp, hz, fun j x hj => absurd hj (by omega), hb0⟩
  case round =>
    obtain ⟨k, cs, hk, rfl, hcl, hB, hrows, hb⟩ := hrel
    have HC := Lib.hid hcl; clear hcl
    have HR := Lib.hid hrows; clear hrows
    by_cases hlt : k < n
    · obtain ⟨x, hx⟩ := at_lt (l := L) (k := k) (by have := HL.out; omega)
      obtain ⟨z, hz⟩ := at_lt (l := cs) (k := k) (by have := HC.out; omega)
      obtain ⟨b, o, rfl, hc⟩ := hS.below hb (by have := HL.out; omega)
      obtain ⟨A1, c1, e0, e1, e2, e3, e4⟩ := hc k x hx
      have hxl : x.length ≤ 1048576 := by have h1 := tot_take hx; have h2 := tot_le L (k + 1); have h3 := HN.out; omega
      have d0 : wr.cell? ⟨w.heap.size, k, none⟩ = some z := by rw [hB.cell]; exact hz
      have f0 := hB.frozen k
      have C1 : Hid (∀ W, Below wr.heap.size wr W → Calls Tryd.prog 116 #[.slice A1 x.length c1] W fun e w' => e = .returned (.slice (some ⟨W.heap.size, 0, none⟩) x.length x.length) ∧ Blk w' W.heap.size 2 (numCells x) ∧ Below W.heap.size W w') := Lib.hid (fun W hW => toInt64S_any A1 x.length c1 x W rfl hxl (e4.below hW))
      have HX := Lib.hid hx
      have HSZ := Lib.hid hb.size
      clear hx hc hS e1 e2 e3 e4 hz
      go_wp2_with (fail)
      refine (C1.out _ (Below.refl _ _)).mono ?_
      rintro e w' ⟨rfl, hD1, hb1⟩
      have hB1 := hB.keep hb1
      have d1 : w'.cell? ⟨w.heap.size, k, none⟩ = some z := by rw [hb1.cell (p := ⟨w.heap.size, k, none⟩) hB.lt]; exact d0
      have f1 := hB1.frozen k
      go_wp2_with (fail)
      go_roundw
      case rel =>
        have hlt1 := hB.lt
        refine ⟨k + 1, cs.set k (.slice (some ⟨wr.heap.size, 0, none⟩) x.length x.length), by omega, by go_num, by have := HC.out; simpa using this, hB1.set_ k _, fun j y hj hy => ?_, below_setCell0 (below_step hb hb1) (Nat.le_refl _) _⟩
        by_cases e : j = k
        · subst e
          rw [HX.out] at hy; cases hy
          exact ⟨wr.heap.size, by rw [List.getElem?_set_self (by have := HC.out; omega)], hlt1, hD1.far (by show wr.heap.size ≠ w.heap.size; omega) _⟩
        · obtain ⟨q, a1, a2, a3⟩ := HR.out j y (by omega) hy
          exact ⟨q, by rw [List.getElem?_set_ne (by omega)]; exact a1, a2, (a3.keep hb1).far (by show q ≠ w.heap.size; omega) _⟩
      case measure => simp [intOf]; omega
    · go_wp2
      go_ret
      refine ⟨rfl, ⟨cs, by rw [HC.out, HL.out], hB, fun j x hx => HR.out j x ?_ hx⟩, hb⟩
      have h1 := (List.getElem?_eq_some_iff.1 hx).1
      have h2 := HL.out
      omega
set_option maxHeartbeats 1000000 in
theorem eqInt64SS_same (A A' : Option Addr) (n c c' : Nat) (L : List (List Int)) (w : World) (hl : L.length = n) (hn : n ≤ 9223372036854775807) (hS : Lists w A L) (hS' : Lists w A' L) :
    Calls Tryd.prog 68 #[.slice A n c, .slice A' n c'] w fun e w' => e = .returned (.bool true) ∧ Below w.heap.size w w' := by
  have HL := Lib.hid hl; clear hl
  go_enter Tryd.func68, Tryd.ntmps68
  go_wp2_with (fail)
  go_loopw [5] (fun i wr => ∃ k : Nat, k ≤ n ∧ i = .int .i64 k ∧ Below w.heap.size w wr) (fun i _ => n - (intOf i).toNat)
  case atStart => exact ⟨0, by omega, rfl, Below.refl _ _⟩
  case round =>
    obtain ⟨k, hk, rfl, hb⟩ := hrel
    by_cases hlt : k < n
    · obtain ⟨x, hx⟩ := at_lt (l := L) (k := k) (by have := HL.out; omega)
      obtain ⟨b, o, rfl, hc⟩ := hS.below hb (by have := HL.out; omega)
      obtain ⟨b', o', rfl, hc'⟩ := hS'.below hb (by have := HL.out; omega)
      obtain ⟨A1, c1, a0, a1, a2, a3, a4⟩ := hc k x hx
      obtain ⟨A2, c2, g0, g1, g2, g3, g4⟩ := hc' k x hx
      have C1 : Hid (∀ W, Below wr.heap.size wr W → Calls Tryd.prog 15 #[.slice A1 x.length c1, .slice A2 x.length c2] W fun e w' => e = .returned (.bool true) ∧ Below W.heap.size W w') := Lib.hid (fun W hW => eqInt64S_same A1 A2 x.length c1 c2 x W rfl (by omega) (a4.below hW) (g4.below hW))
      have l0 := World.block_lt_of_cell? wr _ a0
      have l0' := World.block_lt_of_cell? wr _ g0
      clear hx hc hc' hS hS' a1 a2 a3 a4 g1 g2 g3 g4
      go_wp2_with (fail)
      (refine later_intro_wp ?_; intro y)
      (refine wp_region_later (by kernel_rfl) (by kernel_rfl) ?_; (repeat (first | go_big_quiet_step ((go_at_call 15; exact later_below (C1.out _ (Later.below _)))) | quiet_step ((go_at_call 15; exact later_below (C1.out _ (Later.below _)))))); refine wpQuiet_nil ?_; rintro _ ⟨y, rfl⟩)
      go_wp2_with (fail)
      go_roundw
      case rel => exact ⟨k + 1, by omega, by go_num, below_later hb _⟩
      case measure => simp [intOf]; omega
    · go_wp2
      go_ret
      exact ⟨rfl, hb⟩
end Go.Proofs.YtbpjnopnhmoigaaDoor
