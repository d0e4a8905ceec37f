/- How lists of stars and of numbers lie in memory. Nothing of the program is named here. -/
import Derived.Test.YtpnfhienffekoaaGreatDoorGrpList
import Derived.Test.YtpnfhienffekoaaGreatDoorOpen
import Derived.Test.YtpnfhienffekoaaGreatDoorGrpNum
import Derived.Laws.OwnMore
import Derived.Laws.AppendOwn
namespace Go.Proofs.YtpnfhienffekoaaGreatDoor
set_option linter.unusedVariables false
set_option linter.unusedSimpArgs false
open Go.RowKit Go.ChangeShapes Go.WideShapes Go.Deep
instance : Inhabited Sta := ⟨⟨ByteArray.empty, 0, 0, 0, 0⟩⟩
def Sta.cells (x : Sta) : List Value := [.string x.id, .int .i64 x.ri, .int .i64 x.de, .int .i64 x.ma, .int .i64 x.co]
def Sta.i64 (x : Sta) : Prop := StrOk x.id ∧ I64 x.ri ∧ I64 x.de ∧ I64 x.ma ∧ I64 x.co
def staCells (l : List Sta) : List Value := l.flatMap Sta.cells
/-- a star lies there -/
def StaAt (w : World) (b o : Nat) (x : Sta) : Prop := w.cell? ⟨b, o, none⟩ = some (.string x.id) ∧ w.cell? ⟨b, o + 1, none⟩ = some (.int .i64 x.ri) ∧ w.cell? ⟨b, o + 2, none⟩ = some (.int .i64 x.de) ∧ w.cell? ⟨b, o + 3, none⟩ = some (.int .i64 x.ma) ∧ w.cell? ⟨b, o + 4, none⟩ = some (.int .i64 x.co)
def StasAt (w : World) (b o : Nat) (l : List Sta) : Prop := ∀ k x, l[k]? = some x → StaAt w b (o + k * 5) x
/-- the slice that begins there reads as this list of stars -/
def Stars (w : World) (A : Option Addr) (l : List Sta) : Prop := 0 < l.length → ∃ b o, A = some ⟨b, o, none⟩ ∧ StasAt w b o l
def IntsAt (w : World) (b o : Nat) (l : List Int) : Prop := ∀ k x, l[k]? = some x → w.cell? ⟨b, o + k, none⟩ = some (.int .i64 x)
def Ints (w : World) (A : Option Addr) (l : List Int) : Prop := 0 < l.length → ∃ b o, A = some ⟨b, o, none⟩ ∧ IntsAt w b o l
theorem StaAt.lt {w : World} {b o : Nat} {x : Sta} (h : StaAt w b o x) : b < w.heap.size := World.block_lt_of_cell? w ⟨b, o, none⟩ h.1
theorem StaAt.below {w w' : World} {b o : Nat} {x : Sta} (h : StaAt w b o x) (hb : Below w.heap.size w w') : StaAt w' b o x := by
  have hl := h.lt
  obtain ⟨h0, h1, h2, h3, h4⟩ := h
  refine ⟨?_, ?_, ?_, ?_, ?_⟩ <;> rw [hb.cell (by simpa using hl)] <;> assumption
theorem StasAt.below {w w' : World} {b o : Nat} {l : List Sta} (h : StasAt w b o l) (hb : Below w.heap.size w w') : StasAt w' b o l := fun k x hx => (h k x hx).below hb
theorem Stars.below {w w' : World} {A : Option Addr} {l : List Sta} (h : Stars w A l) (hb : Below w.heap.size w w') : Stars w' A l := fun hl => by
  obtain ⟨b, o, e, h1⟩ := h hl
  exact ⟨b, o, e, h1.below hb⟩
theorem Stars.later {w : World} {A : Option Addr} {l : List Sta} (h : Stars w A l) (y : Later w) : Stars y.w A l := h.below y.below
theorem IntsAt.below {w w' : World} {b o : Nat} {l : List Int} (h : IntsAt w b o l) (hb : Below w.heap.size w w') : IntsAt w' b o l := fun k x hx => by
  have hl := World.block_lt_of_cell? w ⟨b, o + k, none⟩ (h k x hx)
  rw [hb.cell (by simpa using hl)]; exact h k x hx
theorem Ints.below {w w' : World} {A : Option Addr} {l : List Int} (h : Ints w A l) (hb : Below w.heap.size w w') : Ints w' A l := fun hl => by
  obtain ⟨b, o, e, h1⟩ := h hl
  exact ⟨b, o, e, h1.below hb⟩
theorem Ints.later {w : World} {A : Option Addr} {l : List Int} (h : Ints w A l) (y : Later w) : Ints y.w A l := h.below y.below
theorem staCells_length (l : List Sta) : (staCells l).length = l.length * 5 := by
  induction l with
  | nil => rfl
  | cons x l ih => simp only [staCells, List.flatMap_cons, List.length_append] at ih ⊢; rw [ih]; simp [Sta.cells]; omega
theorem staCells_at {l : List Sta} {k : Nat} {x : Sta} (h : l[k]? = some x) (j : Nat) (hj : j < 5) : (staCells l)[k * 5 + j]? = x.cells[j]? := by
  induction l generalizing k with
  | nil => simp at h
  | cons y l ih =>
    have hc : y.cells.length = 5 := rfl
    cases k with
    | zero =>
      simp only [List.getElem?_cons_zero, Option.some.injEq] at h
      subst h
      simp only [staCells, List.flatMap_cons, Nat.zero_mul, Nat.zero_add]
      rw [List.getElem?_append_left (by omega)]
    | succ k =>
      rw [List.getElem?_cons_succ] at h
      have := ih h
      simp only [staCells, List.flatMap_cons] at this ⊢
      rw [List.getElem?_append_right (by omega), hc, ← this]
      congr 1; omega
theorem staCells_set {l : List Sta} {k : Nat} (hk : k < l.length) (x : Sta) : (((((staCells l).set (k * 5) (.string x.id)).set (k * 5 + 1) (.int .i64 x.ri)).set (k * 5 + 2) (.int .i64 x.de)).set (k * 5 + 3) (.int .i64 x.ma)).set (k * 5 + 4) (.int .i64 x.co) = staCells (l.set k x) := by
  induction l generalizing k with
  | nil => simp at hk
  | cons y l ih =>
    cases k with
    | zero => simp [staCells, Sta.cells]
    | succ k =>
      have h := ih (k := k) (by simpa using hk)
      have e : staCells (y :: l) = y.cells ++ staCells l := by simp [staCells]
      have hc : y.cells.length = 5 := rfl
      have e2 : staCells ((y :: l).set (k + 1) x) = y.cells ++ staCells (l.set k x) := by simp [staCells]
      rw [e, e2, ← h]
      rw [List.set_append_right _ _ (by omega), List.set_append_right _ _ (by omega), List.set_append_right _ _ (by omega), List.set_append_right _ _ (by omega), List.set_append_right _ _ (by omega), hc]
      rw [show (k + 1) * 5 - 5 = k * 5 by omega, show (k + 1) * 5 + 1 - 5 = k * 5 + 1 by omega, show (k + 1) * 5 + 2 - 5 = k * 5 + 2 by omega, show (k + 1) * 5 + 3 - 5 = k * 5 + 3 by omega, show (k + 1) * 5 + 4 - 5 = k * 5 + 4 by omega]
/-- a block that is known whole -/
def Blk (w : World) (g : Nat) (t : TypeId) (cs : List Value) : Prop := w.heap[g]? = some (.cells cs.toArray t (0, 0))
section
variable {w w' : World} {g : Nat} {t : TypeId} {cs : List Value}
theorem Blk.lt (h : Blk w g t cs) : g < w.heap.size := by
  rcases Nat.lt_or_ge g w.heap.size with hlt | hge
  · exact hlt
  · unfold Blk at h; rw [Array.getElem?_eq_none hge] at h; cases h
theorem Blk.cell (h : Blk w g t cs) (i : Nat) : w.cell? ⟨g, i, none⟩ = cs[i]? := by rw [cell_of_row w g i cs.toArray t (0, 0) h]; simp
theorem Blk.frozen (h : Blk w g t cs) (i : Nat) : w.frozen? ⟨g, i, none⟩ = false := by
  unfold Blk at h
  simp [World.frozen?, h]
theorem Blk.set_ (h : Blk w g t cs) (i : Nat) (u : Value) : Blk (w.setCell ⟨g, i, none⟩ u) g t (cs.set i u) := by
  unfold Blk at h ⊢
  simp [World.setCell, Array.getElem?_modify, h]
theorem Blk.far (h : Blk w g t cs) {p : Addr} (hp : g ≠ p.block) (u : Value) : Blk (w.setCell p u) g t cs := (Below.heap_setCell w p u g hp).trans h
theorem Blk.below {B : Nat} (h : Blk w g t cs) (hb : Below B w w') (hg : g < B) : Blk w' g t cs := (hb.block g hg).trans h
theorem Blk.keep (h : Blk w g t cs) (hb : Below w.heap.size w w') : Blk w' g t cs := (hb.block g h.lt).trans h
theorem Blk.drew (h : Blk w g t cs) : Blk w.drew g t cs := h
theorem Blk.drewN (h : Blk w g t cs) (n : Nat) : Blk (w.drewN n) g t cs := h
theorem Blk.alloc (h : Blk w g t cs) (o : Obj) : Blk (w.alloc o) g t cs := (Below.heap_alloc w o g h.lt).trans h
theorem Blk.new (w : World) (t : TypeId) (cs : List Value) : Blk (w.alloc (.cells cs.toArray t)) w.heap.size t cs := heap_alloc_new w _
end
theorem Blk.sta {w : World} {g : Nat} {t : TypeId} {l : List Sta} (h : Blk w g t (staCells l)) {k : Nat} (hk : k < l.length) (x : Sta) :
    Blk (((((w.setCell ⟨g, k * 5, none⟩ (.string x.id)).setCell ⟨g, k * 5 + 1, none⟩ (.int .i64 x.ri)).setCell ⟨g, k * 5 + 2, none⟩ (.int .i64 x.de)).setCell ⟨g, k * 5 + 3, none⟩ (.int .i64 x.ma)).setCell ⟨g, k * 5 + 4, none⟩ (.int .i64 x.co)) g t (staCells (l.set k x)) := by
  rw [← staCells_set hk x]
  exact ((((h.set_ _ _).set_ _ _).set_ _ _).set_ _ _).set_ _ _
theorem stasAt_of_cells {w : World} {b o : Nat} {l : List Sta} (h : ∀ j u, (staCells l)[j]? = some u → w.cell? ⟨b, o + j, none⟩ = some u) : StasAt w b o l := fun k x hx => by
  refine ⟨?_, ?_, ?_, ?_, ?_⟩
  · have := h (k * 5 + 0) _ (by rw [staCells_at hx 0 (by omega)]; rfl); simpa using this
  · have := h (k * 5 + 1) _ (by rw [staCells_at hx 1 (by omega)]; rfl); simpa [Nat.add_assoc] using this
  · have := h (k * 5 + 2) _ (by rw [staCells_at hx 2 (by omega)]; rfl); simpa [Nat.add_assoc] using this
  · have := h (k * 5 + 3) _ (by rw [staCells_at hx 3 (by omega)]; rfl); simpa [Nat.add_assoc] using this
  · have := h (k * 5 + 4) _ (by rw [staCells_at hx 4 (by omega)]; rfl); simpa [Nat.add_assoc] using this
/-- a row of the call's own reads as its stars -/
theorem Stars.of_own {w : World} {base : Nat} {e : TypeId} {A : Option Addr} {n c : Nat} {l : List Sta} (h : w.ownsRow base e 5 (.slice A n c) n (staCells l)) : Stars w A l := fun hl => by
  rcases h.2 with ⟨hv, hn⟩ | ⟨g, cap, cur, hv, _, hh, _, _, hs, ht⟩
  · exfalso
    have := h.1
    rw [staCells_length, hn] at this; omega
  · injection hv with hA _ _
    subst hA
    refine ⟨g, 0, rfl, stasAt_of_cells fun j u hu => ?_⟩
    rw [← ht, List.getElem?_take] at hu
    split at hu
    · rw [cell_of_row w g (0 + j) cur e (0, 0) hh]; simpa using hu
    · cases hu
theorem addr_add (b o j : Nat) : (⟨b, o, none⟩ : Addr).add j = ⟨b, o + j, none⟩ := by
  unfold Addr.add; split
  · next h => subst h; rfl
  · rfl
theorem spot_none {w : World} {a : Addr} {v : Value} (h : w.cell? a = some v) : a.spot = none := by
  unfold World.cell? at h
  split at h
  · split at h
    · cases h
    · next hs => cases hsp : a.spot with
      | none => rfl
      | some x => rw [hsp] at hs; simp at hs
  · cases h
theorem addr_of_spot {a : Addr} (h : a.spot = none) : a = ⟨a.block, a.off, none⟩ := by cases a; simp at h; subst h; rfl
section
variable {H : Type} {enc : TypeId × Value → H} {P : Program} {w : World} {base : Nat} {spare : Nat → Bool} {held : Bool}
/-- a list of stars that came in -/
theorem open_stars {r : Reach} {b0 : Nat} {t e : TypeId} {f0 f1 f2 f3 f4 : Field} {v : Value} {d : DataW H} {p : List MemPlace} (ht : P.underlying t = some (.slice e)) (hs : P.underlying e = some (.struct #[f0, f1, f2, f3, f4]))
    (hone : oneCellFields P #[f0, f1, f2, f3, f4] = true) (hC : P.cellsOf e = 5) (u0 : P.underlying f0.type = some .string) (u1 : P.underlying f1.type = some (.int .i64)) (u2 : P.underlying f2.type = some (.int .i64))
    (u3 : P.underlying f3.type = some (.int .i64)) (u4 : P.underlying f4.type = some (.int .i64)) (hv : Value.okWide P w r b0 t v) (h : DataW.Trod enc P w base spare held t v d p) :
    ∃ (A : Option Addr) (n c : Nat) (l : List Sta), v = .slice A n c ∧ l.length = n ∧ n ≤ 9223372036854775807 ∧ n ≤ c ∧ c ≤ 9223372036854775807 ∧ Stars w A l ∧ ∀ x ∈ l, x.i64 := by
  obtain ⟨A, n, c, rfl⟩ := okWide_slice ht hv
  obtain ⟨fuel, hf⟩ := h
  have hf' : DataW.trod enc P w base spare held fuel t [.slice A n c] = some (d, p) := hf
  rcases open_slice ht hf' with ⟨hcs, _⟩ | ⟨a, len, cap, m, n', D, Pl, hcs, hb, hl, hm, hmm, hx, hi⟩
  · simp only [List.cons.injEq, Value.slice.injEq, and_true] at hcs
    obtain ⟨rfl, rfl, rfl⟩ := hcs
    exact ⟨none, 0, 0, [], rfl, rfl, by omega, by omega, by omega, fun h => absurd h (by simp), fun x hx => by cases hx⟩
  · simp only [List.cons.injEq, Value.slice.injEq, and_true] at hcs
    obtain ⟨rfl, rfl, rfl⟩ := hcs
    have hlm : n ≤ m := by rw [hmm]; split <;> omega
    have each : ∀ i, i < n → ∃ x : Sta, a.spot = none ∧ StaAt w a.block (a.off + i * 5) x ∧ x.i64 := by
      intro i hin
      obtain ⟨cs', h1, h2⟩ := hi i (by omega)
      rw [hC] at h1
      obtain ⟨_, hlen, hcell⟩ := World.cells?_some h1
      obtain ⟨xs, k, _, _, _, hxl, hg⟩ := DataW.trod_struct hs h2
      obtain ⟨o0, k0⟩ := hone_of hone 0 f0 rfl
      obtain ⟨o1, k1⟩ := hone_of hone 1 f1 rfl
      obtain ⟨o2, k2⟩ := hone_of hone 2 f2 rfl
      obtain ⟨o3, k3⟩ := hone_of hone 3 f3 rfl
      obtain ⟨o4, k4⟩ := hone_of hone 4 f4 rfl
      match xs, hxl, cs', hlen with
      | [y0, y1, y2, y3, y4], _, [v0, v1, v2, v3, v4], _ =>
        have g0 := hg 0 f0 rfl
        have g1 := hg 1 f1 rfl
        have g2 := hg 2 f2 rfl
        have g3 := hg 3 f3 rfl
        have g4 := hg 4 f4 rfl
        simp [o0, o1, o2, o3, o4, k0, k1, k2, k3, k4] at g0 g1 g2 g3 g4
        obtain ⟨s, rfl, q0⟩ := cell_string u0 g0
        obtain ⟨z1, rfl, q1⟩ := cell_int u1 g1
        obtain ⟨z2, rfl, q2⟩ := cell_int u2 g2
        obtain ⟨z3, rfl, q3⟩ := cell_int u3 g3
        obtain ⟨z4, rfl, q4⟩ := cell_int u4 g4
        have e0 := hcell 0 (by omega)
        have e1 := hcell 1 (by omega)
        have e2 := hcell 2 (by omega)
        have e3 := hcell 3 (by omega)
        have e4 := hcell 4 (by omega)
        rw [add_add] at e0 e1 e2 e3 e4
        have e1' : w.cell? (a.add (i * 5 + 1)) = some (.int .i64 z1) := e1
        have hsp : a.spot = none := by
          have hh := spot_none e1'
          by_cases hz : a.spot = none
          · exact hz
          · obtain ⟨cs2, h12, h22⟩ := hi 0 (by omega)
            rw [hC] at h12
            obtain ⟨_, hlen2, hcell2⟩ := World.cells?_some h12
            have := hcell2 0 (by omega)
            rw [add_add] at this
            have hc2 : cs2[0]? = some (cs2[0]'(by omega)) := List.getElem?_eq_getElem (by omega)
            rw [hc2] at this
            exact spot_none (a := a) this
        refine ⟨⟨s, z1, z2, z3, z4⟩, hsp, ?_, q0, q1, q2, q3, q4⟩
        rw [addr_of_spot hsp, addr_add] at e0 e1 e2 e3 e4
        exact ⟨by simpa using e0, by simpa [Nat.add_assoc] using e1, by simpa [Nat.add_assoc] using e2, by simpa [Nat.add_assoc] using e3, by simpa [Nat.add_assoc] using e4⟩
    obtain ⟨f, hfn⟩ := choose_lt each
    refine ⟨some a, n, c, (List.range n).map f, rfl, by simp, by unfold maxLen at hm; omega, hl, by unfold maxLen at hm; omega, fun hp => ?_, fun x hx => ?_⟩
    · have hn : 0 < n := by simpa using hp
      refine ⟨a.block, a.off, congrArg some (addr_of_spot (hfn 0 hn).1), fun k x hx => ?_⟩
      rw [List.getElem?_map] at hx
      by_cases hk : k < n
      · rw [List.getElem?_range hk] at hx
        simp only [Option.map_some, Option.some.injEq] at hx
        subst hx
        exact (hfn k hk).2.1
      · rw [List.getElem?_eq_none (by simp; omega)] at hx; cases hx
    · obtain ⟨k, hk, rfl⟩ := List.mem_map.1 hx
      exact (hfn k (List.mem_range.1 hk)).2.2
end
theorem Blk.stas {w : World} {g : Nat} {t : TypeId} {l : List Sta} (h : Blk w g t (staCells l)) : StasAt w g 0 l := stasAt_of_cells fun j u hu => by rw [h.cell]; simpa using hu
theorem Blk.stars {w : World} {g : Nat} {t : TypeId} {l : List Sta} (h : Blk w g t (staCells l)) : Stars w (some ⟨g, 0, none⟩) l := fun _ => ⟨g, 0, rfl, h.stas⟩
def siteCells (tn : ByteArray) (lo la : Int) : List Value := [.string tn, .int .i64 lo, .int .i64 la]
theorem Blk.site {w : World} {g : Nat} {t : TypeId} {tn : ByteArray} {lo la : Int} (h : Blk w g t (siteCells tn lo la)) : w.cell? ⟨g, 0, none⟩ = some (.string tn) ∧ w.cell? ⟨g, 1, none⟩ = some (.int .i64 lo) ∧ w.cell? ⟨g, 2, none⟩ = some (.int .i64 la) := ⟨by rw [h.cell]; rfl, by rw [h.cell]; rfl, by rw [h.cell]; rfl⟩
end Go.Proofs.YtpnfhienffekoaaGreatDoor
