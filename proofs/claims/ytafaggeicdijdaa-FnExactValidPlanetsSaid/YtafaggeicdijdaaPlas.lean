/- How lists of planets and of numbers lie in memory. Nothing of the program is named here. -/
import Derived.Test.YtafaggeicdijdaaPlainPlas
import Derived.Test.YtafaggeicdijdaaStars
import Derived.Test.YtafaggeicdijdaaOpen
import Derived.Test.YtafaggeicdijdaaLater
import Derived.Laws.OwnMore
import Derived.Laws.AppendOwn
namespace Go.Proofs.Ytafaggeicdijdaa
set_option linter.unusedVariables false
set_option linter.unusedSimpArgs false
open Go.RowKit Go.ChangeShapes Go.WideShapes Go.Deep
instance : Inhabited Pla := ⟨⟨ByteArray.empty, 0, 0, 0⟩⟩
def Pla.cells (x : Pla) : List Value := [.string x.id, .int .i64 x.ri, .int .i64 x.de, .int .i64 x.ma]
def Pla.i64 (x : Pla) : Prop := StrOk x.id ∧ I64 x.ri ∧ I64 x.de ∧ I64 x.ma
def plaCells (l : List Pla) : List Value := l.flatMap Pla.cells
/-- a plar lies there -/
def PlaAt (w : World) (b o : Nat) (x : Pla) : Prop := w.cell? ⟨b, o, none⟩ = some (.string x.id) ∧ w.cell? ⟨b, o + 1, none⟩ = some (.int .i64 x.ri) ∧ w.cell? ⟨b, o + 2, none⟩ = some (.int .i64 x.de) ∧ w.cell? ⟨b, o + 3, none⟩ = some (.int .i64 x.ma)
def PlasAt (w : World) (b o : Nat) (l : List Pla) : Prop := ∀ k x, l[k]? = some x → PlaAt w b (o + k * 4) x
/-- the slice that begins there reads as this list of planets -/
def Plans (w : World) (A : Option Addr) (l : List Pla) : Prop := 0 < l.length → ∃ b o, A = some ⟨b, o, none⟩ ∧ PlasAt w b o l
theorem PlaAt.lt {w : World} {b o : Nat} {x : Pla} (h : PlaAt w b o x) : b < w.heap.size := World.block_lt_of_cell? w ⟨b, o, none⟩ h.1
theorem PlaAt.below {w w' : World} {b o : Nat} {x : Pla} (h : PlaAt w b o x) (hb : Below w.heap.size w w') : PlaAt w' b o x := by
  have hl := h.lt
  obtain ⟨h0, h1, h2, h3⟩ := h
  refine ⟨?_, ?_, ?_, ?_⟩ <;> rw [hb.cell (by simpa using hl)] <;> assumption
theorem PlasAt.below {w w' : World} {b o : Nat} {l : List Pla} (h : PlasAt w b o l) (hb : Below w.heap.size w w') : PlasAt w' b o l := fun k x hx => (h k x hx).below hb
theorem Plans.below {w w' : World} {A : Option Addr} {l : List Pla} (h : Plans w A l) (hb : Below w.heap.size w w') : Plans w' A l := fun hl => by
  obtain ⟨b, o, e, h1⟩ := h hl
  exact ⟨b, o, e, h1.below hb⟩
theorem Plans.later {w : World} {A : Option Addr} {l : List Pla} (h : Plans w A l) (y : Later w) : Plans y.w A l := h.below y.below
theorem plaCells_length (l : List Pla) : (plaCells l).length = l.length * 4 := by
  induction l with
  | nil => rfl
  | cons x l ih => simp only [plaCells, List.flatMap_cons, List.length_append] at ih ⊢; rw [ih]; simp [Pla.cells]; omega
theorem plaCells_at {l : List Pla} {k : Nat} {x : Pla} (h : l[k]? = some x) (j : Nat) (hj : j < 4) : (plaCells l)[k * 4 + j]? = x.cells[j]? := by
  induction l generalizing k with
  | nil => simp at h
  | cons y l ih =>
    have hc : y.cells.length = 4 := rfl
    cases k with
    | zero =>
      simp only [List.getElem?_cons_zero, Option.some.injEq] at h
      subst h
      simp only [plaCells, List.flatMap_cons, Nat.zero_mul, Nat.zero_add]
      rw [List.getElem?_append_left (by omega)]
    | succ k =>
      rw [List.getElem?_cons_succ] at h
      have := ih h
      simp only [plaCells, List.flatMap_cons] at this ⊢
      rw [List.getElem?_append_right (by omega), hc, ← this]
      congr 1; omega
theorem plaCells_set {l : List Pla} {k : Nat} (hk : k < l.length) (x : Pla) : ((((plaCells l).set (k * 4) (.string x.id)).set (k * 4 + 1) (.int .i64 x.ri)).set (k * 4 + 2) (.int .i64 x.de)).set (k * 4 + 3) (.int .i64 x.ma) = plaCells (l.set k x) := by
  induction l generalizing k with
  | nil => simp at hk
  | cons y l ih =>
    cases k with
    | zero => simp [plaCells, Pla.cells]
    | succ k =>
      have h := ih (k := k) (by simpa using hk)
      have e : plaCells (y :: l) = y.cells ++ plaCells l := by simp [plaCells]
      have hc : y.cells.length = 4 := rfl
      have e2 : plaCells ((y :: l).set (k + 1) x) = y.cells ++ plaCells (l.set k x) := by simp [plaCells]
      rw [e, e2, ← h]
      rw [List.set_append_right _ _ (by omega), List.set_append_right _ _ (by omega), List.set_append_right _ _ (by omega), List.set_append_right _ _ (by omega), hc]
      rw [show (k + 1) * 4 - 4 = k * 4 by omega, show (k + 1) * 4 + 1 - 4 = k * 4 + 1 by omega, show (k + 1) * 4 + 2 - 4 = k * 4 + 2 by omega, show (k + 1) * 4 + 3 - 4 = k * 4 + 3 by omega]
theorem Blk.pla {w : World} {g : Nat} {t : TypeId} {l : List Pla} (h : Blk w g t (plaCells l)) {k : Nat} (hk : k < l.length) (x : Pla) :
    Blk ((((w.setCell ⟨g, k * 4, none⟩ (.string x.id)).setCell ⟨g, k * 4 + 1, none⟩ (.int .i64 x.ri)).setCell ⟨g, k * 4 + 2, none⟩ (.int .i64 x.de)).setCell ⟨g, k * 4 + 3, none⟩ (.int .i64 x.ma)) g t (plaCells (l.set k x)) := by
  rw [← plaCells_set hk x]
  exact (((h.set_ _ _).set_ _ _).set_ _ _).set_ _ _
theorem plasAt_of_cells {w : World} {b o : Nat} {l : List Pla} (h : ∀ j u, (plaCells l)[j]? = some u → w.cell? ⟨b, o + j, none⟩ = some u) : PlasAt w b o l := fun k x hx => by
  refine ⟨?_, ?_, ?_, ?_⟩
  · have := h (k * 4 + 0) _ (by rw [plaCells_at hx 0 (by omega)]; rfl); simpa using this
  · have := h (k * 4 + 1) _ (by rw [plaCells_at hx 1 (by omega)]; rfl); simpa [Nat.add_assoc] using this
  · have := h (k * 4 + 2) _ (by rw [plaCells_at hx 2 (by omega)]; rfl); simpa [Nat.add_assoc] using this
  · have := h (k * 4 + 3) _ (by rw [plaCells_at hx 3 (by omega)]; rfl); simpa [Nat.add_assoc] using this
/-- a row of the call's own reads as its plans -/
theorem Plans.of_own {w : World} {base : Nat} {e : TypeId} {A : Option Addr} {n c : Nat} {l : List Pla} (h : w.ownsRow base e 4 (.slice A n c) n (plaCells l)) : Plans w A l := fun hl => by
  rcases h.2 with ⟨hv, hn⟩ | ⟨g, cap, cur, hv, _, hh, _, _, hs, ht⟩
  · exfalso
    have := h.1
    rw [plaCells_length, hn] at this; omega
  · injection hv with hA _ _
    subst hA
    refine ⟨g, 0, rfl, plasAt_of_cells fun j u hu => ?_⟩
    rw [← ht, List.getElem?_take] at hu
    split at hu
    · rw [cell_of_row w g (0 + j) cur e (0, 0) hh]; simpa using hu
    · cases hu
section
variable {H : Type} {enc : TypeId × Value → H} {P : Program} {w : World} {base : Nat} {spare : Nat → Bool} {held : Bool}
/-- a list of planets that came in -/
theorem open_plans {r : Reach} {b0 : Nat} {t e : TypeId} {f0 f1 f2 f3 : Field} {v : Value} {d : DataW H} {p : List MemPlace} (ht : P.underlying t = some (.slice e)) (hs : P.underlying e = some (.struct #[f0, f1, f2, f3]))
    (hone : oneCellFields P #[f0, f1, f2, f3] = true) (hC : P.cellsOf e = 4) (u0 : P.underlying f0.type = some .string) (u1 : P.underlying f1.type = some (.int .i64)) (u2 : P.underlying f2.type = some (.int .i64))
    (u3 : P.underlying f3.type = some (.int .i64)) (hv : Value.okWide P w r b0 t v) (h : DataW.Trod enc P w base spare held t v d p) :
    ∃ (A : Option Addr) (n c : Nat) (l : List Pla), v = .slice A n c ∧ l.length = n ∧ n ≤ 9223372036854775807 ∧ n ≤ c ∧ c ≤ 9223372036854775807 ∧ Plans w A l ∧ ∀ x ∈ l, x.i64 := by
  obtain ⟨A, n, c, rfl⟩ := okWide_slice ht hv
  obtain ⟨fuel, hf⟩ := h
  have hf' : DataW.trod enc P w base spare held fuel t [.slice A n c] = some (d, p) := hf
  rcases open_slice ht hf' with ⟨hcs, _⟩ | ⟨a, len, cap, m, n', D, Pl, hcs, hb, hl, hm, hmm, hx, hi⟩
  · simp only [List.cons.injEq, Value.slice.injEq, and_true] at hcs
    obtain ⟨rfl, rfl, rfl⟩ := hcs
    exact ⟨none, 0, 0, [], rfl, rfl, by omega, by omega, by omega, fun h => absurd h (by simp), fun x hx => by cases hx⟩
  · simp only [List.cons.injEq, Value.slice.injEq, and_true] at hcs
    obtain ⟨rfl, rfl, rfl⟩ := hcs
    have hlm : n ≤ m := by rw [hmm]; split <;> omega
    have each : ∀ i, i < n → ∃ x : Pla, a.spot = none ∧ PlaAt w a.block (a.off + i * 4) x ∧ x.i64 := by
      intro i hin
      obtain ⟨cs', h1, h2⟩ := hi i (by omega)
      rw [hC] at h1
      obtain ⟨_, hlen, hcell⟩ := World.cells?_some h1
      obtain ⟨xs, k, _, _, _, hxl, hg⟩ := DataW.trod_struct hs h2
      obtain ⟨o0, k0⟩ := hone_of hone 0 f0 rfl
      obtain ⟨o1, k1⟩ := hone_of hone 1 f1 rfl
      obtain ⟨o2, k2⟩ := hone_of hone 2 f2 rfl
      obtain ⟨o3, k3⟩ := hone_of hone 3 f3 rfl
      match xs, hxl, cs', hlen with
      | [y0, y1, y2, y3], _, [v0, v1, v2, v3], _ =>
        have g0 := hg 0 f0 rfl
        have g1 := hg 1 f1 rfl
        have g2 := hg 2 f2 rfl
        have g3 := hg 3 f3 rfl
        simp [o0, o1, o2, o3, k0, k1, k2, k3] at g0 g1 g2 g3
        obtain ⟨s, rfl, q0⟩ := cell_string u0 g0
        obtain ⟨z1, rfl, q1⟩ := cell_int u1 g1
        obtain ⟨z2, rfl, q2⟩ := cell_int u2 g2
        obtain ⟨z3, rfl, q3⟩ := cell_int u3 g3
        have e0 := hcell 0 (by omega)
        have e1 := hcell 1 (by omega)
        have e2 := hcell 2 (by omega)
        have e3 := hcell 3 (by omega)
        rw [add_add] at e0 e1 e2 e3
        have e1' : w.cell? (a.add (i * 4 + 1)) = some (.int .i64 z1) := e1
        have hsp : a.spot = none := by
          have hh := spot_none e1'
          by_cases hz : a.spot = none
          · exact hz
          · obtain ⟨cs2, h12, h22⟩ := hi 0 (by omega)
            rw [hC] at h12
            obtain ⟨_, hlen2, hcell2⟩ := World.cells?_some h12
            have := hcell2 0 (by omega)
            rw [add_add] at this
            have hc2 : cs2[0]? = some (cs2[0]'(by omega)) := List.getElem?_eq_getElem (by omega)
            rw [hc2] at this
            exact spot_none (a := a) this
        refine ⟨⟨s, z1, z2, z3⟩, hsp, ?_, q0, q1, q2, q3⟩
        rw [addr_of_spot hsp, addr_add] at e0 e1 e2 e3
        exact ⟨by simpa using e0, by simpa [Nat.add_assoc] using e1, by simpa [Nat.add_assoc] using e2, by simpa [Nat.add_assoc] using e3⟩
    obtain ⟨f, hfn⟩ := choose_lt each
    refine ⟨some a, n, c, (List.range n).map f, rfl, by simp, by unfold maxLen at hm; omega, hl, by unfold maxLen at hm; omega, fun hp => ?_, fun x hx => ?_⟩
    · have hn : 0 < n := by simpa using hp
      refine ⟨a.block, a.off, congrArg some (addr_of_spot (hfn 0 hn).1), fun k x hx => ?_⟩
      rw [List.getElem?_map] at hx
      by_cases hk : k < n
      · rw [List.getElem?_range hk] at hx
        simp only [Option.map_some, Option.some.injEq] at hx
        subst hx
        exact (hfn k hk).2.1
      · rw [List.getElem?_eq_none (by simp; omega)] at hx; cases hx
    · obtain ⟨k, hk, rfl⟩ := List.mem_map.1 hx
      exact (hfn k (List.mem_range.1 hk)).2.2
end
theorem Blk.plas {w : World} {g : Nat} {t : TypeId} {l : List Pla} (h : Blk w g t (plaCells l)) : PlasAt w g 0 l := plasAt_of_cells fun j u hu => by rw [h.cell]; simpa using hu
theorem Blk.plans {w : World} {g : Nat} {t : TypeId} {l : List Pla} (h : Blk w g t (plaCells l)) : Plans w (some ⟨g, 0, none⟩) l := fun _ => ⟨g, 0, rfl, h.plas⟩
end Go.Proofs.Ytafaggeicdijdaa
