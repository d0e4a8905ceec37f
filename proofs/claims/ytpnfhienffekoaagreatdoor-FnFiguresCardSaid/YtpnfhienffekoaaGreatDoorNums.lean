/- Contracts of the functions on lists of numbers: copied, held against one another, marked, held against the marks. -/
import Derived.Test.YtpnfhienffekoaaGreatDoorGrpNum
import Derived.Test.YtpnfhienffekoaaGreatDoorStars
namespace Go.Proofs.YtpnfhienffekoaaGreatDoor
set_option linter.unusedVariables false
set_option linter.unusedSimpArgs false
open Go.RowKit
def numCells (l : List Int) : List Value := l.map (Value.int .i64)
theorem numCells_length (l : List Int) : (numCells l).length = l.length := by simp [numCells]
theorem numCells_at {l : List Int} {k : Nat} {x : Int} (h : l[k]? = some x) : (numCells l)[k]? = some (.int .i64 x) := by simp [numCells, h]
theorem Blk.nums {w : World} {g : Nat} {t : TypeId} {l : List Int} (h : Blk w g t (numCells l)) : Ints w (some ⟨g, 0, none⟩) l := fun _ => ⟨g, 0, rfl, fun k x hx => by rw [h.cell]; simpa using numCells_at hx⟩
theorem Ints.of_own {w : World} {base : Nat} {e : TypeId} {A : Option Addr} {n c : Nat} {l : List Int} (h : w.ownsRow base e 1 (.slice A n c) n (numCells l)) : Ints w A l := fun hl => by
  rcases h.2 with ⟨hv, hn⟩ | ⟨g, cap, cur, hv, _, hh, _, _, hs, ht⟩
  · exfalso
    have := h.1
    rw [numCells_length, hn] at this; omega
  · injection hv with hA _ _
    subst hA
    refine ⟨g, 0, rfl, fun k x hx => ?_⟩
    have hu := numCells_at hx
    rw [← ht, List.getElem?_take] at hu
    split at hu
    · rw [cell_of_row w g (0 + k) cur e (0, 0) hh]; simpa using hu
    · cases hu
/-- the numbers from j on -/
def upFrom (j : Int) : Nat → List Int
  | 0 => []
  | n + 1 => upFrom j n ++ [j + n]
theorem upFrom_length (j : Int) (n : Nat) : (upFrom j n).length = n := by
  induction n with
  | zero => rfl
  | succ n ih => rw [upFrom, List.length_append, ih]; rfl
theorem upFrom_at (j : Int) (n k : Nat) (h : k < n) : (upFrom j n)[k]? = some (j + k) := by
  induction n with
  | zero => omega
  | succ n ih =>
    rw [upFrom]
    by_cases hk : k < n
    · rw [List.getElem?_append_left (by rw [upFrom_length]; exact hk)]; exact ih hk
    · rw [List.getElem?_append_right (by rw [upFrom_length]; omega), upFrom_length, show k - n = 0 by omega, show k = n by omega]; rfl
theorem upFrom_take (j : Int) (n k : Nat) (h : k ≤ n) : (upFrom j n).take k = upFrom j k := by
  apply List.ext_getElem?
  intro i
  rw [List.getElem?_take]
  split
  · next hi => rw [upFrom_at j n i (by omega), upFrom_at j k i hi]
  · next hi => rw [List.getElem?_eq_none (by rw [upFrom_length]; omega)]
/-- only one block has turned -/
theorem only_set {a w : World} {g : Nat} (h : a.grownBy w (some g)) (i : Nat) (u : Value) : a.grownBy (w.setCell ⟨g, i, none⟩ u) (some g) :=
  ⟨h.os, h.tape, h.output, by simpa [World.setCell] using h.size, fun k hk hne => (Below.heap_setCell w ⟨g, i, none⟩ u k (by rintro rfl; exact hne rfl)).trans (h.block k hk hne)⟩
theorem only_below {a w w' : World} {g : Nat} (h : a.grownBy w (some g)) (hb : Below w.heap.size w w') : a.grownBy w' (some g) :=
  ⟨hb.os.trans h.os, hb.tape.trans h.tape, hb.output.trans h.output, Nat.le_trans h.size hb.size, fun k hk hne => (hb.block k (Nat.lt_of_lt_of_le hk h.size)).trans (h.block k hk hne)⟩
theorem below_only {W a w : World} {g : Nat} (h : Below W.heap.size W a) (k : a.grownBy w (some g)) (hg : W.heap.size ≤ g) : Below W.heap.size W w :=
  h.grown k h.size (fun b hb => by injection hb with hb; subst hb; exact hg)
theorem Stars.only {w w' : World} {A : Option Addr} {l : List Sta} {g : Nat} (h : Stars w A l) (k : w.grownBy w' (some g)) (hne : ∀ a, 0 < l.length → A = some a → a.block ≠ g) : Stars w' A l := fun hl => by
  obtain ⟨b, o, rfl, hc⟩ := h hl
  have hb : b ≠ g := hne ⟨b, o, none⟩ hl rfl
  refine ⟨b, o, rfl, fun i x hx => ?_⟩
  have hlt := (hc i x hx).lt
  have e := k.block b hlt (fun e => hb (by injection e))
  obtain ⟨h0, h1, h2, h3, h4⟩ := hc i x hx
  exact ⟨(World.cell?_of_block e).trans h0, (World.cell?_of_block e).trans h1, (World.cell?_of_block e).trans h2, (World.cell?_of_block e).trans h3, (World.cell?_of_block e).trans h4⟩
theorem Ints.only {w w' : World} {A : Option Addr} {l : List Int} {g : Nat} (h : Ints w A l) (k : w.grownBy w' (some g)) (hne : ∀ a, 0 < l.length → A = some a → a.block ≠ g) : Ints w' A l := fun hl => by
  obtain ⟨b, o, rfl, hc⟩ := h hl
  have hb : b ≠ g := hne ⟨b, o, none⟩ hl rfl
  refine ⟨b, o, rfl, fun i x hx => ?_⟩
  have hlt := World.block_lt_of_cell? w ⟨b, o + i, none⟩ (hc i x hx)
  have e := k.block b hlt (fun e => hb (by injection e))
  exact (World.cell?_of_block e).trans (hc i x hx)
theorem Stars.lt {w : World} {A : Option Addr} {l : List Sta} (h : Stars w A l) : ∀ a, 0 < l.length → A = some a → a.block < w.heap.size := fun a hl e => by
  obtain ⟨b, o, e2, hc⟩ := h hl
  rw [e] at e2
  obtain ⟨x, hx⟩ : ∃ x, l[0]? = some x := at_lt hl
  injection e2 with e2
  subst e2
  exact (hc 0 x hx).lt
theorem Ints.lt {w : World} {A : Option Addr} {l : List Int} (h : Ints w A l) : ∀ a, 0 < l.length → A = some a → a.block < w.heap.size := fun a hl e => by
  obtain ⟨b, o, e2, hc⟩ := h hl
  rw [e] at e2
  obtain ⟨x, hx⟩ : ∃ x, l[0]? = some x := at_lt hl
  injection e2 with e2
  subst e2
  exact World.block_lt_of_cell? w _ (hc 0 x hx)
theorem take_set_num {ds : List Value} {k : Nat} {j : Int} (h : ds.take k = numCells (upFrom j k)) (hk : k < ds.length) : (ds.set k (.int .i64 (j + k))).take (k + 1) = numCells (upFrom j (k + 1)) := by
  rw [List.take_add_one, List.getElem?_set_self hk, List.take_set, List.set_eq_of_length_le (by simp; omega), h, upFrom, numCells, numCells, List.map_append]; rfl
section
open Go.ChangeShapes Go.WideShapes Go.Deep
variable {H : Type} {enc : TypeId × Value → H} {P : Program} {w : World} {base : Nat} {spare : Nat → Bool} {held : Bool}
/-- a list of numbers that came in -/
theorem open_nums {r : Reach} {b0 : Nat} {t e : TypeId} {v : Value} {d : DataW H} {p : List MemPlace} (ht : P.underlying t = some (.slice e)) (he : P.underlying e = some (.int .i64)) (hC : P.cellsOf e = 1)
    (hv : Value.okWide P w r b0 t v) (h : DataW.Trod enc P w base spare held t v d p) :
    ∃ (A : Option Addr) (n c : Nat) (l : List Int), v = .slice A n c ∧ l.length = n ∧ n ≤ 9223372036854775807 ∧ n ≤ c ∧ c ≤ 9223372036854775807 ∧ Ints w A l ∧ ∀ x ∈ l, I64 x := by
  obtain ⟨A, n, c, rfl⟩ := okWide_slice ht hv
  obtain ⟨fuel, hf⟩ := h
  have hf' : DataW.trod enc P w base spare held fuel t [.slice A n c] = some (d, p) := hf
  rcases open_ints ht he hC hf' with ⟨hcs, _⟩ | ⟨a, len, cap, zs, hcs, _, hl, hm, hz, _, hcell, hwz⟩
  · simp only [List.cons.injEq, Value.slice.injEq, and_true] at hcs
    obtain ⟨rfl, rfl, rfl⟩ := hcs
    exact ⟨none, 0, 0, [], rfl, rfl, by omega, by omega, by omega, fun h => absurd h (by simp), fun x hx => by cases hx⟩
  · simp only [List.cons.injEq, Value.slice.injEq, and_true] at hcs
    obtain ⟨rfl, rfl, rfl⟩ := hcs
    have hln : n ≤ zs.length := by rw [hz]; split <;> omega
    refine ⟨some a, n, c, zs.take n, rfl, by simp; omega, by unfold maxLen at hm; omega, hl, by unfold maxLen at hm; omega, fun hp => ?_, fun x hx => i64_of_wf (hwz x (List.mem_of_mem_take hx))⟩
    have hn : 0 < n := by simp at hp; omega
    have hsp := spot_none (a := a) (hcell 0 (by omega))
    refine ⟨a.block, a.off, congrArg some (addr_of_spot hsp), fun k x hx => ?_⟩
    rw [List.getElem?_take] at hx
    split at hx
    · have := hcell k (by omega)
      rw [addr_of_spot hsp, addr_add, List.getD_eq_getElem?_getD, hx] at this
      exact this
    · cases hx
end
theorem zeroNums_made (z : Array Value) (hz : z = #[.int .i64 0]) (n : Nat) : madeCells z (n * 1) = (numCells (List.replicate n 0)).toArray := by
  apply Array.ext_getElem?
  intro j
  by_cases hj : j < n
  · simp [madeCells, numCells, hz, hj, Nat.mod_one]
  · simp [madeCells, numCells, hz, hj]
theorem info_num : (Tryz.prog.info? 2).map (fun i => (i.zero, i.size, i.bytes)) = some (some (.int .i64 0), 1, 8) := by kernel_rfl
theorem numCells_set {ys : List Int} {k : Nat} {x : Int} : (numCells ys).set k (.int .i64 x) = numCells (ys.set k x) := by simp [numCells, List.map_set]
theorem take_set_any {α : Type} {ys l : List α} {k : Nat} {x : α} (h : ys.take k = l.take k) (hx : l[k]? = some x) (hk : k < ys.length) : (ys.set k x).take (k + 1) = l.take (k + 1) := by
  rw [List.take_add_one, List.take_add_one, List.getElem?_set_self hk, hx, List.take_set, List.set_eq_of_length_le (by simp; omega), h]
end Go.Proofs.YtpnfhienffekoaaGreatDoor
