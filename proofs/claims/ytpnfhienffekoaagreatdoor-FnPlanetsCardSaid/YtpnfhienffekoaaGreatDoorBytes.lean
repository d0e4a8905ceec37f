/- Lists of bytes that came in. -/
import Derived.Test.YtpnfhienffekoaaGreatDoorNums
namespace Go.Proofs.YtpnfhienffekoaaGreatDoor
set_option linter.unusedVariables false
set_option linter.unusedSimpArgs false
open Go.RowKit
/-- A list of bytes in memory. -/
def Bytes (w : World) (A : Option Addr) (l : List Int) : Prop := 0 < l.length → ∃ b o, A = some ⟨b, o, none⟩ ∧ ∀ k x, l[k]? = some x → w.cell? ⟨b, o + k, none⟩ = some (.int .u8 x)
def ByteOk (x : Int) : Prop := 0 ≤ x ∧ x ≤ 255
/-- a byte of memory lies in a block of the world -/
theorem Bytes.lt {w : World} {b o : Nat} {l : List Int} (h : Bytes w (some ⟨b, o, none⟩) l) (hl : 0 < l.length) : b < w.heap.size := by
  obtain ⟨b', o', e, hc⟩ := h hl
  obtain ⟨rfl, rfl⟩ : b = b' ∧ o = o' := by injection e with e; injection e with e1 e2; exact ⟨e1, e2⟩
  obtain ⟨x, hx⟩ := at_lt (l := l) (k := 0) hl
  exact World.block_lt_of_cell? w _ (hc 0 x hx)
theorem Bytes.keep {w w' : World} {A : Option Addr} {l : List Int} (h : Bytes w A l) (hk : ∀ b, b < w.heap.size → 0 < l.length → (∃ o, A = some ⟨b, o, none⟩) → w'.heap[b]? = w.heap[b]?) : Bytes w' A l := fun hl => by
  obtain ⟨b, o, e, hc⟩ := h hl
  obtain ⟨x0, hx0⟩ := at_lt (l := l) (k := 0) hl
  have hb := World.block_lt_of_cell? w _ (hc 0 x0 hx0)
  refine ⟨b, o, e, fun k x hx => ?_⟩
  rw [← hc k x hx]
  simp only [World.cell?]
  rw [hk b hb hl ⟨o, e⟩]
theorem Bytes.below {w w' : World} {A : Option Addr} {l : List Int} (h : Bytes w A l) (hb : Below w.heap.size w w') : Bytes w' A l := h.keep fun b hl _ _ => hb.block b hl
section
open Go.ChangeShapes Go.WideShapes Go.Deep
variable {H : Type} {enc : TypeId × Value → H} {P : Program} {w : World} {base : Nat} {spare : Nat → Bool} {held : Bool}
/-- a list of bytes that came in -/
theorem open_bytes {r : Reach} {b0 : Nat} {t e : TypeId} {v : Value} {d : DataW H} {p : List MemPlace} (ht : P.underlying t = some (.slice e)) (he : P.underlying e = some (.int .u8)) (hC : P.cellsOf e = 1)
    (hv : Value.okWide P w r b0 t v) (h : DataW.Trod enc P w base spare held t v d p) :
    ∃ (A : Option Addr) (n c : Nat) (l : List Int), v = .slice A n c ∧ l.length = n ∧ n ≤ 9223372036854775807 ∧ n ≤ c ∧ c ≤ 9223372036854775807 ∧ Bytes w A l ∧ ∀ x ∈ l, ByteOk x := by
  obtain ⟨A, n, c, rfl⟩ := okWide_slice ht hv
  obtain ⟨fuel, hf⟩ := h
  have hf' : DataW.trod enc P w base spare held fuel t [.slice A n c] = some (d, p) := hf
  rcases open_ints ht he hC hf' with ⟨hcs, _⟩ | ⟨a, len, cap, zs, hcs, _, hl, hm, hz, _, hcell, hwz⟩
  · simp only [List.cons.injEq, Value.slice.injEq, and_true] at hcs
    obtain ⟨rfl, rfl, rfl⟩ := hcs
    exact ⟨none, 0, 0, [], rfl, rfl, by omega, by omega, by omega, fun h => absurd h (by simp), fun x hx => by cases hx⟩
  · simp only [List.cons.injEq, Value.slice.injEq, and_true] at hcs
    obtain ⟨rfl, rfl, rfl⟩ := hcs
    have hln : n ≤ zs.length := by rw [hz]; split <;> omega
    refine ⟨some a, n, c, zs.take n, rfl, by simp; omega, by unfold maxLen at hm; omega, hl, by unfold maxLen at hm; omega, fun hp => ?_, fun x hx => ?_⟩
    · have hn : 0 < n := by simp at hp; omega
      have hsp := spot_none (a := a) (hcell 0 (by omega))
      refine ⟨a.block, a.off, congrArg some (addr_of_spot hsp), fun k x hx => ?_⟩
      rw [List.getElem?_take] at hx
      split at hx
      · have := hcell k (by omega)
        rw [addr_of_spot hsp, addr_add, List.getD_eq_getElem?_getD, hx] at this
        exact this
      · cases hx
    · have := hwz x (List.mem_of_mem_take hx)
      have e1 : IntKind.u8.min = 0 := by decide
      have e2 : IntKind.u8.max = 255 := by decide
      simp [Lit.wf, e1, e2] at this
      exact this
end
end Go.Proofs.YtpnfhienffekoaaGreatDoor
