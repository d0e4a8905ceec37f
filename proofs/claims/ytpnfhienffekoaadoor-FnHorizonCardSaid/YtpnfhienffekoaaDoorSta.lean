/- Contracts of the functions on lists of stars: how they are copied, held against one another, asked whether they are valid. -/
import Derived.Test.YtpnfhienffekoaaDoorGrpNum
import Derived.Test.YtpnfhienffekoaaDoorStars
import Derived.Deep.MidRow
namespace Go.Proofs.YtpnfhienffekoaaDoor
set_option linter.unusedVariables false
set_option linter.unusedSimpArgs false
open Go.RowKit
theorem zeroStas_made (z : Array Value) (hz : z = #[.string ByteArray.empty, .int .i64 0, .int .i64 0, .int .i64 0, .int .i64 0]) (n : Nat) : madeCells z (n * 5) = (staCells (List.replicate n ⟨ByteArray.empty, 0, 0, 0, 0⟩)).toArray := by
  apply Array.ext_getElem?
  intro j
  have hs : z.size = 5 := by rw [hz]; rfl
  by_cases hj : j < n * 5
  · have h1 : (madeCells z (n * 5))[j]? = some z[j % 5]! := by
      simp [madeCells, hs, hj]
    have hx : (List.replicate n (⟨ByteArray.empty, 0, 0, 0, 0⟩ : Sta))[j / 5]? = some ⟨ByteArray.empty, 0, 0, 0, 0⟩ := by
      rw [List.getElem?_replicate, if_pos (by omega)]
    have h2 := staCells_at hx (j % 5) (Nat.mod_lt _ (by omega))
    rw [show j / 5 * 5 + j % 5 = j by omega] at h2
    rw [h1, List.getElem?_toArray, h2, hz]
    have : j % 5 < 5 := Nat.mod_lt _ (by omega)
    rcases h : j % 5 with _ | _ | _ | _ | _ | k
    · rfl
    · rfl
    · rfl
    · rfl
    · rfl
    · omega
  · rw [Array.getElem?_eq_none (by rw [size_madeCells]; omega), List.getElem?_toArray, List.getElem?_eq_none (by rw [staCells_length]; simp; omega)]
theorem take_set {α : Type} {ys l : List α} {k : Nat} {x : α} (h : ys.take k = l.take k) (hx : l[k]? = some x) (hk : k < ys.length) : (ys.set k x).take (k + 1) = l.take (k + 1) := by
  rw [List.take_add_one, List.take_add_one, List.getElem?_set_self hk, hx, List.take_set, List.set_eq_of_length_le (by simp; omega), h]
/-- what szStar answers -/
def szI (s : Nat) (left : Int) : Int := if left - s < 0 then -1 else left - s
theorem szI_bd (s : Nat) (r : Int) : szI s r = -1 ∨ (0 ≤ szI s r ∧ szI s r ≤ r) := by unfold szI; split <;> omega
def SzPost (n : Nat) (left : Int) (w : World) (e : Ending) (w' : World) : Prop := ∃ r : Int, e = .returned (.int .i64 r) ∧ (r < 0 ∨ 0 ≤ r ∧ r ≤ left ∧ (n : Int) ≤ left) ∧ Below w.heap.size w w'
end Go.Proofs.YtpnfhienffekoaaDoor
