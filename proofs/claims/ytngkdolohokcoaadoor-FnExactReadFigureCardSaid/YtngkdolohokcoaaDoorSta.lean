/- Contracts of the functions on lists of stars: how they are copied, held against one another, asked whether they are valid. -/
import Derived.Test.YtngkdolohokcoaaDoorGrpNum
import Derived.Test.YtngkdolohokcoaaDoorStars
import Derived.Deep.MidRow
namespace Go.Proofs.YtngkdolohokcoaaDoor
set_option linter.unusedVariables false
set_option linter.unusedSimpArgs false
open Go.RowKit
theorem zeroStas_made (z : Array Value) (hz : z = #[.string ByteArray.empty, .int .i64 0, .int .i64 0, .int .i64 0, .int .i64 0]) (n : Nat) : madeCells z (n * 5) = (staCells (List.replicate n ⟨ByteArray.empty, 0, 0, 0, 0⟩)).toArray := by
  apply Array.ext_getElem?
  intro j
  have hs : z.size = 5 := by rw [hz]; rfl
  by_cases hj : j < n * 5
  · have h1 : (madeCells z (n * 5))[j]? = some z[j % 5]! := by
      simp [madeCells, hs, hj]
    have hx : (List.replicate n (⟨ByteArray.empty, 0, 0, 0, 0⟩ : Sta))[j / 5]? = some ⟨ByteArray.empty, 0, 0, 0, 0⟩ := by
      rw [List.getElem?_replicate, if_pos (by omega)]
    have h2 := staCells_at hx (j % 5) (Nat.mod_lt _ (by omega))
    rw [show j / 5 * 5 + j % 5 = j by omega] at h2
    rw [h1, List.getElem?_toArray, h2, hz]
    have : j % 5 < 5 := Nat.mod_lt _ (by omega)
    rcases h : j % 5 with _ | _ | _ | _ | _ | k
    · rfl
    · rfl
    · rfl
    · rfl
    · rfl
    · omega
  · rw [Array.getElem?_eq_none (by rw [size_madeCells]; omega), List.getElem?_toArray, List.getElem?_eq_none (by rw [staCells_length]; simp; omega)]
theorem take_set {α : Type} {ys l : List α} {k : Nat} {x : α} (h : ys.take k = l.take k) (hx : l[k]? = some x) (hk : k < ys.length) : (ys.set k x).take (k + 1) = l.take (k + 1) := by
  rw [List.take_add_one, List.take_add_one, List.getElem?_set_self hk, hx, List.take_set, List.set_eq_of_length_le (by simp; omega), h]
/-- what szStar answers -/
def szI (s : Nat) (left : Int) : Int := if left - s < 0 then -1 else left - s
theorem szI_bd (s : Nat) (r : Int) : szI s r = -1 ∨ (0 ≤ szI s r ∧ szI s r ≤ r) := by unfold szI; split <;> omega
set_option maxHeartbeats 400000 in
theorem szSta_any (x : Sta) (left : Int) (w : World) (hx : StrOk x.id) (h0 : 0 ≤ left) (h1 : left ≤ 1048576) :
    Calls Tryd.prog 11 #[.agg #[.string x.id, .int .i64 x.ri, .int .i64 x.de, .int .i64 x.ma, .int .i64 x.co], .int .i64 left] w fun e w' => e = .returned (.int .i64 (szI x.id.size left)) ∧ Below w.heap.size w w' := by
  unfold StrOk at hx
  by_cases h : left - x.id.size < 0
  · go_enter Tryd.func11, Tryd.ntmps11
    go_wp2
    go_ret
    exact ⟨ret_int (by rw [szI, if_pos h]), (by repeat (first | exact Below.refl _ _ | refine below_alloc ?_ _ | refine below_drewN0 ?_ _ | refine below_drew0 ?_ | refine below_step ?_ (by assumption) | refine below_later ?_ _ | refine below_setCell0 ?_ (by first | exact Nat.le_refl _ | (simp; done) | omega | (simp; omega)) _))⟩
  · go_enter Tryd.func11, Tryd.ntmps11
    go_wp2
    go_ret
    exact ⟨ret_int (by rw [szI, if_neg (by omega)]), (by repeat (first | exact Below.refl _ _ | refine below_alloc ?_ _ | refine below_drewN0 ?_ _ | refine below_drew0 ?_ | refine below_step ?_ (by assumption) | refine below_later ?_ _ | refine below_setCell0 ?_ (by first | exact Nat.le_refl _ | (simp; done) | omega | (simp; omega)) _))⟩
def SzPost (n : Nat) (left : Int) (w : World) (e : Ending) (w' : World) : Prop := ∃ r : Int, e = .returned (.int .i64 r) ∧ (r < 0 ∨ 0 ≤ r ∧ r ≤ left ∧ (n : Int) ≤ left) ∧ Below w.heap.size w w'
set_option maxHeartbeats 400000 in
theorem toSta_any (x : Sta) (w : World) :
    Calls Tryd.prog 13 #[.agg #[.string x.id, .int .i64 x.ri, .int .i64 x.de, .int .i64 x.ma, .int .i64 x.co]] w fun e w' => e = .returned (.agg #[.string x.id, .int .i64 x.ri, .int .i64 x.de, .int .i64 x.ma, .int .i64 x.co]) ∧ Below w.heap.size w w' := by
  go_enter Tryd.func13, Tryd.ntmps13
  go_wp2
  exact bodyPost_ret (v := .agg #[.string x.id, .int .i64 x.ri, .int .i64 x.de, .int .i64 x.ma, .int .i64 x.co]) (by simp [results, Tryd.results13, go_sem]) rfl ⟨rfl, (by repeat (first | exact Below.refl _ _ | refine below_alloc ?_ _ | refine below_drewN0 ?_ _ | refine below_drew0 ?_ | refine below_step ?_ (by assumption) | refine below_later ?_ _ | refine below_setCell0 ?_ (by first | exact Nat.le_refl _ | (simp; done) | omega | (simp; omega)) _))⟩
set_option maxHeartbeats 400000 in
theorem eqStar_same (x : Sta) (w : World) :
    Calls Tryd.prog 30 #[.agg #[.string x.id, .int .i64 x.ri, .int .i64 x.de, .int .i64 x.ma, .int .i64 x.co], .agg #[.string x.id, .int .i64 x.ri, .int .i64 x.de, .int .i64 x.ma, .int .i64 x.co]] w fun e w' => e = .returned (.bool true) ∧ Below w.heap.size w w' := by
  go_enter Tryd.func30, Tryd.ntmps30
  go_wp2
  go_ret
  exact ⟨rfl, (by repeat (first | exact Below.refl _ _ | refine below_alloc ?_ _ | refine below_drewN0 ?_ _ | refine below_drew0 ?_ | refine below_step ?_ (by assumption) | refine below_later ?_ _ | refine below_setCell0 ?_ (by first | exact Nat.le_refl _ | (simp; done) | omega | (simp; omega)) _))⟩
end Go.Proofs.YtngkdolohokcoaaDoor
