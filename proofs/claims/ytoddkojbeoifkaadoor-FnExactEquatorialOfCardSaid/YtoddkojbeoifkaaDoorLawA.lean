/- Contracts of the laws' own functions on values: how long an argument is, and its twin in the program's type. -/
import Derived.Test.YtoddkojbeoifkaaDoorValid
namespace Go.Proofs.YtoddkojbeoifkaaDoor
set_option linter.unusedVariables false
set_option linter.unusedSimpArgs false
open Go.RowKit

/-- what is left of a bound behind a string of so many bytes; -1 if it is not enough -/
def szL (left : Int) (n : Nat) : Int := if left - n < 0 then -1 else left - n
theorem ret_szL {left : Int} {n : Nat} {x : Int} (h : x = szL left n) : Ending.returned (.int .i64 x) = Ending.returned (.int .i64 (szL left n)) := by rw [h]
theorem szL_cases (left : Int) (n : Nat) : (left - n < 0 ∧ szL left n = -1) ∨ (0 ≤ left - n ∧ szL left n = left - n) := by
  unfold szL; split <;> omega
set_option maxHeartbeats 400000 in
theorem szSite_any (s : ByteArray) (a b left : Int) (w : World) (hs : s.size ≤ 9223372036854775807) (h0 : 0 ≤ left) (h1 : left ≤ 1048576) :
    Calls Tryd.prog 15 #[.agg #[.string s, .int .i64 a, .int .i64 b], .int .i64 left] w fun e w' => e = .returned (.int .i64 (szL left s.size)) ∧ Below w.heap.size w w' := by
  go_enter Tryd.func15, Tryd.ntmps15
  go_wp2
  all_goals (go_ret; exact ⟨ret_szL (by unfold szL; split <;> omega), (by repeat (first | exact Below.refl _ _ | refine below_alloc ?_ _ | refine below_drewN0 ?_ _ | refine below_drew0 ?_ | refine below_step ?_ (by assumption) | refine below_later ?_ _ | refine below_setCell0 ?_ (by first | exact Nat.le_refl _ | (simp; done) | omega | (simp; omega)) _))⟩)
set_option maxHeartbeats 400000 in
theorem szStar_any (s : ByteArray) (a b c d left : Int) (w : World) (hs : s.size ≤ 9223372036854775807) (h0 : 0 ≤ left) (h1 : left ≤ 1048576) :
    Calls Tryd.prog 69 #[.agg #[.string s, .int .i64 a, .int .i64 b, .int .i64 c, .int .i64 d], .int .i64 left] w fun e w' => e = .returned (.int .i64 (szL left s.size)) ∧ Below w.heap.size w w' := by
  go_enter Tryd.func69, Tryd.ntmps69
  go_wp2
  all_goals (go_ret; exact ⟨ret_szL (by unfold szL; split <;> omega), (by repeat (first | exact Below.refl _ _ | refine below_alloc ?_ _ | refine below_drewN0 ?_ _ | refine below_drew0 ?_ | refine below_step ?_ (by assumption) | refine below_later ?_ _ | refine below_setCell0 ?_ (by first | exact Nat.le_refl _ | (simp; done) | omega | (simp; omega)) _))⟩)
set_option maxHeartbeats 400000 in
theorem toSite_any (s : ByteArray) (a b : Int) (w : World) :
    Calls Tryd.prog 17 #[.agg #[.string s, .int .i64 a, .int .i64 b]] w fun e w' => e = .returned (.agg #[.string s, .int .i64 a, .int .i64 b]) ∧ Below w.heap.size w w' := by
  go_enter Tryd.func17, Tryd.ntmps17
  go_wp2
  exact bodyPost_ret (v := .agg #[.string s, .int .i64 a, .int .i64 b]) (by simp [results, Tryd.results17, go_sem]) rfl ⟨rfl, (by repeat (first | exact Below.refl _ _ | refine below_alloc ?_ _ | refine below_drewN0 ?_ _ | refine below_drew0 ?_ | refine below_step ?_ (by assumption) | refine below_later ?_ _ | refine below_setCell0 ?_ (by first | exact Nat.le_refl _ | (simp; done) | omega | (simp; omega)) _))⟩
set_option maxHeartbeats 1000000 in
theorem toStar_any (s : ByteArray) (a b c d : Int) (w : World) :
    Calls Tryd.prog 73 #[.agg #[.string s, .int .i64 a, .int .i64 b, .int .i64 c, .int .i64 d]] w fun e w' => e = .returned (.agg #[.string s, .int .i64 a, .int .i64 b, .int .i64 c, .int .i64 d]) ∧ Below w.heap.size w w' := by
  go_enter Tryd.func73, Tryd.ntmps73
  go_wp2
  exact bodyPost_ret (v := .agg #[.string s, .int .i64 a, .int .i64 b, .int .i64 c, .int .i64 d]) (by simp [results, Tryd.results73, go_sem]) rfl ⟨rfl, (by repeat (first | exact Below.refl _ _ | refine below_alloc ?_ _ | refine below_drewN0 ?_ _ | refine below_drew0 ?_ | refine below_step ?_ (by assumption) | refine below_later ?_ _ | refine below_setCell0 ?_ (by first | exact Nat.le_refl _ | (simp; done) | omega | (simp; omega)) _))⟩
end Go.Proofs.YtoddkojbeoifkaaDoor
