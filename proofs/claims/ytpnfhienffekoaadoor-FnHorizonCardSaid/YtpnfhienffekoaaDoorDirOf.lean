/- Contract of the program's function that gives the direction of two angles. -/
import Derived.Test.YtpnfhienffekoaaDoorSep
namespace Go.Proofs.YtpnfhienffekoaaDoor
set_option linter.unusedVariables false
set_option linter.unusedSimpArgs false
open Go.RowKit
set_option maxHeartbeats 1000000 in
theorem DirectionOf_any (r d : Int) (w : World) (hS : SinOk w) (hr : -9000000000000000000 ≤ r ∧ r ≤ 9000000000000000000) (hd : -90000 ≤ d ∧ d ≤ 90000) :
    Calls Tryd.prog 10 #[.int .i64 r, .int .i64 d] w fun e w' => e = .returned (.tuple #[.agg #[.int .i64 (dirV r d).x, .int .i64 (dirV r d).y, .int .i64 (dirV r d).z], .int .i64 0]) ∧ Below w.heap.size w w' := by
  have h : inB d (-90000) 90000 = true := (inB_iff _ _ _).2 hd
  have C0 : Hid (∀ W, Calls Tryd.prog 19 #[.int .i64 d, .int .i64 (-90000), .int .i64 90000] W fun e w' => e = .returned (.bool true) ∧ W = w') := Lib.hid (fun W => by have := within_any d (-90000) 90000 W; rwa [h] at this)
  have C1 : Hid (∀ W, SinOk W → Calls Tryd.prog 22 #[.int .i64 r, .int .i64 d] W fun e w' => e = .returned (.agg #[.int .i64 (dirV r d).x, .int .i64 (dirV r d).y, .int .i64 (dirV r d).z]) ∧ Below W.heap.size W w') := Lib.hid (fun W hW => directionOf_any r d W hW hr ⟨by omega, by omega⟩)
  have HS := Lib.hid hS
  generalize dirV r d = v at *
  clear hr h hS
  go_enter Tryd.func10, Tryd.ntmps10
  go_wp2_with (fail)
  refine calls_named ?_
  intro W1 hW1
  have hbW : Below w.heap.size w W1 := by rw [hW1]; exact (by repeat (first | exact Below.refl _ _ | refine below_alloc ?_ _ | refine below_drewN0 ?_ _ | refine below_drew0 ?_ | refine below_step ?_ (by assumption) | refine below_later ?_ _ | refine below_setCell0 ?_ (by first | exact Nat.le_refl _ | (simp; done) | omega | (simp; omega)) _))
  have hlt : w.heap.size < W1.heap.size := by rw [hW1]; simp
  have e0 : W1.cell? ⟨w.heap.size, 0, none⟩ = some (.int .i64 0) := by rw [hW1]; simp
  have e1 : W1.cell? ⟨w.heap.size, 1, none⟩ = some (.int .i64 0) := by rw [hW1]; simp
  have e2 : W1.cell? ⟨w.heap.size, 2, none⟩ = some (.int .i64 0) := by rw [hW1]; simp
  have f0 : W1.frozen? ⟨w.heap.size, 0, none⟩ = false := by rw [hW1]; simp [go_sem]
  have f1 : W1.frozen? ⟨w.heap.size, 1, none⟩ = false := by rw [hW1]; simp [go_sem]
  have f2 : W1.frozen? ⟨w.heap.size, 2, none⟩ = false := by rw [hW1]; simp [go_sem]
  clear hW1
  have HW := Lib.hid hbW
  (refine later_intro ?_; intro y)
  go_wp2_with (fail)
  (go_at_call 19; refine (later_same (C0.out _)).mono ?_; rintro e w' ⟨rfl, y, rfl⟩)
  go_wp2_with (fail)
  (go_at_call 22; refine (later_below (C1.out _ (HS.out.of_below (below_later HW.out _)))).mono ?_; rintro e w' ⟨rfl, y, rfl⟩)
  go_wp2_with (fail)
  exact bodyPost_ret (v := .tuple #[.agg #[.int .i64 v.x, .int .i64 v.y, .int .i64 v.z], .int .i64 0]) (by simp [results, Tryd.results10, go_sem, hlt, e0, e1, e2]) rfl ⟨rfl, below_setCell0 (below_setCell0 (below_setCell0 (below_later hbW _) (Nat.le_refl _) _) (Nat.le_refl _) _) (Nat.le_refl _) _⟩
end Go.Proofs.YtpnfhienffekoaaDoor
