/- Contracts of the reference's functions on the direction of a star over a horizon. -/
import Derived.Test.YtoddkojbeoifkaaDoorHor
namespace Go.Proofs.YtoddkojbeoifkaaDoor
set_option linter.unusedVariables false
set_option linter.unusedSimpArgs false
open Go.RowKit
set_option maxHeartbeats 1000000 in
theorem l06Vector_any (la s r d : Int) (w : World) (hla : -90000 ≤ la ∧ la ≤ 90000) (hs : 0 ≤ s ∧ s ≤ 359999) (hr : 0 ≤ r ∧ r ≤ 359999) (hd : -90000 ≤ d ∧ d ≤ 90000) :
    Calls Tryd.prog 120 #[.int .i64 la, .int .i64 s, .int .i64 r, .int .i64 d] w fun e w' => e = .returned (.agg #[.int .i64 (hvX la s r d), .int .i64 (hvY s r d), .int .i64 (hvZ la s r d)]) ∧ Below w.heap.size w w' := by
  have hx := dirX_bd (r - s) d
  have hv := dirY_bd (r - s) d
  have hz := dirZ_bd d
  obtain ⟨a1, a2⟩ := hla
  obtain ⟨s1, s2⟩ := hs
  obtain ⟨r1, r2⟩ := hr
  obtain ⟨d1, d2⟩ := hd
  have HX : Hid (hvX la s r d = rotZ (dirX (r - s) d) (dirZ d) la) := rfl
  have HY : Hid (hvY s r d = dirY (r - s) d) := rfl
  have HZ : Hid (hvZ la s r d = rotX (dirX (r - s) d) (dirZ d) la) := rfl
  go_enter Tryd.func120, Tryd.ntmps120
  go_wp2_with (fail)
  refine calls_named ?_
  intro W1 hW1
  have hbW : Below w.heap.size w W1 := by rw [hW1]; exact (by repeat (first | exact Below.refl _ _ | refine below_alloc ?_ _ | refine below_drewN0 ?_ _ | refine below_drew0 ?_ | refine below_step ?_ (by assumption) | refine below_later ?_ _ | refine below_setCell0 ?_ (by first | exact Nat.le_refl _ | (simp; done) | omega | (simp; omega)) _))
  have hlt : w.heap.size < W1.heap.size := by rw [hW1]; simp
  have e0 : W1.cell? ⟨w.heap.size, 0, none⟩ = some (.int .i64 0) := by rw [hW1]; simp
  have e1 : W1.cell? ⟨w.heap.size, 1, none⟩ = some (.int .i64 0) := by rw [hW1]; simp
  have e2 : W1.cell? ⟨w.heap.size, 2, none⟩ = some (.int .i64 0) := by rw [hW1]; simp
  have f0 : W1.frozen? ⟨w.heap.size, 0, none⟩ = false := by rw [hW1]; simp [go_sem]
  have f1 : W1.frozen? ⟨w.heap.size, 1, none⟩ = false := by rw [hW1]; simp [go_sem]
  have f2 : W1.frozen? ⟨w.heap.size, 2, none⟩ = false := by rw [hW1]; simp [go_sem]
  clear hW1
  (refine later_intro ?_; intro y)
  (go_at_call 54; refine (later_below (l04Direction_any (r - s) d _ ⟨by omega, by omega⟩ ⟨by omega, by omega⟩)).mono ?_; rintro e w' ⟨rfl, y, rfl⟩)
  go_wp2_with (fail)
  (go_at_call 55; refine (later_below (l04Rotated_any _ _ _ la _ hx ⟨by omega, by omega⟩ hz ⟨by omega, by omega⟩)).mono ?_; rintro e w' ⟨rfl, y, rfl⟩)
  rename Later W1 => z
  have hz1 : w.heap.size < z.w.heap.size := Nat.lt_of_lt_of_le hlt (below_size z.below)
  have hz2 : ¬ z.w.heap.size = w.heap.size := by omega
  have hz3 : ¬ w.heap.size = z.w.heap.size := by omega
  go_wp2
  exact bodyPost_ret (v := .agg #[.int .i64 (hvX la s r d), .int .i64 (hvY s r d), .int .i64 (hvZ la s r d)]) (by rw [HX.out, HY.out, HZ.out]; simp [results, Tryd.results120, go_sem, hlt, e0, e1, e2, hz1, hz2, hz3]) rfl ⟨rfl, below_alloc (below_setCell0 (below_setCell0 (below_setCell0 (below_later hbW _) (Nat.le_refl _) _) (Nat.le_refl _) _) (Nat.le_refl _) _) _⟩
set_option maxHeartbeats 1000000 in
theorem sHorizontalVector_any (n : ByteArray) (lo la s r d : Int) (w : World) :
    Calls Tryd.prog 66 #[.agg #[.string n, .int .i64 lo, .int .i64 la], .int .i64 s, .int .i64 r, .int .i64 d] w fun e w' =>
      e = .returned (.tuple #[.agg #[.int .i64 (hvO n.data.toList lo la s r d).1, .int .i64 (hvO n.data.toList lo la s r d).2.1, .int .i64 (hvO n.data.toList lo la s r d).2.2.1], .int .i64 (hvO n.data.toList lo la s r d).2.2.2]) ∧ Below w.heap.size w w' := by
  rcases askI_cases n.data.toList lo la s r d with ⟨v1, hk⟩ | ⟨v1, v2, hk⟩ | ⟨v1, v2, v3, hk⟩ | ⟨v1, v2, v3, hk⟩
  · have HO : Hid (hvO n.data.toList lo la s r d = (0, 0, 0, 1)) := by show _ = _; rw [hvO_no (by rw [hk]; omega), hk]
    go_enter Tryd.func66, Tryd.ntmps66
    go_wp2_with (fail)
    refine calls_named ?_
    intro W1 hW1
    have hbW : Below w.heap.size w W1 := by rw [hW1]; exact (by repeat (first | exact Below.refl _ _ | refine below_alloc ?_ _ | refine below_drewN0 ?_ _ | refine below_drew0 ?_ | refine below_step ?_ (by assumption) | refine below_later ?_ _ | refine below_setCell0 ?_ (by first | exact Nat.le_refl _ | (simp; done) | omega | (simp; omega)) _))
    have hlt0 : w.heap.size < W1.heap.size := by rw [hW1]; simp; omega
    have hlt : w.heap.size + 1 < W1.heap.size := by rw [hW1]; simp
    have c0 : W1.cell? ⟨w.heap.size, 0, none⟩ = some (.string n) := by rw [hW1]; simp
    have c1 : W1.cell? ⟨w.heap.size, 1, none⟩ = some (.int .i64 lo) := by rw [hW1]; simp
    have c2 : W1.cell? ⟨w.heap.size, 2, none⟩ = some (.int .i64 la) := by rw [hW1]; simp
    have e0 : W1.cell? ⟨w.heap.size + 1, 0, none⟩ = some (.int .i64 0) := by rw [hW1]; simp
    have e1 : W1.cell? ⟨w.heap.size + 1, 1, none⟩ = some (.int .i64 0) := by rw [hW1]; simp
    have e2 : W1.cell? ⟨w.heap.size + 1, 2, none⟩ = some (.int .i64 0) := by rw [hW1]; simp
    have f0 : W1.frozen? ⟨w.heap.size + 1, 0, none⟩ = false := by rw [hW1]; simp [go_sem]
    have f1 : W1.frozen? ⟨w.heap.size + 1, 1, none⟩ = false := by rw [hW1]; simp [go_sem]
    have f2 : W1.frozen? ⟨w.heap.size + 1, 2, none⟩ = false := by rw [hW1]; simp [go_sem]
    clear hW1
    (refine later_intro ?_; intro y)
    (go_at_call 53; refine (later_same (l06Ask_any _ n lo la s r d _ ((Later.cell _ hlt0).trans c0) ((Later.cell _ hlt0).trans c1) ((Later.cell _ hlt0).trans c2))).mono ?_; rintro e w' ⟨rfl, y, rfl⟩)
    go_wp2
    exact bodyPost_ret (v := .tuple #[.agg #[.int .i64 0, .int .i64 0, .int .i64 0], .int .i64 1]) (by simp [results, Tryd.results66, go_sem, hlt, e0, e1, e2]) rfl ⟨by rw [HO.out], below_setCell0 (below_setCell0 (below_setCell0 (below_later hbW _) (Nat.le_succ _) _) (Nat.le_succ _) _) (Nat.le_succ _) _⟩
  · have HO : Hid (hvO n.data.toList lo la s r d = (0, 0, 0, 2)) := by show _ = _; rw [hvO_no (by rw [hk]; omega), hk]
    go_enter Tryd.func66, Tryd.ntmps66
    go_wp2_with (fail)
    refine calls_named ?_
    intro W1 hW1
    have hbW : Below w.heap.size w W1 := by rw [hW1]; exact (by repeat (first | exact Below.refl _ _ | refine below_alloc ?_ _ | refine below_drewN0 ?_ _ | refine below_drew0 ?_ | refine below_step ?_ (by assumption) | refine below_later ?_ _ | refine below_setCell0 ?_ (by first | exact Nat.le_refl _ | (simp; done) | omega | (simp; omega)) _))
    have hlt0 : w.heap.size < W1.heap.size := by rw [hW1]; simp; omega
    have hlt : w.heap.size + 1 < W1.heap.size := by rw [hW1]; simp
    have c0 : W1.cell? ⟨w.heap.size, 0, none⟩ = some (.string n) := by rw [hW1]; simp
    have c1 : W1.cell? ⟨w.heap.size, 1, none⟩ = some (.int .i64 lo) := by rw [hW1]; simp
    have c2 : W1.cell? ⟨w.heap.size, 2, none⟩ = some (.int .i64 la) := by rw [hW1]; simp
    have e0 : W1.cell? ⟨w.heap.size + 1, 0, none⟩ = some (.int .i64 0) := by rw [hW1]; simp
    have e1 : W1.cell? ⟨w.heap.size + 1, 1, none⟩ = some (.int .i64 0) := by rw [hW1]; simp
    have e2 : W1.cell? ⟨w.heap.size + 1, 2, none⟩ = some (.int .i64 0) := by rw [hW1]; simp
    have f0 : W1.frozen? ⟨w.heap.size + 1, 0, none⟩ = false := by rw [hW1]; simp [go_sem]
    have f1 : W1.frozen? ⟨w.heap.size + 1, 1, none⟩ = false := by rw [hW1]; simp [go_sem]
    have f2 : W1.frozen? ⟨w.heap.size + 1, 2, none⟩ = false := by rw [hW1]; simp [go_sem]
    clear hW1
    (refine later_intro ?_; intro y)
    (go_at_call 53; refine (later_same (l06Ask_any _ n lo la s r d _ ((Later.cell _ hlt0).trans c0) ((Later.cell _ hlt0).trans c1) ((Later.cell _ hlt0).trans c2))).mono ?_; rintro e w' ⟨rfl, y, rfl⟩)
    go_wp2
    exact bodyPost_ret (v := .tuple #[.agg #[.int .i64 0, .int .i64 0, .int .i64 0], .int .i64 2]) (by simp [results, Tryd.results66, go_sem, hlt, e0, e1, e2]) rfl ⟨by rw [HO.out], below_setCell0 (below_setCell0 (below_setCell0 (below_later hbW _) (Nat.le_succ _) _) (Nat.le_succ _) _) (Nat.le_succ _) _⟩
  · have HO : Hid (hvO n.data.toList lo la s r d = (0, 0, 0, 2)) := by show _ = _; rw [hvO_no (by rw [hk]; omega), hk]
    go_enter Tryd.func66, Tryd.ntmps66
    go_wp2_with (fail)
    refine calls_named ?_
    intro W1 hW1
    have hbW : Below w.heap.size w W1 := by rw [hW1]; exact (by repeat (first | exact Below.refl _ _ | refine below_alloc ?_ _ | refine below_drewN0 ?_ _ | refine below_drew0 ?_ | refine below_step ?_ (by assumption) | refine below_later ?_ _ | refine below_setCell0 ?_ (by first | exact Nat.le_refl _ | (simp; done) | omega | (simp; omega)) _))
    have hlt0 : w.heap.size < W1.heap.size := by rw [hW1]; simp; omega
    have hlt : w.heap.size + 1 < W1.heap.size := by rw [hW1]; simp
    have c0 : W1.cell? ⟨w.heap.size, 0, none⟩ = some (.string n) := by rw [hW1]; simp
    have c1 : W1.cell? ⟨w.heap.size, 1, none⟩ = some (.int .i64 lo) := by rw [hW1]; simp
    have c2 : W1.cell? ⟨w.heap.size, 2, none⟩ = some (.int .i64 la) := by rw [hW1]; simp
    have e0 : W1.cell? ⟨w.heap.size + 1, 0, none⟩ = some (.int .i64 0) := by rw [hW1]; simp
    have e1 : W1.cell? ⟨w.heap.size + 1, 1, none⟩ = some (.int .i64 0) := by rw [hW1]; simp
    have e2 : W1.cell? ⟨w.heap.size + 1, 2, none⟩ = some (.int .i64 0) := by rw [hW1]; simp
    have f0 : W1.frozen? ⟨w.heap.size + 1, 0, none⟩ = false := by rw [hW1]; simp [go_sem]
    have f1 : W1.frozen? ⟨w.heap.size + 1, 1, none⟩ = false := by rw [hW1]; simp [go_sem]
    have f2 : W1.frozen? ⟨w.heap.size + 1, 2, none⟩ = false := by rw [hW1]; simp [go_sem]
    clear hW1
    (refine later_intro ?_; intro y)
    (go_at_call 53; refine (later_same (l06Ask_any _ n lo la s r d _ ((Later.cell _ hlt0).trans c0) ((Later.cell _ hlt0).trans c1) ((Later.cell _ hlt0).trans c2))).mono ?_; rintro e w' ⟨rfl, y, rfl⟩)
    go_wp2
    exact bodyPost_ret (v := .tuple #[.agg #[.int .i64 0, .int .i64 0, .int .i64 0], .int .i64 2]) (by simp [results, Tryd.results66, go_sem, hlt, e0, e1, e2]) rfl ⟨by rw [HO.out], below_setCell0 (below_setCell0 (below_setCell0 (below_later hbW _) (Nat.le_succ _) _) (Nat.le_succ _) _) (Nat.le_succ _) _⟩
  · have HO : Hid (hvO n.data.toList lo la s r d = (hvX la s r d, hvY s r d, hvZ la s r d, 0)) := hvO_ok hk
    obtain ⟨_, _, l1, l2⟩ := vSite_bd v1
    obtain ⟨s1, s2⟩ := (inB_iff _ _ _).1 v2
    obtain ⟨r1, r2, d1, d2⟩ := vDir_bd v3
    have hok : vVec (hvX la s r d) (hvY s r d) (hvZ la s r d) = true := hv_ok la s r d
    go_enter Tryd.func66, Tryd.ntmps66
    go_wp2_with (fail)
    refine calls_named ?_
    intro W1 hW1
    have hbW : Below w.heap.size w W1 := by rw [hW1]; exact (by repeat (first | exact Below.refl _ _ | refine below_alloc ?_ _ | refine below_drewN0 ?_ _ | refine below_drew0 ?_ | refine below_step ?_ (by assumption) | refine below_later ?_ _ | refine below_setCell0 ?_ (by first | exact Nat.le_refl _ | (simp; done) | omega | (simp; omega)) _))
    have hlt0 : w.heap.size < W1.heap.size := by rw [hW1]; simp; omega
    have hlt : w.heap.size + 1 < W1.heap.size := by rw [hW1]; simp
    have c0 : W1.cell? ⟨w.heap.size, 0, none⟩ = some (.string n) := by rw [hW1]; simp
    have c1 : W1.cell? ⟨w.heap.size, 1, none⟩ = some (.int .i64 lo) := by rw [hW1]; simp
    have c2 : W1.cell? ⟨w.heap.size, 2, none⟩ = some (.int .i64 la) := by rw [hW1]; simp
    have e0 : W1.cell? ⟨w.heap.size + 1, 0, none⟩ = some (.int .i64 0) := by rw [hW1]; simp
    have e1 : W1.cell? ⟨w.heap.size + 1, 1, none⟩ = some (.int .i64 0) := by rw [hW1]; simp
    have e2 : W1.cell? ⟨w.heap.size + 1, 2, none⟩ = some (.int .i64 0) := by rw [hW1]; simp
    have f0 : W1.frozen? ⟨w.heap.size + 1, 0, none⟩ = false := by rw [hW1]; simp [go_sem]
    have f1 : W1.frozen? ⟨w.heap.size + 1, 1, none⟩ = false := by rw [hW1]; simp [go_sem]
    have f2 : W1.frozen? ⟨w.heap.size + 1, 2, none⟩ = false := by rw [hW1]; simp [go_sem]
    clear hW1
    (refine later_intro ?_; intro y)
    (go_at_call 53; refine (later_same (l06Ask_any _ n lo la s r d _ ((Later.cell _ hlt0).trans c0) ((Later.cell _ hlt0).trans c1) ((Later.cell _ hlt0).trans c2))).mono ?_; rintro e w' ⟨rfl, y, rfl⟩)
    go_wp2_with (fail)
    (go_at_call 120; refine (later_below (l06Vector_any la s r d _ ⟨by omega, by omega⟩ ⟨s1, s2⟩ ⟨r1, r2⟩ ⟨d1, d2⟩)).mono ?_; rintro e w' ⟨rfl, y, rfl⟩)
    go_wp2_with (fail)
    (go_at_call 119; refine (later_below (l04Done_any _ _ _ _ hok)).mono ?_; rintro e w' ⟨rfl, y, rfl⟩)
    go_wp2
    exact bodyPost_ret (v := .tuple #[.agg #[.int .i64 (hvX la s r d), .int .i64 (hvY s r d), .int .i64 (hvZ la s r d)], .int .i64 0]) (by simp [results, Tryd.results66, go_sem, hlt, e0, e1, e2]) rfl ⟨by rw [HO.out], below_setCell0 (below_setCell0 (below_setCell0 (below_later hbW _) (Nat.le_succ _) _) (Nat.le_succ _) _) (Nat.le_succ _) _⟩
end Go.Proofs.YtoddkojbeoifkaaDoor
