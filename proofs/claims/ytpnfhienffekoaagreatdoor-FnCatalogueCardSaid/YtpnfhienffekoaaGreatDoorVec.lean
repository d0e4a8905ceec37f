/- Contracts of the functions on vectors. -/
import Derived.Test.YtpnfhienffekoaaGreatDoorArcT
import Derived.Test.YtpnfhienffekoaaGreatDoorGrpNum
import Derived.Test.YtpnfhienffekoaaGreatDoorGrpPure
import Derived.Deep.RegionHeld3
import Derived.Deep.DrawnRows
namespace Go.Proofs.YtpnfhienffekoaaGreatDoor
set_option linter.unusedVariables false
set_option linter.unusedSimpArgs false
open Go.RowKit
attribute [local go_sem ↓] Go.wp_at_zero Go.wp_at_succ
theorem validComponent_any (x : Int) (w : World) : Calls Tryz.prog 154 #[.int .i64 x] w fun e w' => e = .returned (.bool (inB x (-2000000) 2000000)) ∧ w = w' := by
  go_enter Tryz.func154, Tryz.ntmps154
  go_wp2_with ((go_at_call 79; refine (within_any _ _ _ _).mono ?_; rintro e w' ⟨rfl, rfl⟩))
  go_ret
  exact ⟨rfl, rfl⟩
theorem ValidVector_any (x y z : Int) (w : World) : Calls Tryz.prog 125 #[.agg #[.int .i64 x, .int .i64 y, .int .i64 z]] w fun e w' => e = .returned (.bool (vVec x y z)) ∧ Below w.heap.size w w' := by
  go_enter Tryz.func125, Tryz.ntmps125
  go_wp2_with ((go_at_call 154; refine (validComponent_any _ _).mono ?_; rintro e w' ⟨rfl, rfl⟩))
  all_goals (go_ret; exact ⟨ret_bool (by simp [vVec, *]), (by repeat (first | exact Below.refl _ _ | refine below_alloc ?_ _ | refine below_drewN0 ?_ _ | refine below_drew0 ?_ | refine below_step ?_ (by assumption) | refine below_later ?_ _ | refine below_setCell0 ?_ (by first | exact Nat.le_refl _ | (simp; done) | omega | (simp; omega)) _))⟩)
theorem checkedVector_any (x v z : Int) (w : World) (hv : vVec x v z = true) : Calls Tryz.prog 156 #[.agg #[.int .i64 x, .int .i64 v, .int .i64 z]] w fun e w' => e = .returned (.tuple #[.agg #[.int .i64 x, .int .i64 v, .int .i64 z], .int .i64 0]) ∧ Below w.heap.size w w' := by
  go_enter Tryz.func156, Tryz.ntmps156
  go_wp2_with (fail)
  (refine later_intro ?_; intro y)
  go_wp2_with ((go_at_call 125; refine (later_below (ValidVector_any _ _ _ _)).mono ?_; rintro e w' ⟨rfl, y, rfl⟩))
  exact bodyPost_ret (v := .tuple #[.agg #[.int .i64 x, .int .i64 v, .int .i64 z], .int .i64 0]) (by simp [results, Tryz.results156, go_sem]) rfl ⟨rfl, (by repeat (first | exact Below.refl _ _ | refine below_alloc ?_ _ | refine below_drewN0 ?_ _ | refine below_drew0 ?_ | refine below_step ?_ (by assumption) | refine below_later ?_ _ | refine below_setCell0 ?_ (by first | exact Nat.le_refl _ | (simp; done) | omega | (simp; omega)) _))⟩
theorem directionOf_any (l b : Int) (w : World) (hS : SinOk w) (hl : -9000000000000000000 ≤ l ∧ l ≤ 9000000000000000000) (hb : -9000000000000000000 ≤ b ∧ b ≤ 9000000000000000000) :
    Calls Tryz.prog 88 #[.int .i64 l, .int .i64 b] w fun e w' => e = .returned (.agg #[.int .i64 (dirX l b), .int .i64 (dirY l b), .int .i64 (dirZ b)]) ∧ Below w.heap.size w w' := by
  obtain ⟨p1, p2⟩ := unit_prod _ _ (cosI_bd b) (cosI_bd l)
  obtain ⟨p3, p4⟩ := unit_prod _ _ (cosI_bd b) (sinI_bd l)
  have HX : Hid (dirX l b = rnd (cosI b * cosI l) 1000000) := rfl
  have HY : Hid (dirY l b = rnd (cosI b * sinI l) 1000000) := rfl
  have HZ : Hid (dirZ b = sinI b) := rfl
  go_enter Tryz.func88, Tryz.ntmps88
  go_wp2_with (fail)
  (refine later_intro ?_; intro y)
  (go_at_call 51; refine (later_drew (CosineOf_any b _ (SinOk.later (hS.alloc _) _) hb.1 hb.2)).mono ?_; rintro e w' ⟨rfl, y, rfl⟩)
  go_wp2_with (fail)
  (go_at_call 51; refine (later_drew (CosineOf_any l _ (SinOk.later (hS.alloc _) _) hl.1 hl.2)).mono ?_; rintro e w' ⟨rfl, y, rfl⟩)
  go_wp2_with (fail)
  (go_at_call 50; refine (later_drew (nearest_any (cosI b * cosI l) 1000000 _ (by omega) (by omega) (by omega) (by omega))).mono ?_; rintro e w' ⟨rfl, y, rfl⟩)
  go_wp2_with (fail)
  (go_at_call 52; refine (later_drew (SineOf_any l _ (SinOk.later (hS.alloc _) _) hl.1 hl.2)).mono ?_; rintro e w' ⟨rfl, y, rfl⟩)
  go_wp2_with (fail)
  (go_at_call 50; refine (later_drew (nearest_any (cosI b * sinI l) 1000000 _ (by omega) (by omega) (by omega) (by omega))).mono ?_; rintro e w' ⟨rfl, y, rfl⟩)
  go_wp2_with (fail)
  (go_at_call 52; refine (later_drew (SineOf_any b _ (SinOk.later (hS.alloc _) _) hb.1 hb.2)).mono ?_; rintro e w' ⟨rfl, y, rfl⟩)
  go_wp2
  exact bodyPost_ret (v := .agg #[.int .i64 (dirX l b), .int .i64 (dirY l b), .int .i64 (dirZ b)]) (by rw [HX.out, HY.out, HZ.out]; simp [results, Tryz.results88, go_sem]) rfl ⟨rfl, (by repeat (first | exact Below.refl _ _ | refine below_alloc ?_ _ | refine below_drewN0 ?_ _ | refine below_drew0 ?_ | refine below_step ?_ (by assumption) | refine below_later ?_ _ | refine below_setCell0 ?_ (by first | exact Nat.le_refl _ | (simp; done) | omega | (simp; omega)) _))⟩
set_option maxHeartbeats 4000000 in
theorem RotateAround_any (x v z a : Int) (w : World) (hS : SinOk w) (hx : -1000000 ≤ x ∧ x ≤ 1000000) (hv : -2000000 ≤ v ∧ v ≤ 2000000) (hz : -1000000 ≤ z ∧ z ≤ 1000000) (ha : -9000000000000000000 ≤ a ∧ a ≤ 9000000000000000000) :
    Calls Tryz.prog 155 #[.agg #[.int .i64 x, .int .i64 v, .int .i64 z], .int .i64 2, .int .i64 a] w fun e w' => e = .returned (.tuple #[.agg #[.int .i64 (rotX x z a), .int .i64 v, .int .i64 (rotZ x z a)], .int .i64 0]) ∧ Below w.heap.size w w' := by
  obtain ⟨s1, s2⟩ := sinI_bd a
  obtain ⟨c1, c2⟩ := cosI_bd a
  obtain ⟨p1, p2⟩ := two_prod _ _ (show -2000000 ≤ x ∧ x ≤ 2000000 by omega) (cosI_bd a)
  obtain ⟨p3, p4⟩ := unit_prod _ _ hz (sinI_bd a)
  obtain ⟨p5, p6⟩ := unit_prod _ _ hz (cosI_bd a)
  obtain ⟨p7, p8⟩ := unit_prod _ _ hx (sinI_bd a)
  have HX : Hid (rotX x z a = rnd (x * cosI a + z * sinI a) 1000000) := rfl
  have HZ : Hid (rotZ x z a = rnd (z * cosI a - x * sinI a) 1000000) := rfl
  have hok : vVec (rotX x z a) v (rotZ x z a) = true := vVec_ok (rotX_bd hx hz a) hv (rotZ_bd hx hz a)
  have hin : vVec x v z = true := vVec_ok (by omega) hv (by omega)
  go_enter Tryz.func155, Tryz.ntmps155
  go_wp2_with (fail)
  refine calls_named ?_
  intro W1 hW1
  have hbW : Below w.heap.size w W1 := by rw [hW1]; exact (by repeat (first | exact Below.refl _ _ | refine below_alloc ?_ _ | refine below_drewN0 ?_ _ | refine below_drew0 ?_ | refine below_step ?_ (by assumption) | refine below_later ?_ _ | refine below_setCell0 ?_ (by first | exact Nat.le_refl _ | (simp; done) | omega | (simp; omega)) _))
  have hS1 : SinOk W1 := by rw [hW1]; exact (hS.alloc _).alloc _
  have hlt : w.heap.size < W1.heap.size := by rw [hW1]; simp; omega
  have hlt1 : w.heap.size + 1 < W1.heap.size := by rw [hW1]; simp
  have k0 : W1.cell? ⟨w.heap.size, 0, none⟩ = some (.int .i64 x) := by rw [hW1]; simp
  have k1 : W1.cell? ⟨w.heap.size, 1, none⟩ = some (.int .i64 v) := by rw [hW1]; simp
  have k2 : W1.cell? ⟨w.heap.size, 2, none⟩ = some (.int .i64 z) := by rw [hW1]; simp
  have f0 : W1.frozen? ⟨w.heap.size, 0, none⟩ = false := by rw [hW1]; simp [go_sem]
  have f1 : W1.frozen? ⟨w.heap.size, 1, none⟩ = false := by rw [hW1]; simp [go_sem]
  have f2 : W1.frozen? ⟨w.heap.size, 2, none⟩ = false := by rw [hW1]; simp [go_sem]
  have r0 : W1.cell? ⟨w.heap.size + 1, 0, none⟩ = some (.int .i64 0) := by rw [hW1]; simp
  have g0 : W1.frozen? ⟨w.heap.size + 1, 0, none⟩ = false := by rw [hW1]; simp [go_sem]
  have r1 : W1.cell? ⟨w.heap.size + 1, 1, none⟩ = some (.int .i64 0) := by rw [hW1]; simp
  have g1 : W1.frozen? ⟨w.heap.size + 1, 1, none⟩ = false := by rw [hW1]; simp [go_sem]
  have r2 : W1.cell? ⟨w.heap.size + 1, 2, none⟩ = some (.int .i64 0) := by rw [hW1]; simp
  have g2 : W1.frozen? ⟨w.heap.size + 1, 2, none⟩ = false := by rw [hW1]; simp [go_sem]
  clear hW1
  (refine later_intro ?_; intro y)
  (go_at_call 125; refine (later_below (ValidVector_any _ _ _ _)).mono ?_; rintro e w' ⟨rfl, y, rfl⟩)
  go_wp2_with (fail)
  (go_at_call 52; refine (later_drew (SineOf_any a _ (SinOk.later hS1 _) ha.1 ha.2)).mono ?_; rintro e w' ⟨rfl, y, rfl⟩)
  go_wp2_with (fail)
  (go_at_call 51; refine (later_drew (CosineOf_any a _ (SinOk.later hS1 _) ha.1 ha.2)).mono ?_; rintro e w' ⟨rfl, y, rfl⟩)
  go_wp2_with (fail)
  have w1 : IntKind.i64.wrap (x * cosI a) = x * cosI a := wrap_in' (by omega) (by omega)
  have w2 : IntKind.i64.wrap (z * sinI a) = z * sinI a := wrap_in' (by omega) (by omega)
  have w3 : IntKind.i64.wrap (z * cosI a) = z * cosI a := wrap_in' (by omega) (by omega)
  have w4 : IntKind.i64.wrap (x * sinI a) = x * sinI a := wrap_in' (by omega) (by omega)
  have w5 : IntKind.i64.wrap (x * cosI a + z * sinI a) = x * cosI a + z * sinI a := wrap_in' (by omega) (by omega)
  have w6 : IntKind.i64.wrap (z * cosI a - x * sinI a) = z * cosI a - x * sinI a := wrap_in' (by omega) (by omega)
  (refine wp_region_later_last 23 (by kernel_rfl) (by kernel_rfl) (by kernel_rfl) (by kernel_rfl) ?_; simp only [List.take_succ_cons, List.take_zero, List.drop_succ_cons, List.drop_zero]; (repeat (quiet_step (((go_at_call 50; exact later_drew (nearest_any _ _ _ (by omega) (by omega) (by omega) (by omega))))))); refine wpQuiet_nil ?_; rintro _ ⟨y, rfl⟩)
  go_wp2_with (fail)
  refine calls_named ?_
  intro W2 hW2
  have hbW2 : Below w.heap.size w W2 := by rw [hW2]; exact below_setCell0 (below_setCell0 (below_setCell0 (below_later hbW _) (Nat.le_refl _) _) (Nat.le_refl _) _) (Nat.le_refl _) _
  have hlt2 : w.heap.size + 1 < W2.heap.size := by rw [hW2]; simp; exact Nat.lt_of_lt_of_le hlt1 (below_size (Later.below _))
  have e0 : W2.cell? ⟨w.heap.size + 1, 0, none⟩ = some (.int .i64 0) := by rw [hW2]; simp [go_sem, r0, hlt1]
  have h0 : W2.frozen? ⟨w.heap.size + 1, 0, none⟩ = false := by rw [hW2]; simp [go_sem, g0, hlt1]
  have e1 : W2.cell? ⟨w.heap.size + 1, 1, none⟩ = some (.int .i64 0) := by rw [hW2]; simp [go_sem, r1, hlt1]
  have h1 : W2.frozen? ⟨w.heap.size + 1, 1, none⟩ = false := by rw [hW2]; simp [go_sem, g1, hlt1]
  have e2 : W2.cell? ⟨w.heap.size + 1, 2, none⟩ = some (.int .i64 0) := by rw [hW2]; simp [go_sem, r2, hlt1]
  have h2 : W2.frozen? ⟨w.heap.size + 1, 2, none⟩ = false := by rw [hW2]; simp [go_sem, g2, hlt1]
  clear hW2
  (refine later_intro ?_; intro y)
  (go_at_call 156; refine (later_below (checkedVector_any _ _ _ _ hok)).mono ?_; rintro e w' ⟨rfl, y, rfl⟩)
  go_wp2
  exact bodyPost_ret (v := .tuple #[.agg #[.int .i64 (rotX x z a), .int .i64 v, .int .i64 (rotZ x z a)], .int .i64 0]) (by simp [results, Tryz.results155, go_sem, hlt2, e0, e1, e2]) rfl ⟨rfl, below_setCell0 (below_setCell0 (below_setCell0 (below_later hbW2 _) (Nat.le_succ _) _) (Nat.le_succ _) _) (Nat.le_succ _) _⟩
end Go.Proofs.YtpnfhienffekoaaGreatDoor
