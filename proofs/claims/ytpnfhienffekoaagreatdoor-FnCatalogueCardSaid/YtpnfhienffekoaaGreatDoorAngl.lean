/- Contracts of the functions on the angles of a vector. -/
import Derived.Test.YtpnfhienffekoaaGreatDoorSep
import Derived.Test.YtpnfhienffekoaaGreatDoorGrpPure
namespace Go.Proofs.YtpnfhienffekoaaGreatDoor
set_option linter.unusedVariables false
set_option linter.unusedSimpArgs false
open Go.RowKit
attribute [local go_sem ↓] Go.wp_at_zero Go.wp_at_succ
set_option maxHeartbeats 4000000 in
theorem AnglesOf_any (v : V3) (w : World) (hS : SinOk w) (h : v.md) :
    Calls Tryz.prog 89 #[.agg #[.int .i64 v.x, .int .i64 v.y, .int .i64 v.z]] w fun e w' => e = .returned (.tuple #[.int .i64 (anglesO v).1, .int .i64 (anglesO v).2.1, .int .i64 (anglesO v).2.2]) ∧ Below w.heap.size w w' := by
  have va : vVec v.x v.y v.z = true := by obtain ⟨h1, h2, h3⟩ := h; exact vVec_ok h1 h2 h3
  have qa := run_eql_vec v.x v.y v.z
  cases hz : zeroV v with
  | true =>
    have HO := Lib.hid (anglesO_zero hz)
    have qa' : zeroV ⟨v.x, v.y, v.z⟩ = true := hz
    rw [qa'] at qa
    clear hz qa' h
    go_enter Tryz.func89, Tryz.ntmps89
    go_wp2_with (fail)
    (refine later_intro ?_; intro y)
    go_wp2_with ((go_at_call 125; refine (later_below (ValidVector_any _ _ _ _)).mono ?_; rintro e w' ⟨rfl, y, rfl⟩))
    go_ret3
    exact ⟨by rw [HO.out]; rfl, (by repeat (first | exact Below.refl _ _ | refine below_alloc ?_ _ | refine below_drewN0 ?_ _ | refine below_drew0 ?_ | refine below_step ?_ (by assumption) | refine below_later ?_ _ | refine below_setCell0 ?_ (by first | exact Nat.le_refl _ | (simp; done) | omega | (simp; omega)) _))⟩
  | false =>
    have HO := Lib.hid (anglesO_yes hz)
    have qa' : zeroV ⟨v.x, v.y, v.z⟩ = false := hz
    rw [qa'] at qa
    obtain ⟨p1, p2⟩ := sq_bd _ h.1
    obtain ⟨p3, p4⟩ := sq_bd _ h.2.1
    have A1 : Hid (∀ W, SinOk W → Calls Tryz.prog 64 #[.int .i64 v.y, .int .i64 v.x] W fun e w' => e = .returned (.tuple #[.int .i64 (lonI v), .int .i64 (arcO v.y v.x).2]) ∧ ∃ q, w' = W.drewN q) := fun W hW => ArcTangent_any v.y v.x W hW
    have A2 : Hid (∀ W, SinOk W → Calls Tryz.prog 64 #[.int .i64 v.z, .int .i64 (flatI v)] W fun e w' => e = .returned (.tuple #[.int .i64 (latR v), .int .i64 0]) ∧ ∃ q, w' = W.drewN q) := fun W hW => by
      have := ArcTangent_any v.z (flatI v) W hW
      rwa [lat_arc h hz] at this
    have A3 : Hid (∀ W, Calls Tryz.prog 63 #[.int .i64 (v.x * v.x + v.y * v.y)] W fun e w' => e = .returned (.int .i64 (flatI v)) ∧ W = w') := fun W => RootOf_any _ W (by omega)
    have w1 : IntKind.i64.wrap (v.x * v.x) = v.x * v.x := wrap_in' (by omega) (by omega)
    have w2 : IntKind.i64.wrap (v.y * v.y) = v.y * v.y := wrap_in' (by omega) (by omega)
    have w3 : IntKind.i64.wrap (v.x * v.x + v.y * v.y) = v.x * v.x + v.y * v.y := wrap_in' (by omega) (by omega)
    have lb := arcI_bd v.z (flatI v)
    have lb1 : 0 ≤ latR v := lb.1
    have lb2 : latR v < 360000 := lb.2
    have HL : Hid (latI v = if 90000 < latR v then latR v - 360000 else latR v) := rfl
    clear hz qa' h lb
    generalize lonI v = LO at *
    generalize latR v = LR at *
    generalize latI v = LA at *
    generalize flatI v = FL at *
    generalize (arcO v.y v.x).2 = K at *
    go_enter Tryz.func89, Tryz.ntmps89
    go_wp2_with (fail)
    refine calls_named ?_
    intro W1 hW1
    have hbW : Below w.heap.size w W1 := by rw [hW1]; exact (by repeat (first | exact Below.refl _ _ | refine below_alloc ?_ _ | refine below_drewN0 ?_ _ | refine below_drew0 ?_ | refine below_step ?_ (by assumption) | refine below_later ?_ _ | refine below_setCell0 ?_ (by first | exact Nat.le_refl _ | (simp; done) | omega | (simp; omega)) _))
    have hlt : w.heap.size < W1.heap.size := by rw [hW1]; simp
    have k0 : W1.cell? ⟨w.heap.size, 0, none⟩ = some (.int .i64 v.x) := by rw [hW1]; simp
    have k1 : W1.cell? ⟨w.heap.size, 1, none⟩ = some (.int .i64 v.y) := by rw [hW1]; simp
    have k2 : W1.cell? ⟨w.heap.size, 2, none⟩ = some (.int .i64 v.z) := by rw [hW1]; simp
    have hS1 : SinOk W1 := by rw [hW1]; exact hS.alloc _
    clear hW1
    (refine later_intro ?_; intro y)
    go_wp2_with (first | (go_at_call 125; refine (later_below (ValidVector_any _ _ _ _)).mono ?_; rintro e w' ⟨rfl, y, rfl⟩) | (go_at_call 64; refine (later_drew (A1.out _ (SinOk.later hS1 _))).mono ?_; rintro e w' ⟨rfl, y, rfl⟩))
    (refine wp_region_later (by kernel_rfl) (by kernel_rfl) ?_; (repeat (first | go_big_quiet_step ((first | (go_at_call 63; exact later_same (A3.out _)) | (go_at_call 64; exact later_drew (A2.out _ (SinOk.later hS1 _))))) | quiet_step ((first | (go_at_call 63; exact later_same (A3.out _)) | (go_at_call 64; exact later_drew (A2.out _ (SinOk.later hS1 _))))))); refine wpQuiet_nil ?_; rintro _ ⟨y, rfl⟩)
    by_cases hc : 90000 < LR
    · go_wp2
      go_ret3
      exact ⟨by rw [HO.out, HL.out, if_pos hc]; rfl, (by repeat (first | exact Below.refl _ _ | refine below_alloc ?_ _ | refine below_drewN0 ?_ _ | refine below_drew0 ?_ | refine below_step ?_ (by assumption) | refine below_later ?_ _ | refine below_setCell0 ?_ (by first | exact Nat.le_refl _ | (simp; done) | omega | (simp; omega)) _))⟩
    · go_wp2
      go_ret3
      exact ⟨by rw [HO.out, HL.out, if_neg (by omega)]; rfl, (by repeat (first | exact Below.refl _ _ | refine below_alloc ?_ _ | refine below_drewN0 ?_ _ | refine below_drew0 ?_ | refine below_step ?_ (by assumption) | refine below_later ?_ _ | refine below_setCell0 ?_ (by first | exact Nat.le_refl _ | (simp; done) | omega | (simp; omega)) _))⟩
end Go.Proofs.YtpnfhienffekoaaGreatDoor
