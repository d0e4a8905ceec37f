/- Contracts of the functions on the distance of two stars. -/
import Derived.Test.YtpnfhienffekoaaGreatDoorSep
import Derived.Test.YtpnfhienffekoaaGreatDoorSta
namespace Go.Proofs.YtpnfhienffekoaaGreatDoor
set_option linter.unusedVariables false
set_option linter.unusedSimpArgs false
open Go.RowKit
attribute [local go_sem ↓] Go.wp_at_zero Go.wp_at_succ
/-- the direction of a star -/
def Sta.dir (x : Sta) : V3 := dirV x.ri x.de
/-- the distance of two stars -/
def farI (x y : Sta) : Int := sepI x.dir y.dir
theorem farI_swap (x y : Sta) : farI y x = farI x y := sepI_swap _ _
theorem farI_bd (x y : Sta) : 0 ≤ farI x y ∧ farI x y < 360000 := sepI_bd _ _
theorem ok_dir {x : Sta} (h : x.ok = true) : 0 ≤ x.ri ∧ x.ri ≤ 359999 ∧ -90000 ≤ x.de ∧ x.de ≤ 90000 := by
  simp only [Sta.ok, vStar, vDir, Bool.and_eq_true, inB_iff] at h; omega
/-- numbers that angles may be -/
def AngOk (a : Int) : Prop := -9000000000000000000 ≤ a ∧ a ≤ 9000000000000000000
theorem ok_ang {x : Sta} (h : x.ok = true) : AngOk x.ri ∧ AngOk x.de := by
  have := ok_dir h; unfold AngOk; omega
set_option maxHeartbeats 2000000 in
theorem starDistance_any (x : Sta) (r d : Int) (w : World) (hS : SinOk w) (h1 : AngOk x.ri) (h2 : AngOk x.de) (h3 : AngOk r) (h4 : AngOk d) :
    Calls Tryz.prog 78 #[.agg #[.string x.id, .int .i64 x.ri, .int .i64 x.de, .int .i64 x.ma, .int .i64 x.co], .int .i64 r, .int .i64 d] w fun e w' => e = .returned (.int .i64 (sepI (dirV r d) x.dir)) ∧ Below w.heap.size w w' := by
  have HO : Hid ((sepO (dirV r d) x.dir).1 = sepI (dirV r d) x.dir) := sepO_fst _ _
  have C1 : Hid (∀ W, SinOk W → Calls Tryz.prog 88 #[.int .i64 r, .int .i64 d] W fun e w' => e = .returned (.agg #[.int .i64 (dirV r d).x, .int .i64 (dirV r d).y, .int .i64 (dirV r d).z]) ∧ Below W.heap.size W w') := fun W hW => directionOf_any r d W hW h3 h4
  have C2 : Hid (∀ W, SinOk W → Calls Tryz.prog 88 #[.int .i64 x.ri, .int .i64 x.de] W fun e w' => e = .returned (.agg #[.int .i64 x.dir.x, .int .i64 x.dir.y, .int .i64 x.dir.z]) ∧ Below W.heap.size W w') := fun W hW => directionOf_any x.ri x.de W hW h1 h2
  have C3 : Hid (∀ W, SinOk W → Calls Tryz.prog 117 #[.agg #[.int .i64 (dirV r d).x, .int .i64 (dirV r d).y, .int .i64 (dirV r d).z], .agg #[.int .i64 x.dir.x, .int .i64 x.dir.y, .int .i64 x.dir.z]] W fun e w' => e = .returned (.tuple #[.int .i64 (sepO (dirV r d) x.dir).1, .int .i64 (sepO (dirV r d) x.dir).2]) ∧ Below W.heap.size W w') := fun W hW => Separation_any _ _ W hW (dirV_sm _ _) (dirV_sm _ _)
  generalize dirV r d = a at *
  generalize x.dir = b at *
  generalize sepI a b = z at *
  generalize (sepO a b).1 = z1 at *
  generalize (sepO a b).2 = z2 at *
  clear h1 h2 h3 h4
  go_enter Tryz.func78, Tryz.ntmps78
  go_wp2_with (fail)
  refine wp_named ?_
  intro W1 hW1
  have hbW : Below w.heap.size w W1 := by rw [hW1]; exact (by repeat (first | exact Below.refl _ _ | refine below_alloc ?_ _ | refine below_drewN0 ?_ _ | refine below_drew0 ?_ | refine below_step ?_ (by assumption) | refine below_later ?_ _ | refine below_setCell0 ?_ (by first | exact Nat.le_refl _ | (simp; done) | omega | (simp; omega)) _))
  have hlt : w.heap.size < W1.heap.size := by rw [hW1]; simp
  have k1 : W1.cell? ⟨w.heap.size, 1, none⟩ = some (.int .i64 x.ri) := by rw [hW1]; simp
  have k2 : W1.cell? ⟨w.heap.size, 2, none⟩ = some (.int .i64 x.de) := by rw [hW1]; simp
  have hS1 : SinOk W1 := by rw [hW1]; exact hS.alloc _
  clear hW1
  (refine later_intro_wp ?_; intro y)
  (refine wp_region_later (by kernel_rfl) (by kernel_rfl) ?_; (repeat (first | go_big_quiet_step ((first | (with_reducible (go_at_call 88; exact later_below (C1.out _ (SinOk.later hS1 _)))) | (with_reducible (go_at_call 88; exact later_below (C2.out _ (SinOk.later hS1 _)))) | (go_at_call 117; exact later_below (C3.out _ (SinOk.later hS1 _))))) | quiet_step ((first | (with_reducible (go_at_call 88; exact later_below (C1.out _ (SinOk.later hS1 _)))) | (with_reducible (go_at_call 88; exact later_below (C2.out _ (SinOk.later hS1 _)))) | (go_at_call 117; exact later_below (C3.out _ (SinOk.later hS1 _))))))); refine wpQuiet_nil ?_; rintro _ ⟨y, rfl⟩)
  go_wp2
  go_ret
  exact ⟨ret_int (by rw [← HO.out]), (by repeat (first | exact Below.refl _ _ | refine below_alloc ?_ _ | refine below_drewN0 ?_ _ | refine below_drew0 ?_ | refine below_step ?_ (by assumption) | refine below_later ?_ _ | refine below_setCell0 ?_ (by first | exact Nat.le_refl _ | (simp; done) | omega | (simp; omega)) _))⟩
set_option maxHeartbeats 2000000 in
theorem starGap_any (A : Option Addr) (n c : Nat) (l : List Sta) (i k : Nat) (x y : Sta) (w : World) (hS : SinOk w) (hl : l.length = n) (hn : n ≤ 9223372036854775807) (hA : Stars w A l) (hx : l[i]? = some x) (hy : l[k]? = some y) (h1 : AngOk x.ri ∧ AngOk x.de) (h2 : AngOk y.ri ∧ AngOk y.de) :
    Calls Tryz.prog 85 #[.slice A n c, .int .i64 i, .int .i64 k] w fun e w' => e = .returned (.int .i64 (farI x y)) ∧ Below w.heap.size w w' := by
  have hi : i < n := by rw [← hl]; exact (List.getElem?_eq_some_iff.1 hx).1
  have hk : k < n := by rw [← hl]; exact (List.getElem?_eq_some_iff.1 hy).1
  obtain ⟨b, o, rfl, hc⟩ := hA (by omega)
  obtain ⟨c0, c1, c2, c3, c4⟩ := hc i x hx
  obtain ⟨_, d1, d2, _, _⟩ := hc k y hy
  have l0 := World.block_lt_of_cell? w _ c0
  have C : Hid (∀ W, SinOk W → Calls Tryz.prog 78 #[.agg #[.string x.id, .int .i64 x.ri, .int .i64 x.de, .int .i64 x.ma, .int .i64 x.co], .int .i64 y.ri, .int .i64 y.de] W fun e w' => e = .returned (.int .i64 (farI x y)) ∧ Below W.heap.size W w') := fun W hW => by
    have := starDistance_any x y.ri y.de W hW h1.1 h1.2 h2.1 h2.2
    rwa [show sepI (dirV y.ri y.de) x.dir = farI x y from farI_swap x y] at this
  have hii : (i : Int) < n := by omega
  have hkk : (k : Int) < n := by omega
  clear hc hx hy hl h1 h2
  go_enter Tryz.func85, Tryz.ntmps85
  go_wp2_with (fail)
  (refine later_intro_wp ?_; intro y)
  (refine wp_region_later (by kernel_rfl) (by kernel_rfl) ?_; (repeat (first | go_big_quiet_step (((go_at_call 78; exact later_below (C.out _ (SinOk.later hS _))))) | quiet_step (((go_at_call 78; exact later_below (C.out _ (SinOk.later hS _))))))); refine wpQuiet_nil ?_; rintro _ ⟨y, rfl⟩)
  go_wp2
  go_ret
  exact ⟨rfl, (by repeat (first | exact Below.refl _ _ | refine below_alloc ?_ _ | refine below_drewN0 ?_ _ | refine below_drew0 ?_ | refine below_step ?_ (by assumption) | refine below_later ?_ _ | refine below_setCell0 ?_ (by first | exact Nat.le_refl _ | (simp; done) | omega | (simp; omega)) _))⟩
end Go.Proofs.YtpnfhienffekoaaGreatDoor
