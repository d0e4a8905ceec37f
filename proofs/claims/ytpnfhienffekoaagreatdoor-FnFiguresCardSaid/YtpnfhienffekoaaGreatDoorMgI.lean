/- Angl, GrpHor, Alt, in one text. -/
import Derived.Test.YtpnfhienffekoaaGreatDoorMgG
import Derived.Test.YtpnfhienffekoaaGreatDoorGrpPure
import Derived.Test.YtpnfhienffekoaaGreatDoorMgF
import Derived.Test.YtpnfhienffekoaaGreatDoorGrpNum
import Derived.Test.YtpnfhienffekoaaGreatDoorSta
namespace Go.Proofs.YtpnfhienffekoaaGreatDoor
set_option linter.unusedVariables false
set_option linter.unusedSimpArgs false
open Go.RowKit
attribute [local go_sem ↓] Go.wp_at_zero Go.wp_at_succ
set_option maxHeartbeats 4000000 in
theorem AnglesOf_any (v : V3) (w : World) (hS : SinOk w) (h : v.md) :
    Calls Tryz.prog 89 #[.agg #[.int .i64 v.x, .int .i64 v.y, .int .i64 v.z]] w fun e w' => e = .returned (.tuple #[.int .i64 (anglesO v).1, .int .i64 (anglesO v).2.1, .int .i64 (anglesO v).2.2]) ∧ Below w.heap.size w w' := by
  have va : vVec v.x v.y v.z = true := by obtain ⟨h1, h2, h3⟩ := h; exact vVec_ok h1 h2 h3
  have qa := run_eql_vec v.x v.y v.z
  cases hz : zeroV v with
  | true =>
    have HO := Lib.hid (anglesO_zero hz)
    have qa' : zeroV ⟨v.x, v.y, v.z⟩ = true := hz
    rw [qa'] at qa
    clear hz qa' h
    go_enter Tryz.func89, Tryz.ntmps89
    go_wp2_with (fail)
    (refine later_intro ?_; intro y)
    go_wp2_with ((go_at_call 125; refine (later_below (ValidVector_any _ _ _ _)).mono ?_; rintro e w' ⟨rfl, y, rfl⟩))
    go_ret3
    exact ⟨by rw [HO.out]; rfl, (by repeat (first | exact Below.refl _ _ | refine below_alloc ?_ _ | refine below_drewN0 ?_ _ | refine below_drew0 ?_ | refine below_step ?_ (by assumption) | refine below_later ?_ _ | refine below_setCell0 ?_ (by first | exact Nat.le_refl _ | (simp; done) | omega | (simp; omega)) _))⟩
  | false =>
    have HO := Lib.hid (anglesO_yes hz)
    have qa' : zeroV ⟨v.x, v.y, v.z⟩ = false := hz
    rw [qa'] at qa
    obtain ⟨p1, p2⟩ := sq_bd _ h.1
    obtain ⟨p3, p4⟩ := sq_bd _ h.2.1
    have A1 : Hid (∀ W, SinOk W → Calls Tryz.prog 64 #[.int .i64 v.y, .int .i64 v.x] W fun e w' => e = .returned (.tuple #[.int .i64 (lonI v), .int .i64 (arcO v.y v.x).2]) ∧ ∃ q, w' = W.drewN q) := fun W hW => ArcTangent_any v.y v.x W hW
    have A2 : Hid (∀ W, SinOk W → Calls Tryz.prog 64 #[.int .i64 v.z, .int .i64 (flatI v)] W fun e w' => e = .returned (.tuple #[.int .i64 (latR v), .int .i64 0]) ∧ ∃ q, w' = W.drewN q) := fun W hW => by
      have := ArcTangent_any v.z (flatI v) W hW
      rwa [lat_arc h hz] at this
    have A3 : Hid (∀ W, Calls Tryz.prog 63 #[.int .i64 (v.x * v.x + v.y * v.y)] W fun e w' => e = .returned (.int .i64 (flatI v)) ∧ W = w') := fun W => RootOf_any _ W (by omega)
    have w1 : IntKind.i64.wrap (v.x * v.x) = v.x * v.x := wrap_in' (by omega) (by omega)
    have w2 : IntKind.i64.wrap (v.y * v.y) = v.y * v.y := wrap_in' (by omega) (by omega)
    have w3 : IntKind.i64.wrap (v.x * v.x + v.y * v.y) = v.x * v.x + v.y * v.y := wrap_in' (by omega) (by omega)
    have lb := arcI_bd v.z (flatI v)
    have lb1 : 0 ≤ latR v := lb.1
    have lb2 : latR v < 360000 := lb.2
    have HL : Hid (latI v = if 90000 < latR v then latR v - 360000 else latR v) := rfl
    clear hz qa' h lb
    generalize lonI v = LO at *
    generalize latR v = LR at *
    generalize latI v = LA at *
    generalize flatI v = FL at *
    generalize (arcO v.y v.x).2 = K at *
    go_enter Tryz.func89, Tryz.ntmps89
    go_wp2_with (fail)
    refine calls_named ?_
    intro W1 hW1
    have hbW : Below w.heap.size w W1 := by rw [hW1]; exact (by repeat (first | exact Below.refl _ _ | refine below_alloc ?_ _ | refine below_drewN0 ?_ _ | refine below_drew0 ?_ | refine below_step ?_ (by assumption) | refine below_later ?_ _ | refine below_setCell0 ?_ (by first | exact Nat.le_refl _ | (simp; done) | omega | (simp; omega)) _))
    have hlt : w.heap.size < W1.heap.size := by rw [hW1]; simp
    have k0 : W1.cell? ⟨w.heap.size, 0, none⟩ = some (.int .i64 v.x) := by rw [hW1]; simp
    have k1 : W1.cell? ⟨w.heap.size, 1, none⟩ = some (.int .i64 v.y) := by rw [hW1]; simp
    have k2 : W1.cell? ⟨w.heap.size, 2, none⟩ = some (.int .i64 v.z) := by rw [hW1]; simp
    have hS1 : SinOk W1 := by rw [hW1]; exact hS.alloc _
    clear hW1
    (refine later_intro ?_; intro y)
    go_wp2_with (first | (go_at_call 125; refine (later_below (ValidVector_any _ _ _ _)).mono ?_; rintro e w' ⟨rfl, y, rfl⟩) | (go_at_call 64; refine (later_drew (A1.out _ (SinOk.later hS1 _))).mono ?_; rintro e w' ⟨rfl, y, rfl⟩))
    (refine wp_region_later (by kernel_rfl) (by kernel_rfl) ?_; (repeat (first | go_big_quiet_step ((first | (go_at_call 63; exact later_same (A3.out _)) | (go_at_call 64; exact later_drew (A2.out _ (SinOk.later hS1 _))))) | quiet_step ((first | (go_at_call 63; exact later_same (A3.out _)) | (go_at_call 64; exact later_drew (A2.out _ (SinOk.later hS1 _))))))); refine wpQuiet_nil ?_; rintro _ ⟨y, rfl⟩)
    by_cases hc : 90000 < LR
    · go_wp2
      go_ret3
      exact ⟨by rw [HO.out, HL.out, if_pos hc]; rfl, (by repeat (first | exact Below.refl _ _ | refine below_alloc ?_ _ | refine below_drewN0 ?_ _ | refine below_drew0 ?_ | refine below_step ?_ (by assumption) | refine below_later ?_ _ | refine below_setCell0 ?_ (by first | exact Nat.le_refl _ | (simp; done) | omega | (simp; omega)) _))⟩
    · go_wp2
      go_ret3
      exact ⟨by rw [HO.out, HL.out, if_neg (by omega)]; rfl, (by repeat (first | exact Below.refl _ _ | refine below_alloc ?_ _ | refine below_drewN0 ?_ _ | refine below_drew0 ?_ | refine below_step ?_ (by assumption) | refine below_later ?_ _ | refine below_setCell0 ?_ (by first | exact Nat.le_refl _ | (simp; done) | omega | (simp; omega)) _))⟩
end Go.Proofs.YtpnfhienffekoaaGreatDoor
section
namespace Go.Proofs.YtpnfhienffekoaaGreatDoor
set_option linter.unusedVariables false
set_option linter.unusedSimpArgs false
open Go.RowKit
attribute [local go_sem ↓] Go.wp_at_zero Go.wp_at_succ
theorem Later.lt_size {a : World} (y : Later a) {k : Nat} (h : k < a.heap.size) : (k < y.w.heap.size) = True := by
  simp only [eq_iff_iff, iff_true]; exact Nat.lt_of_lt_of_le h (below_size y.below)
theorem Later.lt_size1 {a : World} (y : Later a) {k : Nat} (h : k < a.heap.size) : (k < y.w.heap.size + 1) = True := by
  simp only [eq_iff_iff, iff_true]; have := Nat.lt_of_lt_of_le h (below_size y.below); omega
theorem Later.held {a : World} (y : Later a) {b o : Nat} {v : Value} (h : a.cell? ⟨b, o, none⟩ = some v) : y.w.cell? ⟨b, o, none⟩ = some v := (Later.cell y (World.block_lt_of_cell? a _ h)).trans h
theorem held_drew {a : World} {b o : Nat} {v : Value} (h : a.cell? ⟨b, o, none⟩ = some v) : a.drew.cell? ⟨b, o, none⟩ = some v := h
theorem held_set {a : World} {p : Addr} {u : Value} {b o : Nat} {v : Value} (_ : True) (hne : p.block ≠ b) (h : a.cell? ⟨b, o, none⟩ = some v) : (a.setCell p u).cell? ⟨b, o, none⟩ = some v := (World.cell?_setCell_far a p ⟨b, o, none⟩ u hne).trans h
theorem lt_later_drew {a : World} {k : Nat} (h : k < a.heap.size) (y : Later a.drew) : k < y.w.heap.size := Nat.lt_of_lt_of_le (show k < a.drew.heap.size from h) (below_size y.below)
theorem held_alloc {a : World} (o' : Obj) {b o : Nat} {v : Value} (h : a.cell? ⟨b, o, none⟩ = some v) : (a.alloc o').cell? ⟨b, o, none⟩ = some v := (World.cell?_alloc_lt _ _ _ (World.block_lt_of_cell? a _ h)).trans h
theorem drew_size (a : World) : a.drew.heap.size = a.heap.size := rfl
attribute [local go_sem] drew_size Later.lt_size Later.lt_size1
theorem later_some {a : World} {y : Later a} {b o : Nat} (h : (a.cell? ⟨b, o, none⟩).isSome = true) : (y.w.cell? ⟨b, o, none⟩).isSome = true := by
  obtain ⟨v, hv⟩ := Option.isSome_iff_exists.1 h
  rw [Later.held y hv]; rfl
/-- the world behind a box of three cells that was just filled, under a name of its own -/
theorem box_set {F : World → Prop} {g : Nat} {W : World} {v0 v1 v2 : Value} (h0 : (W.cell? ⟨g, 0, none⟩).isSome = true) (h1 : (W.cell? ⟨g, 1, none⟩).isSome = true) (h2 : (W.cell? ⟨g, 2, none⟩).isSome = true)
    (k : ∀ W3 : World, W3.cell? ⟨g, 0, none⟩ = some v0 → W3.cell? ⟨g, 1, none⟩ = some v1 → W3.cell? ⟨g, 2, none⟩ = some v2 → W3 = ((W.setCell ⟨g, 0, none⟩ v0).setCell ⟨g, 1, none⟩ v1).setCell ⟨g, 2, none⟩ v2 → F W3) :
    F (((W.setCell ⟨g, 0, none⟩ v0).setCell ⟨g, 1, none⟩ v1).setCell ⟨g, 2, none⟩ v2) := by
  obtain ⟨u0, e0⟩ := Option.isSome_iff_exists.1 h0
  obtain ⟨u1, e1⟩ := Option.isSome_iff_exists.1 h1
  obtain ⟨u2, e2⟩ := Option.isSome_iff_exists.1 h2
  refine k _ ?_ ?_ ?_ rfl <;> simp [go_sem, e0, e1, e2]
theorem box_new {F : World → Prop} {W : World} {v0 v1 v2 : Value} {t : TypeId}
    (k : ∀ W3 : World, W3.cell? ⟨W.heap.size, 0, none⟩ = some v0 → W3.cell? ⟨W.heap.size, 1, none⟩ = some v1 → W3.cell? ⟨W.heap.size, 2, none⟩ = some v2 → W3 = W.alloc (.cells #[v0, v1, v2] t) → F W3) :
    F (W.alloc (.cells #[v0, v1, v2] t)) := by
  refine k _ ?_ ?_ ?_ rfl <;> simp [go_sem]
theorem askI_cases (n : List UInt8) (lo la s r d : Int) : (vSite n lo la = false ∧ askI n lo la s r d = 1) ∨ (vSite n lo la = true ∧ inB s 0 359999 = false ∧ askI n lo la s r d = 2) ∨
    (vSite n lo la = true ∧ inB s 0 359999 = true ∧ vDir r d = false ∧ askI n lo la s r d = 2) ∨ (vSite n lo la = true ∧ inB s 0 359999 = true ∧ vDir r d = true ∧ askI n lo la s r d = 0) := by
  unfold askI vDir
  cases vSite n lo la <;> cases inB s 0 359999 <;> cases inB r 0 359999 <;> cases inB d (-90000) 90000 <;> simp
set_option maxHeartbeats 4000000 in
theorem HorizontalVector_any (n : ByteArray) (lo la s r d : Int) (w : World) (hS : SinOk w) :
    Calls Tryz.prog 128 #[.agg #[.string n, .int .i64 lo, .int .i64 la], .int .i64 s, .int .i64 r, .int .i64 d] w fun e w' =>
      e = .returned (.tuple #[.agg #[.int .i64 (hvO n.data.toList lo la s r d).1, .int .i64 (hvO n.data.toList lo la s r d).2.1, .int .i64 (hvO n.data.toList lo la s r d).2.2.1], .int .i64 (hvO n.data.toList lo la s r d).2.2.2]) ∧ Below w.heap.size w w' := by
  rcases askI_cases n.data.toList lo la s r d with ⟨v1, hk⟩ | ⟨v1, v2, hk⟩ | ⟨v1, v2, v3, hk⟩ | ⟨v1, v2, v3, hk⟩
  · have HO : Hid (hvO n.data.toList lo la s r d = (0, 0, 0, 1)) := by show _ = _; rw [hvO_no (by rw [hk]; omega), hk]
    clear hk
    go_enter Tryz.func128, Tryz.ntmps128
    go_wp2_with (fail)
    (refine later_intro ?_; intro y)
    go_wp2_with ((go_at_call 93; refine (later_below (ValidSite_any _ _ _ _)).mono ?_; rintro e w' ⟨rfl, y, rfl⟩))
    exact bodyPost_ret (v := .tuple #[.agg #[.int .i64 0, .int .i64 0, .int .i64 0], .int .i64 1]) (by simp [results, Tryz.results128, go_sem]) rfl ⟨by rw [HO.out], (by repeat (first | exact Below.refl _ _ | refine below_alloc ?_ _ | refine below_drewN0 ?_ _ | refine below_drew0 ?_ | refine below_step ?_ (by assumption) | refine below_later ?_ _ | refine below_setCell0 ?_ (by first | exact Nat.le_refl _ | (simp; done) | omega | (simp; omega)) _))⟩
  · have HO : Hid (hvO n.data.toList lo la s r d = (0, 0, 0, 2)) := by show _ = _; rw [hvO_no (by rw [hk]; omega), hk]
    clear hk
    go_enter Tryz.func128, Tryz.ntmps128
    go_wp2_with (fail)
    (refine later_intro ?_; intro y)
    go_wp2_with (first | (go_at_call 93; refine (later_below (ValidSite_any _ _ _ _)).mono ?_; rintro e w' ⟨rfl, y, rfl⟩) | (go_at_call 79; refine (within_any _ _ _ _).mono ?_; rintro e w' ⟨rfl, rfl⟩) | (go_at_call 77; refine (later_same (validDirection_any _ _ _)).mono ?_; rintro e w' ⟨rfl, y, rfl⟩))
    exact bodyPost_ret (v := .tuple #[.agg #[.int .i64 0, .int .i64 0, .int .i64 0], .int .i64 2]) (by simp [results, Tryz.results128, go_sem]) rfl ⟨by rw [HO.out], (by repeat (first | exact Below.refl _ _ | refine below_alloc ?_ _ | refine below_drewN0 ?_ _ | refine below_drew0 ?_ | refine below_step ?_ (by assumption) | refine below_later ?_ _ | refine below_setCell0 ?_ (by first | exact Nat.le_refl _ | (simp; done) | omega | (simp; omega)) _))⟩
  · have HO : Hid (hvO n.data.toList lo la s r d = (0, 0, 0, 2)) := by show _ = _; rw [hvO_no (by rw [hk]; omega), hk]
    clear hk
    go_enter Tryz.func128, Tryz.ntmps128
    go_wp2_with (fail)
    (refine later_intro ?_; intro y)
    go_wp2_with (first | (go_at_call 93; refine (later_below (ValidSite_any _ _ _ _)).mono ?_; rintro e w' ⟨rfl, y, rfl⟩) | (go_at_call 79; refine (within_any _ _ _ _).mono ?_; rintro e w' ⟨rfl, rfl⟩) | (go_at_call 77; refine (later_same (validDirection_any _ _ _)).mono ?_; rintro e w' ⟨rfl, y, rfl⟩))
    exact bodyPost_ret (v := .tuple #[.agg #[.int .i64 0, .int .i64 0, .int .i64 0], .int .i64 2]) (by simp [results, Tryz.results128, go_sem]) rfl ⟨by rw [HO.out], (by repeat (first | exact Below.refl _ _ | refine below_alloc ?_ _ | refine below_drewN0 ?_ _ | refine below_drew0 ?_ | refine below_step ?_ (by assumption) | refine below_later ?_ _ | refine below_setCell0 ?_ (by first | exact Nat.le_refl _ | (simp; done) | omega | (simp; omega)) _))⟩
  · have HO : Hid (hvO n.data.toList lo la s r d = (hvX la s r d, hvY s r d, hvZ la s r d, 0)) := hvO_ok hk
    obtain ⟨_, _, l1, l2⟩ := vSite_bd v1
    obtain ⟨s1, s2⟩ := (inB_iff _ _ _).1 v2
    obtain ⟨r1, r2, d1, d2⟩ := vDir_bd v3
    have hok : vVec (hvX la s r d) (hvY s r d) (hvZ la s r d) = true := hv_ok la s r d
    have hx := dirX_bd (r - s) d
    have hv := dirY_bd (r - s) d
    have hz := dirZ_bd d
    clear hk
    go_enter Tryz.func128, Tryz.ntmps128
    go_wp2_with (fail)
    refine calls_named ?_
    intro W1 hW1
    have hbW : Below w.heap.size w W1 := by rw [hW1]; exact (by repeat (first | exact Below.refl _ _ | refine below_alloc ?_ _ | refine below_drewN0 ?_ _ | refine below_drew0 ?_ | refine below_step ?_ (by assumption) | refine below_later ?_ _ | refine below_setCell0 ?_ (by first | exact Nat.le_refl _ | (simp; done) | omega | (simp; omega)) _))
    have hS1 : SinOk W1 := by rw [hW1]; exact (hS.alloc _).alloc _
    have hlt : w.heap.size < W1.heap.size := by rw [hW1]; simp; omega
    have hlt1 : w.heap.size + 1 < W1.heap.size := by rw [hW1]; simp
    have k2 : W1.cell? ⟨w.heap.size, 2, none⟩ = some (.int .i64 la) := by rw [hW1]; simp
    have e0 : W1.cell? ⟨w.heap.size + 1, 0, none⟩ = some (.int .i64 0) := by rw [hW1]; simp
    have e1 : W1.cell? ⟨w.heap.size + 1, 1, none⟩ = some (.int .i64 0) := by rw [hW1]; simp
    have e2 : W1.cell? ⟨w.heap.size + 1, 2, none⟩ = some (.int .i64 0) := by rw [hW1]; simp
    have f0 : W1.frozen? ⟨w.heap.size + 1, 0, none⟩ = false := by rw [hW1]; simp [go_sem]
    have f1 : W1.frozen? ⟨w.heap.size + 1, 1, none⟩ = false := by rw [hW1]; simp [go_sem]
    have f2 : W1.frozen? ⟨w.heap.size + 1, 2, none⟩ = false := by rw [hW1]; simp [go_sem]
    clear hW1
    (refine later_intro ?_; intro y)
    go_wp2_with (first | (go_at_call 93; refine (later_below (ValidSite_any _ _ _ _)).mono ?_; rintro e w' ⟨rfl, y, rfl⟩) | (go_at_call 79; refine (within_any _ _ _ _).mono ?_; rintro e w' ⟨rfl, rfl⟩) | (go_at_call 77; refine (later_same (validDirection_any _ _ _)).mono ?_; rintro e w' ⟨rfl, y, rfl⟩))
    rename Later W1 => y0
    have wr : IntKind.i64.wrap (r - s) = r - s := wrap_in (by omega) (by omega)
    have kk : y0.w.cell? ⟨w.heap.size, 2, none⟩ = some (.int .i64 la) := (Later.cell y0 hlt).trans k2
    have hy : w.heap.size < y0.w.heap.size := Nat.lt_of_lt_of_le hlt (below_size y0.below)
    have hSy : SinOk y0.w := SinOk.later hS1 y0
    have hy1 : w.heap.size + 1 < y0.w.heap.size := Nat.lt_of_lt_of_le hlt1 (below_size y0.below)
    have hbY : Below W1.heap.size W1 y0.w := y0.below
    go_region_held3 (fun w' => w'.cell? ⟨w.heap.size, 2, none⟩ = some (.int .i64 la) ∧ Below W1.heap.size W1 w')
      ((refine ⟨?_, ?_⟩ <;> (first | (with_reducible (repeat (first | assumption | refine Later.held _ ?_ | refine held_alloc _ ?_ | refine held_drew ?_ | refine held_set trivial (by first | exact Nat.ne_of_gt hy | exact Nat.ne_of_gt (lt_later_drew hy _)) ?_)); done) | ((repeat (first | assumption | exact (And.right (by assumption)) | refine below_later ?_ _ | refine below_alloc ?_ _ | refine below_drew0 ?_ | refine below_setCell0 ?_ (by repeat (first | exact Nat.le_refl _ | exact below_size y0.below | exact below_size (below_drew0 hbY) | refine Nat.le_trans ?_ (below_size (Later.below _)))) _)); done))))
      (first | (go_at_call 88; refine later_intro ?_; intro y; refine (later_below (directionOf_any (r - s) d _ (by repeat (first | assumption | refine SinOk.later ?_ _ | refine SinOk.alloc ?_ _ | exact SinOk.drewN hSy 1)) ⟨by omega, by omega⟩ ⟨by omega, by omega⟩)).mono ?_; rintro e w' ⟨rfl, y, rfl⟩) | (go_at_call 155; refine later_intro ?_; intro y; refine (later_below (RotateAround_any _ _ _ la _ (by repeat (first | assumption | refine SinOk.later ?_ _ | refine SinOk.alloc ?_ _ | exact SinOk.drewN hSy 1)) hx ⟨by omega, by omega⟩ hz ⟨by omega, by omega⟩)).mono ?_; rintro e w' ⟨rfl, y, rfl⟩))
    all_goals (first | refine box_new ?_ | refine box_set (by first | exact later_some (by simp [go_sem]) | exact later_some (later_some (by simp [go_sem]))) (by first | exact later_some (by simp [go_sem]) | exact later_some (later_some (by simp [go_sem]))) (by first | exact later_some (by simp [go_sem]) | exact later_some (later_some (by simp [go_sem]))) ?_)
    all_goals (intro W3 b0 b1 b2 hW3)
    all_goals
      have hb3 : Below W1.heap.size W1 W3 := by
        rw [hW3]
        first
          | exact And.right (by assumption)
          | exact below_alloc (And.right (by assumption)) _
          | exact below_setCell0 (below_setCell0 (below_setCell0 (And.right (by assumption)) (by repeat (first | exact Nat.le_refl _ | exact below_size y0.below | exact below_size (below_drew0 hbY) | refine Nat.le_trans ?_ (below_size (Later.below _)))) _) (by repeat (first | exact Nat.le_refl _ | exact below_size y0.below | exact below_size (below_drew0 hbY) | refine Nat.le_trans ?_ (below_size (Later.below _)))) _) (by repeat (first | exact Nat.le_refl _ | exact below_size y0.below | exact below_size (below_drew0 hbY) | refine Nat.le_trans ?_ (below_size (Later.below _)))) _
      have hs3 : w.heap.size + 1 < W3.heap.size := Nat.lt_of_lt_of_le hlt1 hb3.size
      have t0 : W3.cell? ⟨w.heap.size + 1, 0, none⟩ = some (.int .i64 0) := (hb3.cell (p := ⟨w.heap.size + 1, 0, none⟩) hlt1).trans e0
      have t1 : W3.cell? ⟨w.heap.size + 1, 1, none⟩ = some (.int .i64 0) := (hb3.cell (p := ⟨w.heap.size + 1, 1, none⟩) hlt1).trans e1
      have t2 : W3.cell? ⟨w.heap.size + 1, 2, none⟩ = some (.int .i64 0) := (hb3.cell (p := ⟨w.heap.size + 1, 2, none⟩) hlt1).trans e2
      have u0 : W3.frozen? ⟨w.heap.size + 1, 0, none⟩ = false := (hb3.frozen (p := ⟨w.heap.size + 1, 0, none⟩) hlt1).trans f0
      have u1 : W3.frozen? ⟨w.heap.size + 1, 1, none⟩ = false := (hb3.frozen (p := ⟨w.heap.size + 1, 1, none⟩) hlt1).trans f1
      have u2 : W3.frozen? ⟨w.heap.size + 1, 2, none⟩ = false := (hb3.frozen (p := ⟨w.heap.size + 1, 2, none⟩) hlt1).trans f2
      have hbw : Below w.heap.size w W3 := below_step hbW hb3
      clear hW3
      go_wp2_with (fail)
      (refine later_intro ?_; intro y)
      (go_at_call 156; refine (later_below (checkedVector_any _ _ _ _ hok)).mono ?_; rintro e w' ⟨rfl, y, rfl⟩)
      go_wp2
      exact bodyPost_ret (v := .tuple #[.agg #[.int .i64 (hvX la s r d), .int .i64 (hvY s r d), .int .i64 (hvZ la s r d)], .int .i64 0]) (by simp [results, Tryz.results128, go_sem, hs3, t0, t1, t2]) rfl ⟨by rw [HO.out], below_setCell0 (below_setCell0 (below_setCell0 (below_later hbw _) (Nat.le_succ _) _) (Nat.le_succ _) _) (Nat.le_succ _) _⟩
end Go.Proofs.YtpnfhienffekoaaGreatDoor
end
section
namespace Go.Proofs.YtpnfhienffekoaaGreatDoor
set_option linter.unusedVariables false
set_option linter.unusedSimpArgs false
open Go.RowKit
end Go.Proofs.YtpnfhienffekoaaGreatDoor
end
section
namespace Go.Proofs.YtpnfhienffekoaaGreatDoor
set_option linter.unusedVariables false
set_option linter.unusedSimpArgs false
open Go.RowKit
attribute [local go_sem ↓] Go.wp_at_zero Go.wp_at_succ
set_option maxHeartbeats 2000000 in
theorem Horizontal_any (n : ByteArray) (lo la s r d : Int) (w : World) (hS : SinOk w) :
    Calls Tryz.prog 94 #[.agg #[.string n, .int .i64 lo, .int .i64 la], .int .i64 s, .int .i64 r, .int .i64 d] w fun e w' => e = .returned (.tuple #[.int .i64 (horO n.data.toList lo la s r d).1, .int .i64 (horO n.data.toList lo la s r d).2.1, .int .i64 (horO n.data.toList lo la s r d).2.2]) ∧ Below w.heap.size w w' := by
  by_cases hk : askI n.data.toList lo la s r d = 0
  · have HO := Lib.hid (horO_ok hk)
    have C1 : Hid (∀ W, SinOk W → Calls Tryz.prog 128 #[.agg #[.string n, .int .i64 lo, .int .i64 la], .int .i64 s, .int .i64 r, .int .i64 d] W fun e w' => e = .returned (.tuple #[.agg #[.int .i64 (hvV la s r d).x, .int .i64 (hvV la s r d).y, .int .i64 (hvV la s r d).z], .int .i64 0]) ∧ Below W.heap.size W w') := fun W hW => by
      have := HorizontalVector_any n lo la s r d W hW
      rw [hvO_ok hk] at this; exact this
    have C2 : Hid (∀ W, SinOk W → Calls Tryz.prog 89 #[.agg #[.int .i64 (hvV la s r d).x, .int .i64 (hvV la s r d).y, .int .i64 (hvV la s r d).z]] W fun e w' => e = .returned (.tuple #[.int .i64 (anglesO (hvV la s r d)).1, .int .i64 (anglesO (hvV la s r d)).2.1, .int .i64 (anglesO (hvV la s r d)).2.2]) ∧ Below W.heap.size W w') := fun W hW => AnglesOf_any (hvV la s r d) W hW (hvV_md _ _ _ _)
    clear hk
    generalize hvV la s r d = v at *
    generalize (anglesO v) = o at *
    go_enter Tryz.func94, Tryz.ntmps94
    go_wp2_with (fail)
    refine calls_named ?_
    intro W1 hW1
    have hbW : Below w.heap.size w W1 := by rw [hW1]; exact (by repeat (first | exact Below.refl _ _ | refine below_alloc ?_ _ | refine below_drewN0 ?_ _ | refine below_drew0 ?_ | refine below_step ?_ (by assumption) | refine below_later ?_ _ | refine below_setCell0 ?_ (by first | exact Nat.le_refl _ | (simp; done) | omega | (simp; omega)) _))
    have hS1 : SinOk W1 := by rw [hW1]; exact hS.alloc _
    clear hW1
    (refine later_intro ?_; intro y)
    (go_at_call 128; refine (later_below (C1.out _ (SinOk.later hS1 _))).mono ?_; rintro e w' ⟨rfl, y, rfl⟩)
    rename Later W1 => y1
    go_wp2_with (refine (C2.out _ (SinOk.alloc (SinOk.later hS1 _) _)).mono ?_; rintro e w9 ⟨rfl, hb9⟩)
    go_ret3
    exact ⟨by rw [HO.out]; rfl, below_step (below_alloc (below_later hbW _) _) hb9⟩
  · have HO := Lib.hid (horO_no hk)
    have C1 : Hid (∀ W, SinOk W → Calls Tryz.prog 128 #[.agg #[.string n, .int .i64 lo, .int .i64 la], .int .i64 s, .int .i64 r, .int .i64 d] W fun e w' => e = .returned (.tuple #[.agg #[.int .i64 0, .int .i64 0, .int .i64 0], .int .i64 (askI n.data.toList lo la s r d)]) ∧ Below W.heap.size W w') := fun W hW => by
      have := HorizontalVector_any n lo la s r d W hW
      rw [hvO_no hk] at this; exact this
    generalize askI n.data.toList lo la s r d = k at *
    have hk2 : (k == 0) = false := by simpa using hk
    go_enter Tryz.func94, Tryz.ntmps94
    go_wp2_with (fail)
    refine calls_named ?_
    intro W1 hW1
    have hbW : Below w.heap.size w W1 := by rw [hW1]; exact (by repeat (first | exact Below.refl _ _ | refine below_alloc ?_ _ | refine below_drewN0 ?_ _ | refine below_drew0 ?_ | refine below_step ?_ (by assumption) | refine below_later ?_ _ | refine below_setCell0 ?_ (by first | exact Nat.le_refl _ | (simp; done) | omega | (simp; omega)) _))
    have hS1 : SinOk W1 := by rw [hW1]; exact hS.alloc _
    clear hW1
    (refine later_intro ?_; intro y)
    (go_at_call 128; refine (later_below (C1.out _ (SinOk.later hS1 _))).mono ?_; rintro e w' ⟨rfl, y, rfl⟩)
    rename Later W1 => y1
    go_wp2
    go_ret3
    exact ⟨by rw [HO.out]; rfl, below_alloc (below_later hbW _) _⟩
end Go.Proofs.YtpnfhienffekoaaGreatDoor
end
namespace Go.Proofs.YtpnfhienffekoaaGreatDoor
set_option linter.unusedVariables false
set_option linter.unusedSimpArgs false
open Go.RowKit
/-- the vector of a star over a horizon is not zero -/
theorem hvV_nz (la s r d : Int) : zeroV (hvV la s r d) = false := by
  cases h : zeroV (hvV la s r d) with
  | false => rfl
  | true =>
    simp only [zeroV, hvV, Bool.and_eq_true, beq_iff_eq] at h
    obtain ⟨h1, h2, h3⟩ := h
    obtain ⟨hx, hz⟩ := rot_zero h3 h1
    exact (dir_zero hx h2 hz).elim
/-- the altitude of a star -/
def altI (la s : Int) (x : Sta) : Int := latI (hvV la s x.ri x.de)
theorem horO_alt {n : List UInt8} {lo la s r d : Int} (h : askI n lo la s r d = 0) : horO n lo la s r d = (lonI (hvV la s r d), latI (hvV la s r d), 0) := by rw [horO_ok h, anglesO_yes (hvV_nz _ _ _ _)]
/-- the altitude that the program finds -/
theorem Horizontal_alt (n : ByteArray) (lo la s : Int) (x : Sta) (w : World) (hS : SinOk w) (hv : vSite n.data.toList lo la = true) (hs : inB s 0 359999 = true) (hok : x.ok = true) :
    Calls Tryz.prog 94 #[.agg #[.string n, .int .i64 lo, .int .i64 la], .int .i64 s, .int .i64 x.ri, .int .i64 x.de] w fun e w' => e = .returned (.tuple #[.int .i64 (lonI (hvV la s x.ri x.de)), .int .i64 (altI la s x), .int .i64 0]) ∧ Below w.heap.size w w' := by
  have h := Horizontal_any n lo la s x.ri x.de w hS
  rw [horO_alt] at h
  · exact h
  · have hd : vDir x.ri x.de = true := by
      have := hok; simp only [Sta.ok, vStar, Bool.and_eq_true] at this; exact this.2.1
    rcases askI_cases n.data.toList lo la s x.ri x.de with ⟨v1, hk⟩ | ⟨v1, v2, hk⟩ | ⟨v1, v2, v3, hk⟩ | ⟨v1, v2, v3, hk⟩
    · rw [hv] at v1; cases v1
    · rw [hs] at v2; cases v2
    · rw [hd] at v3; cases v3
    · exact hk
end Go.Proofs.YtpnfhienffekoaaGreatDoor
