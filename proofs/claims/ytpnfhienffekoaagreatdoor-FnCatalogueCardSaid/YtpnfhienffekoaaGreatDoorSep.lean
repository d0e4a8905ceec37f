/- Contracts of the functions on the angle between two directions. -/
import Derived.Test.YtpnfhienffekoaaGreatDoorVec
import Derived.Test.YtpnfhienffekoaaGreatDoorRoot
import Derived.Test.YtpnfhienffekoaaGreatDoorGrpPure
import Derived.Laws.StructEq
namespace Go.Proofs.YtpnfhienffekoaaGreatDoor
set_option linter.unusedVariables false
set_option linter.unusedSimpArgs false
open Go.RowKit
attribute [local go_sem ↓] Go.wp_at_zero Go.wp_at_succ
theorem run_eql_vec (a b c : Int) (W : World) : (binOp .eql 116 (.agg #[.int .i64 a, .int .i64 b, .int .i64 c]) (.agg #[.int .i64 0, .int .i64 0, .int .i64 0])).run Tryz.prog W = .ok (.bool (zeroV ⟨a, b, c⟩)) W := by
  rw [run_eql_struct, run_equalIn_agg _ _ _ _ _ (by kernel_rfl) (by kernel_rfl)]
  have hf : (Tryz.prog.fieldsOf 116).toList.map (fun f => (f.name, f.type, f.offset)) = [("X", 2, 0), ("Y", 2, 1), ("Z", 2, 2)] := by kernel_rfl
  have a1 : ∀ W, (isAgg 2).run Tryz.prog W = .ok false W := fun _ => by kernel_rfl
  generalize (Tryz.prog.fieldsOf 116).toList = fs at hf
  have hlen : fs.length = 3 := by have := congrArg List.length hf; simpa using this
  match fs, hlen, hf with
  | [f0, f1, f2], _, hf =>
    simp only [List.map_cons, List.map_nil, List.cons.injEq, Prod.mk.injEq, and_true] at hf
    obtain ⟨⟨n0, t0, o0⟩, ⟨n1, t1, o1⟩, ⟨n2, t2, o2⟩⟩ := hf
    simp only [Op.eqFields, n0, n1, n2, t0, t1, t2, o0, o1, o2, part, a1, Sem.run_bind, Result.andThen_ok, Sem.run_ite]
    simp [run_equalIn_int _ _ _ _ _ _ _ Tryz.underlying2, zeroV]
    by_cases e0 : a = 0 <;> by_cases e1 : b = 0 <;> by_cases e2 : c = 0 <;> simp [e0, e1, e2]
theorem lengthOf_any (v : V3) (w : World) (h : v.md) :
    Calls Tryz.prog 146 #[.agg #[.int .i64 v.x, .int .i64 v.y, .int .i64 v.z]] w fun e w' => e = .returned (.int .i64 (lenV v)) ∧ Below w.heap.size w w' := by
  obtain ⟨p1, p2⟩ := sq_bd _ h.1
  obtain ⟨p3, p4⟩ := sq_bd _ h.2.1
  obtain ⟨p5, p6⟩ := sq_bd _ h.2.2
  have HE : Hid (lenV v = rootI (v.x * v.x + v.y * v.y + v.z * v.z)) := rfl
  clear h
  go_enter Tryz.func146, Tryz.ntmps146
  go_wp2_with ((go_at_call 63; refine (RootOf_any _ _ (by omega)).mono ?_; rintro e w' ⟨rfl, rfl⟩))
  go_ret
  exact ⟨ret_int (by rw [HE.out]), (by repeat (first | exact Below.refl _ _ | refine below_alloc ?_ _ | refine below_drewN0 ?_ _ | refine below_drew0 ?_ | refine below_step ?_ (by assumption) | refine below_later ?_ _ | refine below_setCell0 ?_ (by first | exact Nat.le_refl _ | (simp; done) | omega | (simp; omega)) _))⟩
theorem dotOf_any (a b : V3) (w : World) (ha : a.sm) (hb : b.sm) :
    Calls Tryz.prog 148 #[.agg #[.int .i64 a.x, .int .i64 a.y, .int .i64 a.z], .agg #[.int .i64 b.x, .int .i64 b.y, .int .i64 b.z]] w fun e w' => e = .returned (.int .i64 (dotV a b)) ∧ Below w.heap.size w w' := by
  obtain ⟨p1, p2⟩ := unit_prod _ _ ha.1 hb.1
  obtain ⟨p3, p4⟩ := unit_prod _ _ ha.2.1 hb.2.1
  obtain ⟨p5, p6⟩ := unit_prod _ _ ha.2.2 hb.2.2
  have HE : Hid (dotV a b = rnd (a.x * b.x + a.y * b.y + a.z * b.z) 1000000) := rfl
  clear ha hb
  go_enter Tryz.func148, Tryz.ntmps148
  go_wp2_with ((go_at_call 50; refine (nearest_any _ _ _ (by omega) (by omega) (by omega) (by omega)).mono ?_; rintro e w' ⟨rfl, nd, rfl⟩))
  go_ret
  exact ⟨ret_int (by rw [HE.out]), (by repeat (first | exact Below.refl _ _ | refine below_alloc ?_ _ | refine below_drewN0 ?_ _ | refine below_drew0 ?_ | refine below_step ?_ (by assumption) | refine below_later ?_ _ | refine below_setCell0 ?_ (by first | exact Nat.le_refl _ | (simp; done) | omega | (simp; omega)) _))⟩
set_option maxHeartbeats 4000000 in
theorem crossOf_any (a b : V3) (w : World) (ha : a.sm) (hb : b.sm) :
    Calls Tryz.prog 147 #[.agg #[.int .i64 a.x, .int .i64 a.y, .int .i64 a.z], .agg #[.int .i64 b.x, .int .i64 b.y, .int .i64 b.z]] w fun e w' => e = .returned (.agg #[.int .i64 (crV a b).x, .int .i64 (crV a b).y, .int .i64 (crV a b).z]) ∧ Below w.heap.size w w' := by
  obtain ⟨p1, p2⟩ := unit_prod _ _ ha.2.1 hb.2.2
  obtain ⟨p3, p4⟩ := unit_prod _ _ ha.2.2 hb.2.1
  obtain ⟨p5, p6⟩ := unit_prod _ _ ha.2.2 hb.1
  obtain ⟨p7, p8⟩ := unit_prod _ _ ha.1 hb.2.2
  obtain ⟨q1, q2⟩ := unit_prod _ _ ha.1 hb.2.1
  obtain ⟨q3, q4⟩ := unit_prod _ _ ha.2.1 hb.1
  have HX : Hid ((crV a b).x = rnd (a.y * b.z - a.z * b.y) 1000000) := rfl
  have HY : Hid ((crV a b).y = rnd (a.z * b.x - a.x * b.z) 1000000) := rfl
  have HZ : Hid ((crV a b).z = rnd (a.x * b.y - a.y * b.x) 1000000) := rfl
  clear ha hb
  go_enter Tryz.func147, Tryz.ntmps147
  go_wp2_with (fail)
  refine wp_named ?_
  intro W1 hW1
  have hbW : Below w.heap.size w W1 := by rw [hW1]; exact (by repeat (first | exact Below.refl _ _ | refine below_alloc ?_ _ | refine below_drewN0 ?_ _ | refine below_drew0 ?_ | refine below_step ?_ (by assumption) | refine below_later ?_ _ | refine below_setCell0 ?_ (by first | exact Nat.le_refl _ | (simp; done) | omega | (simp; omega)) _))
  have hlt : w.heap.size < W1.heap.size := by rw [hW1]; simp; try omega
  have hlt1 : w.heap.size + 1 < W1.heap.size := by rw [hW1]; simp; try omega
  have hlt2 : w.heap.size + 2 < W1.heap.size := by rw [hW1]; simp
  have k0 : W1.cell? ⟨w.heap.size, 0, none⟩ = some (.int .i64 a.x) := by rw [hW1]; simp [go_sem]
  have k1 : W1.cell? ⟨w.heap.size, 1, none⟩ = some (.int .i64 a.y) := by rw [hW1]; simp [go_sem]
  have k2 : W1.cell? ⟨w.heap.size, 2, none⟩ = some (.int .i64 a.z) := by rw [hW1]; simp [go_sem]
  have l0 : W1.cell? ⟨w.heap.size + 1, 0, none⟩ = some (.int .i64 b.x) := by rw [hW1]; simp [go_sem]
  have l1 : W1.cell? ⟨w.heap.size + 1, 1, none⟩ = some (.int .i64 b.y) := by rw [hW1]; simp [go_sem]
  have l2 : W1.cell? ⟨w.heap.size + 1, 2, none⟩ = some (.int .i64 b.z) := by rw [hW1]; simp [go_sem]
  have r0 : W1.cell? ⟨w.heap.size + 2, 0, none⟩ = some (.int .i64 0) := by rw [hW1]; simp [go_sem]
  have r1 : W1.cell? ⟨w.heap.size + 2, 1, none⟩ = some (.int .i64 0) := by rw [hW1]; simp [go_sem]
  have r2 : W1.cell? ⟨w.heap.size + 2, 2, none⟩ = some (.int .i64 0) := by rw [hW1]; simp [go_sem]
  have g0 : W1.frozen? ⟨w.heap.size + 2, 0, none⟩ = false := by rw [hW1]; simp [go_sem]
  have g1 : W1.frozen? ⟨w.heap.size + 2, 1, none⟩ = false := by rw [hW1]; simp [go_sem]
  have g2 : W1.frozen? ⟨w.heap.size + 2, 2, none⟩ = false := by rw [hW1]; simp [go_sem]
  clear hW1
  have w1 : IntKind.i64.wrap (a.y * b.z) = a.y * b.z := wrap_in' (by omega) (by omega)
  have w2 : IntKind.i64.wrap (a.z * b.y) = a.z * b.y := wrap_in' (by omega) (by omega)
  have w3 : IntKind.i64.wrap (a.z * b.x) = a.z * b.x := wrap_in' (by omega) (by omega)
  have w4 : IntKind.i64.wrap (a.x * b.z) = a.x * b.z := wrap_in' (by omega) (by omega)
  have w5 : IntKind.i64.wrap (a.x * b.y) = a.x * b.y := wrap_in' (by omega) (by omega)
  have w6 : IntKind.i64.wrap (a.y * b.x) = a.y * b.x := wrap_in' (by omega) (by omega)
  have w7 : IntKind.i64.wrap (a.y * b.z - a.z * b.y) = a.y * b.z - a.z * b.y := wrap_in' (by omega) (by omega)
  have w8 : IntKind.i64.wrap (a.z * b.x - a.x * b.z) = a.z * b.x - a.x * b.z := wrap_in' (by omega) (by omega)
  have w9 : IntKind.i64.wrap (a.x * b.y - a.y * b.x) = a.x * b.y - a.y * b.x := wrap_in' (by omega) (by omega)
  (refine later_intro_wp ?_; intro y)
  (refine wp_region_later_last 37 (by kernel_rfl) (by kernel_rfl) (by kernel_rfl) (by kernel_rfl) ?_; simp only [List.take_succ_cons, List.take_zero, List.drop_succ_cons, List.drop_zero]; (repeat (quiet_step (((go_at_call 50; exact later_drew (nearest_any _ _ _ (by omega) (by omega) (by omega) (by omega))))))); refine wpQuiet_nil ?_; rintro _ ⟨y, rfl⟩)
  go_wp2
  exact bodyPost_ret (v := .agg #[.int .i64 (crV a b).x, .int .i64 (crV a b).y, .int .i64 (crV a b).z]) (by rw [HX.out, HY.out, HZ.out]; simp [results, Tryz.results147, go_sem, hlt2, r0, r1, r2]) rfl ⟨rfl, below_setCell0 (below_setCell0 (below_setCell0 (below_later hbW _) (by show _ ≤ w.heap.size + 2; omega) _) (by show _ ≤ w.heap.size + 2; omega) _) (by show _ ≤ w.heap.size + 2; omega) _⟩
set_option maxHeartbeats 4000000 in
theorem Separation_any (a b : V3) (w : World) (hS : SinOk w) (ha : a.sm) (hb : b.sm) :
    Calls Tryz.prog 117 #[.agg #[.int .i64 a.x, .int .i64 a.y, .int .i64 a.z], .agg #[.int .i64 b.x, .int .i64 b.y, .int .i64 b.z]] w fun e w' => e = .returned (.tuple #[.int .i64 (sepO a b).1, .int .i64 (sepO a b).2]) ∧ Below w.heap.size w w' := by
  have va : vVec a.x a.y a.z = true := by obtain ⟨h1, h2, h3⟩ := ha.md; exact vVec_ok h1 h2 h3
  have vb : vVec b.x b.y b.z = true := by obtain ⟨h1, h2, h3⟩ := hb.md; exact vVec_ok h1 h2 h3
  have qa := run_eql_vec a.x a.y a.z
  have qb := run_eql_vec b.x b.y b.z
  have hmd := crV_md ha hb
  have HC : Hid (∀ W, Calls Tryz.prog 147 #[.agg #[.int .i64 a.x, .int .i64 a.y, .int .i64 a.z], .agg #[.int .i64 b.x, .int .i64 b.y, .int .i64 b.z]] W fun e w' => e = .returned (.agg #[.int .i64 (crV a b).x, .int .i64 (crV a b).y, .int .i64 (crV a b).z]) ∧ Below W.heap.size W w') := fun W => crossOf_any a b W ha hb
  have HD : Hid (∀ W, Calls Tryz.prog 148 #[.agg #[.int .i64 a.x, .int .i64 a.y, .int .i64 a.z], .agg #[.int .i64 b.x, .int .i64 b.y, .int .i64 b.z]] W fun e w' => e = .returned (.int .i64 (dotV a b)) ∧ Below W.heap.size W w') := fun W => dotOf_any a b W ha hb
  have HL : Hid (∀ W, Calls Tryz.prog 146 #[.agg #[.int .i64 (crV a b).x, .int .i64 (crV a b).y, .int .i64 (crV a b).z]] W fun e w' => e = .returned (.int .i64 (lenV (crV a b))) ∧ Below W.heap.size W w') := fun W => lengthOf_any (crV a b) W hmd
  have hz : (zeroV a = true ∨ (zeroV a = false ∧ zeroV b = true)) ∨ (zeroV a = false ∧ zeroV b = false) := by cases zeroV a <;> cases zeroV b <;> simp
  rcases hz with (ea | ⟨ea, eb⟩) | ⟨ea, eb⟩
  · have HO := Lib.hid (sepO_zero (a := a) (b := b) (.inl ea))
    have qa' : zeroV ⟨a.x, a.y, a.z⟩ = true := ea
    rw [qa'] at qa
    clear ea qa' ha hb hmd
    go_enter Tryz.func117, Tryz.ntmps117
    go_wp2_with (fail)
    (refine later_intro ?_; intro y)
    go_wp2_with ((go_at_call 125; refine (later_below (ValidVector_any _ _ _ _)).mono ?_; rintro e w' ⟨rfl, y, rfl⟩))
    go_ret2
    exact ⟨by rw [HO.out]; rfl, (by repeat (first | exact Below.refl _ _ | refine below_alloc ?_ _ | refine below_drewN0 ?_ _ | refine below_drew0 ?_ | refine below_step ?_ (by assumption) | refine below_later ?_ _ | refine below_setCell0 ?_ (by first | exact Nat.le_refl _ | (simp; done) | omega | (simp; omega)) _))⟩
  · have HO := Lib.hid (sepO_zero (a := a) (b := b) (.inr eb))
    have qa' : zeroV ⟨a.x, a.y, a.z⟩ = false := ea
    have qb' : zeroV ⟨b.x, b.y, b.z⟩ = true := eb
    rw [qa'] at qa
    rw [qb'] at qb
    clear ea qa' eb qb' ha hb hmd
    go_enter Tryz.func117, Tryz.ntmps117
    go_wp2_with (fail)
    (refine later_intro ?_; intro y)
    go_wp2_with ((go_at_call 125; refine (later_below (ValidVector_any _ _ _ _)).mono ?_; rintro e w' ⟨rfl, y, rfl⟩))
    go_ret2
    exact ⟨by rw [HO.out]; rfl, (by repeat (first | exact Below.refl _ _ | refine below_alloc ?_ _ | refine below_drewN0 ?_ _ | refine below_drew0 ?_ | refine below_step ?_ (by assumption) | refine below_later ?_ _ | refine below_setCell0 ?_ (by first | exact Nat.le_refl _ | (simp; done) | omega | (simp; omega)) _))⟩
  · have HO := Lib.hid (arcO_sep ha hb ea eb)
    have qa' : zeroV ⟨a.x, a.y, a.z⟩ = false := ea
    have qb' : zeroV ⟨b.x, b.y, b.z⟩ = false := eb
    rw [qa'] at qa
    rw [qb'] at qb
    clear ea qa' eb qb' ha hb hmd
    go_enter Tryz.func117, Tryz.ntmps117
    go_wp2_with (fail)
    refine calls_named ?_
    intro W1 hW1
    have hbW : Below w.heap.size w W1 := by rw [hW1]; exact (by repeat (first | exact Below.refl _ _ | refine below_alloc ?_ _ | refine below_drewN0 ?_ _ | refine below_drew0 ?_ | refine below_step ?_ (by assumption) | refine below_later ?_ _ | refine below_setCell0 ?_ (by first | exact Nat.le_refl _ | (simp; done) | omega | (simp; omega)) _))
    have hlt : w.heap.size < W1.heap.size := by rw [hW1]; simp; omega
    have hlt1 : w.heap.size + 1 < W1.heap.size := by rw [hW1]; simp
    have k0 : W1.cell? ⟨w.heap.size, 0, none⟩ = some (.int .i64 a.x) := by rw [hW1]; simp
    have k1 : W1.cell? ⟨w.heap.size, 1, none⟩ = some (.int .i64 a.y) := by rw [hW1]; simp
    have k2 : W1.cell? ⟨w.heap.size, 2, none⟩ = some (.int .i64 a.z) := by rw [hW1]; simp
    have l0 : W1.cell? ⟨w.heap.size + 1, 0, none⟩ = some (.int .i64 b.x) := by rw [hW1]; simp
    have l1 : W1.cell? ⟨w.heap.size + 1, 1, none⟩ = some (.int .i64 b.y) := by rw [hW1]; simp
    have l2 : W1.cell? ⟨w.heap.size + 1, 2, none⟩ = some (.int .i64 b.z) := by rw [hW1]; simp
    have hS1 : SinOk W1 := by rw [hW1]; exact (hS.alloc _).alloc _
    clear hW1
    (refine later_intro ?_; intro y)
    go_wp2_with ((go_at_call 125; refine (later_below (ValidVector_any _ _ _ _)).mono ?_; rintro e w' ⟨rfl, y, rfl⟩))
    (refine wp_region_later (by kernel_rfl) (by kernel_rfl) ?_; (repeat (first | go_big_quiet_step ((first | (go_at_call 147; exact later_below (HC.out _)) | (go_at_call 146; exact later_below (HL.out _)) | (go_at_call 148; exact later_below (HD.out _)) | (go_at_call 64; exact later_drew (ArcTangent_any _ _ _ (SinOk.later hS1 _))))) | quiet_step ((first | (go_at_call 147; exact later_below (HC.out _)) | (go_at_call 146; exact later_below (HL.out _)) | (go_at_call 148; exact later_below (HD.out _)) | (go_at_call 64; exact later_drew (ArcTangent_any _ _ _ (SinOk.later hS1 _))))))); refine wpQuiet_nil ?_; rintro _ ⟨y, rfl⟩)
    go_wp2
    go_ret2
    exact ⟨by rw [← HO.out]; rfl, (by repeat (first | exact Below.refl _ _ | refine below_alloc ?_ _ | refine below_drewN0 ?_ _ | refine below_drew0 ?_ | refine below_step ?_ (by assumption) | refine below_later ?_ _ | refine below_setCell0 ?_ (by first | exact Nat.le_refl _ | (simp; done) | omega | (simp; omega)) _))⟩
end Go.Proofs.YtpnfhienffekoaaGreatDoor
