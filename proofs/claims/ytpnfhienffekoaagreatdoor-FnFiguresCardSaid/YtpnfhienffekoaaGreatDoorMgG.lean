/- Sep, Far, in one text. -/
import Derived.Test.YtpnfhienffekoaaGreatDoorMgF
import Derived.Test.YtpnfhienffekoaaGreatDoorGrpPure
import Derived.Laws.StructEq
import Derived.Test.YtpnfhienffekoaaGreatDoorSta
namespace Go.Proofs.YtpnfhienffekoaaGreatDoor
set_option linter.unusedVariables false
set_option linter.unusedSimpArgs false
open Go.RowKit
attribute [local go_sem ↓] Go.wp_at_zero Go.wp_at_succ
theorem run_eql_vec (a b c : Int) (W : World) : (binOp .eql 116 (.agg #[.int .i64 a, .int .i64 b, .int .i64 c]) (.agg #[.int .i64 0, .int .i64 0, .int .i64 0])).run Tryz.prog W = .ok (.bool (zeroV ⟨a, b, c⟩)) W := by
  rw [run_eql_struct, run_equalIn_agg _ _ _ _ _ (by kernel_rfl) (by kernel_rfl)]
  have hf : (Tryz.prog.fieldsOf 116).toList.map (fun f => (f.name, f.type, f.offset)) = [("X", 2, 0), ("Y", 2, 1), ("Z", 2, 2)] := by kernel_rfl
  have a1 : ∀ W, (isAgg 2).run Tryz.prog W = .ok false W := fun _ => by kernel_rfl
  generalize (Tryz.prog.fieldsOf 116).toList = fs at hf
  have hlen : fs.length = 3 := by have := congrArg List.length hf; simpa using this
  match fs, hlen, hf with
  | [f0, f1, f2], _, hf =>
    simp only [List.map_cons, List.map_nil, List.cons.injEq, Prod.mk.injEq, and_true] at hf
    obtain ⟨⟨n0, t0, o0⟩, ⟨n1, t1, o1⟩, ⟨n2, t2, o2⟩⟩ := hf
    simp only [Op.eqFields, n0, n1, n2, t0, t1, t2, o0, o1, o2, part, a1, Sem.run_bind, Result.andThen_ok, Sem.run_ite]
    simp [run_equalIn_int _ _ _ _ _ _ _ Tryz.underlying2, zeroV]
    by_cases e0 : a = 0 <;> by_cases e1 : b = 0 <;> by_cases e2 : c = 0 <;> simp [e0, e1, e2]
theorem lengthOf_any (v : V3) (w : World) (h : v.md) :
    Calls Tryz.prog 146 #[.agg #[.int .i64 v.x, .int .i64 v.y, .int .i64 v.z]] w fun e w' => e = .returned (.int .i64 (lenV v)) ∧ Below w.heap.size w w' := by
  obtain ⟨p1, p2⟩ := sq_bd _ h.1
  obtain ⟨p3, p4⟩ := sq_bd _ h.2.1
  obtain ⟨p5, p6⟩ := sq_bd _ h.2.2
  have HE : Hid (lenV v = rootI (v.x * v.x + v.y * v.y + v.z * v.z)) := rfl
  clear h
  go_enter Tryz.func146, Tryz.ntmps146
  go_wp2_with ((go_at_call 63; refine (RootOf_any _ _ (by omega)).mono ?_; rintro e w' ⟨rfl, rfl⟩))
  go_ret
  exact ⟨ret_int (by rw [HE.out]), (by repeat (first | exact Below.refl _ _ | refine below_alloc ?_ _ | refine below_drewN0 ?_ _ | refine below_drew0 ?_ | refine below_step ?_ (by assumption) | refine below_later ?_ _ | refine below_setCell0 ?_ (by first | exact Nat.le_refl _ | (simp; done) | omega | (simp; omega)) _))⟩
theorem dotOf_any (a b : V3) (w : World) (ha : a.sm) (hb : b.sm) :
    Calls Tryz.prog 148 #[.agg #[.int .i64 a.x, .int .i64 a.y, .int .i64 a.z], .agg #[.int .i64 b.x, .int .i64 b.y, .int .i64 b.z]] w fun e w' => e = .returned (.int .i64 (dotV a b)) ∧ Below w.heap.size w w' := by
  obtain ⟨p1, p2⟩ := unit_prod _ _ ha.1 hb.1
  obtain ⟨p3, p4⟩ := unit_prod _ _ ha.2.1 hb.2.1
  obtain ⟨p5, p6⟩ := unit_prod _ _ ha.2.2 hb.2.2
  have HE : Hid (dotV a b = rnd (a.x * b.x + a.y * b.y + a.z * b.z) 1000000) := rfl
  clear ha hb
  go_enter Tryz.func148, Tryz.ntmps148
  go_wp2_with ((go_at_call 50; refine (nearest_any _ _ _ (by omega) (by omega) (by omega) (by omega)).mono ?_; rintro e w' ⟨rfl, nd, rfl⟩))
  go_ret
  exact ⟨ret_int (by rw [HE.out]), (by repeat (first | exact Below.refl _ _ | refine below_alloc ?_ _ | refine below_drewN0 ?_ _ | refine below_drew0 ?_ | refine below_step ?_ (by assumption) | refine below_later ?_ _ | refine below_setCell0 ?_ (by first | exact Nat.le_refl _ | (simp; done) | omega | (simp; omega)) _))⟩
set_option maxHeartbeats 4000000 in
theorem crossOf_any (a b : V3) (w : World) (ha : a.sm) (hb : b.sm) :
    Calls Tryz.prog 147 #[.agg #[.int .i64 a.x, .int .i64 a.y, .int .i64 a.z], .agg #[.int .i64 b.x, .int .i64 b.y, .int .i64 b.z]] w fun e w' => e = .returned (.agg #[.int .i64 (crV a b).x, .int .i64 (crV a b).y, .int .i64 (crV a b).z]) ∧ Below w.heap.size w w' := by
  obtain ⟨p1, p2⟩ := unit_prod _ _ ha.2.1 hb.2.2
  obtain ⟨p3, p4⟩ := unit_prod _ _ ha.2.2 hb.2.1
  obtain ⟨p5, p6⟩ := unit_prod _ _ ha.2.2 hb.1
  obtain ⟨p7, p8⟩ := unit_prod _ _ ha.1 hb.2.2
  obtain ⟨q1, q2⟩ := unit_prod _ _ ha.1 hb.2.1
  obtain ⟨q3, q4⟩ := unit_prod _ _ ha.2.1 hb.1
  have HX : Hid ((crV a b).x = rnd (a.y * b.z - a.z * b.y) 1000000) := rfl
  have HY : Hid ((crV a b).y = rnd (a.z * b.x - a.x * b.z) 1000000) := rfl
  have HZ : Hid ((crV a b).z = rnd (a.x * b.y - a.y * b.x) 1000000) := rfl
  clear ha hb
  go_enter Tryz.func147, Tryz.ntmps147
  go_wp2_with (fail)
  refine wp_named ?_
  intro W1 hW1
  have hbW : Below w.heap.size w W1 := by rw [hW1]; exact (by repeat (first | exact Below.refl _ _ | refine below_alloc ?_ _ | refine below_drewN0 ?_ _ | refine below_drew0 ?_ | refine below_step ?_ (by assumption) | refine below_later ?_ _ | refine below_setCell0 ?_ (by first | exact Nat.le_refl _ | (simp; done) | omega | (simp; omega)) _))
  have hlt : w.heap.size < W1.heap.size := by rw [hW1]; simp; try omega
  have hlt1 : w.heap.size + 1 < W1.heap.size := by rw [hW1]; simp; try omega
  have hlt2 : w.heap.size + 2 < W1.heap.size := by rw [hW1]; simp
  have k0 : W1.cell? ⟨w.heap.size, 0, none⟩ = some (.int .i64 a.x) := by rw [hW1]; simp [go_sem]
  have k1 : W1.cell? ⟨w.heap.size, 1, none⟩ = some (.int .i64 a.y) := by rw [hW1]; simp [go_sem]
  have k2 : W1.cell? ⟨w.heap.size, 2, none⟩ = some (.int .i64 a.z) := by rw [hW1]; simp [go_sem]
  have l0 : W1.cell? ⟨w.heap.size + 1, 0, none⟩ = some (.int .i64 b.x) := by rw [hW1]; simp [go_sem]
  have l1 : W1.cell? ⟨w.heap.size + 1, 1, none⟩ = some (.int .i64 b.y) := by rw [hW1]; simp [go_sem]
  have l2 : W1.cell? ⟨w.heap.size + 1, 2, none⟩ = some (.int .i64 b.z) := by rw [hW1]; simp [go_sem]
  have r0 : W1.cell? ⟨w.heap.size + 2, 0, none⟩ = some (.int .i64 0) := by rw [hW1]; simp [go_sem]
  have r1 : W1.cell? ⟨w.heap.size + 2, 1, none⟩ = some (.int .i64 0) := by rw [hW1]; simp [go_sem]
  have r2 : W1.cell? ⟨w.heap.size + 2, 2, none⟩ = some (.int .i64 0) := by rw [hW1]; simp [go_sem]
  have g0 : W1.frozen? ⟨w.heap.size + 2, 0, none⟩ = false := by rw [hW1]; simp [go_sem]
  have g1 : W1.frozen? ⟨w.heap.size + 2, 1, none⟩ = false := by rw [hW1]; simp [go_sem]
  have g2 : W1.frozen? ⟨w.heap.size + 2, 2, none⟩ = false := by rw [hW1]; simp [go_sem]
  clear hW1
  have w1 : IntKind.i64.wrap (a.y * b.z) = a.y * b.z := wrap_in' (by omega) (by omega)
  have w2 : IntKind.i64.wrap (a.z * b.y) = a.z * b.y := wrap_in' (by omega) (by omega)
  have w3 : IntKind.i64.wrap (a.z * b.x) = a.z * b.x := wrap_in' (by omega) (by omega)
  have w4 : IntKind.i64.wrap (a.x * b.z) = a.x * b.z := wrap_in' (by omega) (by omega)
  have w5 : IntKind.i64.wrap (a.x * b.y) = a.x * b.y := wrap_in' (by omega) (by omega)
  have w6 : IntKind.i64.wrap (a.y * b.x) = a.y * b.x := wrap_in' (by omega) (by omega)
  have w7 : IntKind.i64.wrap (a.y * b.z - a.z * b.y) = a.y * b.z - a.z * b.y := wrap_in' (by omega) (by omega)
  have w8 : IntKind.i64.wrap (a.z * b.x - a.x * b.z) = a.z * b.x - a.x * b.z := wrap_in' (by omega) (by omega)
  have w9 : IntKind.i64.wrap (a.x * b.y - a.y * b.x) = a.x * b.y - a.y * b.x := wrap_in' (by omega) (by omega)
  (refine later_intro_wp ?_; intro y)
  (refine wp_region_later_last 37 (by kernel_rfl) (by kernel_rfl) (by kernel_rfl) (by kernel_rfl) ?_; simp only [List.take_succ_cons, List.take_zero, List.drop_succ_cons, List.drop_zero]; (repeat (quiet_step (((go_at_call 50; exact later_drew (nearest_any _ _ _ (by omega) (by omega) (by omega) (by omega))))))); refine wpQuiet_nil ?_; rintro _ ⟨y, rfl⟩)
  go_wp2
  exact bodyPost_ret (v := .agg #[.int .i64 (crV a b).x, .int .i64 (crV a b).y, .int .i64 (crV a b).z]) (by rw [HX.out, HY.out, HZ.out]; simp [results, Tryz.results147, go_sem, hlt2, r0, r1, r2]) rfl ⟨rfl, below_setCell0 (below_setCell0 (below_setCell0 (below_later hbW _) (by show _ ≤ w.heap.size + 2; omega) _) (by show _ ≤ w.heap.size + 2; omega) _) (by show _ ≤ w.heap.size + 2; omega) _⟩
set_option maxHeartbeats 4000000 in
theorem Separation_any (a b : V3) (w : World) (hS : SinOk w) (ha : a.sm) (hb : b.sm) :
    Calls Tryz.prog 117 #[.agg #[.int .i64 a.x, .int .i64 a.y, .int .i64 a.z], .agg #[.int .i64 b.x, .int .i64 b.y, .int .i64 b.z]] w fun e w' => e = .returned (.tuple #[.int .i64 (sepO a b).1, .int .i64 (sepO a b).2]) ∧ Below w.heap.size w w' := by
  have va : vVec a.x a.y a.z = true := by obtain ⟨h1, h2, h3⟩ := ha.md; exact vVec_ok h1 h2 h3
  have vb : vVec b.x b.y b.z = true := by obtain ⟨h1, h2, h3⟩ := hb.md; exact vVec_ok h1 h2 h3
  have qa := run_eql_vec a.x a.y a.z
  have qb := run_eql_vec b.x b.y b.z
  have hmd := crV_md ha hb
  have HC : Hid (∀ W, Calls Tryz.prog 147 #[.agg #[.int .i64 a.x, .int .i64 a.y, .int .i64 a.z], .agg #[.int .i64 b.x, .int .i64 b.y, .int .i64 b.z]] W fun e w' => e = .returned (.agg #[.int .i64 (crV a b).x, .int .i64 (crV a b).y, .int .i64 (crV a b).z]) ∧ Below W.heap.size W w') := fun W => crossOf_any a b W ha hb
  have HD : Hid (∀ W, Calls Tryz.prog 148 #[.agg #[.int .i64 a.x, .int .i64 a.y, .int .i64 a.z], .agg #[.int .i64 b.x, .int .i64 b.y, .int .i64 b.z]] W fun e w' => e = .returned (.int .i64 (dotV a b)) ∧ Below W.heap.size W w') := fun W => dotOf_any a b W ha hb
  have HL : Hid (∀ W, Calls Tryz.prog 146 #[.agg #[.int .i64 (crV a b).x, .int .i64 (crV a b).y, .int .i64 (crV a b).z]] W fun e w' => e = .returned (.int .i64 (lenV (crV a b))) ∧ Below W.heap.size W w') := fun W => lengthOf_any (crV a b) W hmd
  have hz : (zeroV a = true ∨ (zeroV a = false ∧ zeroV b = true)) ∨ (zeroV a = false ∧ zeroV b = false) := by cases zeroV a <;> cases zeroV b <;> simp
  rcases hz with (ea | ⟨ea, eb⟩) | ⟨ea, eb⟩
  · have HO := Lib.hid (sepO_zero (a := a) (b := b) (.inl ea))
    have qa' : zeroV ⟨a.x, a.y, a.z⟩ = true := ea
    rw [qa'] at qa
    clear ea qa' ha hb hmd
    go_enter Tryz.func117, Tryz.ntmps117
    go_wp2_with (fail)
    (refine later_intro ?_; intro y)
    go_wp2_with ((go_at_call 125; refine (later_below (ValidVector_any _ _ _ _)).mono ?_; rintro e w' ⟨rfl, y, rfl⟩))
    go_ret2
    exact ⟨by rw [HO.out]; rfl, (by repeat (first | exact Below.refl _ _ | refine below_alloc ?_ _ | refine below_drewN0 ?_ _ | refine below_drew0 ?_ | refine below_step ?_ (by assumption) | refine below_later ?_ _ | refine below_setCell0 ?_ (by first | exact Nat.le_refl _ | (simp; done) | omega | (simp; omega)) _))⟩
  · have HO := Lib.hid (sepO_zero (a := a) (b := b) (.inr eb))
    have qa' : zeroV ⟨a.x, a.y, a.z⟩ = false := ea
    have qb' : zeroV ⟨b.x, b.y, b.z⟩ = true := eb
    rw [qa'] at qa
    rw [qb'] at qb
    clear ea qa' eb qb' ha hb hmd
    go_enter Tryz.func117, Tryz.ntmps117
    go_wp2_with (fail)
    (refine later_intro ?_; intro y)
    go_wp2_with ((go_at_call 125; refine (later_below (ValidVector_any _ _ _ _)).mono ?_; rintro e w' ⟨rfl, y, rfl⟩))
    go_ret2
    exact ⟨by rw [HO.out]; rfl, (by repeat (first | exact Below.refl _ _ | refine below_alloc ?_ _ | refine below_drewN0 ?_ _ | refine below_drew0 ?_ | refine below_step ?_ (by assumption) | refine below_later ?_ _ | refine below_setCell0 ?_ (by first | exact Nat.le_refl _ | (simp; done) | omega | (simp; omega)) _))⟩
  · have HO := Lib.hid (arcO_sep ha hb ea eb)
    have qa' : zeroV ⟨a.x, a.y, a.z⟩ = false := ea
    have qb' : zeroV ⟨b.x, b.y, b.z⟩ = false := eb
    rw [qa'] at qa
    rw [qb'] at qb
    clear ea qa' eb qb' ha hb hmd
    go_enter Tryz.func117, Tryz.ntmps117
    go_wp2_with (fail)
    refine calls_named ?_
    intro W1 hW1
    have hbW : Below w.heap.size w W1 := by rw [hW1]; exact (by repeat (first | exact Below.refl _ _ | refine below_alloc ?_ _ | refine below_drewN0 ?_ _ | refine below_drew0 ?_ | refine below_step ?_ (by assumption) | refine below_later ?_ _ | refine below_setCell0 ?_ (by first | exact Nat.le_refl _ | (simp; done) | omega | (simp; omega)) _))
    have hlt : w.heap.size < W1.heap.size := by rw [hW1]; simp; omega
    have hlt1 : w.heap.size + 1 < W1.heap.size := by rw [hW1]; simp
    have k0 : W1.cell? ⟨w.heap.size, 0, none⟩ = some (.int .i64 a.x) := by rw [hW1]; simp
    have k1 : W1.cell? ⟨w.heap.size, 1, none⟩ = some (.int .i64 a.y) := by rw [hW1]; simp
    have k2 : W1.cell? ⟨w.heap.size, 2, none⟩ = some (.int .i64 a.z) := by rw [hW1]; simp
    have l0 : W1.cell? ⟨w.heap.size + 1, 0, none⟩ = some (.int .i64 b.x) := by rw [hW1]; simp
    have l1 : W1.cell? ⟨w.heap.size + 1, 1, none⟩ = some (.int .i64 b.y) := by rw [hW1]; simp
    have l2 : W1.cell? ⟨w.heap.size + 1, 2, none⟩ = some (.int .i64 b.z) := by rw [hW1]; simp
    have hS1 : SinOk W1 := by rw [hW1]; exact (hS.alloc _).alloc _
    clear hW1
    (refine later_intro ?_; intro y)
    go_wp2_with ((go_at_call 125; refine (later_below (ValidVector_any _ _ _ _)).mono ?_; rintro e w' ⟨rfl, y, rfl⟩))
    (refine wp_region_later (by kernel_rfl) (by kernel_rfl) ?_; (repeat (first | go_big_quiet_step ((first | (go_at_call 147; exact later_below (HC.out _)) | (go_at_call 146; exact later_below (HL.out _)) | (go_at_call 148; exact later_below (HD.out _)) | (go_at_call 64; exact later_drew (ArcTangent_any _ _ _ (SinOk.later hS1 _))))) | quiet_step ((first | (go_at_call 147; exact later_below (HC.out _)) | (go_at_call 146; exact later_below (HL.out _)) | (go_at_call 148; exact later_below (HD.out _)) | (go_at_call 64; exact later_drew (ArcTangent_any _ _ _ (SinOk.later hS1 _))))))); refine wpQuiet_nil ?_; rintro _ ⟨y, rfl⟩)
    go_wp2
    go_ret2
    exact ⟨by rw [← HO.out]; rfl, (by repeat (first | exact Below.refl _ _ | refine below_alloc ?_ _ | refine below_drewN0 ?_ _ | refine below_drew0 ?_ | refine below_step ?_ (by assumption) | refine below_later ?_ _ | refine below_setCell0 ?_ (by first | exact Nat.le_refl _ | (simp; done) | omega | (simp; omega)) _))⟩
end Go.Proofs.YtpnfhienffekoaaGreatDoor
namespace Go.Proofs.YtpnfhienffekoaaGreatDoor
set_option linter.unusedVariables false
set_option linter.unusedSimpArgs false
open Go.RowKit
attribute [local go_sem ↓] Go.wp_at_zero Go.wp_at_succ
/-- the direction of a star -/
def Sta.dir (x : Sta) : V3 := dirV x.ri x.de
/-- the distance of two stars -/
def farI (x y : Sta) : Int := sepI x.dir y.dir
theorem farI_swap (x y : Sta) : farI y x = farI x y := sepI_swap _ _
theorem farI_bd (x y : Sta) : 0 ≤ farI x y ∧ farI x y < 360000 := sepI_bd _ _
theorem ok_dir {x : Sta} (h : x.ok = true) : 0 ≤ x.ri ∧ x.ri ≤ 359999 ∧ -90000 ≤ x.de ∧ x.de ≤ 90000 := by
  simp only [Sta.ok, vStar, vDir, Bool.and_eq_true, inB_iff] at h; omega
/-- numbers that angles may be -/
def AngOk (a : Int) : Prop := -9000000000000000000 ≤ a ∧ a ≤ 9000000000000000000
theorem ok_ang {x : Sta} (h : x.ok = true) : AngOk x.ri ∧ AngOk x.de := by
  have := ok_dir h; unfold AngOk; omega
set_option maxHeartbeats 2000000 in
theorem starDistance_any (x : Sta) (r d : Int) (w : World) (hS : SinOk w) (h1 : AngOk x.ri) (h2 : AngOk x.de) (h3 : AngOk r) (h4 : AngOk d) :
    Calls Tryz.prog 78 #[.agg #[.string x.id, .int .i64 x.ri, .int .i64 x.de, .int .i64 x.ma, .int .i64 x.co], .int .i64 r, .int .i64 d] w fun e w' => e = .returned (.int .i64 (sepI (dirV r d) x.dir)) ∧ Below w.heap.size w w' := by
  have HO : Hid ((sepO (dirV r d) x.dir).1 = sepI (dirV r d) x.dir) := sepO_fst _ _
  have C1 : Hid (∀ W, SinOk W → Calls Tryz.prog 88 #[.int .i64 r, .int .i64 d] W fun e w' => e = .returned (.agg #[.int .i64 (dirV r d).x, .int .i64 (dirV r d).y, .int .i64 (dirV r d).z]) ∧ Below W.heap.size W w') := fun W hW => directionOf_any r d W hW h3 h4
  have C2 : Hid (∀ W, SinOk W → Calls Tryz.prog 88 #[.int .i64 x.ri, .int .i64 x.de] W fun e w' => e = .returned (.agg #[.int .i64 x.dir.x, .int .i64 x.dir.y, .int .i64 x.dir.z]) ∧ Below W.heap.size W w') := fun W hW => directionOf_any x.ri x.de W hW h1 h2
  have C3 : Hid (∀ W, SinOk W → Calls Tryz.prog 117 #[.agg #[.int .i64 (dirV r d).x, .int .i64 (dirV r d).y, .int .i64 (dirV r d).z], .agg #[.int .i64 x.dir.x, .int .i64 x.dir.y, .int .i64 x.dir.z]] W fun e w' => e = .returned (.tuple #[.int .i64 (sepO (dirV r d) x.dir).1, .int .i64 (sepO (dirV r d) x.dir).2]) ∧ Below W.heap.size W w') := fun W hW => Separation_any _ _ W hW (dirV_sm _ _) (dirV_sm _ _)
  generalize dirV r d = a at *
  generalize x.dir = b at *
  generalize sepI a b = z at *
  generalize (sepO a b).1 = z1 at *
  generalize (sepO a b).2 = z2 at *
  clear h1 h2 h3 h4
  go_enter Tryz.func78, Tryz.ntmps78
  go_wp2_with (fail)
  refine wp_named ?_
  intro W1 hW1
  have hbW : Below w.heap.size w W1 := by rw [hW1]; exact (by repeat (first | exact Below.refl _ _ | refine below_alloc ?_ _ | refine below_drewN0 ?_ _ | refine below_drew0 ?_ | refine below_step ?_ (by assumption) | refine below_later ?_ _ | refine below_setCell0 ?_ (by first | exact Nat.le_refl _ | (simp; done) | omega | (simp; omega)) _))
  have hlt : w.heap.size < W1.heap.size := by rw [hW1]; simp
  have k1 : W1.cell? ⟨w.heap.size, 1, none⟩ = some (.int .i64 x.ri) := by rw [hW1]; simp
  have k2 : W1.cell? ⟨w.heap.size, 2, none⟩ = some (.int .i64 x.de) := by rw [hW1]; simp
  have hS1 : SinOk W1 := by rw [hW1]; exact hS.alloc _
  clear hW1
  (refine later_intro_wp ?_; intro y)
  (refine wp_region_later (by kernel_rfl) (by kernel_rfl) ?_; (repeat (first | go_big_quiet_step ((first | (with_reducible (go_at_call 88; exact later_below (C1.out _ (SinOk.later hS1 _)))) | (with_reducible (go_at_call 88; exact later_below (C2.out _ (SinOk.later hS1 _)))) | (go_at_call 117; exact later_below (C3.out _ (SinOk.later hS1 _))))) | quiet_step ((first | (with_reducible (go_at_call 88; exact later_below (C1.out _ (SinOk.later hS1 _)))) | (with_reducible (go_at_call 88; exact later_below (C2.out _ (SinOk.later hS1 _)))) | (go_at_call 117; exact later_below (C3.out _ (SinOk.later hS1 _))))))); refine wpQuiet_nil ?_; rintro _ ⟨y, rfl⟩)
  go_wp2
  go_ret
  exact ⟨ret_int (by rw [← HO.out]), (by repeat (first | exact Below.refl _ _ | refine below_alloc ?_ _ | refine below_drewN0 ?_ _ | refine below_drew0 ?_ | refine below_step ?_ (by assumption) | refine below_later ?_ _ | refine below_setCell0 ?_ (by first | exact Nat.le_refl _ | (simp; done) | omega | (simp; omega)) _))⟩
set_option maxHeartbeats 2000000 in
theorem starGap_any (A : Option Addr) (n c : Nat) (l : List Sta) (i k : Nat) (x y : Sta) (w : World) (hS : SinOk w) (hl : l.length = n) (hn : n ≤ 9223372036854775807) (hA : Stars w A l) (hx : l[i]? = some x) (hy : l[k]? = some y) (h1 : AngOk x.ri ∧ AngOk x.de) (h2 : AngOk y.ri ∧ AngOk y.de) :
    Calls Tryz.prog 85 #[.slice A n c, .int .i64 i, .int .i64 k] w fun e w' => e = .returned (.int .i64 (farI x y)) ∧ Below w.heap.size w w' := by
  have hi : i < n := by rw [← hl]; exact (List.getElem?_eq_some_iff.1 hx).1
  have hk : k < n := by rw [← hl]; exact (List.getElem?_eq_some_iff.1 hy).1
  obtain ⟨b, o, rfl, hc⟩ := hA (by omega)
  obtain ⟨c0, c1, c2, c3, c4⟩ := hc i x hx
  obtain ⟨_, d1, d2, _, _⟩ := hc k y hy
  have l0 := World.block_lt_of_cell? w _ c0
  have C : Hid (∀ W, SinOk W → Calls Tryz.prog 78 #[.agg #[.string x.id, .int .i64 x.ri, .int .i64 x.de, .int .i64 x.ma, .int .i64 x.co], .int .i64 y.ri, .int .i64 y.de] W fun e w' => e = .returned (.int .i64 (farI x y)) ∧ Below W.heap.size W w') := fun W hW => by
    have := starDistance_any x y.ri y.de W hW h1.1 h1.2 h2.1 h2.2
    rwa [show sepI (dirV y.ri y.de) x.dir = farI x y from farI_swap x y] at this
  have hii : (i : Int) < n := by omega
  have hkk : (k : Int) < n := by omega
  clear hc hx hy hl h1 h2
  go_enter Tryz.func85, Tryz.ntmps85
  go_wp2_with (fail)
  (refine later_intro_wp ?_; intro y)
  (refine wp_region_later (by kernel_rfl) (by kernel_rfl) ?_; (repeat (first | go_big_quiet_step (((go_at_call 78; exact later_below (C.out _ (SinOk.later hS _))))) | quiet_step (((go_at_call 78; exact later_below (C.out _ (SinOk.later hS _))))))); refine wpQuiet_nil ?_; rintro _ ⟨y, rfl⟩)
  go_wp2
  go_ret
  exact ⟨rfl, (by repeat (first | exact Below.refl _ _ | refine below_alloc ?_ _ | refine below_drewN0 ?_ _ | refine below_drew0 ?_ | refine below_step ?_ (by assumption) | refine below_later ?_ _ | refine below_setCell0 ?_ (by first | exact Nat.le_refl _ | (simp; done) | omega | (simp; omega)) _))⟩
end Go.Proofs.YtpnfhienffekoaaGreatDoor
