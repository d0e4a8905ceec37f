/- After a period a planet is where it was, distances are mutual, opposite views are opposite, and a planet is read back from its text: for all arguments. No condition. -/
import Derived.Test.YtpnfhienffekoaaGreatDoorPlainPl
import Derived.Test.YtpnfhienffekoaaGreatDoorMom
import Derived.Test.YtpnfhienffekoaaGreatDoorSeen
import Derived.Test.YtpnfhienffekoaaGreatDoorPlan
import Derived.Test.YtpnfhienffekoaaGreatDoorReadPl
import Derived.Test.YtpnfhienffekoaaGreatDoorR8
import Derived.Test.YtpnfhienffekoaaGreatDoorLaidR
import Derived.Test.YtpnfhienffekoaaGreatDoorTied
import Derived.Test.YtpnfhienffekoaaGreatDoorChecked
import Derived.Test.YtpnfhienffekoaaGreatDoorRows
import Derived.OpenVars
import Derived.RowKit
import Derived.Deep.DeepCutAuto
namespace Go.Proofs.YtpnfhienffekoaaGreatDoor
set_option linter.unusedVariables false
set_option linter.unusedSimpArgs false
open Go.RowKit
theorem itoa_small (n : Int) (h1 : -1000000000 < n) (h2 : n < 1000000000) : (Lib.itoa n).length ≤ 10 := by
  have key : ∀ u : Nat, u < 1000000000 → (Lib.decDigits u).length ≤ 9 := fun u hu => by
    have k3 : ∀ v : Nat, v < 1000000 → (Lib.decDigits v).length ≤ 6 := fun v hv => by
      by_cases h10 : v < 1000
      · have := decDigits_len3 h10; omega
      · have h := decDigits_big (u := v) (by omega)
        have h' := decDigits_big (u := v / 10) (by omega)
        have h'' := decDigits_big (u := v / 10 / 10) (by omega)
        rw [h, h', h'', List.length_append, List.length_append, List.length_append]
        have := decDigits_len3 (r := v / 10 / 10 / 10) (by omega)
        simp only [List.length_cons, List.length_nil]
        omega
    by_cases h10 : u < 1000000
    · have := k3 u h10; omega
    · have h := decDigits_big (u := u) (by omega)
      have h' := decDigits_big (u := u / 10) (by omega)
      have h'' := decDigits_big (u := u / 10 / 10) (by omega)
      rw [h, h', h'', List.length_append, List.length_append, List.length_append]
      have := k3 (u / 10 / 10 / 10) (by omega)
      simp only [List.length_cons, List.length_nil]
      omega
  unfold Lib.itoa
  split
  · have := key n.natAbs (by omega); simp only [List.length_cons]; omega
  · have := key n.toNat (by omega); omega
theorem planO_len {l : List UInt8} {p r u : Int} (h : vPlanet l p r u = true) : (planO l p r u).length ≤ 1048576 := by
  obtain ⟨h0, h1, h2, h3⟩ := vPlanet_parts h
  have a := isName_len l h0
  have b1 := itoa_small p (by omega) (by omega)
  have b2 := itoa_small r (by omega) (by omega)
  have b3 := itoa_small u (by omega) (by omega)
  have e : planO l p r u = l ++ 32 :: (Lib.itoa p ++ 44 :: (Lib.itoa r ++ 44 :: Lib.itoa u)) := by rw [planO, if_pos h]; rfl
  rw [e]
  simp only [List.length_append, List.length_cons]
  omega
theorem plan_back {l : List UInt8} {p r u : Int} (h : vPlanet l p r u = true) : readPlanR (planO l p r u) = some (l, [p, r, u]) := by
  rw [planO, if_pos h]
  exact (readPlanR_iff _ (l, [p, r, u])).2 ⟨rfl, h, rfl⟩
theorem orb_yes {P : PlB} {d m : Int} (h : vP P = true) (hm : vMoment d m = true) : orbO P.n.data.toList P.p P.r P.u d m = (angP P d m, 0) := by
  unfold orbO
  rw [okO_yes (by rw [show vPlanet P.n.data.toList P.p P.r P.u = true from h, hm]; rfl)]
  rfl
theorem pl_yes {P : PlB} {d m : Int} (h : vP P = true) (hm : vMoment d m = true) : plO P d m = (plX P d m, plY P d m, 0) := by rw [plO, h, hm]; rfl
theorem run_neq_plan (s : ByteArray) (p r u : Int) (W : World) : (binOp .neq 25 (.agg #[.string s, .int .i64 p, .int .i64 r, .int .i64 u]) (.agg #[.string s, .int .i64 p, .int .i64 r, .int .i64 u])).run Tryz.prog W = .ok (.bool false) W := by
  rw [run_neq_struct, run_equalIn_agg _ _ _ _ _ (by kernel_rfl) (by kernel_rfl)]
  have hf : (Tryz.prog.fieldsOf 25).toList.map (fun f => (f.name, f.type, f.offset)) = [("Name", 9, 0), ("Period", 2, 1), ("Radius", 2, 2), ("Start", 2, 3)] := by kernel_rfl
  have a0 : ∀ W, (isAgg 9).run Tryz.prog W = .ok false W := fun _ => by kernel_rfl
  have a1 : ∀ W, (isAgg 2).run Tryz.prog W = .ok false W := fun _ => by kernel_rfl
  generalize (Tryz.prog.fieldsOf 25).toList = fs at hf
  have hlen : fs.length = 4 := by have := congrArg List.length hf; simpa using this
  match fs, hlen, hf with
  | [f0, f1, f2, f3], _, hf =>
    simp only [List.map_cons, List.map_nil, List.cons.injEq, Prod.mk.injEq, and_true] at hf
    obtain ⟨⟨n0, t0, o0⟩, ⟨n1, t1, o1⟩, ⟨n2, t2, o2⟩, ⟨n3, t3, o3⟩⟩ := hf
    simp only [Op.eqFields, n0, n1, n2, n3, t0, t1, t2, t3, o0, o1, o2, o3, part, a0, a1, Sem.run_bind, Result.andThen_ok, Sem.run_ite]
    simp [run_equalIn_int _ _ _ _ _ _ _ Tryz.underlying2, run_equalIn_string _ _ _ _ _ Tryz.underlying9]
set_option maxRecDepth 100000 in
set_option maxHeartbeats 4000000 in
theorem FnPlanets_walk (A0 : Option Addr) (n0 c0 : Nat) (l0 : List Int) (A1 : Option Addr) (n1 c1 : Nat) (l1 : List Int) (w : World) (hl0 : l0.length = n0) (hn0 : n0 ≤ 9223372036854775807) (hS0 : Bytes w A0 l0) (hi0 : ∀ x ∈ l0, ByteOk x) (hl1 : l1.length = n1) (hn1 : n1 ≤ 9223372036854775807) (hS1 : Bytes w A1 l1) (hi1 : ∀ x ∈ l1, ByteOk x) (hSin : SinOk w) (hTxt : TxtOk w) :
    Calls Tryz.prog 3 #[.slice A0 n0 c0, .slice A1 n1 c1] w fun e w' => e = .returned (.bool true) ∧ Below w.heap.size w w' := by
  have HI0 := Lib.hid hi0
  have HI1 := Lib.hid hi1
  clear hi0 hi1
  have CL := Lib.hid (r8Long_any A0 A1 n0 c0 n1 c1 w)
  cases hlong : (decide (1048576 < n0) || decide (1048576 < n1)) with
  | true =>
    rw [hlong] at CL
    clear hlong
    go_enter Tryz.func3, Tryz.ntmps3
    go_wp2_with (refine CL.out.mono ?_; rintro e w1 ⟨rfl, rfl⟩)
    go_ret
    exact ⟨rfl, Below.refl _ _⟩
  | false =>
    rw [hlong] at CL
    have hs0 : n0 ≤ 1048576 ∧ n1 ≤ 1048576 := by simp at hlong; omega
    clear hlong
    obtain ⟨hs0, hs1⟩ := hs0
    have HSin := Lib.hid hSin
    have HTxt := Lib.hid hTxt
    have HB1 := Lib.hid hS1
    have HL1 := Lib.hid hl1
    clear hSin hTxt hS1 hl1
    go_enter Tryz.func3, Tryz.ntmps3
    go_wp2_with (refine CL.out.mono ?_; rintro e w1 ⟨rfl, rfl⟩)
    refine (R8Planet_any A0 n0 c0 l0 w1 hl0 hs0 hS0 HI0.out).mono ?_
    rintro e w2 ⟨P, rfl, hvP, hb2⟩
    have hbW := hb2
    clear CL hb2 hS0 hl0
    go_wp2_with (fail)
    refine calls_named ?_
    intro W3 e3
    have hb3 : Below w2.heap.size w2 W3 := by rw [e3]; exact below_alloc (Below.refl _ _) _
    have hP : Blk W3 w2.heap.size 25 [.string P.n, .int .i64 P.p, .int .i64 P.r, .int .i64 P.u] := by rw [e3]; exact Blk.new w2 _ _
    replace hbW := below_step hbW hb3
    clear e3 hb3
    generalize w2.heap.size = q1 at *
    refine (R8Planet_any A1 n1 c1 l1 W3 HL1.out hs1 (HB1.out.below hbW) HI1.out).mono ?_
    rintro e w4 ⟨Q, rfl, hvQ, hb4⟩
    replace hP := hP.keep hb4
    replace hbW := below_step hbW hb4
    clear hb4
    go_wp2_with (fail)
    refine calls_named ?_
    intro W5 e5
    have hb5 : Below w4.heap.size w4 W5 := by rw [e5]; exact below_alloc (Below.refl _ _) _
    have hQ : Blk W5 w4.heap.size 25 [.string Q.n, .int .i64 Q.p, .int .i64 Q.r, .int .i64 Q.u] := by rw [e5]; exact Blk.new w4 _ _
    replace hP := hP.keep hb5
    replace hbW := below_step hbW hb5
    clear e5 hb5
    generalize w4.heap.size = q2 at *
    refine (R8Moment_any A1 n1 c1 l1 W5 HL1.out hs1 (HB1.out.below hbW) HI1.out).mono ?_
    rintro e w6 ⟨d, m, rfl, hvM, hb6⟩
    replace hP := hP.keep hb6
    replace hQ := hQ.keep hb6
    replace hbW := below_step hbW hb6
    clear hb6 HB1 HL1
    go_upto_region 6 with (fail)
    refine wp_named ?_
    intro W7 e7
    have hb7 : Below w6.heap.size w6 W7 := by rw [e7]; exact below_alloc (Below.refl _ _) _
    have hM : Blk W7 w6.heap.size 28 [.int .i64 d, .int .i64 m] := by rw [e7]; exact Blk.new w6 _ _
    replace hP := hP.keep hb7
    replace hQ := hQ.keep hb7
    replace hbW := below_step hbW hb7
    clear e7 hb7
    generalize w6.heap.size = q3 at *
    -- what is known
    have bP := vP_bd hvP
    have hco := pl_coord hvP d m
    have hfar := pl_far hvP d m
    have hr0 := rootI_nonneg (plX P d m * plX P d m + plY P d m * plY P d m)
    obtain ⟨e1, e2, e3, e4, e5⟩ := seen_both hvP hvQ hvM
    have e6 := syn_both (n1 := P.n.data.toList) (p1 := P.p) (r1 := P.r) (u1 := P.u) (n2 := Q.n.data.toList) (p2 := Q.p) (r2 := Q.r) (u2 := Q.u)
    have hang : 0 ≤ angP P d m ∧ angP P d m ≤ 359999 := angleI_bd _ _ _ _
    have CO := Lib.hid (fun W => OrbitAngle_any P.n P.p P.r P.u d m W)
    have CP := Lib.hid (fun W hW => PlaceInOrbit_any P d m W hW)
    have CD1 := Lib.hid (fun W hW => SeenDistance_any P Q d m W hW)
    have CD2 := Lib.hid (fun W hW => SeenDistance_any Q P d m W hW)
    have CA1 := Lib.hid (fun W hW => SeenAngle_any P Q d m W hW)
    have CA2 := Lib.hid (fun W hW => SeenAngle_any Q P d m W hW)
    have CY1 := Lib.hid (fun W => SynodicPeriod_any P.n P.p P.r P.u Q.n Q.p Q.r Q.u W)
    have CY2 := Lib.hid (fun W => SynodicPeriod_any Q.n Q.p Q.r Q.u P.n P.p P.r P.u W)
    have CT := Lib.hid (fun W hW => PlanetText_any P.n P.p P.r P.u W hW)
    have CR : Hid (∀ W, TxtOk W → Calls Tryz.prog 11 #[.string (tx (planO P.n.data.toList P.p P.r P.u))] W fun e w' => e = .returned (.tuple #[.agg #[.string P.n, .int .i64 P.p, .int .i64 P.r, .int .i64 P.u], .bool true]) ∧ Below W.heap.size W w') := Lib.hid (fun W hW => by
      have h := ReadPlanet_any (tx (planO P.n.data.toList P.p P.r P.u)) W (by rw [tx_size]; exact planO_len hvP) hW
      rw [tx_data, plan_back hvP] at h
      unfold PlanRet planOf at h
      dsimp only at h
      rw [tx_self] at h
      exact h)
    have CMA := Lib.hid (fun W => MomentAfter_any d m (P.p * 86400) W hvM (by omega) (by omega))
    have CO2 : Hid (∀ d' m', vMoment d' m' = true → milliI d' m' = milliI d m + P.p * 86400 → ∀ W, Calls Tryz.prog 9 #[.agg #[.string P.n, .int .i64 P.p, .int .i64 P.r, .int .i64 P.u], .agg #[.int .i64 d', .int .i64 m']] W fun e w' => e = .returned (.tuple #[.int .i64 (angP P d m), .int .i64 0]) ∧ Below W.heap.size W w') := Lib.hid (fun d' m' hv' he W => by
      have h := OrbitAngle_any P.n P.p P.r P.u d' m' W
      rw [orb_yes hvP hv'] at h
      rw [show angP P d' m' = angP P d m from angle_after (by omega) he] at h
      exact h)
    rw [orb_yes hvP hvM] at CO
    rw [pl_yes hvP hvM] at CP
    rw [← e1, ← e2] at CD2
    rw [e3] at CA1
    rw [e4] at CA2
    rw [← e6] at CY2
    dsimp only at CO CP
    have HE5 := Lib.hid e5
    have CF := Lib.hid (fun W => sRootOf_any (plX P d m * plX P d m + plY P d m * plY P d m) W (by
      have h1 := mul_in (A := 51000000) (B := 51000000) (a := plX P d m) (b := plX P d m) (by omega) (by omega)
      have h2 := mul_in (A := 51000000) (B := 51000000) (a := plY P d m) (b := plY P d m) (by omega) (by omega)
      have h3 := sq_nn (plX P d m)
      have h4 := sq_nn (plY P d m)
      omega))
    have hsx : 0 ≤ plX P d m * plX P d m ∧ plX P d m * plX P d m ≤ 2601000000000000 := ⟨sq_nn _, (mul_in (A := 51000000) (B := 51000000) (a := plX P d m) (b := plX P d m) (by omega) (by omega)).2⟩
    have hsy : 0 ≤ plY P d m * plY P d m ∧ plY P d m * plY P d m ≤ 2601000000000000 := ⟨sq_nn _, (mul_in (A := 51000000) (B := 51000000) (a := plY P d m) (b := plY P d m) (by omega) (by omega)).2⟩
    have hbt := absI_bd (rootI (plX P d m * plX P d m + plY P d m * plY P d m) - 1000 * P.r)
    have CB := Lib.hid (fun W => r8Abs_any (rootI (plX P d m * plX P d m + plY P d m * plY P d m) - 1000 * P.r) W (by omega) (by omega))
    have hneq := run_neq_plan P.n P.p P.r P.u
    clear e1 e2 e3 e4 e5 e6 hvP hvQ
    generalize angP P d m = an at *
    generalize plX P d m = x at *
    generalize plY P d m = y at *
    have wx : IntKind.i64.wrap (x * x) = x * x := wrap_in' (by omega) (by omega)
    have wy : IntKind.i64.wrap (y * y) = y * y := wrap_in' (by omega) (by omega)
    have wxy : IntKind.i64.wrap (x * x + y * y) = x * x + y * y := wrap_in' (by omega) (by omega)
    generalize rootI (x * x + y * y) = far at *
    generalize absI (far - 1000 * P.r) = dist at *
    generalize (distO P Q d m).1 = du at *
    generalize (distO P Q d m).2 = fc at *
    generalize (seenO P Q d m).1 = sr at *
    generalize (seenO Q P d m).1 = ss at *
    generalize (synO P.n.data.toList P.p P.r P.u Q.n.data.toList Q.p Q.r Q.u).1 = y1 at *
    generalize (synO P.n.data.toList P.p P.r P.u Q.n.data.toList Q.p Q.r Q.u).2 = y2 at *
    generalize tx (planO P.n.data.toList P.p P.r P.u) = txt at *
    obtain ⟨pn, pp, pr, pu⟩ := P
    obtain ⟨qn, qp, qr, qu⟩ := Q
    dsimp only at *
    obtain ⟨x0, x1, x2, x3⟩ := hP.fourP
    obtain ⟨m0, m1⟩ := hM.twoP
    have hgl := hP.lt
    have hml := hM.lt
    go_wp2_with (fail)
    refine (CO.out _).mono ?_
    rintro e w8 ⟨rfl, hb8⟩
    replace hP := hP.keep hb8
    replace hQ := hQ.keep hb8
    replace hM := hM.keep hb8
    replace hbW := below_step hbW hb8
    clear hb8 x0 x1 x2 x3 m0 m1 hgl hml CO
    obtain ⟨x0, x1, x2, x3⟩ := hP.fourP
    obtain ⟨m0, m1⟩ := hM.twoP
    have hgl := hP.lt
    have hml := hM.lt
    go_wp2_with (fail)
    refine (CP.out _ (HSin.out.of_below hbW)).mono ?_
    rintro e w9 ⟨rfl, hb9⟩
    replace hP := hP.keep hb9
    replace hQ := hQ.keep hb9
    replace hM := hM.keep hb9
    replace hbW := below_step hbW hb9
    clear hb9 x0 x1 x2 x3 m0 m1 hgl hml CP
    obtain ⟨x0, x1, x2, x3⟩ := hP.fourP
    have hgl := hP.lt
    go_wp2_with (fail)
    refine (CT.out _ (HTxt.out.pow.below hbW)).mono ?_
    rintro e w10 ⟨rfl, hb10⟩
    replace hP := hP.keep hb10
    replace hQ := hQ.keep hb10
    replace hM := hM.keep hb10
    replace hbW := below_step hbW hb10
    clear hb10 x0 x1 x2 x3 hgl CT
    go_wp2_with (fail)
    refine (CR.out _ (HTxt.out.below hbW)).mono ?_
    rintro e w11 ⟨rfl, hb11⟩
    replace hP := hP.keep hb11
    replace hQ := hQ.keep hb11
    replace hM := hM.keep hb11
    replace hbW := below_step hbW hb11
    clear hb11 CR HTxt
    go_upto_region 9 with (fail)
    refine wp_named ?_
    intro W12 e12
    have hb12 : Below w11.heap.size w11 W12 := by rw [e12]; exact below_alloc (Below.refl _ _) _
    have hZ : Blk W12 w11.heap.size 25 [.string pn, .int .i64 pp, .int .i64 pr, .int .i64 pu] := by rw [e12]; exact Blk.new w11 _ _
    replace hP := hP.keep hb12
    replace hQ := hQ.keep hb12
    replace hM := hM.keep hb12
    replace hbW := below_step hbW hb12
    clear e12 hb12
    generalize w11.heap.size = q4 at *
    obtain ⟨x0, x1, x2, x3⟩ := hP.fourP
    obtain ⟨z0, z1, z2, z3⟩ := hZ.fourP
    have hgl := hP.lt
    have hzl := hZ.lt
    go_wp2_with (fail)
    refine (CF.out _).mono ?_
    rintro e w13 ⟨rfl, rfl⟩
    clear CF wx wy wxy hsx hsy z0 z1 z2 z3 hzl hZ hneq
    have hf1 : -60000000 ≤ far ∧ far ≤ 60000000 := by omega
    obtain ⟨hf1, hf2⟩ := hf1
    clear hbt
    go_wp2_with (fail)
    (refine later_intro_wp ?_; intro y)
    (refine wp_region_later (by kernel_rfl) (by kernel_rfl) ?_; (repeat (first | go_big_quiet_step ((go_at_call 14; exact later_same (CB.out _))) | quiet_step ((go_at_call 14; exact later_same (CB.out _))))); refine wpQuiet_nil ?_; rintro _ ⟨y, rfl⟩)
    go_upto_region 14 with (fail)
    have hb13 := y.below
    replace hP := hP.keep hb13
    replace hQ := hQ.keep hb13
    replace hM := hM.keep hb13
    replace hbW := below_step hbW hb13
    clear hb13 x0 x1 x2 x3 hgl CB hfar hf1 hf2
    generalize y.w = W13 at *
    obtain ⟨x0, x1, x2, x3⟩ := hP.fourP
    obtain ⟨m0, m1⟩ := hM.twoP
    have hgl := hP.lt
    have hml := hM.lt
    go_wp2_with (fail)
    refine (CMA.out _).mono ?_
    rintro e w14 ⟨hcase, hb14⟩
    replace hP := hP.keep hb14
    replace hQ := hQ.keep hb14
    replace hM := hM.keep hb14
    replace hbW := below_step hbW hb14
    clear hb14 x0 x1 x2 x3 hgl m0 m1 hml CMA
    rcases hcase with rfl | ⟨d', m', rfl, hv', he'⟩
    · go_upto_region 15 with (fail)
      refine wp_named ?_
      intro W15 e15
      have hb15 : Below w14.heap.size w14 W15 := by rw [e15]; exact below_alloc (Below.refl _ _) _
      replace hP := hP.keep hb15
      replace hQ := hQ.keep hb15
      replace hM := hM.keep hb15
      replace hbW := below_step hbW hb15
      clear e15 hb15
      go_upto_region 19 with (fail)
      obtain ⟨x0, x1, x2, x3⟩ := hP.fourP
      obtain ⟨k0, k1, k2, k3⟩ := hQ.fourP
      obtain ⟨m0, m1⟩ := hM.twoP
      have hgl := hP.lt
      have hgl2 := hQ.lt
      have hml := hM.lt
      go_wp2_with (fail)
      refine (CD1.out _ (HSin.out.of_below hbW)).mono ?_
      rintro e wN ⟨rfl, hbN⟩
      replace hP := hP.keep hbN
      replace hQ := hQ.keep hbN
      replace hM := hM.keep hbN
      replace hbW := below_step hbW hbN
      clear hbN x0 x1 x2 x3 k0 k1 k2 k3 m0 m1 hgl hgl2 hml
      obtain ⟨x0, x1, x2, x3⟩ := hP.fourP
      obtain ⟨k0, k1, k2, k3⟩ := hQ.fourP
      obtain ⟨m0, m1⟩ := hM.twoP
      have hgl := hP.lt
      have hgl2 := hQ.lt
      have hml := hM.lt
      go_wp2_with (fail)
      refine (CD2.out _ (HSin.out.of_below hbW)).mono ?_
      rintro e wN ⟨rfl, hbN⟩
      replace hP := hP.keep hbN
      replace hQ := hQ.keep hbN
      replace hM := hM.keep hbN
      replace hbW := below_step hbW hbN
      clear hbN x0 x1 x2 x3 k0 k1 k2 k3 m0 m1 hgl hgl2 hml
      obtain ⟨x0, x1, x2, x3⟩ := hP.fourP
      obtain ⟨k0, k1, k2, k3⟩ := hQ.fourP
      obtain ⟨m0, m1⟩ := hM.twoP
      have hgl := hP.lt
      have hgl2 := hQ.lt
      have hml := hM.lt
      go_wp2_with (fail)
      refine (CA1.out _ (HSin.out.of_below hbW)).mono ?_
      rintro e wN ⟨rfl, hbN⟩
      replace hP := hP.keep hbN
      replace hQ := hQ.keep hbN
      replace hM := hM.keep hbN
      replace hbW := below_step hbW hbN
      clear hbN x0 x1 x2 x3 k0 k1 k2 k3 m0 m1 hgl hgl2 hml
      obtain ⟨x0, x1, x2, x3⟩ := hP.fourP
      obtain ⟨k0, k1, k2, k3⟩ := hQ.fourP
      obtain ⟨m0, m1⟩ := hM.twoP
      have hgl := hP.lt
      have hgl2 := hQ.lt
      have hml := hM.lt
      go_wp2_with (fail)
      refine (CA2.out _ (HSin.out.of_below hbW)).mono ?_
      rintro e wN ⟨rfl, hbN⟩
      replace hP := hP.keep hbN
      replace hQ := hQ.keep hbN
      replace hM := hM.keep hbN
      replace hbW := below_step hbW hbN
      clear hbN x0 x1 x2 x3 k0 k1 k2 k3 m0 m1 hgl hgl2 hml
      obtain ⟨x0, x1, x2, x3⟩ := hP.fourP
      obtain ⟨k0, k1, k2, k3⟩ := hQ.fourP
      obtain ⟨m0, m1⟩ := hM.twoP
      have hgl := hP.lt
      have hgl2 := hQ.lt
      have hml := hM.lt
      go_wp2_with (fail)
      refine (CY1.out _).mono ?_
      rintro e wN ⟨rfl, hbN⟩
      replace hP := hP.keep hbN
      replace hQ := hQ.keep hbN
      replace hM := hM.keep hbN
      replace hbW := below_step hbW hbN
      clear hbN x0 x1 x2 x3 k0 k1 k2 k3 m0 m1 hgl hgl2 hml
      obtain ⟨x0, x1, x2, x3⟩ := hP.fourP
      obtain ⟨k0, k1, k2, k3⟩ := hQ.fourP
      obtain ⟨m0, m1⟩ := hM.twoP
      have hgl := hP.lt
      have hgl2 := hQ.lt
      have hml := hM.lt
      go_wp2_with (fail)
      refine (CY2.out _).mono ?_
      rintro e wN ⟨rfl, hbN⟩
      replace hP := hP.keep hbN
      replace hQ := hQ.keep hbN
      replace hM := hM.keep hbN
      replace hbW := below_step hbW hbN
      clear hbN x0 x1 x2 x3 k0 k1 k2 k3 m0 m1 hgl hgl2 hml
      rcases HE5.out with hfc | ⟨hfc, hr0, hr1, hs0, hopp⟩
      · subst hfc
        go_wp2_with (fail)
        go_ret
        exact ⟨rfl, hbW⟩
      · subst hfc
        have htm : (sr + 180000).tmod 360000 = ss := by rw [IntWalk.rem_in _ _ (by omega)]; exact hopp
        clear hopp
        go_wp2_with (fail)
        go_ret
        exact ⟨rfl, hbW⟩
    · have CO3 := Lib.hid (CO2.out d' m' hv' he')
      clear hv' he'
      go_upto_region 15 with (fail)
      refine wp_named ?_
      intro W15 e15
      have hb15 : Below w14.heap.size w14 W15 := by rw [e15]; exact below_alloc (Below.refl _ _) _
      have hL : Blk W15 w14.heap.size 28 [.int .i64 d', .int .i64 m'] := by rw [e15]; exact Blk.new w14 _ _
      replace hP := hP.keep hb15
      replace hQ := hQ.keep hb15
      replace hM := hM.keep hb15
      replace hbW := below_step hbW hb15
      clear e15 hb15
      generalize w14.heap.size = q5 at *
      obtain ⟨x0, x1, x2, x3⟩ := hP.fourP
      obtain ⟨m0, m1⟩ := hL.twoP
      have hgl := hP.lt
      have hml := hL.lt
      go_wp2_with (fail)
      refine (CO3.out _).mono ?_
      rintro e w16 ⟨rfl, hb16⟩
      replace hP := hP.keep hb16
      replace hQ := hQ.keep hb16
      replace hM := hM.keep hb16
      replace hbW := below_step hbW hb16
      clear hb16 x0 x1 x2 x3 hgl m0 m1 hml hL CO3
      go_upto_region 19 with (fail)
      obtain ⟨x0, x1, x2, x3⟩ := hP.fourP
      obtain ⟨k0, k1, k2, k3⟩ := hQ.fourP
      obtain ⟨m0, m1⟩ := hM.twoP
      have hgl := hP.lt
      have hgl2 := hQ.lt
      have hml := hM.lt
      go_wp2_with (fail)
      refine (CD1.out _ (HSin.out.of_below hbW)).mono ?_
      rintro e wN ⟨rfl, hbN⟩
      replace hP := hP.keep hbN
      replace hQ := hQ.keep hbN
      replace hM := hM.keep hbN
      replace hbW := below_step hbW hbN
      clear hbN x0 x1 x2 x3 k0 k1 k2 k3 m0 m1 hgl hgl2 hml
      obtain ⟨x0, x1, x2, x3⟩ := hP.fourP
      obtain ⟨k0, k1, k2, k3⟩ := hQ.fourP
      obtain ⟨m0, m1⟩ := hM.twoP
      have hgl := hP.lt
      have hgl2 := hQ.lt
      have hml := hM.lt
      go_wp2_with (fail)
      refine (CD2.out _ (HSin.out.of_below hbW)).mono ?_
      rintro e wN ⟨rfl, hbN⟩
      replace hP := hP.keep hbN
      replace hQ := hQ.keep hbN
      replace hM := hM.keep hbN
      replace hbW := below_step hbW hbN
      clear hbN x0 x1 x2 x3 k0 k1 k2 k3 m0 m1 hgl hgl2 hml
      obtain ⟨x0, x1, x2, x3⟩ := hP.fourP
      obtain ⟨k0, k1, k2, k3⟩ := hQ.fourP
      obtain ⟨m0, m1⟩ := hM.twoP
      have hgl := hP.lt
      have hgl2 := hQ.lt
      have hml := hM.lt
      go_wp2_with (fail)
      refine (CA1.out _ (HSin.out.of_below hbW)).mono ?_
      rintro e wN ⟨rfl, hbN⟩
      replace hP := hP.keep hbN
      replace hQ := hQ.keep hbN
      replace hM := hM.keep hbN
      replace hbW := below_step hbW hbN
      clear hbN x0 x1 x2 x3 k0 k1 k2 k3 m0 m1 hgl hgl2 hml
      obtain ⟨x0, x1, x2, x3⟩ := hP.fourP
      obtain ⟨k0, k1, k2, k3⟩ := hQ.fourP
      obtain ⟨m0, m1⟩ := hM.twoP
      have hgl := hP.lt
      have hgl2 := hQ.lt
      have hml := hM.lt
      go_wp2_with (fail)
      refine (CA2.out _ (HSin.out.of_below hbW)).mono ?_
      rintro e wN ⟨rfl, hbN⟩
      replace hP := hP.keep hbN
      replace hQ := hQ.keep hbN
      replace hM := hM.keep hbN
      replace hbW := below_step hbW hbN
      clear hbN x0 x1 x2 x3 k0 k1 k2 k3 m0 m1 hgl hgl2 hml
      obtain ⟨x0, x1, x2, x3⟩ := hP.fourP
      obtain ⟨k0, k1, k2, k3⟩ := hQ.fourP
      obtain ⟨m0, m1⟩ := hM.twoP
      have hgl := hP.lt
      have hgl2 := hQ.lt
      have hml := hM.lt
      go_wp2_with (fail)
      refine (CY1.out _).mono ?_
      rintro e wN ⟨rfl, hbN⟩
      replace hP := hP.keep hbN
      replace hQ := hQ.keep hbN
      replace hM := hM.keep hbN
      replace hbW := below_step hbW hbN
      clear hbN x0 x1 x2 x3 k0 k1 k2 k3 m0 m1 hgl hgl2 hml
      obtain ⟨x0, x1, x2, x3⟩ := hP.fourP
      obtain ⟨k0, k1, k2, k3⟩ := hQ.fourP
      obtain ⟨m0, m1⟩ := hM.twoP
      have hgl := hP.lt
      have hgl2 := hQ.lt
      have hml := hM.lt
      go_wp2_with (fail)
      refine (CY2.out _).mono ?_
      rintro e wN ⟨rfl, hbN⟩
      replace hP := hP.keep hbN
      replace hQ := hQ.keep hbN
      replace hM := hM.keep hbN
      replace hbW := below_step hbW hbN
      clear hbN x0 x1 x2 x3 k0 k1 k2 k3 m0 m1 hgl hgl2 hml
      rcases HE5.out with hfc | ⟨hfc, hr0, hr1, hs0, hopp⟩
      · subst hfc
        go_wp2_with (fail)
        go_ret
        exact ⟨rfl, hbW⟩
      · subst hfc
        have htm : (sr + 180000).tmod 360000 = ss := by rw [IntWalk.rem_in _ _ (by omega)]; exact hopp
        clear hopp
        go_wp2_with (fail)
        go_ret
        exact ⟨rfl, hbW⟩
namespace FnPlanets
open Go.ChangeShapes Go.WideShapes Go.ChangeAt Go.RowKit Go.Joins
open Go.ChangeMaps (open_string shut_string)
theorem own : ownKnob Tryz.prog.godebug = none := by kernel_rfl
theorem laidOut : laidOutB Tryz.prog = true := by kernel_rfl
theorem gTab : Tryz.prog.globalNamed "loop.example/g00955/impl.sines" = some 0 := by kernel_rfl
theorem gTabType : (Tryz.prog.globals[0]?).map (·.type) = some 133 := by kernel_rfl
theorem cellsT : Tryz.prog.cellsOf 133 = 91 := by kernel_rfl
theorem cells1 : Tryz.prog.cellsOf 2 = 1 := by kernel_rfl
theorem table {W : World} {a b c d e f : String × DataW Unit} {r : List (String × DataW Unit)} (h : laidMet Tryz.prog (a :: b :: c :: d :: e :: f :: ("loop.example/g00955/impl.sines", Lib.tabData .i64 sinTab) :: r) W) : Lib.TabIs Tryz.prog W "loop.example/g00955/impl.sines" .i64 sinTab :=
  Lib.tabIs_of_head gTab gTabType Tryz.underlying133 Tryz.underlying2 cells1 cellsT h.tail.tail.tail.tail.tail.tail
theorem sinOk {W : World} {a b c d e f : String × DataW Unit} {r : List (String × DataW Unit)} (h : laidMet Tryz.prog (a :: b :: c :: d :: e :: f :: ("loop.example/g00955/impl.sines", Lib.tabData .i64 sinTab) :: r) W) : SinOk W :=
  ⟨lt_of_cell ((table h).cell gTab 0 (by show 0 < 91; omega)), fun k hk => (table h).cell gTab k (by show k < 91; exact hk)⟩
noncomputable def laidWorld (os : Os) : World :=
  { World.doorLaid Tryz.prog 400 os with heap := (((World.doorLaid Tryz.prog 400 os).heap.modify 6 fun
      | .cells _ t frozen => .cells (Go.Pinned.utf8FirstZ.map fun (n : Nat) => Value.int .u8 (n : Int)).toArray t frozen
      | o => o).modify 0 fun
      | .cells _ t frozen => .cells (sinTab.map (Value.int .i64)).toArray t frozen
      | o => o) }
theorem laid_met (os : Os) : laidMet Tryz.prog Rows.fnPlanetsRow.laid ((laidWorld os).forCall (fun _ _ => 0) ⟨#[], #[.slice none 0 0, .slice none 0 0], []⟩).memory :=
  laidMet_of_run' 8 (by kernel_rfl) (by kernel_rfl)
theorem reads (os : Os) {H : Type} (enc : TypeId × Value → H) : ∃ places, DataW.whole enc Tryz.prog ((laidWorld os).forCall (fun _ _ => 0) ⟨#[], #[.slice none 0 0, .slice none 0 0], []⟩).memory Tryz.f3.params.toList Rows.fnPlanetsSpec.vars false (#[.slice none 0 0, .slice none 0 0] : Array Value).toList 8 = some ([.nil, .nil], [Rows.laid_loop_example_g00955_impl_sines], places) :=
  ⟨((DataW.whole enc Tryz.prog ((laidWorld os).forCall (fun _ _ => 0) ⟨#[], #[.slice none 0 0, .slice none 0 0], []⟩).memory Tryz.f3.params.toList Rows.fnPlanetsSpec.vars false (#[.slice none 0 0, .slice none 0 0] : Array Value).toList 8).map (fun x => x.2.2)).getD [], by kernel_rfl⟩
set_option maxRecDepth 100000 in
set_option maxHeartbeats 2000000 in
theorem lifted (os : Os) (started : os.Started) (H : Type) (enc : TypeId × Value → H) (F : Stop.Interp) :
    ReturnsInHanded {} Tryz.checked os 3 .any ((OpenSpec.ofChange Rows.fnPlanetsSpec).preRow enc Tryz.prog Tryz.f3 Rows.fnPlanetsRow.domain false Rows.fnPlanetsRow.laid) (((OpenSpec.ofChange Rows.fnPlanetsSpec).at F).post enc Tryz.prog Tryz.f3 false true false false) := by
  obtain ⟨places, hx⟩ := reads os enc
  refine returnsInHanded_of_row (C := Tryz.checked) (s := OpenSpec.ofChange Rows.fnPlanetsSpec) own started (by kernel_rfl) Tryz.func3
    (witness_row_atRef (enc := enc) (C := Tryz.checked) false (laidWorld os) #[.slice none 0 0, .slice none 0 0] rfl (by kernel_rfl) (by kernel_rfl) (by kernel_rfl)
      (OpenSpec.preRow_of_cond 8 hx (by kernel_rfl) (fun k hk => by cases hk) (by kernel_rfl) (laid_met os))) ?_
  intro W base args ds gs before hval0 hW _ _ _ hL hsh _
  have hval : ∀ (j : Nat) t v, Tryz.f3.params[j]? = some t → args[j]? = some v → Value.okWide Tryz.prog W .any base t v := hval0
  have hW' := hW
  obtain ⟨p, q, hA0, hV, rfl, hfz, hnd⟩ := hW
  have hA : DataW.TrodAll enc Tryz.prog W 0 (fun _ => true) true Tryz.f3.params.toList args.toList ds p := hA0
  rw [Tryz.params3] at hA hval
  obtain ⟨v0, vs0, d0, ds0, p0, q0, hargs, rfl, rfl, h0, r0⟩ := trodAll_cons hA
  obtain ⟨v1, vs1, d1, ds1, p1, q1, rfl, rfl, rfl, h1, r1⟩ := trodAll_cons r0
  obtain ⟨rfl, rfl, rfl⟩ := trodAll_nil r1
  obtain rfl : args = #[v0, v1] := by cases args; simp_all
  have hVk := hV
  obtain ⟨_, _, _, _, dg, _, rfl, _, _, _, _, _⟩ := trodVars_one hV
  have k0 := h0
  have lt0 : ∀ x ∈ p0, x.block < W.heap.size := by obtain ⟨m, hm⟩ := k0; exact DataW.trod_lt m _ _ _ hm
  have k1 := h1
  have lt1 : ∀ x ∈ p1, x.block < W.heap.size := by obtain ⟨m, hm⟩ := k1; exact DataW.trod_lt m _ _ _ hm
  obtain ⟨A0, n0, c0, l0, rfl, hl0, hn0, hc0, hx0, hS0, hi0⟩ := open_bytes Tryz.underlying22 Tryz.underlying5 (by kernel_rfl) (hval 0 22 v0 rfl rfl) h0
  obtain ⟨A1, n1, c1, l1, rfl, hl1, hn1, hc1, hx1, hS1, hi1⟩ := open_bytes Tryz.underlying22 Tryz.underlying5 (by kernel_rfl) (hval 1 22 v1 rfl rfl) h1
  clear hA0 hval0
  refine (FnPlanets_walk A0 n0 c0 l0 A1 n1 c1 l1 W hl0 hn0 hS0 hi0 hl1 hn1 hS1 hi1 (sinOk hL) (txtOk_of hL hsh)).mono fun e W' ⟨he, bel⟩ => ?_
  subst he
  exact ⟨_, rfl, _, _, _, [], _, _, hW', trodAll_mk1 (shut_bool Tryz.underlying4 _), (trodAll_cons_mk (Below.trod laidOut (by kernel_rfl) (of_decide_eq_true (by kernel_rfl)) k0 bel lt0) (trodAll_cons_mk (Below.trod laidOut (by kernel_rfl) (of_decide_eq_true (by kernel_rfl)) k1 bel lt1) trodAll_mk0)), Below.trodVars laidOut bel (by kernel_rfl) hVk, bel.frame _, fun h => by cases h⟩
theorem said : Rows.FnPlanetsSaid :=
  OpenClaim.holds_of_cond 3 Tryz.f3 rfl rfl rfl rfl rfl rfl rfl ⟨rfl, rfl, rfl, rfl, rfl⟩ rfl rfl rfl rfl rfl (by kernel_rfl) Tryz.func3 (by kernel_rfl)
    (of_decide_eq_true (by kernel_rfl)) (by unfold Func.isWrapper; first | (rw [if_pos (by decide +kernel)]; kernel_rfl) | (rw [if_neg (by decide +kernel)]; exact ⟨rfl, rfl⟩))
    (fun os started H enc _ F => by rw [OpenClaim.pre_eq_preRow]; exact lifted os started H enc F)
theorem plain (f : FuncId) (fn : Func) (hf : Tryz.pinned.checked.prog.funcNamed "loop.example/g00955/laws.FnPlanets" = some f) (hfn : Tryz.pinned.checked.prog.funcs[f]? = some fn) :
    true = Tryz.pinned.checked.prog.looks [] ∧ ∀ (j : Nat) t, fn.params[j]? = some t → Tryz.pinned.checked.prog.wantsStandIn t = false := by
  obtain rfl : f = 3 := Option.some.inj ((show Tryz.prog.funcNamed "loop.example/g00955/laws.FnPlanets" = some 3 by kernel_rfl).symm.trans hf) |>.symm
  obtain rfl : fn = Tryz.f3 := (Option.some.inj (Tryz.func3.symm.trans hfn)).symm
  refine ⟨by kernel_rfl, fun j t ht => ?_⟩
  rw [Tryz.params3] at ht
  have hm : t ∈ [22, 22] := by simpa using Array.mem_of_getElem? ht
  have hall : ([22, 22].all fun u => !Tryz.prog.wantsStandIn u) = true := by kernel_rfl
  exact (show Tryz.prog.wantsStandIn t = false by simpa using List.all_eq_true.1 hall t hm)
/-- the statement: the card -/
theorem proved : Rows.FnPlanetsCardSaid :=
  Claim7.holds_tied_plain_at .later [] _ _ _ _ said (fun _ h => by cases h) (by kernel_rfl) (fun _ h => by cases h) fnPlanets_row_tie rfl ⟨rfl, rfl⟩ (by kernel_rfl) rfl plain (by kernel_rfl)
end FnPlanets
end Go.Proofs.YtpnfhienffekoaaGreatDoor
