/- Contracts of NearestDay. -/
import Derived.Test.YtbgjmahamhppfaaDoorNear
namespace Go.Proofs.YtbgjmahamhppfaaDoor
set_option linter.unusedVariables false
set_option linter.unusedSimpArgs false
open Go.RowKit
theorem ndV_parts {P Q F : PlB} {d m : Int} (h : ndV P Q F d m = true) : vP P = true ∧ vP Q = true ∧ vP F = true ∧ vMoment d m = true := by simpa [ndV] using h
theorem ndGap_bd (P Q F : PlB) (d m : Int) : 0 ≤ ndGap P Q F d m ∧ ndGap P Q F d m ≤ 180000 := betI_bd _ _
theorem ndRun_bd2 (P Q F : PlB) (d m : Int) (k : Nat) : 0 ≤ (ndRun P Q F d m k).2 ∧ (ndRun P Q F d m k).2 ≤ 180000 := by
  induction k with
  | zero => exact ⟨by rw [ndRun]; omega, by rw [ndRun]; omega⟩
  | succ k ih =>
    rw [ndRun]
    split
    · exact ndGap_bd _ _ _ _ _
    · exact ih
theorem ndBoth_no1 {P Q F : PlB} {d m : Int} (h : ¬ wyC P F d m = 0) : ndBoth P Q F d m = false := by simp [ndBoth, h]
theorem ndBoth_no2 {P Q F : PlB} {d m : Int} (h : ¬ wyC Q F d m = 0) : ndBoth P Q F d m = false := by simp [ndBoth, h]
theorem ndBoth_ok {P Q F : PlB} {d m : Int} (h : wyC P F d m = 0) (h2 : wyC Q F d m = 0) : ndBoth P Q F d m = true := by simp [ndBoth, h, h2]
theorem ndR_no1 {d n : Int} (h : inB n 0 1000 = false) : ndR d n = false := by simp [ndR, h]
theorem ndR_no2 {d n : Int} (h : ¬ d + n ≤ 99999) : ndR d n = false := by simp [ndR, h]
theorem ndR_ok {d n : Int} (h : inB n 0 1000 = true) (h2 : d + n ≤ 99999) : ndR d n = true := by simp [ndR, h, h2]
set_option maxHeartbeats 8000000 in
theorem NearestDay_any (P Q F : PlB) (d m n : Int) (w : World) (hn : -9223372036854775808 ≤ n ∧ n ≤ 9223372036854775807) (hS : SinOk w) :
    Calls Tryd.prog 41 #[.agg #[.string P.n, .int .i64 P.p, .int .i64 P.r, .int .i64 P.u], .agg #[.string Q.n, .int .i64 Q.p, .int .i64 Q.r, .int .i64 Q.u], .agg #[.string F.n, .int .i64 F.p, .int .i64 F.r, .int .i64 F.u], .agg #[.int .i64 d, .int .i64 m], .int .i64 n] w fun e w' => e = .returned (.tuple #[.int .i64 (ndO P Q F d m n).1, .int .i64 (ndO P Q F d m n).2.1, .int .i64 (ndO P Q F d m n).2.2]) ∧ Below w.heap.size w w' := by
  cases v1 : vP P with
  | false =>
    have u1 : vPlanet P.n.data.toList P.p P.r P.u = false := v1
    have HO : Hid (ndO P Q F d m n = (0, 0, 1)) := ndO_no (by simp [ndV, v1])
    go_enter Tryd.func41, Tryd.ntmps41
    go_wp2_with (fail)
    (refine later_intro ?_; intro y)
    go_wp2_with (first | (go_at_call 78; refine (later_below (ValidPlanet_any _ _ _ _ _)).mono ?_; rintro e w' ⟨rfl, y, rfl⟩) | (go_at_call 79; refine (later_below (ValidMoment_any _ _ _)).mono ?_; rintro e w' ⟨rfl, y, rfl⟩) | (go_at_call 53; refine (within_any _ _ _ _).mono ?_; rintro e w' ⟨rfl, rfl⟩))
    go_ret3
    exact ⟨by rw [HO.out]; rfl, (by repeat (first | exact Below.refl _ _ | refine below_alloc ?_ _ | refine below_drewN0 ?_ _ | refine below_drew0 ?_ | refine below_step ?_ (by assumption) | refine below_later ?_ _ | refine below_setCell0 ?_ (by first | exact Nat.le_refl _ | (simp; done) | omega | (simp; omega)) _))⟩
  | true =>
    have u1 : vPlanet P.n.data.toList P.p P.r P.u = true := v1
    cases v2 : vP Q with
    | false =>
      have u2 : vPlanet Q.n.data.toList Q.p Q.r Q.u = false := v2
      have HO : Hid (ndO P Q F d m n = (0, 0, 1)) := ndO_no (by simp [ndV, v2])
      go_enter Tryd.func41, Tryd.ntmps41
      go_wp2_with (fail)
      (refine later_intro ?_; intro y)
      go_wp2_with (first | (go_at_call 78; refine (later_below (ValidPlanet_any _ _ _ _ _)).mono ?_; rintro e w' ⟨rfl, y, rfl⟩) | (go_at_call 79; refine (later_below (ValidMoment_any _ _ _)).mono ?_; rintro e w' ⟨rfl, y, rfl⟩) | (go_at_call 53; refine (within_any _ _ _ _).mono ?_; rintro e w' ⟨rfl, rfl⟩))
      go_ret3
      exact ⟨by rw [HO.out]; rfl, (by repeat (first | exact Below.refl _ _ | refine below_alloc ?_ _ | refine below_drewN0 ?_ _ | refine below_drew0 ?_ | refine below_step ?_ (by assumption) | refine below_later ?_ _ | refine below_setCell0 ?_ (by first | exact Nat.le_refl _ | (simp; done) | omega | (simp; omega)) _))⟩
    | true =>
      have u2 : vPlanet Q.n.data.toList Q.p Q.r Q.u = true := v2
      cases v3 : vP F with
      | false =>
        have u3 : vPlanet F.n.data.toList F.p F.r F.u = false := v3
        have HO : Hid (ndO P Q F d m n = (0, 0, 1)) := ndO_no (by simp [ndV, v3])
        go_enter Tryd.func41, Tryd.ntmps41
        go_wp2_with (fail)
        (refine later_intro ?_; intro y)
        go_wp2_with (first | (go_at_call 78; refine (later_below (ValidPlanet_any _ _ _ _ _)).mono ?_; rintro e w' ⟨rfl, y, rfl⟩) | (go_at_call 79; refine (later_below (ValidMoment_any _ _ _)).mono ?_; rintro e w' ⟨rfl, y, rfl⟩) | (go_at_call 53; refine (within_any _ _ _ _).mono ?_; rintro e w' ⟨rfl, rfl⟩))
        go_ret3
        exact ⟨by rw [HO.out]; rfl, (by repeat (first | exact Below.refl _ _ | refine below_alloc ?_ _ | refine below_drewN0 ?_ _ | refine below_drew0 ?_ | refine below_step ?_ (by assumption) | refine below_later ?_ _ | refine below_setCell0 ?_ (by first | exact Nat.le_refl _ | (simp; done) | omega | (simp; omega)) _))⟩
      | true =>
        have u3 : vPlanet F.n.data.toList F.p F.r F.u = true := v3
        cases v4 : vMoment d m with
        | false =>
          have HO : Hid (ndO P Q F d m n = (0, 0, 1)) := ndO_no (by simp [ndV, v4])
          go_enter Tryd.func41, Tryd.ntmps41
          go_wp2_with (fail)
          (refine later_intro ?_; intro y)
          go_wp2_with (first | (go_at_call 78; refine (later_below (ValidPlanet_any _ _ _ _ _)).mono ?_; rintro e w' ⟨rfl, y, rfl⟩) | (go_at_call 79; refine (later_below (ValidMoment_any _ _ _)).mono ?_; rintro e w' ⟨rfl, y, rfl⟩) | (go_at_call 53; refine (within_any _ _ _ _).mono ?_; rintro e w' ⟨rfl, rfl⟩))
          go_ret3
          exact ⟨by rw [HO.out]; rfl, (by repeat (first | exact Below.refl _ _ | refine below_alloc ?_ _ | refine below_drewN0 ?_ _ | refine below_drew0 ?_ | refine below_step ?_ (by assumption) | refine below_later ?_ _ | refine below_setCell0 ?_ (by first | exact Nat.le_refl _ | (simp; done) | omega | (simp; omega)) _))⟩
        | true =>
          have hV : ndV P Q F d m = true := by simp [ndV, v1, v2, v3, v4]
          obtain ⟨d1, d2, d3, d4⟩ := vMoment_bd v4
          cases r1 : inB n 0 1000 with
          | false =>
            have HO : Hid (ndO P Q F d m n = (0, 0, 2)) := ndO_range hV (ndR_no1 r1)
            go_enter Tryd.func41, Tryd.ntmps41
            go_wp2_with (fail)
            (refine later_intro ?_; intro y)
            go_wp2_with (first | (go_at_call 78; refine (later_below (ValidPlanet_any _ _ _ _ _)).mono ?_; rintro e w' ⟨rfl, y, rfl⟩) | (go_at_call 79; refine (later_below (ValidMoment_any _ _ _)).mono ?_; rintro e w' ⟨rfl, y, rfl⟩) | (go_at_call 53; refine (within_any _ _ _ _).mono ?_; rintro e w' ⟨rfl, rfl⟩))
            go_ret3
            exact ⟨by rw [HO.out]; rfl, (by repeat (first | exact Below.refl _ _ | refine below_alloc ?_ _ | refine below_drewN0 ?_ _ | refine below_drew0 ?_ | refine below_step ?_ (by assumption) | refine below_later ?_ _ | refine below_setCell0 ?_ (by first | exact Nat.le_refl _ | (simp; done) | omega | (simp; omega)) _))⟩
          | true =>
            obtain ⟨n1, n2⟩ := (inB_iff _ _ _).1 r1
            by_cases r2 : d + n ≤ 99999
            · have HO : Hid (ndO P Q F d m n = ndEnd (ndRun P Q F d m (n.toNat + 1))) := ndO_ok hV (ndR_ok r1 r2)
              go_enter Tryd.func41, Tryd.ntmps41
              go_wp2_with (fail)
              (refine later_intro ?_; intro y)
              go_wp2_with (first | (go_at_call 78; refine (later_below (ValidPlanet_any _ _ _ _ _)).mono ?_; rintro e w' ⟨rfl, y, rfl⟩) | (go_at_call 79; refine (later_below (ValidMoment_any _ _ _)).mono ?_; rintro e w' ⟨rfl, y, rfl⟩) | (go_at_call 53; refine (within_any _ _ _ _).mono ?_; rintro e w' ⟨rfl, rfl⟩))
              refine wp_named ?_
              intro W1 hW1
              have hbW : Below w.heap.size w W1 := by rw [hW1]; exact (by repeat (first | exact Below.refl _ _ | refine below_alloc ?_ _ | refine below_drewN0 ?_ _ | refine below_drew0 ?_ | refine below_step ?_ (by assumption) | refine below_later ?_ _ | refine below_setCell0 ?_ (by first | exact Nat.le_refl _ | (simp; done) | omega | (simp; omega)) _))
              have hS1 : SinOk W1 := by rw [hW1]; exact SinOk.later ((((hS.alloc _).alloc _).alloc _).alloc _) _
              have g1 : PlAt W1 w.heap.size P := by rw [hW1]; exact ⟨by refine Nat.lt_of_lt_of_le ?_ (below_size (Later.below _)); simp; try omega, by simp [go_sem], by simp [go_sem], by simp [go_sem], by simp [go_sem]⟩
              have g2 : PlAt W1 (w.heap.size + 1) Q := by rw [hW1]; exact ⟨by refine Nat.lt_of_lt_of_le ?_ (below_size (Later.below _)); simp; try omega, by simp [go_sem], by simp [go_sem], by simp [go_sem], by simp [go_sem]⟩
              have g3 : PlAt W1 (w.heap.size + 1 + 1) F := by rw [hW1]; exact ⟨by refine Nat.lt_of_lt_of_le ?_ (below_size (Later.below _)); simp; try omega, by simp [go_sem], by simp [go_sem], by simp [go_sem], by simp [go_sem]⟩
              have hlt : w.heap.size + 1 + 1 + 1 < W1.heap.size := by rw [hW1]; refine Nat.lt_of_lt_of_le ?_ (below_size (Later.below _)); simp; try omega
              have c4 : W1.cell? ⟨w.heap.size + 1 + 1 + 1, 0, none⟩ = some (.int .i64 d) := by rw [hW1]; simp [go_sem]
              have c5 : W1.cell? ⟨w.heap.size + 1 + 1 + 1, 1, none⟩ = some (.int .i64 m) := by rw [hW1]; simp [go_sem]
              clear hW1
              clear y
              (refine later_intro_wp ?_; intro y)
              obtain ⟨hl1, p1, p2, p3, p4⟩ := g1
              obtain ⟨hl3, f1, f2, f3, f4⟩ := g3
              clear v1 v2 v3 u1 u2 u3 hV v4
              go_loopw [13, 14, 15] (fun b l i wr => ∃ k : Nat, (k : Int) ≤ n + 1 ∧ i = .int .i64 k ∧ b = .int .i64 (ndRun P Q F d m k).1 ∧ l = .int .i64 (ndRun P Q F d m k).2 ∧ ∃ z : Later W1, wr = z.w) (fun _ _ i _ => (n + 1 - intOf i).toNat)
              case atStart => exact ⟨0, by omega, rfl, rfl, rfl, _, rfl⟩
              case round =>
                obtain ⟨k, hk, rfl, rfl, rfl, z, rfl⟩ := hrel
                obtain ⟨b1, b2⟩ := ndRun_bd P Q F d m k
                obtain ⟨b3, b4⟩ := ndRun_bd2 P Q F d m k
                by_cases hle : (k : Int) ≤ n
                · rcases seenO_pair P F (d + k) m with ⟨hk1, s1, s2⟩ | ⟨hk1, s1, s2⟩
                  · rcases seenO_pair Q F (d + k) m with ⟨hk2, s3, s4⟩ | ⟨hk2, s3, s4⟩
                    · obtain ⟨a1, a2⟩ := sawI_bd P F (d + k) m
                      obtain ⟨a3, a4⟩ := sawI_bd Q F (d + k) m
                      have HB := Lib.hid (ndBoth_ok hk1 hk2)
                      have HG : Hid (ndGap P Q F (d + k) m = betI (sawI P F (d + k) m) (sawI Q F (d + k) m)) := rfl
                      by_cases t1 : (ndRun P Q F d m k).1 < 0
                      · have HR := Lib.hid (ndRun_take HB.out (.inl t1))
                        have hz := below_size z.below
                        have hz0 : w.heap.size < z.w.heap.size := by omega
                        have hz1 : w.heap.size + 1 < z.w.heap.size := by omega
                        have hz2 : w.heap.size + 1 + 1 < z.w.heap.size := by omega
                        have hz3 : w.heap.size + 1 + 1 + 1 < z.w.heap.size := by omega
                        clear hz
                        go_wp2_with (fail)
                        refine calls_named ?_
                        intro W2 hW2
                        have hbW2 : Below W1.heap.size W1 W2 := by rw [hW2]; exact (by repeat (first | exact Below.refl _ _ | refine below_alloc ?_ _ | refine below_drewN0 ?_ _ | refine below_drew0 ?_ | refine below_step ?_ (by assumption) | refine below_later ?_ _ | refine below_setCell0 ?_ (by first | exact Nat.le_refl _ | (simp; done) | omega | (simp; omega)) _))
                        have hS2 : SinOk W2 := by rw [hW2]; exact (SinOk.later hS1 _).alloc _
                        obtain ⟨gl2, q1, q2, q3, q4⟩ := PlAt.of_below g2 hbW2
                        obtain ⟨gl3, e1, e2, e3, e4⟩ := PlAt.of_below ⟨hl3, f1, f2, f3, f4⟩ hbW2
                        have zlt : z.w.heap.size < W2.heap.size := by rw [hW2]; simp
                        have c6 : W2.cell? ⟨z.w.heap.size, 0, none⟩ = some (.int .i64 (d + k)) := by rw [hW2]; simp [go_sem]
                        have c7 : W2.cell? ⟨z.w.heap.size, 1, none⟩ = some (.int .i64 m) := by rw [hW2]; simp [go_sem]
                        clear hW2
                        (refine later_intro ?_; intro y)
                        (go_at_call 31; refine (later_below (SeenAngle_any P F _ m _ (SinOk.later hS2 _))).mono ?_; rintro e w' ⟨rfl, y, rfl⟩)
                        go_wp2_with (fail)
                        (go_at_call 31; refine (later_below (SeenAngle_any Q F _ m _ (SinOk.later hS2 _))).mono ?_; rintro e w' ⟨rfl, y, rfl⟩)
                        go_wp2_with ((go_at_call 68; refine (later_same (AngleBetween_any _ _ _ (by omega) (by omega))).mono ?_; rintro e w' ⟨rfl, y, rfl⟩))
                        exact ⟨⟨k + 1, by omega, by go_num, by rw [HR.out], by rw [HR.out, HG.out], later_of (below_later hbW2 _)⟩, by simp [intOf]; omega⟩
                      · by_cases t2 : betI (sawI P F (d + k) m) (sawI Q F (d + k) m) < (ndRun P Q F d m k).2
                        · have HR := Lib.hid (ndRun_take HB.out (.inr t2))
                          have hz := below_size z.below
                          have hz0 : w.heap.size < z.w.heap.size := by omega
                          have hz1 : w.heap.size + 1 < z.w.heap.size := by omega
                          have hz2 : w.heap.size + 1 + 1 < z.w.heap.size := by omega
                          have hz3 : w.heap.size + 1 + 1 + 1 < z.w.heap.size := by omega
                          clear hz
                          go_wp2_with (fail)
                          refine calls_named ?_
                          intro W2 hW2
                          have hbW2 : Below W1.heap.size W1 W2 := by rw [hW2]; exact (by repeat (first | exact Below.refl _ _ | refine below_alloc ?_ _ | refine below_drewN0 ?_ _ | refine below_drew0 ?_ | refine below_step ?_ (by assumption) | refine below_later ?_ _ | refine below_setCell0 ?_ (by first | exact Nat.le_refl _ | (simp; done) | omega | (simp; omega)) _))
                          have hS2 : SinOk W2 := by rw [hW2]; exact (SinOk.later hS1 _).alloc _
                          obtain ⟨gl2, q1, q2, q3, q4⟩ := PlAt.of_below g2 hbW2
                          obtain ⟨gl3, e1, e2, e3, e4⟩ := PlAt.of_below ⟨hl3, f1, f2, f3, f4⟩ hbW2
                          have zlt : z.w.heap.size < W2.heap.size := by rw [hW2]; simp
                          have c6 : W2.cell? ⟨z.w.heap.size, 0, none⟩ = some (.int .i64 (d + k)) := by rw [hW2]; simp [go_sem]
                          have c7 : W2.cell? ⟨z.w.heap.size, 1, none⟩ = some (.int .i64 m) := by rw [hW2]; simp [go_sem]
                          clear hW2
                          (refine later_intro ?_; intro y)
                          (go_at_call 31; refine (later_below (SeenAngle_any P F _ m _ (SinOk.later hS2 _))).mono ?_; rintro e w' ⟨rfl, y, rfl⟩)
                          go_wp2_with (fail)
                          (go_at_call 31; refine (later_below (SeenAngle_any Q F _ m _ (SinOk.later hS2 _))).mono ?_; rintro e w' ⟨rfl, y, rfl⟩)
                          go_wp2_with ((go_at_call 68; refine (later_same (AngleBetween_any _ _ _ (by omega) (by omega))).mono ?_; rintro e w' ⟨rfl, y, rfl⟩))
                          exact ⟨⟨k + 1, by omega, by go_num, by rw [HR.out], by rw [HR.out, HG.out], later_of (below_later hbW2 _)⟩, by simp [intOf]; omega⟩
                        · have HR := Lib.hid (ndRun_keep (k := k) t1 t2)
                          have hz := below_size z.below
                          have hz0 : w.heap.size < z.w.heap.size := by omega
                          have hz1 : w.heap.size + 1 < z.w.heap.size := by omega
                          have hz2 : w.heap.size + 1 + 1 < z.w.heap.size := by omega
                          have hz3 : w.heap.size + 1 + 1 + 1 < z.w.heap.size := by omega
                          clear hz
                          go_wp2_with (fail)
                          refine calls_named ?_
                          intro W2 hW2
                          have hbW2 : Below W1.heap.size W1 W2 := by rw [hW2]; exact (by repeat (first | exact Below.refl _ _ | refine below_alloc ?_ _ | refine below_drewN0 ?_ _ | refine below_drew0 ?_ | refine below_step ?_ (by assumption) | refine below_later ?_ _ | refine below_setCell0 ?_ (by first | exact Nat.le_refl _ | (simp; done) | omega | (simp; omega)) _))
                          have hS2 : SinOk W2 := by rw [hW2]; exact (SinOk.later hS1 _).alloc _
                          obtain ⟨gl2, q1, q2, q3, q4⟩ := PlAt.of_below g2 hbW2
                          obtain ⟨gl3, e1, e2, e3, e4⟩ := PlAt.of_below ⟨hl3, f1, f2, f3, f4⟩ hbW2
                          have zlt : z.w.heap.size < W2.heap.size := by rw [hW2]; simp
                          have c6 : W2.cell? ⟨z.w.heap.size, 0, none⟩ = some (.int .i64 (d + k)) := by rw [hW2]; simp [go_sem]
                          have c7 : W2.cell? ⟨z.w.heap.size, 1, none⟩ = some (.int .i64 m) := by rw [hW2]; simp [go_sem]
                          clear hW2
                          (refine later_intro ?_; intro y)
                          (go_at_call 31; refine (later_below (SeenAngle_any P F _ m _ (SinOk.later hS2 _))).mono ?_; rintro e w' ⟨rfl, y, rfl⟩)
                          go_wp2_with (fail)
                          (go_at_call 31; refine (later_below (SeenAngle_any Q F _ m _ (SinOk.later hS2 _))).mono ?_; rintro e w' ⟨rfl, y, rfl⟩)
                          go_wp2_with ((go_at_call 68; refine (later_same (AngleBetween_any _ _ _ (by omega) (by omega))).mono ?_; rintro e w' ⟨rfl, y, rfl⟩))
                          exact ⟨⟨k + 1, by omega, by go_num, by rw [HR.out], by rw [HR.out], later_of (below_later hbW2 _)⟩, by simp [intOf]; omega⟩
                    · have HR := Lib.hid (ndRun_skip (d := d) (k := k) (ndBoth_no2 (P := P) hk2))
                      have nb : (wyC Q F (d + k) m != 0) = true := by simp [hk2]
                      have hz := below_size z.below
                      have hz0 : w.heap.size < z.w.heap.size := by omega
                      have hz1 : w.heap.size + 1 < z.w.heap.size := by omega
                      have hz2 : w.heap.size + 1 + 1 < z.w.heap.size := by omega
                      have hz3 : w.heap.size + 1 + 1 + 1 < z.w.heap.size := by omega
                      clear hz
                      go_wp2_with (fail)
                      refine calls_named ?_
                      intro W2 hW2
                      have hbW2 : Below W1.heap.size W1 W2 := by rw [hW2]; exact (by repeat (first | exact Below.refl _ _ | refine below_alloc ?_ _ | refine below_drewN0 ?_ _ | refine below_drew0 ?_ | refine below_step ?_ (by assumption) | refine below_later ?_ _ | refine below_setCell0 ?_ (by first | exact Nat.le_refl _ | (simp; done) | omega | (simp; omega)) _))
                      have hS2 : SinOk W2 := by rw [hW2]; exact (SinOk.later hS1 _).alloc _
                      obtain ⟨gl2, q1, q2, q3, q4⟩ := PlAt.of_below g2 hbW2
                      obtain ⟨gl3, e1, e2, e3, e4⟩ := PlAt.of_below ⟨hl3, f1, f2, f3, f4⟩ hbW2
                      have zlt : z.w.heap.size < W2.heap.size := by rw [hW2]; simp
                      have c6 : W2.cell? ⟨z.w.heap.size, 0, none⟩ = some (.int .i64 (d + k)) := by rw [hW2]; simp [go_sem]
                      have c7 : W2.cell? ⟨z.w.heap.size, 1, none⟩ = some (.int .i64 m) := by rw [hW2]; simp [go_sem]
                      clear hW2
                      (refine later_intro ?_; intro y)
                      (go_at_call 31; refine (later_below (SeenAngle_any P F _ m _ (SinOk.later hS2 _))).mono ?_; rintro e w' ⟨rfl, y, rfl⟩)
                      go_wp2_with (fail)
                      (go_at_call 31; refine (later_below (SeenAngle_any Q F _ m _ (SinOk.later hS2 _))).mono ?_; rintro e w' ⟨rfl, y, rfl⟩)
                      go_wp2
                      exact ⟨⟨k + 1, by omega, by go_num, by rw [HR.out], by rw [HR.out], later_of (below_later hbW2 _)⟩, by simp [intOf]; omega⟩
                  · have HR := Lib.hid (ndRun_skip (d := d) (k := k) (ndBoth_no1 (Q := Q) hk1))
                    have nb : (wyC P F (d + k) m != 0) = true := by simp [hk1]
                    have hz := below_size z.below
                    have hz0 : w.heap.size < z.w.heap.size := by omega
                    have hz1 : w.heap.size + 1 < z.w.heap.size := by omega
                    have hz2 : w.heap.size + 1 + 1 < z.w.heap.size := by omega
                    have hz3 : w.heap.size + 1 + 1 + 1 < z.w.heap.size := by omega
                    clear hz
                    go_wp2_with (fail)
                    refine calls_named ?_
                    intro W2 hW2
                    have hbW2 : Below W1.heap.size W1 W2 := by rw [hW2]; exact (by repeat (first | exact Below.refl _ _ | refine below_alloc ?_ _ | refine below_drewN0 ?_ _ | refine below_drew0 ?_ | refine below_step ?_ (by assumption) | refine below_later ?_ _ | refine below_setCell0 ?_ (by first | exact Nat.le_refl _ | (simp; done) | omega | (simp; omega)) _))
                    have hS2 : SinOk W2 := by rw [hW2]; exact (SinOk.later hS1 _).alloc _
                    obtain ⟨gl2, q1, q2, q3, q4⟩ := PlAt.of_below g2 hbW2
                    obtain ⟨gl3, e1, e2, e3, e4⟩ := PlAt.of_below ⟨hl3, f1, f2, f3, f4⟩ hbW2
                    have zlt : z.w.heap.size < W2.heap.size := by rw [hW2]; simp
                    have c6 : W2.cell? ⟨z.w.heap.size, 0, none⟩ = some (.int .i64 (d + k)) := by rw [hW2]; simp [go_sem]
                    have c7 : W2.cell? ⟨z.w.heap.size, 1, none⟩ = some (.int .i64 m) := by rw [hW2]; simp [go_sem]
                    clear hW2
                    (refine later_intro ?_; intro y)
                    (go_at_call 31; refine (later_below (SeenAngle_any P F _ m _ (SinOk.later hS2 _))).mono ?_; rintro e w' ⟨rfl, y, rfl⟩)
                    go_wp2_with (fail)
                    (go_at_call 31; refine (later_below (SeenAngle_any Q F _ m _ (SinOk.later hS2 _))).mono ?_; rintro e w' ⟨rfl, y, rfl⟩)
                    go_wp2
                    exact ⟨⟨k + 1, by omega, by go_num, by rw [HR.out], by rw [HR.out], later_of (below_later hbW2 _)⟩, by simp [intOf]; omega⟩
                · have ek : n.toNat + 1 = k := by omega
                  have HK := Lib.hid ek
                  clear ek
                  by_cases t1 : (ndRun P Q F d m k).1 < 0
                  · go_wp2
                    go_ret3
                    exact ⟨by rw [HO.out, HK.out, ndEnd_no t1]; rfl, below_later hbW _⟩
                  · go_wp2
                    go_ret3
                    exact ⟨by rw [HO.out, HK.out, ndEnd_ok (by omega)]; rfl, below_later hbW _⟩
            · have r3 : 99999 < d + n := by omega
              clear r2
              have HO : Hid (ndO P Q F d m n = (0, 0, 2)) := ndO_range hV (ndR_no2 (by omega))
              go_enter Tryd.func41, Tryd.ntmps41
              go_wp2_with (fail)
              (refine later_intro ?_; intro y)
              go_wp2_with (first | (go_at_call 78; refine (later_below (ValidPlanet_any _ _ _ _ _)).mono ?_; rintro e w' ⟨rfl, y, rfl⟩) | (go_at_call 79; refine (later_below (ValidMoment_any _ _ _)).mono ?_; rintro e w' ⟨rfl, y, rfl⟩) | (go_at_call 53; refine (within_any _ _ _ _).mono ?_; rintro e w' ⟨rfl, rfl⟩))
              go_ret3
              exact ⟨by rw [HO.out]; rfl, (by repeat (first | exact Below.refl _ _ | refine below_alloc ?_ _ | refine below_drewN0 ?_ _ | refine below_drew0 ?_ | refine below_step ?_ (by assumption) | refine below_later ?_ _ | refine below_setCell0 ?_ (by first | exact Nat.le_refl _ | (simp; done) | omega | (simp; omega)) _))⟩
set_option maxHeartbeats 8000000 in
theorem sNearestDay_any (P Q F : PlB) (d m n : Int) (w : World) (hn : -9223372036854775808 ≤ n ∧ n ≤ 9223372036854775807) :
    Calls Tryd.prog 40 #[.agg #[.string P.n, .int .i64 P.p, .int .i64 P.r, .int .i64 P.u], .agg #[.string Q.n, .int .i64 Q.p, .int .i64 Q.r, .int .i64 Q.u], .agg #[.string F.n, .int .i64 F.p, .int .i64 F.r, .int .i64 F.u], .agg #[.int .i64 d, .int .i64 m], .int .i64 n] w fun e w' => e = .returned (.tuple #[.int .i64 (ndO P Q F d m n).1, .int .i64 (ndO P Q F d m n).2.1, .int .i64 (ndO P Q F d m n).2.2]) ∧ Below w.heap.size w w' := by
  cases v1 : vP P with
  | false =>
    have HO : Hid (ndO P Q F d m n = (0, 0, 1)) := ndO_no (by simp [ndV, v1])
    go_enter Tryd.func40, Tryd.ntmps40
    go_wp2_with (fail)
    refine calls_named ?_
    intro W1 hW1
    have hbW : Below w.heap.size w W1 := by rw [hW1]; exact (by repeat (first | exact Below.refl _ _ | refine below_alloc ?_ _ | refine below_drewN0 ?_ _ | refine below_drew0 ?_ | refine below_step ?_ (by assumption) | refine below_later ?_ _ | refine below_setCell0 ?_ (by first | exact Nat.le_refl _ | (simp; done) | omega | (simp; omega)) _))
    have g1 : PlAt W1 (w.heap.size) P := by rw [hW1]; exact ⟨by simp; try omega, by simp [go_sem], by simp [go_sem], by simp [go_sem], by simp [go_sem]⟩
    have g2 : PlAt W1 (w.heap.size + 1) Q := by rw [hW1]; exact ⟨by simp; try omega, by simp [go_sem], by simp [go_sem], by simp [go_sem], by simp [go_sem]⟩
    have g3 : PlAt W1 (w.heap.size + 1 + 1) F := by rw [hW1]; exact ⟨by simp; try omega, by simp [go_sem], by simp [go_sem], by simp [go_sem], by simp [go_sem]⟩
    have hlt : w.heap.size + 1 + 1 + 1 < W1.heap.size := by rw [hW1]; simp
    have c4 : W1.cell? ⟨w.heap.size + 1 + 1 + 1, 0, none⟩ = some (.int .i64 d) := by rw [hW1]; simp [go_sem]
    have c5 : W1.cell? ⟨w.heap.size + 1 + 1 + 1, 1, none⟩ = some (.int .i64 m) := by rw [hW1]; simp [go_sem]
    clear hW1
    generalize w.heap.size + 1 + 1 + 1 = B4 at *
    generalize w.heap.size + 1 + 1 = B3 at *
    generalize w.heap.size + 1 = B2 at *
    (refine later_intro ?_; intro y)
    (go_at_call 42; refine (later_same (l07One_at (g1.later _))).mono ?_; rintro e w' ⟨rfl, y, rfl⟩)
    go_wp2
    go_ret3
    exact ⟨by rw [HO.out]; rfl, below_later hbW _⟩
  | true =>
    cases v2 : vP Q with
    | false =>
      have HO : Hid (ndO P Q F d m n = (0, 0, 1)) := ndO_no (by simp [ndV, v2])
      go_enter Tryd.func40, Tryd.ntmps40
      go_wp2_with (fail)
      refine calls_named ?_
      intro W1 hW1
      have hbW : Below w.heap.size w W1 := by rw [hW1]; exact (by repeat (first | exact Below.refl _ _ | refine below_alloc ?_ _ | refine below_drewN0 ?_ _ | refine below_drew0 ?_ | refine below_step ?_ (by assumption) | refine below_later ?_ _ | refine below_setCell0 ?_ (by first | exact Nat.le_refl _ | (simp; done) | omega | (simp; omega)) _))
      have g1 : PlAt W1 (w.heap.size) P := by rw [hW1]; exact ⟨by simp; try omega, by simp [go_sem], by simp [go_sem], by simp [go_sem], by simp [go_sem]⟩
      have g2 : PlAt W1 (w.heap.size + 1) Q := by rw [hW1]; exact ⟨by simp; try omega, by simp [go_sem], by simp [go_sem], by simp [go_sem], by simp [go_sem]⟩
      have g3 : PlAt W1 (w.heap.size + 1 + 1) F := by rw [hW1]; exact ⟨by simp; try omega, by simp [go_sem], by simp [go_sem], by simp [go_sem], by simp [go_sem]⟩
      have hlt : w.heap.size + 1 + 1 + 1 < W1.heap.size := by rw [hW1]; simp
      have c4 : W1.cell? ⟨w.heap.size + 1 + 1 + 1, 0, none⟩ = some (.int .i64 d) := by rw [hW1]; simp [go_sem]
      have c5 : W1.cell? ⟨w.heap.size + 1 + 1 + 1, 1, none⟩ = some (.int .i64 m) := by rw [hW1]; simp [go_sem]
      clear hW1
      generalize w.heap.size + 1 + 1 + 1 = B4 at *
      generalize w.heap.size + 1 + 1 = B3 at *
      generalize w.heap.size + 1 = B2 at *
      (refine later_intro ?_; intro y)
      (go_at_call 42; refine (later_same (l07One_at (g1.later _))).mono ?_; rintro e w' ⟨rfl, y, rfl⟩)
      go_wp2_with (fail)
      (go_at_call 42; refine (later_same (l07One_at (g2.later _))).mono ?_; rintro e w' ⟨rfl, y, rfl⟩)
      go_wp2
      go_ret3
      exact ⟨by rw [HO.out]; rfl, below_later hbW _⟩
    | true =>
      cases v3 : vP F with
      | false =>
        have HO : Hid (ndO P Q F d m n = (0, 0, 1)) := ndO_no (by simp [ndV, v3])
        go_enter Tryd.func40, Tryd.ntmps40
        go_wp2_with (fail)
        refine calls_named ?_
        intro W1 hW1
        have hbW : Below w.heap.size w W1 := by rw [hW1]; exact (by repeat (first | exact Below.refl _ _ | refine below_alloc ?_ _ | refine below_drewN0 ?_ _ | refine below_drew0 ?_ | refine below_step ?_ (by assumption) | refine below_later ?_ _ | refine below_setCell0 ?_ (by first | exact Nat.le_refl _ | (simp; done) | omega | (simp; omega)) _))
        have g1 : PlAt W1 (w.heap.size) P := by rw [hW1]; exact ⟨by simp; try omega, by simp [go_sem], by simp [go_sem], by simp [go_sem], by simp [go_sem]⟩
        have g2 : PlAt W1 (w.heap.size + 1) Q := by rw [hW1]; exact ⟨by simp; try omega, by simp [go_sem], by simp [go_sem], by simp [go_sem], by simp [go_sem]⟩
        have g3 : PlAt W1 (w.heap.size + 1 + 1) F := by rw [hW1]; exact ⟨by simp; try omega, by simp [go_sem], by simp [go_sem], by simp [go_sem], by simp [go_sem]⟩
        have hlt : w.heap.size + 1 + 1 + 1 < W1.heap.size := by rw [hW1]; simp
        have c4 : W1.cell? ⟨w.heap.size + 1 + 1 + 1, 0, none⟩ = some (.int .i64 d) := by rw [hW1]; simp [go_sem]
        have c5 : W1.cell? ⟨w.heap.size + 1 + 1 + 1, 1, none⟩ = some (.int .i64 m) := by rw [hW1]; simp [go_sem]
        clear hW1
        generalize w.heap.size + 1 + 1 + 1 = B4 at *
        generalize w.heap.size + 1 + 1 = B3 at *
        generalize w.heap.size + 1 = B2 at *
        (refine later_intro ?_; intro y)
        (go_at_call 42; refine (later_same (l07One_at (g1.later _))).mono ?_; rintro e w' ⟨rfl, y, rfl⟩)
        go_wp2_with (fail)
        (go_at_call 42; refine (later_same (l07One_at (g2.later _))).mono ?_; rintro e w' ⟨rfl, y, rfl⟩)
        go_wp2_with (fail)
        (go_at_call 42; refine (later_same (l07One_at (g3.later _))).mono ?_; rintro e w' ⟨rfl, y, rfl⟩)
        go_wp2
        go_ret3
        exact ⟨by rw [HO.out]; rfl, below_later hbW _⟩
      | true =>
        cases v4 : vMoment d m with
        | false =>
          have HO : Hid (ndO P Q F d m n = (0, 0, 1)) := ndO_no (by simp [ndV, v4])
          go_enter Tryd.func40, Tryd.ntmps40
          go_wp2_with (fail)
          refine calls_named ?_
          intro W1 hW1
          have hbW : Below w.heap.size w W1 := by rw [hW1]; exact (by repeat (first | exact Below.refl _ _ | refine below_alloc ?_ _ | refine below_drewN0 ?_ _ | refine below_drew0 ?_ | refine below_step ?_ (by assumption) | refine below_later ?_ _ | refine below_setCell0 ?_ (by first | exact Nat.le_refl _ | (simp; done) | omega | (simp; omega)) _))
          have g1 : PlAt W1 (w.heap.size) P := by rw [hW1]; exact ⟨by simp; try omega, by simp [go_sem], by simp [go_sem], by simp [go_sem], by simp [go_sem]⟩
          have g2 : PlAt W1 (w.heap.size + 1) Q := by rw [hW1]; exact ⟨by simp; try omega, by simp [go_sem], by simp [go_sem], by simp [go_sem], by simp [go_sem]⟩
          have g3 : PlAt W1 (w.heap.size + 1 + 1) F := by rw [hW1]; exact ⟨by simp; try omega, by simp [go_sem], by simp [go_sem], by simp [go_sem], by simp [go_sem]⟩
          have hlt : w.heap.size + 1 + 1 + 1 < W1.heap.size := by rw [hW1]; simp
          have c4 : W1.cell? ⟨w.heap.size + 1 + 1 + 1, 0, none⟩ = some (.int .i64 d) := by rw [hW1]; simp [go_sem]
          have c5 : W1.cell? ⟨w.heap.size + 1 + 1 + 1, 1, none⟩ = some (.int .i64 m) := by rw [hW1]; simp [go_sem]
          clear hW1
          generalize w.heap.size + 1 + 1 + 1 = B4 at *
          generalize w.heap.size + 1 + 1 = B3 at *
          generalize w.heap.size + 1 = B2 at *
          (refine later_intro ?_; intro y)
          (go_at_call 42; refine (later_same (l07One_at (g1.later _))).mono ?_; rintro e w' ⟨rfl, y, rfl⟩)
          go_wp2_with (fail)
          (go_at_call 42; refine (later_same (l07One_at (g2.later _))).mono ?_; rintro e w' ⟨rfl, y, rfl⟩)
          go_wp2_with (fail)
          (go_at_call 42; refine (later_same (l07One_at (g3.later _))).mono ?_; rintro e w' ⟨rfl, y, rfl⟩)
          go_wp2_with (first | (go_at_call 43; refine (later_below (l03Ok_any _ _ _)).mono ?_; rintro e w' ⟨rfl, y, rfl⟩) | (go_at_call 77; refine (l00In_any _ _ _ _).mono ?_; rintro e w' ⟨rfl, rfl⟩))
          go_ret3
          exact ⟨by rw [HO.out]; rfl, below_later hbW _⟩
        | true =>
          have hV : ndV P Q F d m = true := by simp [ndV, v1, v2, v3, v4]
          obtain ⟨d1, d2, d3, d4⟩ := vMoment_bd v4
          cases r1 : inB n 0 1000 with
          | false =>
            have HO : Hid (ndO P Q F d m n = (0, 0, 2)) := ndO_range hV (ndR_no1 r1)
            go_enter Tryd.func40, Tryd.ntmps40
            go_wp2_with (fail)
            refine calls_named ?_
            intro W1 hW1
            have hbW : Below w.heap.size w W1 := by rw [hW1]; exact (by repeat (first | exact Below.refl _ _ | refine below_alloc ?_ _ | refine below_drewN0 ?_ _ | refine below_drew0 ?_ | refine below_step ?_ (by assumption) | refine below_later ?_ _ | refine below_setCell0 ?_ (by first | exact Nat.le_refl _ | (simp; done) | omega | (simp; omega)) _))
            have g1 : PlAt W1 (w.heap.size) P := by rw [hW1]; exact ⟨by simp; try omega, by simp [go_sem], by simp [go_sem], by simp [go_sem], by simp [go_sem]⟩
            have g2 : PlAt W1 (w.heap.size + 1) Q := by rw [hW1]; exact ⟨by simp; try omega, by simp [go_sem], by simp [go_sem], by simp [go_sem], by simp [go_sem]⟩
            have g3 : PlAt W1 (w.heap.size + 1 + 1) F := by rw [hW1]; exact ⟨by simp; try omega, by simp [go_sem], by simp [go_sem], by simp [go_sem], by simp [go_sem]⟩
            have hlt : w.heap.size + 1 + 1 + 1 < W1.heap.size := by rw [hW1]; simp
            have c4 : W1.cell? ⟨w.heap.size + 1 + 1 + 1, 0, none⟩ = some (.int .i64 d) := by rw [hW1]; simp [go_sem]
            have c5 : W1.cell? ⟨w.heap.size + 1 + 1 + 1, 1, none⟩ = some (.int .i64 m) := by rw [hW1]; simp [go_sem]
            clear hW1
            generalize w.heap.size + 1 + 1 + 1 = B4 at *
            generalize w.heap.size + 1 + 1 = B3 at *
            generalize w.heap.size + 1 = B2 at *
            (refine later_intro ?_; intro y)
            (go_at_call 42; refine (later_same (l07One_at (g1.later _))).mono ?_; rintro e w' ⟨rfl, y, rfl⟩)
            go_wp2_with (fail)
            (go_at_call 42; refine (later_same (l07One_at (g2.later _))).mono ?_; rintro e w' ⟨rfl, y, rfl⟩)
            go_wp2_with (fail)
            (go_at_call 42; refine (later_same (l07One_at (g3.later _))).mono ?_; rintro e w' ⟨rfl, y, rfl⟩)
            go_wp2_with (first | (go_at_call 43; refine (later_below (l03Ok_any _ _ _)).mono ?_; rintro e w' ⟨rfl, y, rfl⟩) | (go_at_call 77; refine (l00In_any _ _ _ _).mono ?_; rintro e w' ⟨rfl, rfl⟩))
            go_ret3
            exact ⟨by rw [HO.out]; rfl, below_later hbW _⟩
          | true =>
            obtain ⟨n1, n2⟩ := (inB_iff _ _ _).1 r1
            by_cases r2 : d + n ≤ 99999
            · have HO : Hid (ndO P Q F d m n = ndEnd (ndRun P Q F d m (n.toNat + 1))) := ndO_ok hV (ndR_ok r1 r2)
              go_enter Tryd.func40, Tryd.ntmps40
              go_wp2_with (fail)
              refine calls_named ?_
              intro W1 hW1
              have hbW : Below w.heap.size w W1 := by rw [hW1]; exact (by repeat (first | exact Below.refl _ _ | refine below_alloc ?_ _ | refine below_drewN0 ?_ _ | refine below_drew0 ?_ | refine below_step ?_ (by assumption) | refine below_later ?_ _ | refine below_setCell0 ?_ (by first | exact Nat.le_refl _ | (simp; done) | omega | (simp; omega)) _))
              have g1 : PlAt W1 (w.heap.size) P := by rw [hW1]; exact ⟨by simp; try omega, by simp [go_sem], by simp [go_sem], by simp [go_sem], by simp [go_sem]⟩
              have g2 : PlAt W1 (w.heap.size + 1) Q := by rw [hW1]; exact ⟨by simp; try omega, by simp [go_sem], by simp [go_sem], by simp [go_sem], by simp [go_sem]⟩
              have g3 : PlAt W1 (w.heap.size + 1 + 1) F := by rw [hW1]; exact ⟨by simp; try omega, by simp [go_sem], by simp [go_sem], by simp [go_sem], by simp [go_sem]⟩
              have hlt : w.heap.size + 1 + 1 + 1 < W1.heap.size := by rw [hW1]; simp
              have c4 : W1.cell? ⟨w.heap.size + 1 + 1 + 1, 0, none⟩ = some (.int .i64 d) := by rw [hW1]; simp [go_sem]
              have c5 : W1.cell? ⟨w.heap.size + 1 + 1 + 1, 1, none⟩ = some (.int .i64 m) := by rw [hW1]; simp [go_sem]
              clear hW1
              generalize w.heap.size + 1 + 1 + 1 = B4 at *
              generalize w.heap.size + 1 + 1 = B3 at *
              generalize w.heap.size + 1 = B2 at *
              (refine later_intro ?_; intro y)
              (go_at_call 42; refine (later_same (l07One_at (g1.later _))).mono ?_; rintro e w' ⟨rfl, y, rfl⟩)
              go_wp2_with (fail)
              (go_at_call 42; refine (later_same (l07One_at (g2.later _))).mono ?_; rintro e w' ⟨rfl, y, rfl⟩)
              go_wp2_with (fail)
              (go_at_call 42; refine (later_same (l07One_at (g3.later _))).mono ?_; rintro e w' ⟨rfl, y, rfl⟩)
              go_wp2_with (first | (go_at_call 43; refine (later_below (l03Ok_any _ _ _)).mono ?_; rintro e w' ⟨rfl, y, rfl⟩) | (go_at_call 77; refine (l00In_any _ _ _ _).mono ?_; rintro e w' ⟨rfl, rfl⟩))
              clear v1 v2 v3 hV v4
              go_loopw [13, 14, 15] (fun b l i wr => ∃ k : Nat, (k : Int) ≤ n + 1 ∧ i = .int .i64 k ∧ b = .int .i64 (ndRun P Q F d m k).1 ∧ l = .int .i64 (ndRun P Q F d m k).2 ∧ ∃ z : Later W1, wr = z.w) (fun _ _ i _ => (n + 1 - intOf i).toNat)
              case atStart => exact ⟨0, by omega, rfl, rfl, rfl, _, rfl⟩
              case round =>
                obtain ⟨k, hk, rfl, rfl, rfl, z, rfl⟩ := hrel
                obtain ⟨b1, b2⟩ := ndRun_bd P Q F d m k
                obtain ⟨b3, b4⟩ := ndRun_bd2 P Q F d m k
                by_cases hle : (k : Int) ≤ n
                · by_cases hk1 : wyC P F (d + k) m = 0
                  · have nb1 : (wyC P F (d + k) m != 0) = false := by simp [hk1]
                    have hY1 := wyC_yes hk1
                    by_cases hk2 : wyC Q F (d + k) m = 0
                    · have nb2 : (wyC Q F (d + k) m != 0) = false := by simp [hk2]
                      have hY2 := wyC_yes hk2
                      obtain ⟨a1, a2⟩ := arcI_bd (wyY P F (d + k) m) (wyX P F (d + k) m)
                      obtain ⟨a3, a4⟩ := arcI_bd (wyY Q F (d + k) m) (wyX Q F (d + k) m)
                      have HB := Lib.hid (ndBoth_ok hk1 hk2)
                      have HG : Hid (ndGap P Q F (d + k) m = betI (arcI (wyY P F (d + k) m) (wyX P F (d + k) m)) (arcI (wyY Q F (d + k) m) (wyX Q F (d + k) m))) := rfl
                      by_cases t1 : (ndRun P Q F d m k).1 < 0
                      · have HR := Lib.hid (ndRun_take HB.out (.inl t1))
                        have hz := below_size z.below
                        have hz3 : B4 < z.w.heap.size := by omega
                        clear hz
                        go_wp2_with (fail)
                        refine calls_named ?_
                        intro W2 hW2
                        have hbW2 : Below W1.heap.size W1 W2 := by rw [hW2]; exact (by repeat (first | exact Below.refl _ _ | refine below_alloc ?_ _ | refine below_drewN0 ?_ _ | refine below_drew0 ?_ | refine below_step ?_ (by assumption) | refine below_later ?_ _ | refine below_setCell0 ?_ (by first | exact Nat.le_refl _ | (simp; done) | omega | (simp; omega)) _))
                        have g4 := PlAt.of_below g1 hbW2
                        have g5 := PlAt.of_below g2 hbW2
                        have g6 := PlAt.of_below g3 hbW2
                        have zlt : z.w.heap.size < W2.heap.size := by rw [hW2]; simp
                        have c6 : W2.cell? ⟨z.w.heap.size, 0, none⟩ = some (.int .i64 (d + k)) := by rw [hW2]; simp [go_sem]
                        have c7 : W2.cell? ⟨z.w.heap.size, 1, none⟩ = some (.int .i64 m) := by rw [hW2]; simp [go_sem]
                        clear hW2
                        (refine later_intro ?_; intro y)
                        (go_at_call 62; refine (later_below (l07Ask_any _ m _ (g4.later _) (g6.later _))).mono ?_; rintro e w' ⟨rfl, y, rfl⟩)
                        go_wp2_with (fail)
                        (go_at_call 62; refine (later_below (l07Ask_any _ m _ (g5.later _) (g6.later _))).mono ?_; rintro e w' ⟨rfl, y, rfl⟩)
                        go_wp2_with (fail)
                        (refine wp_region_later (by kernel_rfl) (by kernel_rfl) ?_; (repeat (quiet_step ((first | (go_at_call 63; exact later_below (l07Seen_any _ _ _ (g4.later _) (g6.later _) hY1)) | (go_at_call 63; exact later_below (l07Seen_any _ _ _ (g5.later _) (g6.later _) hY2)) | (go_at_call 66; exact later_same (l02Between_any _ _ _ (by omega) (by omega))))))); refine wpQuiet_nil ?_; rintro _ ⟨y, rfl⟩)
                        go_wp2
                        exact ⟨⟨k + 1, by omega, by go_num, by rw [HR.out], by rw [HR.out, HG.out], later_of (below_later hbW2 _)⟩, by simp [intOf]; omega⟩
                      · by_cases t2 : betI (arcI (wyY P F (d + k) m) (wyX P F (d + k) m)) (arcI (wyY Q F (d + k) m) (wyX Q F (d + k) m)) < (ndRun P Q F d m k).2
                        · have HR := Lib.hid (ndRun_take HB.out (.inr t2))
                          have hz := below_size z.below
                          have hz3 : B4 < z.w.heap.size := by omega
                          clear hz
                          go_wp2_with (fail)
                          refine calls_named ?_
                          intro W2 hW2
                          have hbW2 : Below W1.heap.size W1 W2 := by rw [hW2]; exact (by repeat (first | exact Below.refl _ _ | refine below_alloc ?_ _ | refine below_drewN0 ?_ _ | refine below_drew0 ?_ | refine below_step ?_ (by assumption) | refine below_later ?_ _ | refine below_setCell0 ?_ (by first | exact Nat.le_refl _ | (simp; done) | omega | (simp; omega)) _))
                          have g4 := PlAt.of_below g1 hbW2
                          have g5 := PlAt.of_below g2 hbW2
                          have g6 := PlAt.of_below g3 hbW2
                          have zlt : z.w.heap.size < W2.heap.size := by rw [hW2]; simp
                          have c6 : W2.cell? ⟨z.w.heap.size, 0, none⟩ = some (.int .i64 (d + k)) := by rw [hW2]; simp [go_sem]
                          have c7 : W2.cell? ⟨z.w.heap.size, 1, none⟩ = some (.int .i64 m) := by rw [hW2]; simp [go_sem]
                          clear hW2
                          (refine later_intro ?_; intro y)
                          (go_at_call 62; refine (later_below (l07Ask_any _ m _ (g4.later _) (g6.later _))).mono ?_; rintro e w' ⟨rfl, y, rfl⟩)
                          go_wp2_with (fail)
                          (go_at_call 62; refine (later_below (l07Ask_any _ m _ (g5.later _) (g6.later _))).mono ?_; rintro e w' ⟨rfl, y, rfl⟩)
                          go_wp2_with (fail)
                          (refine wp_region_later (by kernel_rfl) (by kernel_rfl) ?_; (repeat (quiet_step ((first | (go_at_call 63; exact later_below (l07Seen_any _ _ _ (g4.later _) (g6.later _) hY1)) | (go_at_call 63; exact later_below (l07Seen_any _ _ _ (g5.later _) (g6.later _) hY2)) | (go_at_call 66; exact later_same (l02Between_any _ _ _ (by omega) (by omega))))))); refine wpQuiet_nil ?_; rintro _ ⟨y, rfl⟩)
                          go_wp2
                          exact ⟨⟨k + 1, by omega, by go_num, by rw [HR.out], by rw [HR.out, HG.out], later_of (below_later hbW2 _)⟩, by simp [intOf]; omega⟩
                        · have HR := Lib.hid (ndRun_keep (k := k) t1 t2)
                          have hz := below_size z.below
                          have hz3 : B4 < z.w.heap.size := by omega
                          clear hz
                          go_wp2_with (fail)
                          refine calls_named ?_
                          intro W2 hW2
                          have hbW2 : Below W1.heap.size W1 W2 := by rw [hW2]; exact (by repeat (first | exact Below.refl _ _ | refine below_alloc ?_ _ | refine below_drewN0 ?_ _ | refine below_drew0 ?_ | refine below_step ?_ (by assumption) | refine below_later ?_ _ | refine below_setCell0 ?_ (by first | exact Nat.le_refl _ | (simp; done) | omega | (simp; omega)) _))
                          have g4 := PlAt.of_below g1 hbW2
                          have g5 := PlAt.of_below g2 hbW2
                          have g6 := PlAt.of_below g3 hbW2
                          have zlt : z.w.heap.size < W2.heap.size := by rw [hW2]; simp
                          have c6 : W2.cell? ⟨z.w.heap.size, 0, none⟩ = some (.int .i64 (d + k)) := by rw [hW2]; simp [go_sem]
                          have c7 : W2.cell? ⟨z.w.heap.size, 1, none⟩ = some (.int .i64 m) := by rw [hW2]; simp [go_sem]
                          clear hW2
                          (refine later_intro ?_; intro y)
                          (go_at_call 62; refine (later_below (l07Ask_any _ m _ (g4.later _) (g6.later _))).mono ?_; rintro e w' ⟨rfl, y, rfl⟩)
                          go_wp2_with (fail)
                          (go_at_call 62; refine (later_below (l07Ask_any _ m _ (g5.later _) (g6.later _))).mono ?_; rintro e w' ⟨rfl, y, rfl⟩)
                          go_wp2_with (fail)
                          (refine wp_region_later (by kernel_rfl) (by kernel_rfl) ?_; (repeat (quiet_step ((first | (go_at_call 63; exact later_below (l07Seen_any _ _ _ (g4.later _) (g6.later _) hY1)) | (go_at_call 63; exact later_below (l07Seen_any _ _ _ (g5.later _) (g6.later _) hY2)) | (go_at_call 66; exact later_same (l02Between_any _ _ _ (by omega) (by omega))))))); refine wpQuiet_nil ?_; rintro _ ⟨y, rfl⟩)
                          go_wp2
                          exact ⟨⟨k + 1, by omega, by go_num, by rw [HR.out], by rw [HR.out], later_of (below_later hbW2 _)⟩, by simp [intOf]; omega⟩
                    · have HR := Lib.hid (ndRun_skip (d := d) (k := k) (ndBoth_no2 (P := P) hk2))
                      have nb : (wyC Q F (d + k) m != 0) = true := by simp [hk2]
                      have hz := below_size z.below
                      have hz3 : B4 < z.w.heap.size := by omega
                      clear hz
                      go_wp2_with (fail)
                      refine calls_named ?_
                      intro W2 hW2
                      have hbW2 : Below W1.heap.size W1 W2 := by rw [hW2]; exact (by repeat (first | exact Below.refl _ _ | refine below_alloc ?_ _ | refine below_drewN0 ?_ _ | refine below_drew0 ?_ | refine below_step ?_ (by assumption) | refine below_later ?_ _ | refine below_setCell0 ?_ (by first | exact Nat.le_refl _ | (simp; done) | omega | (simp; omega)) _))
                      have g4 := PlAt.of_below g1 hbW2
                      have g5 := PlAt.of_below g2 hbW2
                      have g6 := PlAt.of_below g3 hbW2
                      have zlt : z.w.heap.size < W2.heap.size := by rw [hW2]; simp
                      have c6 : W2.cell? ⟨z.w.heap.size, 0, none⟩ = some (.int .i64 (d + k)) := by rw [hW2]; simp [go_sem]
                      have c7 : W2.cell? ⟨z.w.heap.size, 1, none⟩ = some (.int .i64 m) := by rw [hW2]; simp [go_sem]
                      clear hW2
                      (refine later_intro ?_; intro y)
                      (go_at_call 62; refine (later_below (l07Ask_any _ m _ (g4.later _) (g6.later _))).mono ?_; rintro e w' ⟨rfl, y, rfl⟩)
                      go_wp2_with (fail)
                      (go_at_call 62; refine (later_below (l07Ask_any _ m _ (g5.later _) (g6.later _))).mono ?_; rintro e w' ⟨rfl, y, rfl⟩)
                      go_wp2
                      exact ⟨⟨k + 1, by omega, by go_num, by rw [HR.out], by rw [HR.out], later_of (below_later hbW2 _)⟩, by simp [intOf]; omega⟩
                  · have HR := Lib.hid (ndRun_skip (d := d) (k := k) (ndBoth_no1 (Q := Q) hk1))
                    have nb : (wyC P F (d + k) m != 0) = true := by simp [hk1]
                    have hz := below_size z.below
                    have hz3 : B4 < z.w.heap.size := by omega
                    clear hz
                    go_wp2_with (fail)
                    refine calls_named ?_
                    intro W2 hW2
                    have hbW2 : Below W1.heap.size W1 W2 := by rw [hW2]; exact (by repeat (first | exact Below.refl _ _ | refine below_alloc ?_ _ | refine below_drewN0 ?_ _ | refine below_drew0 ?_ | refine below_step ?_ (by assumption) | refine below_later ?_ _ | refine below_setCell0 ?_ (by first | exact Nat.le_refl _ | (simp; done) | omega | (simp; omega)) _))
                    have g4 := PlAt.of_below g1 hbW2
                    have g5 := PlAt.of_below g2 hbW2
                    have g6 := PlAt.of_below g3 hbW2
                    have zlt : z.w.heap.size < W2.heap.size := by rw [hW2]; simp
                    have c6 : W2.cell? ⟨z.w.heap.size, 0, none⟩ = some (.int .i64 (d + k)) := by rw [hW2]; simp [go_sem]
                    have c7 : W2.cell? ⟨z.w.heap.size, 1, none⟩ = some (.int .i64 m) := by rw [hW2]; simp [go_sem]
                    clear hW2
                    (refine later_intro ?_; intro y)
                    (go_at_call 62; refine (later_below (l07Ask_any _ m _ (g4.later _) (g6.later _))).mono ?_; rintro e w' ⟨rfl, y, rfl⟩)
                    go_wp2
                    exact ⟨⟨k + 1, by omega, by go_num, by rw [HR.out], by rw [HR.out], later_of (below_later hbW2 _)⟩, by simp [intOf]; omega⟩
                · have ek : n.toNat + 1 = k := by omega
                  have HK := Lib.hid ek
                  clear ek
                  by_cases t1 : (ndRun P Q F d m k).1 < 0
                  · go_wp2
                    go_ret3
                    exact ⟨by rw [HO.out, HK.out, ndEnd_no t1]; rfl, below_later hbW _⟩
                  · go_wp2
                    go_ret3
                    exact ⟨by rw [HO.out, HK.out, ndEnd_ok (by omega)]; rfl, below_later hbW _⟩
            · have r3 : 99999 < d + n := by omega
              clear r2
              have HO : Hid (ndO P Q F d m n = (0, 0, 2)) := ndO_range hV (ndR_no2 (by omega))
              go_enter Tryd.func40, Tryd.ntmps40
              go_wp2_with (fail)
              refine calls_named ?_
              intro W1 hW1
              have hbW : Below w.heap.size w W1 := by rw [hW1]; exact (by repeat (first | exact Below.refl _ _ | refine below_alloc ?_ _ | refine below_drewN0 ?_ _ | refine below_drew0 ?_ | refine below_step ?_ (by assumption) | refine below_later ?_ _ | refine below_setCell0 ?_ (by first | exact Nat.le_refl _ | (simp; done) | omega | (simp; omega)) _))
              have g1 : PlAt W1 (w.heap.size) P := by rw [hW1]; exact ⟨by simp; try omega, by simp [go_sem], by simp [go_sem], by simp [go_sem], by simp [go_sem]⟩
              have g2 : PlAt W1 (w.heap.size + 1) Q := by rw [hW1]; exact ⟨by simp; try omega, by simp [go_sem], by simp [go_sem], by simp [go_sem], by simp [go_sem]⟩
              have g3 : PlAt W1 (w.heap.size + 1 + 1) F := by rw [hW1]; exact ⟨by simp; try omega, by simp [go_sem], by simp [go_sem], by simp [go_sem], by simp [go_sem]⟩
              have hlt : w.heap.size + 1 + 1 + 1 < W1.heap.size := by rw [hW1]; simp
              have c4 : W1.cell? ⟨w.heap.size + 1 + 1 + 1, 0, none⟩ = some (.int .i64 d) := by rw [hW1]; simp [go_sem]
              have c5 : W1.cell? ⟨w.heap.size + 1 + 1 + 1, 1, none⟩ = some (.int .i64 m) := by rw [hW1]; simp [go_sem]
              clear hW1
              generalize w.heap.size + 1 + 1 + 1 = B4 at *
              generalize w.heap.size + 1 + 1 = B3 at *
              generalize w.heap.size + 1 = B2 at *
              (refine later_intro ?_; intro y)
              (go_at_call 42; refine (later_same (l07One_at (g1.later _))).mono ?_; rintro e w' ⟨rfl, y, rfl⟩)
              go_wp2_with (fail)
              (go_at_call 42; refine (later_same (l07One_at (g2.later _))).mono ?_; rintro e w' ⟨rfl, y, rfl⟩)
              go_wp2_with (fail)
              (go_at_call 42; refine (later_same (l07One_at (g3.later _))).mono ?_; rintro e w' ⟨rfl, y, rfl⟩)
              go_wp2_with (first | (go_at_call 43; refine (later_below (l03Ok_any _ _ _)).mono ?_; rintro e w' ⟨rfl, y, rfl⟩) | (go_at_call 77; refine (l00In_any _ _ _ _).mono ?_; rintro e w' ⟨rfl, rfl⟩))
              go_ret3
              exact ⟨by rw [HO.out]; rfl, below_later hbW _⟩
end Go.Proofs.YtbgjmahamhppfaaDoor
