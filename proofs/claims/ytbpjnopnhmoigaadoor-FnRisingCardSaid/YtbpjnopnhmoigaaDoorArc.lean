/- Contracts of the functions on sines of the reference, on angles of directions and between angles. -/
import Derived.Test.YtbpjnopnhmoigaaDoorAng
import Derived.Test.YtbpjnopnhmoigaaDoorGrpPure
namespace Go.Proofs.YtbpjnopnhmoigaaDoor
set_option linter.unusedVariables false
set_option linter.unusedSimpArgs false
open Go.RowKit
theorem absOf_is {a b : Int} (h : absI a = b) (w : World) (h1 : -9000000000000000000 ≤ a) (h2 : a ≤ 9000000000000000000) :
    Calls Tryd.prog 161 #[.int .i64 a] w fun e w' => e = .returned (.int .i64 b) ∧ w = w' := by subst h; exact absOf_any a w h1 h2
theorem l02Abs_arc (a : Int) (w : World) (h1 : -9000000000000000000 ≤ a) (h2 : a ≤ 9000000000000000000) :
    Calls Tryd.prog 160 #[.int .i64 a] w fun e w' => e = .returned (.int .i64 (absI a)) ∧ w = w' := by
  by_cases h : a < 0
  · go_enter Tryd.func160, Tryd.ntmps160
    go_wp2
    go_ret
    exact ⟨ret_int (by unfold absI; split <;> omega), rfl⟩
  · go_enter Tryd.func160, Tryd.ntmps160
    go_wp2
    go_ret
    exact ⟨ret_int (by unfold absI; split <;> omega), rfl⟩
theorem l02Abs_is {a b : Int} (h : absI a = b) (w : World) (h1 : -9000000000000000000 ≤ a) (h2 : a ≤ 9000000000000000000) :
    Calls Tryd.prog 160 #[.int .i64 a] w fun e w' => e = .returned (.int .i64 b) ∧ w = w' := by subst h; exact l02Abs_arc a w h1 h2
theorem l00Min_any (a b : Int) (w : World) : Calls Tryd.prog 159 #[.int .i64 a, .int .i64 b] w fun e w' => e = .returned (.int .i64 (minI a b)) ∧ w = w' := by
  by_cases h : a < b
  · go_enter Tryd.func159, Tryd.ntmps159
    go_wp2
    go_ret
    exact ⟨ret_int (by rw [minI, if_pos h]), rfl⟩
  · go_enter Tryd.func159, Tryd.ntmps159
    go_wp2
    go_ret
    exact ⟨ret_int (by rw [minI, if_neg (by omega)]), rfl⟩
theorem l00Max_any (a b : Int) (w : World) : Calls Tryd.prog 82 #[.int .i64 a, .int .i64 b] w fun e w' => e = .returned (.int .i64 (maxI a b)) ∧ w = w' := by
  by_cases h : b < a
  · go_enter Tryd.func82, Tryd.ntmps82
    go_wp2
    go_ret
    exact ⟨ret_int (by rw [maxI, if_pos h]), rfl⟩
  · go_enter Tryd.func82, Tryd.ntmps82
    go_wp2
    go_ret
    exact ⟨ret_int (by rw [maxI, if_neg (by omega)]), rfl⟩
theorem AngleBetween_any (a b : Int) (w : World) (h1 : -9000000000000000000 ≤ a ∧ a ≤ 9000000000000000000) (h2 : -9000000000000000000 ≤ b ∧ b ≤ 9000000000000000000) :
    Calls Tryd.prog 47 #[.int .i64 a, .int .i64 b] w fun e w' => e = .returned (.int .i64 (betI a b)) ∧ w = w' := by
  have HD : Hid (difI a b = nrm (nrm b - nrm a)) := rfl
  have HB : Hid (betI a b = if difI a b ≤ 180000 then difI a b else 360000 - difI a b) := rfl
  obtain ⟨n1, n2⟩ := nrm_bd a
  obtain ⟨n3, n4⟩ := nrm_bd b
  obtain ⟨d1, d2⟩ := difI_bd a b
  have HN := Lib.hid (nrm_neg (difI a b) d1 d2)
  generalize difI a b = d at *
  rcases (show d ≤ 0 ∨ (0 < d ∧ d < 180000) ∨ d = 180000 ∨ 180000 < d by omega) with hz | hz | hz | hz
  · have e0 : nrm (-d) = 0 := by rw [HN.out, if_pos (by omega)]
    go_enter Tryd.func47, Tryd.ntmps47
    go_wp2_with (fail)
    (go_at_call 46; refine (NormalAngle_any _ _ (by omega) (by omega)).mono ?_; rintro e w' ⟨rfl, rfl⟩)
    go_wp2_with (fail)
    (go_at_call 46; refine (NormalAngle_any _ _ (by omega) (by omega)).mono ?_; rintro e w' ⟨rfl, rfl⟩)
    go_wp2_with (fail)
    (go_at_call 46; refine (NormalAngle_is HD.out.symm _ (by omega) (by omega)).mono ?_; rintro e w' ⟨rfl, rfl⟩)
    go_wp2_with (fail)
    (go_at_call 46; refine (NormalAngle_is e0 _ (by omega) (by omega)).mono ?_; rintro e w' ⟨rfl, rfl⟩)
    go_wp2
    all_goals (go_ret; exact ⟨ret_int (by rw [HB.out, if_pos (by omega)]; try omega), rfl⟩)
  · have e0 : nrm (-d) = 360000 - d := by rw [HN.out, if_neg (by omega)]
    obtain ⟨z1, z2⟩ := hz
    go_enter Tryd.func47, Tryd.ntmps47
    go_wp2_with (fail)
    (go_at_call 46; refine (NormalAngle_any _ _ (by omega) (by omega)).mono ?_; rintro e w' ⟨rfl, rfl⟩)
    go_wp2_with (fail)
    (go_at_call 46; refine (NormalAngle_any _ _ (by omega) (by omega)).mono ?_; rintro e w' ⟨rfl, rfl⟩)
    go_wp2_with (fail)
    (go_at_call 46; refine (NormalAngle_is HD.out.symm _ (by omega) (by omega)).mono ?_; rintro e w' ⟨rfl, rfl⟩)
    go_wp2_with (fail)
    (go_at_call 46; refine (NormalAngle_is e0 _ (by omega) (by omega)).mono ?_; rintro e w' ⟨rfl, rfl⟩)
    go_wp2
    all_goals (go_ret; exact ⟨ret_int (by rw [HB.out, if_pos (by omega)]), rfl⟩)
  · have e0 : nrm (-d) = 360000 - d := by rw [HN.out, if_neg (by omega)]
    have z1 : d ≤ 180000 := by omega
    have z2 : 180000 ≤ d := by omega
    clear hz
    go_enter Tryd.func47, Tryd.ntmps47
    go_wp2_with (fail)
    (go_at_call 46; refine (NormalAngle_any _ _ (by omega) (by omega)).mono ?_; rintro e w' ⟨rfl, rfl⟩)
    go_wp2_with (fail)
    (go_at_call 46; refine (NormalAngle_any _ _ (by omega) (by omega)).mono ?_; rintro e w' ⟨rfl, rfl⟩)
    go_wp2_with (fail)
    (go_at_call 46; refine (NormalAngle_is HD.out.symm _ (by omega) (by omega)).mono ?_; rintro e w' ⟨rfl, rfl⟩)
    go_wp2_with (fail)
    (go_at_call 46; refine (NormalAngle_is e0 _ (by omega) (by omega)).mono ?_; rintro e w' ⟨rfl, rfl⟩)
    go_wp2
    all_goals (go_ret; exact ⟨ret_int (by rw [HB.out, if_pos (by omega)]; try omega), rfl⟩)
  · have e0 : nrm (-d) = 360000 - d := by rw [HN.out, if_neg (by omega)]
    go_enter Tryd.func47, Tryd.ntmps47
    go_wp2_with (fail)
    (go_at_call 46; refine (NormalAngle_any _ _ (by omega) (by omega)).mono ?_; rintro e w' ⟨rfl, rfl⟩)
    go_wp2_with (fail)
    (go_at_call 46; refine (NormalAngle_any _ _ (by omega) (by omega)).mono ?_; rintro e w' ⟨rfl, rfl⟩)
    go_wp2_with (fail)
    (go_at_call 46; refine (NormalAngle_is HD.out.symm _ (by omega) (by omega)).mono ?_; rintro e w' ⟨rfl, rfl⟩)
    go_wp2_with (fail)
    (go_at_call 46; refine (NormalAngle_is e0 _ (by omega) (by omega)).mono ?_; rintro e w' ⟨rfl, rfl⟩)
    go_wp2
    all_goals (go_ret; exact ⟨ret_int (by rw [HB.out, if_neg (by omega)]), rfl⟩)
/-- a cell of a new block of numbers -/
theorem cell_row (w : World) (l : List Int) (T : TypeId) (k : Nat) (h : k < l.length) : (w.alloc (.cells (l.map (Value.int .i64)).toArray T)).cell? ⟨w.heap.size, k, none⟩ = some (.int .i64 (l.getD k 0)) := by
  have e : (l.map (Value.int .i64))[k]? = some (.int .i64 (l.getD k 0)) := by
    rw [List.getElem?_map, List.getElem?_eq_getElem h, List.getD_eq_getElem?_getD, List.getElem?_eq_getElem h]; rfl
  rw [World.cell?_alloc_new]; simpa using e
/-- a new slice that holds the table of sines -/
def IsTable (w : World) (e : Ending) (w' : World) : Prop := ∃ b : Nat, e = .returned (.slice (some ⟨b, 0, none⟩) 91 91) ∧ (∀ k : Nat, k < 91 → w'.cell? ⟨b, k, none⟩ = some (.int .i64 (sinAt k))) ∧ b < w'.heap.size ∧ Below w.heap.size w w'
set_option maxHeartbeats 4000000 in
set_option maxRecDepth 100000 in
theorem l02Table_any (w : World) : Calls Tryd.prog 158 #[] w (IsTable w) := by
  go_enter Tryd.func158, Tryd.ntmps158
  go_wp2
  go_ret
  refine ⟨w.heap.size, rfl, ?_, by simp, (by repeat (first | exact Below.refl _ _ | refine below_alloc ?_ _ | refine below_drewN0 ?_ _ | refine below_drew0 ?_ | refine below_step ?_ (by assumption) | refine below_later ?_ _ | refine below_setCell0 ?_ (by first | exact Nat.le_refl _ | (simp; done) | omega | (simp; omega)) _))⟩
  intro k hk
  exact cell_row w sinTab (2) k (by show k < 91; exact hk)
set_option maxHeartbeats 4000000 in
theorem l02Sine_any (a : Int) (w : World) (h1 : -9000000000000000000 ≤ a) (h2 : a ≤ 9000000000000000000) :
    Calls Tryd.prog 127 #[.int .i64 a] w fun e w' => e = .returned (.int .i64 (sinI a)) ∧ Below w.heap.size w w' := by
  obtain ⟨n1, n2⟩ := nrm_bd a
  have HS : Hid (sinI a = sinN (nrm a)) := rfl
  obtain ⟨n, hn⟩ : ∃ n, nrm a = n := ⟨_, rfl⟩
  rw [hn] at n1 n2 HS
  have HN := Lib.hid hn; clear hn
  by_cases h3 : 180000 ≤ n
  · by_cases h4 : 90000 < n - 180000
    · go_enter Tryd.func127, Tryd.ntmps127
      go_wp2_with ((go_at_call 157; refine (l02Normal_is HN.out _ h1 h2).mono ?_; rintro e w' ⟨rfl, rfl⟩))
      generalize hm : 180000 - (n - 180000) = m at *
      have HM := Lib.hid hm; clear hm
      have m0 : 0 ≤ m := by have := HM.out; omega
      have m1 : m ≤ 90000 := by have := HM.out; omega
      have HE : Hid (sinI a = -(sinQ m)) := by show sinI a = _; rw [HS.out, sinN, if_pos h3, sinH, if_pos h4, HM.out]
      clear HM HN
      have hq := sinQ_bd m m0 m1
      obtain ⟨q0, q1⟩ := hq
      refine (l02Table_any _).mono ?_
      rintro e W1 ⟨b, rfl, hT, hb, hbel⟩
      have HT := Lib.hid hT; clear hT
      by_cases hr : m % 1000 ≤ 0
      · obtain ⟨k, hk⟩ : ∃ k : Nat, m / 1000 = k := ⟨(m / 1000).toNat, by omega⟩
        have HQ : Hid (sinQ m = sinAt k) := by show _ = _; rw [← sinQ_zero k]; congr 1; omega
        have c0 := HT.out k (by omega)
        have b0 := sinAt_bd k (by omega)
        generalize sinAt k = t0 at *
        have i0 : (k : Int) < 91 := by omega
        go_wp2
        go_ret
        exact ⟨ret_int (by rw [HE.out, HQ.out]; try omega), below_step hbel (Below.refl _ _)⟩
      · obtain ⟨k, k1, k2, k3, k4⟩ := sinQ_parts m (by omega) (by omega)
        have HQ : Hid (sinQ m = sinAt k + rnd ((sinAt (k + 1) - sinAt k) * (m % 1000)) 1000) := by show _ = _; unfold sinQ; rw [show (m / 1000).toNat = k by omega]
        have c0 := HT.out k (by omega)
        have c1 := HT.out (k + 1) (by omega)
        have b0 := sinAt_bd k (by omega)
        have b1 := sinAt_bd (k + 1) (by omega)
        generalize sinAt k = t0 at *
        generalize sinAt (k + 1) = t1 at *
        have i0 : (k : Int) < 91 := by omega
        have i1 : (k : Int) + 1 < 91 := by omega
        have i2 : 0 ≤ (k : Int) + 1 := by omega
        obtain ⟨r, hrr⟩ : ∃ r, m % 1000 = r := ⟨_, rfl⟩
        rw [hrr] at HQ
        have r0 : 0 < r := by omega
        have r1 : r ≤ 999 := by omega
        have e0 : m.tmod 1000 = r := by rw [Int.tmod_eq_emod_of_nonneg m0, hrr]
        obtain ⟨p0, p1⟩ := mul_small (t1 - t0) r 1000000 999 (by omega) (by omega)
        obtain ⟨p2, p3⟩ := rnd_between ((t1 - t0) * r) 1000 (-999000) 999000 (by omega) (by omega) (by omega)
        have e2 : IntKind.i64.wrap ((k : Int) + 1) = (k : Int) + 1 := wrap_in' (by omega) (by omega)
        have e3 : IntKind.i64.wrap (t1 - t0) = t1 - t0 := wrap_in' (by omega) (by omega)
        have e4 : IntKind.i64.wrap ((t1 - t0) * r) = (t1 - t0) * r := wrap_in' (by omega) (by omega)
        have e5 : IntKind.i64.wrap (t0 + rnd ((t1 - t0) * r) 1000) = t0 + rnd ((t1 - t0) * r) 1000 := wrap_in' (by omega) (by omega)
        have C1 : Hid (∀ W, Calls Tryd.prog 85 #[.int .i64 ((t1 - t0) * r), .int .i64 1000] W fun e w' => e = .returned (.int .i64 (rnd ((t1 - t0) * r) 1000)) ∧ W = w') := fun W => l01Div_any _ _ W (by omega) (by omega) (by omega) (by omega)
        clear p0 p1 k3 k4
        have KR := Lib.hid hrr; clear hrr
        go_wp2_with (fail)
        go_quiet ((go_at_call 85; exact quiet_left (C1.out _)))
        go_wp2
        go_ret
        exact ⟨ret_int (by rw [HE.out, HQ.out]; try omega), below_step hbel (below_drewN0 (Below.refl _ _) _)⟩
    · go_enter Tryd.func127, Tryd.ntmps127
      go_wp2_with ((go_at_call 157; refine (l02Normal_is HN.out _ h1 h2).mono ?_; rintro e w' ⟨rfl, rfl⟩))
      generalize hm : n - 180000 = m at *
      have HM := Lib.hid hm; clear hm
      have m0 : 0 ≤ m := by have := HM.out; omega
      have m1 : m ≤ 90000 := by have := HM.out; omega
      have HE : Hid (sinI a = -(sinQ m)) := by show sinI a = _; rw [HS.out, sinN, if_pos h3, sinH, if_neg (by have := HM.out; omega), HM.out]
      clear HM HN
      have hq := sinQ_bd m m0 m1
      obtain ⟨q0, q1⟩ := hq
      refine (l02Table_any _).mono ?_
      rintro e W1 ⟨b, rfl, hT, hb, hbel⟩
      have HT := Lib.hid hT; clear hT
      by_cases hr : m % 1000 ≤ 0
      · obtain ⟨k, hk⟩ : ∃ k : Nat, m / 1000 = k := ⟨(m / 1000).toNat, by omega⟩
        have HQ : Hid (sinQ m = sinAt k) := by show _ = _; rw [← sinQ_zero k]; congr 1; omega
        have c0 := HT.out k (by omega)
        have b0 := sinAt_bd k (by omega)
        generalize sinAt k = t0 at *
        have i0 : (k : Int) < 91 := by omega
        go_wp2
        go_ret
        exact ⟨ret_int (by rw [HE.out, HQ.out]; try omega), below_step hbel (Below.refl _ _)⟩
      · obtain ⟨k, k1, k2, k3, k4⟩ := sinQ_parts m (by omega) (by omega)
        have HQ : Hid (sinQ m = sinAt k + rnd ((sinAt (k + 1) - sinAt k) * (m % 1000)) 1000) := by show _ = _; unfold sinQ; rw [show (m / 1000).toNat = k by omega]
        have c0 := HT.out k (by omega)
        have c1 := HT.out (k + 1) (by omega)
        have b0 := sinAt_bd k (by omega)
        have b1 := sinAt_bd (k + 1) (by omega)
        generalize sinAt k = t0 at *
        generalize sinAt (k + 1) = t1 at *
        have i0 : (k : Int) < 91 := by omega
        have i1 : (k : Int) + 1 < 91 := by omega
        have i2 : 0 ≤ (k : Int) + 1 := by omega
        obtain ⟨r, hrr⟩ : ∃ r, m % 1000 = r := ⟨_, rfl⟩
        rw [hrr] at HQ
        have r0 : 0 < r := by omega
        have r1 : r ≤ 999 := by omega
        have e0 : m.tmod 1000 = r := by rw [Int.tmod_eq_emod_of_nonneg m0, hrr]
        obtain ⟨p0, p1⟩ := mul_small (t1 - t0) r 1000000 999 (by omega) (by omega)
        obtain ⟨p2, p3⟩ := rnd_between ((t1 - t0) * r) 1000 (-999000) 999000 (by omega) (by omega) (by omega)
        have e2 : IntKind.i64.wrap ((k : Int) + 1) = (k : Int) + 1 := wrap_in' (by omega) (by omega)
        have e3 : IntKind.i64.wrap (t1 - t0) = t1 - t0 := wrap_in' (by omega) (by omega)
        have e4 : IntKind.i64.wrap ((t1 - t0) * r) = (t1 - t0) * r := wrap_in' (by omega) (by omega)
        have e5 : IntKind.i64.wrap (t0 + rnd ((t1 - t0) * r) 1000) = t0 + rnd ((t1 - t0) * r) 1000 := wrap_in' (by omega) (by omega)
        have C1 : Hid (∀ W, Calls Tryd.prog 85 #[.int .i64 ((t1 - t0) * r), .int .i64 1000] W fun e w' => e = .returned (.int .i64 (rnd ((t1 - t0) * r) 1000)) ∧ W = w') := fun W => l01Div_any _ _ W (by omega) (by omega) (by omega) (by omega)
        clear p0 p1 k3 k4
        have KR := Lib.hid hrr; clear hrr
        go_wp2_with (fail)
        go_quiet ((go_at_call 85; exact quiet_left (C1.out _)))
        go_wp2
        go_ret
        exact ⟨ret_int (by rw [HE.out, HQ.out]; try omega), below_step hbel (below_drewN0 (Below.refl _ _) _)⟩
  · by_cases h4 : 90000 < n
    · go_enter Tryd.func127, Tryd.ntmps127
      go_wp2_with ((go_at_call 157; refine (l02Normal_is HN.out _ h1 h2).mono ?_; rintro e w' ⟨rfl, rfl⟩))
      generalize hm : 180000 - n = m at *
      have HM := Lib.hid hm; clear hm
      have m0 : 0 ≤ m := by have := HM.out; omega
      have m1 : m ≤ 90000 := by have := HM.out; omega
      have HE : Hid (sinI a = sinQ m) := by show sinI a = _; rw [HS.out, sinN, if_neg (by omega), sinH, if_pos h4, HM.out]
      clear HM HN
      have hq := sinQ_bd m m0 m1
      obtain ⟨q0, q1⟩ := hq
      refine (l02Table_any _).mono ?_
      rintro e W1 ⟨b, rfl, hT, hb, hbel⟩
      have HT := Lib.hid hT; clear hT
      by_cases hr : m % 1000 ≤ 0
      · obtain ⟨k, hk⟩ : ∃ k : Nat, m / 1000 = k := ⟨(m / 1000).toNat, by omega⟩
        have HQ : Hid (sinQ m = sinAt k) := by show _ = _; rw [← sinQ_zero k]; congr 1; omega
        have c0 := HT.out k (by omega)
        have b0 := sinAt_bd k (by omega)
        generalize sinAt k = t0 at *
        have i0 : (k : Int) < 91 := by omega
        go_wp2
        go_ret
        exact ⟨ret_int (by rw [HE.out, HQ.out]; try omega), below_step hbel (Below.refl _ _)⟩
      · obtain ⟨k, k1, k2, k3, k4⟩ := sinQ_parts m (by omega) (by omega)
        have HQ : Hid (sinQ m = sinAt k + rnd ((sinAt (k + 1) - sinAt k) * (m % 1000)) 1000) := by show _ = _; unfold sinQ; rw [show (m / 1000).toNat = k by omega]
        have c0 := HT.out k (by omega)
        have c1 := HT.out (k + 1) (by omega)
        have b0 := sinAt_bd k (by omega)
        have b1 := sinAt_bd (k + 1) (by omega)
        generalize sinAt k = t0 at *
        generalize sinAt (k + 1) = t1 at *
        have i0 : (k : Int) < 91 := by omega
        have i1 : (k : Int) + 1 < 91 := by omega
        have i2 : 0 ≤ (k : Int) + 1 := by omega
        obtain ⟨r, hrr⟩ : ∃ r, m % 1000 = r := ⟨_, rfl⟩
        rw [hrr] at HQ
        have r0 : 0 < r := by omega
        have r1 : r ≤ 999 := by omega
        have e0 : m.tmod 1000 = r := by rw [Int.tmod_eq_emod_of_nonneg m0, hrr]
        obtain ⟨p0, p1⟩ := mul_small (t1 - t0) r 1000000 999 (by omega) (by omega)
        obtain ⟨p2, p3⟩ := rnd_between ((t1 - t0) * r) 1000 (-999000) 999000 (by omega) (by omega) (by omega)
        have e2 : IntKind.i64.wrap ((k : Int) + 1) = (k : Int) + 1 := wrap_in' (by omega) (by omega)
        have e3 : IntKind.i64.wrap (t1 - t0) = t1 - t0 := wrap_in' (by omega) (by omega)
        have e4 : IntKind.i64.wrap ((t1 - t0) * r) = (t1 - t0) * r := wrap_in' (by omega) (by omega)
        have e5 : IntKind.i64.wrap (t0 + rnd ((t1 - t0) * r) 1000) = t0 + rnd ((t1 - t0) * r) 1000 := wrap_in' (by omega) (by omega)
        have C1 : Hid (∀ W, Calls Tryd.prog 85 #[.int .i64 ((t1 - t0) * r), .int .i64 1000] W fun e w' => e = .returned (.int .i64 (rnd ((t1 - t0) * r) 1000)) ∧ W = w') := fun W => l01Div_any _ _ W (by omega) (by omega) (by omega) (by omega)
        clear p0 p1 k3 k4
        have KR := Lib.hid hrr; clear hrr
        go_wp2_with (fail)
        go_quiet ((go_at_call 85; exact quiet_left (C1.out _)))
        go_wp2
        go_ret
        exact ⟨ret_int (by rw [HE.out, HQ.out]; try omega), below_step hbel (below_drewN0 (Below.refl _ _) _)⟩
    · go_enter Tryd.func127, Tryd.ntmps127
      go_wp2_with ((go_at_call 157; refine (l02Normal_is HN.out _ h1 h2).mono ?_; rintro e w' ⟨rfl, rfl⟩))
      have m0 : 0 ≤ n := by omega
      have m1 : n ≤ 90000 := by omega
      have HE : Hid (sinI a = sinQ n) := by show sinI a = _; rw [HS.out, sinN, if_neg (by omega), sinH, if_neg (by omega)]
      clear HN
      have hq := sinQ_bd n m0 m1
      obtain ⟨q0, q1⟩ := hq
      refine (l02Table_any _).mono ?_
      rintro e W1 ⟨b, rfl, hT, hb, hbel⟩
      have HT := Lib.hid hT; clear hT
      by_cases hr : n % 1000 ≤ 0
      · obtain ⟨k, hk⟩ : ∃ k : Nat, n / 1000 = k := ⟨(n / 1000).toNat, by omega⟩
        have HQ : Hid (sinQ n = sinAt k) := by show _ = _; rw [← sinQ_zero k]; congr 1; omega
        have c0 := HT.out k (by omega)
        have b0 := sinAt_bd k (by omega)
        generalize sinAt k = t0 at *
        have i0 : (k : Int) < 91 := by omega
        go_wp2
        go_ret
        exact ⟨ret_int (by rw [HE.out, HQ.out]; try omega), below_step hbel (Below.refl _ _)⟩
      · obtain ⟨k, k1, k2, k3, k4⟩ := sinQ_parts n (by omega) (by omega)
        have HQ : Hid (sinQ n = sinAt k + rnd ((sinAt (k + 1) - sinAt k) * (n % 1000)) 1000) := by show _ = _; unfold sinQ; rw [show (n / 1000).toNat = k by omega]
        have c0 := HT.out k (by omega)
        have c1 := HT.out (k + 1) (by omega)
        have b0 := sinAt_bd k (by omega)
        have b1 := sinAt_bd (k + 1) (by omega)
        generalize sinAt k = t0 at *
        generalize sinAt (k + 1) = t1 at *
        have i0 : (k : Int) < 91 := by omega
        have i1 : (k : Int) + 1 < 91 := by omega
        have i2 : 0 ≤ (k : Int) + 1 := by omega
        obtain ⟨r, hrr⟩ : ∃ r, n % 1000 = r := ⟨_, rfl⟩
        rw [hrr] at HQ
        have r0 : 0 < r := by omega
        have r1 : r ≤ 999 := by omega
        have e0 : n.tmod 1000 = r := by rw [Int.tmod_eq_emod_of_nonneg m0, hrr]
        obtain ⟨p0, p1⟩ := mul_small (t1 - t0) r 1000000 999 (by omega) (by omega)
        obtain ⟨p2, p3⟩ := rnd_between ((t1 - t0) * r) 1000 (-999000) 999000 (by omega) (by omega) (by omega)
        have e2 : IntKind.i64.wrap ((k : Int) + 1) = (k : Int) + 1 := wrap_in' (by omega) (by omega)
        have e3 : IntKind.i64.wrap (t1 - t0) = t1 - t0 := wrap_in' (by omega) (by omega)
        have e4 : IntKind.i64.wrap ((t1 - t0) * r) = (t1 - t0) * r := wrap_in' (by omega) (by omega)
        have e5 : IntKind.i64.wrap (t0 + rnd ((t1 - t0) * r) 1000) = t0 + rnd ((t1 - t0) * r) 1000 := wrap_in' (by omega) (by omega)
        have C1 : Hid (∀ W, Calls Tryd.prog 85 #[.int .i64 ((t1 - t0) * r), .int .i64 1000] W fun e w' => e = .returned (.int .i64 (rnd ((t1 - t0) * r) 1000)) ∧ W = w') := fun W => l01Div_any _ _ W (by omega) (by omega) (by omega) (by omega)
        clear p0 p1 k3 k4
        have KR := Lib.hid hrr; clear hrr
        go_wp2_with (fail)
        go_quiet ((go_at_call 85; exact quiet_left (C1.out _)))
        go_wp2
        go_ret
        exact ⟨ret_int (by rw [HE.out, HQ.out]; try omega), below_step hbel (below_drewN0 (Below.refl _ _) _)⟩
theorem l02Cosine_any (a : Int) (w : World) (h1 : -9000000000000000000 ≤ a) (h2 : a ≤ 9000000000000000000) :
    Calls Tryd.prog 126 #[.int .i64 a] w fun e w' => e = .returned (.int .i64 (cosI a)) ∧ Below w.heap.size w w' := by
  have hn := nrm_bd a
  obtain ⟨n1, n2⟩ := hn
  go_enter Tryd.func126, Tryd.ntmps126
  go_wp2_with (fail)
  (go_at_call 157; refine (l02Normal_any _ _ h1 h2).mono ?_; rintro e w' ⟨rfl, rfl⟩)
  go_wp2_with (fail)
  (refine later_intro ?_; intro y)
  (go_at_call 127; refine (later_below (l02Sine_any _ _ (by omega) (by omega))).mono ?_; rintro e w' ⟨rfl, y, rfl⟩)
  go_wp2
  go_ret
  exact ⟨rfl, (by repeat (first | exact Below.refl _ _ | refine below_alloc ?_ _ | refine below_drewN0 ?_ _ | refine below_drew0 ?_ | refine below_step ?_ (by assumption) | refine below_later ?_ _ | refine below_setCell0 ?_ (by first | exact Nat.le_refl _ | (simp; done) | omega | (simp; omega)) _))⟩
/-- the search of the arc, in both texts -/
theorem arc_step (u v lo hi m : Int) (h : lo < hi) (hm : (lo + hi) / 2 = m) : (cosI m * u ≤ sinI m * v → bsI (arcP u v) lo hi = bsI (arcP u v) lo m) ∧ (¬ cosI m * u ≤ sinI m * v → bsI (arcP u v) lo hi = bsI (arcP u v) (m + 1) hi) := by
  subst hm
  refine ⟨fun hc => bsI_yes _ _ _ h (by simp [arcP, hc]), fun hc => bsI_no _ _ _ h (by simp [arcP, hc])⟩
theorem prod_bd (s v : Int) (hs : -1000000 ≤ s ∧ s ≤ 1000000) (hv : 0 ≤ v ∧ v ≤ 1000000000000) : -1000000000000000000 ≤ s * v ∧ s * v ≤ 1000000000000000000 := by
  have := mul_small s v 1000000 1000000000000 hs hv; omega
theorem minI_bd (a b c : Int) (ha : 0 ≤ a ∧ a ≤ c) (hb : 0 ≤ b ∧ b ≤ c) : 0 ≤ minI a b ∧ minI a b ≤ c := by unfold minI; split <;> omega
theorem maxI_bd (a b c : Int) (ha : 0 ≤ a ∧ a ≤ c) (hb : 0 ≤ b ∧ b ≤ c) : 0 ≤ maxI a b ∧ maxI a b ≤ c := by unfold maxI; split <;> omega
theorem absI_le (a c : Int) (h : -c ≤ a ∧ a ≤ c) : 0 ≤ absI a ∧ absI a ≤ c := by unfold absI; split <;> omega
set_option maxHeartbeats 4000000 in
theorem l02Arc_any (yy x : Int) (w : World) (hx : -1000000000000 ≤ x ∧ x ≤ 1000000000000) (hy : -1000000000000 ≤ yy ∧ yy ≤ 1000000000000) :
    Calls Tryd.prog 128 #[.int .i64 yy, .int .i64 x] w fun e w' => e = .returned (.int .i64 (arcI yy x)) ∧ Below w.heap.size w w' := by
  have HE : Hid (arcI yy x = if 0 ≤ x ∧ 0 ≤ yy then arcB (absI yy) (absI x) else if 0 ≤ yy then 180000 - arcB (absI yy) (absI x) else if x < 0 then 180000 + arcB (absI yy) (absI x) else nrm (-arcB (absI yy) (absI x))) := rfl
  have HB : Hid (arcB (absI yy) (absI x) = if absI x < absI yy then 90000 - arcL (minI (absI x) (absI yy)) (maxI (absI x) (absI yy)) else arcL (minI (absI x) (absI yy)) (maxI (absI x) (absI yy))) := rfl
  obtain ⟨hx1, hx2⟩ := hx
  obtain ⟨hy1, hy2⟩ := hy
  obtain ⟨ax, hax⟩ : ∃ ax, absI x = ax := ⟨_, rfl⟩
  obtain ⟨ay, hay⟩ : ∃ ay, absI yy = ay := ⟨_, rfl⟩
  have bx := absI_le x 1000000000000 ⟨hx1, hx2⟩
  have by' := absI_le yy 1000000000000 ⟨hy1, hy2⟩
  rw [hax] at HE HB bx
  rw [hay] at HE HB by'
  have HX := Lib.hid hax; clear hax
  have HY := Lib.hid hay; clear hay
  obtain ⟨u1, u2⟩ := minI_bd ax ay _ bx by'
  obtain ⟨v1, v2⟩ := maxI_bd ax ay _ bx by'
  obtain ⟨L1, L2⟩ := arcL_bd (minI ax ay) (maxI ax ay)
  have HL : Hid (arcL (minI ax ay) (maxI ax ay) = bsI (arcP (minI ax ay) (maxI ax ay)) 0 45000) := rfl
  obtain ⟨B1, B2⟩ := arcB_bd ay ax
  generalize arcB ay ax = B at *
  generalize arcL (minI ax ay) (maxI ax ay) = L at *
  go_enter Tryd.func128, Tryd.ntmps128
  go_wp2_with (fail)
  (go_at_call 160; refine (l02Abs_is HX.out _ (by omega) (by omega)).mono ?_; rintro e w' ⟨rfl, rfl⟩)
  go_wp2_with (fail)
  (go_at_call 160; refine (l02Abs_is HY.out _ (by omega) (by omega)).mono ?_; rintro e w' ⟨rfl, rfl⟩)
  go_wp2_with ((go_at_call 159; refine (l00Min_any _ _ _).mono ?_; rintro e w' ⟨rfl, rfl⟩))
  (go_at_call 160; refine (l02Abs_is HX.out _ (by omega) (by omega)).mono ?_; rintro e w' ⟨rfl, rfl⟩)
  go_wp2_with (fail)
  (go_at_call 160; refine (l02Abs_is HY.out _ (by omega) (by omega)).mono ?_; rintro e w' ⟨rfl, rfl⟩)
  go_wp2_with ((go_at_call 82; refine (l00Max_any _ _ _).mono ?_; rintro e w' ⟨rfl, rfl⟩))
  generalize minI ax ay = u at *
  generalize maxI ax ay = v at *
  (refine later_intro_wp ?_; intro y)
  go_loopw [7, 8] (fun a b wr => ∃ lo hi : Int, a = .int .i64 lo ∧ b = .int .i64 hi ∧ 0 ≤ lo ∧ lo ≤ hi ∧ hi ≤ 45000 ∧ L = bsI (arcP u v) lo hi ∧ ∃ z : Later w, wr = z.w) (fun a b _ => (intOf b - intOf a).toNat)
  case atStart => exact ⟨0, 45000, rfl, rfl, by omega, by omega, by omega, HL.out, _, rfl⟩
  case round =>
    obtain ⟨lo, hi, rfl, rfl, h0, h1, h2, hL, z, rfl⟩ := hrel
    have HQ := Lib.hid hL; clear hL
    by_cases hlt : lo < hi
    · obtain ⟨m, hm⟩ : ∃ m, (lo + hi) / 2 = m := ⟨_, rfl⟩
      obtain ⟨st1, st2⟩ := arc_step u v lo hi m hlt hm
      have HS1 := Lib.hid st1
      have HS2 := Lib.hid st2
      clear st1 st2
      have m1 : lo ≤ m := by omega
      have m2 : m < hi := by omega
      obtain ⟨p1, p2⟩ := prod_bd (sinI m) v (sinI_bd m) ⟨v1, v2⟩
      obtain ⟨p3, p4⟩ := prod_bd (cosI m) u (cosI_bd m) ⟨u1, u2⟩
      go_wp2_with (fail)
      (go_at_call 127; refine (later_below (l02Sine_any _ _ (by omega) (by omega))).mono ?_; rintro e w' ⟨rfl, y, rfl⟩)
      have HM := Lib.hid hm; clear hm
      by_cases hc : cosI m * u ≤ sinI m * v
      · go_wp2_with ((go_at_call 126; refine (later_below (l02Cosine_any _ _ (by omega) (by omega))).mono ?_; rintro e w' ⟨rfl, y, rfl⟩))
        exact ⟨⟨lo, m, rfl, rfl, h0, m1, by omega, by rw [HQ.out, HS1.out hc], _, rfl⟩, by simp [intOf]; omega⟩
      · go_wp2_with ((go_at_call 126; refine (later_below (l02Cosine_any _ _ (by omega) (by omega))).mono ?_; rintro e w' ⟨rfl, y, rfl⟩))
        exact ⟨⟨m + 1, hi, rfl, rfl, by omega, by omega, h2, by rw [HQ.out, HS2.out (by omega)], _, rfl⟩, by simp [intOf]; omega⟩
    · have hLo : Hid (lo = L) := by show lo = L; rw [HQ.out, bsI_end _ _ _ hlt]
      obtain rfl : lo = L := hLo.out
      clear HQ hLo HL
      by_cases c1 : ax < ay
      · obtain rfl : B = 90000 - lo := by rw [HB.out, if_pos c1]
        clear HB
        go_wp2_with (fail)
        (go_at_call 160; refine (l02Abs_is HY.out _ (by omega) (by omega)).mono ?_; rintro e w' ⟨rfl, rfl⟩)
        go_wp2_with (fail)
        (go_at_call 160; refine (l02Abs_is HX.out _ (by omega) (by omega)).mono ?_; rintro e w' ⟨rfl, rfl⟩)
        go_wp2_with ((go_at_call 157; refine (l02Normal_any _ _ (by omega) (by omega)).mono ?_; rintro e w' ⟨rfl, rfl⟩))
        all_goals (go_ret; exact ⟨ret_int (by rw [HE.out]; (repeat' split) <;> first | rfl | (exfalso; omega)), (by repeat (first | exact Below.refl _ _ | refine below_alloc ?_ _ | refine below_drewN0 ?_ _ | refine below_drew0 ?_ | refine below_step ?_ (by assumption) | refine below_later ?_ _ | refine below_setCell0 ?_ (by first | exact Nat.le_refl _ | (simp; done) | omega | (simp; omega)) _))⟩)
      · obtain rfl : B = lo := by rw [HB.out, if_neg c1]
        clear HB
        go_wp2_with (fail)
        (go_at_call 160; refine (l02Abs_is HY.out _ (by omega) (by omega)).mono ?_; rintro e w' ⟨rfl, rfl⟩)
        go_wp2_with (fail)
        (go_at_call 160; refine (l02Abs_is HX.out _ (by omega) (by omega)).mono ?_; rintro e w' ⟨rfl, rfl⟩)
        go_wp2_with ((go_at_call 157; refine (l02Normal_any _ _ (by omega) (by omega)).mono ?_; rintro e w' ⟨rfl, rfl⟩))
        all_goals (go_ret; exact ⟨ret_int (by rw [HE.out]; (repeat' split) <;> first | rfl | (exfalso; omega)), (by repeat (first | exact Below.refl _ _ | refine below_alloc ?_ _ | refine below_drewN0 ?_ _ | refine below_drew0 ?_ | refine below_step ?_ (by assumption) | refine below_later ?_ _ | refine below_setCell0 ?_ (by first | exact Nat.le_refl _ | (simp; done) | omega | (simp; omega)) _))⟩)
end Go.Proofs.YtbpjnopnhmoigaaDoor
