/- Contracts of the functions on the hours at which a star rises and sets. -/
import Derived.Test.YtbpjnopnhmoigaaDoorGrpHor
namespace Go.Proofs.YtbpjnopnhmoigaaDoor
set_option linter.unusedVariables false
set_option linter.unusedSimpArgs false
open Go.RowKit
theorem hv_tuple {n : List UInt8} {lo la s r d : Int} (h : askI n lo la s r d = 0) : hvO n lo la s r d = (hvX la s r d, hvY s r d, hvZ la s r d, 0) := hvO_ok h
set_option maxHeartbeats 1000000 in
theorem isUp_is (n : ByteArray) (lo la h d : Int) (b : Bool) (w : World) (hS : SinOk w) (hv : vSite n.data.toList lo la = true) (hh : 0 ≤ h ∧ h ≤ 359999) (hd : inB d (-90000) 90000 = true) (hb : dnP la d h = b) :
    Calls Tryd.prog 102 #[.agg #[.string n, .int .i64 lo, .int .i64 la], .int .i64 h, .int .i64 d] w fun e w' => e = .returned (.bool (!b)) ∧ Below w.heap.size w w' := by
  have hk := askI_zero hv hh hd
  have C1 : Hid (∀ W, SinOk W → Calls Tryd.prog 45 #[.agg #[.string n, .int .i64 lo, .int .i64 la], .int .i64 h, .int .i64 0, .int .i64 d] W fun e w' => e = .returned (.tuple #[.agg #[.int .i64 (hvX la h 0 d), .int .i64 (hvY h 0 d), .int .i64 (hvZ la h 0 d)], .int .i64 0]) ∧ Below W.heap.size W w') := fun W hW => by
    have := HorizontalVector_any n lo la h 0 d W hW
    rwa [hvO_ok hk] at this
  clear hk hv hd
  obtain ⟨h1, h2⟩ := hh
  have HB : Hid (decide (hvZ la h 0 d ≤ 0) = b) := hb
  clear hb
  go_enter Tryd.func102, Tryd.ntmps102
  go_wp2_with (refine (C1.out _ (hS.alloc _)).mono ?_; rintro e w1 ⟨rfl, hb1⟩)
  go_ret
  refine ⟨?_, below_alloc (below_step (by repeat (first | exact Below.refl _ _ | refine below_alloc ?_ _ | refine below_drewN0 ?_ _ | refine below_drew0 ?_ | refine below_step ?_ (by assumption) | refine below_later ?_ _ | refine below_setCell0 ?_ (by first | exact Nat.le_refl _ | (simp; done) | omega | (simp; omega)) _)) hb1) _⟩
  rw [← HB.out]
  apply ret_bool
  rw [Bool.eq_iff_iff]; simp
set_option maxRecDepth 100000 in
set_option maxHeartbeats 1000000 in
theorem SettingHour_any (n : ByteArray) (lo la d : Int) (w : World) (hS : SinOk w) :
    Calls Tryd.prog 43 #[.agg #[.string n, .int .i64 lo, .int .i64 la], .int .i64 d] w fun e w' => e = .returned (.tuple #[.int .i64 (settO n.data.toList lo la d).1, .int .i64 (settO n.data.toList lo la d).2]) ∧ Below w.heap.size w w' := by
  cases v1 : vSite n.data.toList lo la with
  | false =>
    have HO := Lib.hid (settO_site (d := d) v1)
    go_enter Tryd.func43, Tryd.ntmps43
    go_wp2_with (fail)
    (refine later_intro ?_; intro y)
    go_wp2_with ((go_at_call 72; refine (later_below (ValidSite_any _ _ _ _)).mono ?_; rintro e w' ⟨rfl, y, rfl⟩))
    go_ret2
    exact ⟨by rw [HO.out]; rfl, (by repeat (first | exact Below.refl _ _ | refine below_alloc ?_ _ | refine below_drewN0 ?_ _ | refine below_drew0 ?_ | refine below_step ?_ (by assumption) | refine below_later ?_ _ | refine below_setCell0 ?_ (by first | exact Nat.le_refl _ | (simp; done) | omega | (simp; omega)) _))⟩
  | true =>
    cases v2 : inB d (-90000) 90000 with
    | false =>
      have HO := Lib.hid (settO_range v1 v2)
      go_enter Tryd.func43, Tryd.ntmps43
      go_wp2_with (fail)
      (refine later_intro ?_; intro y)
      go_wp2_with (first | (go_at_call 72; refine (later_below (ValidSite_any _ _ _ _)).mono ?_; rintro e w' ⟨rfl, y, rfl⟩) | (go_at_call 59; refine (within_any _ _ _ _).mono ?_; rintro e w' ⟨rfl, rfl⟩))
      go_ret2
      exact ⟨by rw [HO.out]; rfl, (by repeat (first | exact Below.refl _ _ | refine below_alloc ?_ _ | refine below_drewN0 ?_ _ | refine below_drew0 ?_ | refine below_step ?_ (by assumption) | refine below_later ?_ _ | refine below_setCell0 ?_ (by first | exact Nat.le_refl _ | (simp; done) | omega | (simp; omega)) _))⟩
    | true =>
      have C : Hid (∀ (W : World) (h : Int) (b : Bool), SinOk W → 0 ≤ h → h ≤ 359999 → dnP la d h = b → Calls Tryd.prog 102 #[.agg #[.string n, .int .i64 lo, .int .i64 la], .int .i64 h, .int .i64 d] W fun e w' => e = .returned (.bool (!b)) ∧ Below W.heap.size W w') := fun W h b hW h1 h2 hb => isUp_is n lo la h d b W hW v1 ⟨h1, h2⟩ v2 hb
      rcases sett_cases la d with q1 | ⟨q1, q2⟩ | ⟨q1, q2⟩
      · have HO := Lib.hid (settO_low v1 v2 q1)
        have Q1 := Lib.hid q1; clear q1
        go_enter Tryd.func43, Tryd.ntmps43
        go_wp2_with (fail)
        (refine later_intro ?_; intro y)
        go_wp2_with (first | (go_at_call 72; refine (later_below (ValidSite_any _ _ _ _)).mono ?_; rintro e w' ⟨rfl, y, rfl⟩) | (go_at_call 59; refine (within_any _ _ _ _).mono ?_; rintro e w' ⟨rfl, rfl⟩) | (go_at_call 102; refine (later_below (C.out _ _ _ (SinOk.later (hS.alloc _) _) (by omega) (by omega) Q1.out)).mono ?_; rintro e w' ⟨rfl, y, rfl⟩))
        go_ret2
        exact ⟨by rw [HO.out]; rfl, (by repeat (first | exact Below.refl _ _ | refine below_alloc ?_ _ | refine below_drewN0 ?_ _ | refine below_drew0 ?_ | refine below_step ?_ (by assumption) | refine below_later ?_ _ | refine below_setCell0 ?_ (by first | exact Nat.le_refl _ | (simp; done) | omega | (simp; omega)) _))⟩
      · have HO := Lib.hid (settO_high v1 v2 q1 q2)
        have Q1 := Lib.hid q1; clear q1
        have Q2 := Lib.hid q2; clear q2
        go_enter Tryd.func43, Tryd.ntmps43
        go_wp2_with (fail)
        (refine later_intro ?_; intro y)
        go_wp2_with (first | (go_at_call 72; refine (later_below (ValidSite_any _ _ _ _)).mono ?_; rintro e w' ⟨rfl, y, rfl⟩) | (go_at_call 59; refine (within_any _ _ _ _).mono ?_; rintro e w' ⟨rfl, rfl⟩) | (with_reducible (go_at_call 102; refine (later_below (C.out _ 0 _ (SinOk.later (hS.alloc _) _) (by omega) (by omega) Q1.out)).mono ?_; rintro e w' ⟨rfl, y, rfl⟩)) | (with_reducible (go_at_call 102; refine (later_below (C.out _ 180000 _ (SinOk.later (hS.alloc _) _) (by omega) (by omega) Q2.out)).mono ?_; rintro e w' ⟨rfl, y, rfl⟩)))
        go_ret2
        exact ⟨by rw [HO.out]; rfl, (by repeat (first | exact Below.refl _ _ | refine below_alloc ?_ _ | refine below_drewN0 ?_ _ | refine below_drew0 ?_ | refine below_step ?_ (by assumption) | refine below_later ?_ _ | refine below_setCell0 ?_ (by first | exact Nat.le_refl _ | (simp; done) | omega | (simp; omega)) _))⟩
      · have HO := Lib.hid (settO_yes v1 v2 q1 q2)
        have Q1 := Lib.hid q1; clear q1
        have Q2 := Lib.hid q2; clear q2
        generalize hL : bsI (dnP la d) 0 180000 = L at *
        have HL := Lib.hid hL.symm; clear hL
        go_enter Tryd.func43, Tryd.ntmps43
        go_wp2_with (fail)
        refine calls_named ?_
        intro W1 hW1
        have hbW : Below w.heap.size w W1 := by rw [hW1]; exact (by repeat (first | exact Below.refl _ _ | refine below_alloc ?_ _ | refine below_drewN0 ?_ _ | refine below_drew0 ?_ | refine below_step ?_ (by assumption) | refine below_later ?_ _ | refine below_setCell0 ?_ (by first | exact Nat.le_refl _ | (simp; done) | omega | (simp; omega)) _))
        have hlt0 : w.heap.size < W1.heap.size := by rw [hW1]; simp
        have c0 : W1.cell? ⟨w.heap.size, 0, none⟩ = some (.string n) := by rw [hW1]; simp
        have c1 : W1.cell? ⟨w.heap.size, 1, none⟩ = some (.int .i64 lo) := by rw [hW1]; simp
        have c2 : W1.cell? ⟨w.heap.size, 2, none⟩ = some (.int .i64 la) := by rw [hW1]; simp
        have hS1 : SinOk W1 := by rw [hW1]; exact hS.alloc _
        clear hW1
        (refine later_intro ?_; intro y)
        go_wp2_with (first | (go_at_call 72; refine (later_below (ValidSite_any _ _ _ _)).mono ?_; rintro e w' ⟨rfl, y, rfl⟩) | (go_at_call 59; refine (within_any _ _ _ _).mono ?_; rintro e w' ⟨rfl, rfl⟩) | (with_reducible (go_at_call 102; refine (later_below (C.out _ 0 _ (SinOk.later hS1 _) (by omega) (by omega) Q1.out)).mono ?_; rintro e w' ⟨rfl, y, rfl⟩)) | (with_reducible (go_at_call 102; refine (later_below (C.out _ 180000 _ (SinOk.later hS1 _) (by omega) (by omega) Q2.out)).mono ?_; rintro e w' ⟨rfl, y, rfl⟩)))
        go_loopw [6, 7] (fun a b wr => ∃ lo' hi' : Int, a = .int .i64 lo' ∧ b = .int .i64 hi' ∧ 0 ≤ lo' ∧ lo' ≤ hi' ∧ hi' ≤ 180000 ∧ L = bsI (dnP la d) lo' hi' ∧ ∃ z : Later W1, wr = z.w) (fun a b _ => (intOf b - intOf a).toNat)
        case atStart => exact ⟨0, 180000, rfl, rfl, by omega, by omega, by omega, HL.out, _, rfl⟩
        case round =>
          obtain ⟨lo', hi', rfl, rfl, h0, h1, h2, hL, z, rfl⟩ := hrel
          have HQ := Lib.hid hL; clear hL
          by_cases hlt : lo' < hi'
          · obtain ⟨m, hm⟩ : ∃ m, (lo' + hi') / 2 = m := ⟨_, rfl⟩
            have hy := bsI_yes (dnP la d) lo' hi' hlt
            have hn := bsI_no (dnP la d) lo' hi' hlt
            rw [hm] at hy hn
            have m1 : lo' ≤ m := by omega
            have m2 : m < hi' := by omega
            have HY := Lib.hid hy; clear hy
            have HN := Lib.hid hn; clear hn
            cases hb : dnP la d m with
            | true =>
              have HB := Lib.hid hb; clear hb
              go_wp2_with ((go_at_call 102; refine (later_below (C.out _ _ _ (SinOk.later hS1 _) (by omega) (by omega) HB.out)).mono ?_; rintro e w' ⟨rfl, y, rfl⟩))
              exact ⟨⟨lo', m, rfl, rfl, h0, m1, by omega, by rw [HQ.out, HY.out HB.out], _, rfl⟩, by simp [intOf]; omega⟩
            | false =>
              have HB := Lib.hid hb; clear hb
              go_wp2_with ((go_at_call 102; refine (later_below (C.out _ _ _ (SinOk.later hS1 _) (by omega) (by omega) HB.out)).mono ?_; rintro e w' ⟨rfl, y, rfl⟩))
              exact ⟨⟨m + 1, hi', rfl, rfl, by omega, by omega, h2, by rw [HQ.out, HN.out HB.out], _, rfl⟩, by simp [intOf]; omega⟩
          · have hLo : Hid (lo' = L) := by show lo' = L; rw [HQ.out, bsI_end _ _ _ hlt]
            obtain rfl : lo' = L := hLo.out
            clear HQ hLo HL
            go_wp2
            go_ret2
            exact ⟨by rw [HO.out]; rfl, (by repeat (first | exact Below.refl _ _ | refine below_alloc ?_ _ | refine below_drewN0 ?_ _ | refine below_drew0 ?_ | refine below_step ?_ (by assumption) | refine below_later ?_ _ | refine below_setCell0 ?_ (by first | exact Nat.le_refl _ | (simp; done) | omega | (simp; omega)) _))⟩
end Go.Proofs.YtbpjnopnhmoigaaDoor
