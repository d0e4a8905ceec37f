/- Contracts of the functions on quotients and absolute values. -/
import Derived.Test.YtbpjnopnhmoigaaDoorBasics
import Derived.Test.YtbpjnopnhmoigaaDoorLater
namespace Go.Proofs.YtbpjnopnhmoigaaDoor
set_option linter.unusedVariables false
set_option linter.unusedSimpArgs false
open Go.RowKit

set_option maxHeartbeats 400000 in
theorem absOf_any (a : Int) (w : World) (h1 : -9000000000000000000 ≤ a) (h2 : a ≤ 9000000000000000000) :
    Calls Tryd.prog 161 #[.int .i64 a] w fun e w' => e = .returned (.int .i64 (absI a)) ∧ w = w' := by
  by_cases h : a < 0
  · go_enter Tryd.func161, Tryd.ntmps161
    go_wp2
    go_ret
    exact ⟨ret_int (by unfold absI; split <;> omega), rfl⟩
  · go_enter Tryd.func161, Tryd.ntmps161
    go_wp2
    go_ret
    exact ⟨ret_int (by unfold absI; split <;> omega), rfl⟩
set_option maxHeartbeats 400000 in
theorem nearest_any (a b : Int) (w : World) (h1 : -4000000000000000000 ≤ a) (h2 : a ≤ 4000000000000000000) (h3 : 0 < b) (h4 : b ≤ 1000000000000000000) :
    Calls Tryd.prog 131 #[.int .i64 a, .int .i64 b] w fun e w' => e = .returned (.int .i64 (rnd a b)) ∧ ∃ n, w' = w.drewN n := by
  have hb0 : ¬ b = 0 := by omega
  have hm := tmod_bd a b h3
  have ha := absI_bd (a.tmod b)
  have hb1 : absI b = b := by unfold absI; split <;> omega
  have hd := tdiv_bd a b h3
  obtain ⟨m1, m2⟩ := hm
  obtain ⟨a1, a2, a3, a4⟩ := ha
  obtain ⟨d1, d2⟩ := hd
  have hA := absI_bd a
  obtain ⟨_, _, _, A4⟩ := hA
  have d3 : -4000000000000000000 ≤ a.tdiv b := by omega
  have d4 : a.tdiv b ≤ 4000000000000000000 := by omega
  clear d1 d2 A4
  have hbs : decide (b < 0) = false := by simp; omega
  have HA := Lib.hid (rnd_absI a b h3)
  generalize hr : absI (a.tmod b) = r at *
  generalize hq : a.tdiv b = q at *
  have a5 : r ≤ b := by omega
  have HR := Lib.hid hr
  have HQ := Lib.hid hq
  clear hr hq a2 a3 a4
  have hw : IntKind.i64.wrap (a.tdiv b) = q := by rw [HQ.out]; exact IntWalk.i64_in _ (by omega)
  have hc1 : ∀ W, Calls Tryd.prog 161 #[.int .i64 (a.tmod b)] W fun e w' => e = .returned (.int .i64 r) ∧ W = w' := fun W => by
    rw [← HR.out]; exact absOf_any _ _ (by omega) (by omega)
  have hc2 : ∀ W, Calls Tryd.prog 161 #[.int .i64 b] W fun e w' => e = .returned (.int .i64 b) ∧ W = w' := fun W => by
    have := absOf_any b W (by omega) (by omega); rwa [hb1] at this
  have C1 := Lib.hid hc1
  have C2 := Lib.hid hc2
  clear hc1 hc2 hb1
  go_enter Tryd.func131, Tryd.ntmps131
  go_wp2_with (fail)
  go_quiet ((go_at_call 161; exact quiet_left (C1.out _)))
  by_cases c1 : r < b - r
  · go_wp2_with (go_at_call 161; refine (C2.out _).mono ?_; rintro e w' ⟨rfl, rfl⟩)
    go_ret
    exact ⟨ret_int (by rw [HA.out, if_pos (by omega)]), _, rfl⟩
  · rcases Bool.eq_false_or_eq_true (decide (a < 0)) with c2 | c2
    · have c3 : a < 0 := of_decide_eq_true c2
      go_wp2_with (go_at_call 161; refine (C2.out _).mono ?_; rintro e w' ⟨rfl, rfl⟩)
      go_ret
      exact ⟨ret_int (by rw [HA.out, if_neg (by omega), if_pos (by omega)]), _, rfl⟩
    · have c3 : ¬ a < 0 := of_decide_eq_false c2
      go_wp2_with (go_at_call 161; refine (C2.out _).mono ?_; rintro e w' ⟨rfl, rfl⟩)
      go_ret
      exact ⟨ret_int (by rw [HA.out, if_neg (by omega), if_neg (by omega)]), _, rfl⟩
set_option maxHeartbeats 400000 in
theorem l01Div_any (a b : Int) (w : World) (h1 : -4000000000000000000 ≤ a) (h2 : a ≤ 4000000000000000000) (h3 : 0 < b) (h4 : b ≤ 1000000000000000000) :
    Calls Tryd.prog 85 #[.int .i64 a, .int .i64 b] w fun e w' => e = .returned (.int .i64 (rnd a b)) ∧ w = w' := by
  by_cases h : 0 ≤ a
  · go_enter Tryd.func85, Tryd.ntmps85
    go_wp2
    go_ret
    exact ⟨ret_int (by rw [rnd, if_pos h]), rfl⟩
  · have hd := Int.ediv_nonneg (show 0 ≤ b - 2 * a by omega) (show 0 ≤ 2 * b by omega)
    have hd2 := Int.ediv_le_self (2 * b) (show 0 ≤ b - 2 * a by omega)
    go_enter Tryd.func85, Tryd.ntmps85
    go_wp2
    go_ret
    exact ⟨ret_int (by rw [rnd, if_neg (by omega)]), rfl⟩
end Go.Proofs.YtbpjnopnhmoigaaDoor
