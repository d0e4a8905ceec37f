/- Contracts of the square roots. -/
import Derived.Test.YtpnfhienffekoaaGreatDoorGrpNum
import Derived.Test.YtpnfhienffekoaaGreatDoorPlainFloat
import Derived.Test.YtpnfhienffekoaaGreatDoorGrpPure
namespace Go.Proofs.YtpnfhienffekoaaGreatDoor
set_option linter.unusedVariables false
set_option linter.unusedSimpArgs false
open Go.RowKit
theorem sqrtName : (Tryz.f141.name == "runtime.NumGoroutine") = false := by kernel_rfl
theorem sqrtBody : Tryz.f141.body.isNone = true := by kernel_rfl
theorem sqrtNext : Extern.findNext Tryz.f141 = none := by kernel_rfl
theorem sqrtFind : Extern.find Tryz.f141 = some Extern.MathSqrt.sqrt := by kernel_rfl
theorem run_sqrt (x y : Nat) (h : FloatKind.f64.format.sqrt x = some y) (w : World) : (callFunc 141 #[.float .f64 x]).run Tryz.prog w = .ok (.value (.float .f64 y)) w := by
  rw [run_callFunc_extern Tryz.func141 sqrtName sqrtBody sqrtNext sqrtFind]
  have e : Extern.MathSqrt.sqrt #[.float .f64 x] = (match FloatKind.f64.format.sqrt x with
    | some r => pure (.float .f64 r)
    | none => do pure (.float .f64 (← choose (.nanBits .f64 x x)))) := rfl
  rw [e, h]
  simp
theorem Sqrt_any (x y : Nat) (h : FloatKind.f64.format.sqrt x = some y) (w : World) : Calls Tryz.prog 109 #[.float .f64 x] w fun e w' => e = .returned (.float .f64 y) ∧ w = w' := by
  have hr := run_sqrt x y h
  go_enter Tryz.func109, Tryz.ntmps109
  go_wp2
  go_ret
  exact ⟨rfl, rfl⟩
set_option maxHeartbeats 1000000 in
theorem RootOf_any (n : Int) (w : World) (h1 : n ≤ 9223372036854775807) :
    Calls Tryz.prog 63 #[.int .i64 n] w fun e w' => e = .returned (.int .i64 (rootI n)) ∧ w = w' := by
  by_cases h0 : n ≤ 0
  · go_enter Tryz.func63, Tryz.ntmps63
    go_wp2
    go_ret
    exact ⟨ret_int (by rw [rootI_neg h0]), rfl⟩
  · obtain ⟨y, r, hy, hr, r0, r1⟩ := sqrt_ok n (by omega) h1
    have hcv := fun W => run_convert_float_int (P := Tryz.prog) W 139 2 .f64 .i64 y r (by rw [Tryz.underlying139]; rfl) Tryz.underlying2 hr
    have C1 : Hid (∀ W, Calls Tryz.prog 109 #[.float .f64 (floatOfInt .f64 n)] W fun e w' => e = .returned (.float .f64 y) ∧ W = w') := fun W => Sqrt_any _ y hy W
    clear hy hr
    go_enter Tryz.func63, Tryz.ntmps63
    go_wp2_with (go_at_call 109; refine (C1.out _).mono ?_; rintro e w' ⟨rfl, rfl⟩)
    all_goals
      go_loop [3] (fun v => ∃ q : Nat, v = .int .i64 q ∧ q ≤ 3037000499) (fun v => (intOf v).toNat)
      case atStart =>
        first
          | exact ⟨3037000499, rfl, by omega⟩
          | exact ⟨r.toNat, by congr 1; omega, by omega⟩
      case round =>
        obtain ⟨q, rfl, hq⟩ := hrel
        obtain ⟨s1, s2⟩ := sq_small q hq
        by_cases hc : n < (q : Int) * q
        · have q1 : 1 ≤ q := by
            rcases Nat.eq_zero_or_pos q with rfl | h
            · simp at hc; omega
            · exact h
          go_wp2
          exact ⟨⟨q - 1, by congr 1; omega, by omega⟩, by simp [intOf]; omega⟩
        · go_wp2_with (fail)
          go_loop [3] (fun v => ∃ q : Nat, v = .int .i64 q ∧ q ≤ 3037000499 ∧ (q : Int) * q ≤ n) (fun v => 3037000499 - (intOf v).toNat)
          case atStart => exact ⟨q, rfl, hq, by omega⟩
          case round =>
            clear s1 s2 hc hq
            obtain ⟨q, rfl, hq, hs⟩ := hrel
            by_cases h3 : (q : Int) < 3037000499
            · obtain ⟨s3, s4⟩ := sq_small (q + 1) (by omega)
              have e3 : ((q + 1 : Nat) : Int) = (q : Int) + 1 := by omega
              rw [e3] at s3 s4
              by_cases hc : ((q : Int) + 1) * ((q : Int) + 1) ≤ n
              · go_wp2
                exact ⟨⟨q + 1, by go_num, by omega, by rw [e3]; exact hc⟩, by simp [intOf]; omega⟩
              · go_wp2
                go_ret
                exact ⟨ret_int (by rw [rootI_unique n q hs (by omega)]), rfl⟩
            · go_wp2
              go_ret
              exact ⟨ret_int (by
                obtain rfl : q = 3037000499 := by omega
                rw [rootI_unique n _ hs (by omega)]), rfl⟩
set_option maxHeartbeats 1000000 in
theorem l01Root_any (n : Int) (w : World) (h1 : n ≤ 9223372036854775807) :
    Calls Tryz.prog 56 #[.int .i64 n] w fun e w' => e = .returned (.int .i64 (rootI n)) ∧ w = w' := by
  go_enter Tryz.func56, Tryz.ntmps56
  go_wp2_with (fail)
  go_loop [3, 4] (fun a b => ∃ lo hi : Nat, a = .int .i64 lo ∧ b = .int .i64 hi ∧ lo ≤ hi ∧ hi ≤ 3037000499 ∧ (lo = 0 ∨ (lo : Int) * lo ≤ n) ∧ n < ((hi : Int) + 1) * ((hi : Int) + 1)) (fun a b => (intOf b).toNat - (intOf a).toNat)
  case atStart => exact ⟨0, 3037000499, rfl, rfl, by omega, by omega, .inl rfl, by omega⟩
  case round =>
    obtain ⟨lo, hi, rfl, rfl, hl, hh, hs, hn⟩ := hrel
    by_cases hc : lo < hi
    · obtain ⟨m, hm⟩ : ∃ m : Nat, ((lo : Int) + (hi : Int) + 1) / 2 = m := ⟨((lo : Int) + (hi : Int) + 1).toNat / 2, by omega⟩
      have m1 : lo < m := by omega
      have m2 : m ≤ hi := by omega
      obtain ⟨s1, s2⟩ := sq_small m (by omega)
      have HS := Lib.hid hs; clear hs
      by_cases hq : (m : Int) * m ≤ n
      · go_wp2
        exact ⟨⟨m, hi, by rw [hm], rfl, m2, hh, .inr hq, hn⟩, by simp [intOf]; omega⟩
      · go_wp2
        have e3 : ((m - 1 : Nat) : Int) = (m : Int) - 1 := by omega
        exact ⟨⟨lo, m - 1, rfl, by congr 1; omega, by omega, by omega, HS.out, by rw [e3, show (m : Int) - 1 + 1 = m by omega]; omega⟩, by simp [intOf]; omega⟩
    · have HS := Lib.hid hs; clear hs
      have HN := Lib.hid hn; clear hn
      go_wp2
      go_ret
      refine ⟨ret_int ?_, rfl⟩
      obtain rfl : lo = hi := by omega
      rcases HS.out with rfl | hs
      · have hn := HN.out
        by_cases h0 : 0 ≤ n
        · rw [rootI_unique n 0 (by simpa using h0) hn]
        · rw [rootI_neg (by omega)]; rfl
      · rw [rootI_unique n lo hs HN.out]
end Go.Proofs.YtpnfhienffekoaaGreatDoor
