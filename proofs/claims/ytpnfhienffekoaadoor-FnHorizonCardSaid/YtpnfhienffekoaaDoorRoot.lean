/- Contracts of the square roots. -/
import Derived.Test.YtpnfhienffekoaaDoorGrpNum
import Derived.Test.YtpnfhienffekoaaDoorPlainFloat
import Derived.Test.YtpnfhienffekoaaDoorGrpPure
namespace Go.Proofs.YtpnfhienffekoaaDoor
set_option linter.unusedVariables false
set_option linter.unusedSimpArgs false
open Go.RowKit
theorem sqrtName : (Tryd.f62.name == "runtime.NumGoroutine") = false := by kernel_rfl
theorem sqrtBody : Tryd.f62.body.isNone = true := by kernel_rfl
theorem sqrtNext : Extern.findNext Tryd.f62 = none := by kernel_rfl
theorem sqrtFind : Extern.find Tryd.f62 = some Extern.MathSqrt.sqrt := by kernel_rfl
theorem run_sqrt (x y : Nat) (h : FloatKind.f64.format.sqrt x = some y) (w : World) : (callFunc 62 #[.float .f64 x]).run Tryd.prog w = .ok (.value (.float .f64 y)) w := by
  rw [run_callFunc_extern Tryd.func62 sqrtName sqrtBody sqrtNext sqrtFind]
  have e : Extern.MathSqrt.sqrt #[.float .f64 x] = (match FloatKind.f64.format.sqrt x with
    | some r => pure (.float .f64 r)
    | none => do pure (.float .f64 (← choose (.nanBits .f64 x x)))) := rfl
  rw [e, h]
  simp
theorem Sqrt_any (x y : Nat) (h : FloatKind.f64.format.sqrt x = some y) (w : World) : Calls Tryd.prog 54 #[.float .f64 x] w fun e w' => e = .returned (.float .f64 y) ∧ w = w' := by
  have hr := run_sqrt x y h
  go_enter Tryd.func54, Tryd.ntmps54
  go_wp2
  go_ret
  exact ⟨rfl, rfl⟩
set_option maxHeartbeats 1000000 in
theorem RootOf_any (n : Int) (w : World) (h1 : n ≤ 9223372036854775807) :
    Calls Tryd.prog 37 #[.int .i64 n] w fun e w' => e = .returned (.int .i64 (rootI n)) ∧ w = w' := by
  by_cases h0 : n ≤ 0
  · go_enter Tryd.func37, Tryd.ntmps37
    go_wp2
    go_ret
    exact ⟨ret_int (by rw [rootI_neg h0]), rfl⟩
  · obtain ⟨y, r, hy, hr, r0, r1⟩ := sqrt_ok n (by omega) h1
    have hcv := fun W => run_convert_float_int (P := Tryd.prog) W 80 2 .f64 .i64 y r (by rw [Tryd.underlying80]; rfl) Tryd.underlying2 hr
    have C1 : Hid (∀ W, Calls Tryd.prog 54 #[.float .f64 (floatOfInt .f64 n)] W fun e w' => e = .returned (.float .f64 y) ∧ W = w') := fun W => Sqrt_any _ y hy W
    clear hy hr
    go_enter Tryd.func37, Tryd.ntmps37
    go_wp2_with (go_at_call 54; refine (C1.out _).mono ?_; rintro e w' ⟨rfl, rfl⟩)
    all_goals
      go_loop [3] (fun v => ∃ q : Nat, v = .int .i64 q ∧ q ≤ 3037000499) (fun v => (intOf v).toNat)
      case atStart =>
        first
          | exact ⟨3037000499, rfl, by omega⟩
          | exact ⟨r.toNat, by congr 1; omega, by omega⟩
      case round =>
        obtain ⟨q, rfl, hq⟩ := hrel
        obtain ⟨s1, s2⟩ := sq_small q hq
        by_cases hc : n < (q : Int) * q
        · have q1 : 1 ≤ q := by
            rcases Nat.eq_zero_or_pos q with rfl | h
            · simp at hc; omega
            · exact h
          go_wp2
          exact ⟨⟨q - 1, by congr 1; omega, by omega⟩, by simp [intOf]; omega⟩
        · go_wp2_with (fail)
          go_loop [3] (fun v => ∃ q : Nat, v = .int .i64 q ∧ q ≤ 3037000499 ∧ (q : Int) * q ≤ n) (fun v => 3037000499 - (intOf v).toNat)
          case atStart => exact ⟨q, rfl, hq, by omega⟩
          case round =>
            clear s1 s2 hc hq
            obtain ⟨q, rfl, hq, hs⟩ := hrel
            by_cases h3 : (q : Int) < 3037000499
            · obtain ⟨s3, s4⟩ := sq_small (q + 1) (by omega)
              have e3 : ((q + 1 : Nat) : Int) = (q : Int) + 1 := by omega
              rw [e3] at s3 s4
              by_cases hc : ((q : Int) + 1) * ((q : Int) + 1) ≤ n
              · go_wp2
                exact ⟨⟨q + 1, by go_num, by omega, by rw [e3]; exact hc⟩, by simp [intOf]; omega⟩
              · go_wp2
                go_ret
                exact ⟨ret_int (by rw [rootI_unique n q hs (by omega)]), rfl⟩
            · go_wp2
              go_ret
              exact ⟨ret_int (by
                obtain rfl : q = 3037000499 := by omega
                rw [rootI_unique n _ hs (by omega)]), rfl⟩
end Go.Proofs.YtpnfhienffekoaaDoor
