/- Contracts of the functions on areas of domes, altitudes, orbits and their meetings. -/
import Derived.Test.YtoddkojbeoifkaaDoorValid
import Derived.Test.YtoddkojbeoifkaaDoorPlainSky
namespace Go.Proofs.YtoddkojbeoifkaaDoor
set_option linter.unusedVariables false
set_option linter.unusedSimpArgs false
open Go.RowKit
theorem inB_zero : inB 0 0 359999 = true := rfl
theorem wrap_in {n : Int} (h1 : -9223372036854775808 ≤ n) (h2 : n ≤ 9223372036854775807) : IntKind.i64.wrap n = n := IntWalk.i64_in _ ⟨h1, h2⟩
theorem l02Abs_any (a : Int) (w : World) (h1 : -9000000000000000000 ≤ a) (h2 : a ≤ 9000000000000000000) :
    Calls Tryd.prog 139 #[.int .i64 a] w fun e w' => e = .returned (.int .i64 (absI a)) ∧ w = w' := by
  by_cases h : a < 0
  · go_enter Tryd.func139, Tryd.ntmps139
    go_wp2
    go_ret
    exact ⟨ret_int (by unfold absI; split <;> omega), rfl⟩
  · go_enter Tryd.func139, Tryd.ntmps139
    go_wp2
    go_ret
    exact ⟨ret_int (by unfold absI; split <;> omega), rfl⟩
theorem l06Turn_any (a : Int) (w : World) : Calls Tryd.prog 92 #[.int .i64 a] w fun e w' => e = .returned (.bool (inB a 0 359999)) ∧ w = w' := by
  go_enter Tryd.func92, Tryd.ntmps92
  go_wp2_with ((go_at_call 71; refine (l00In_any _ _ _ _).mono ?_; rintro e w' ⟨rfl, rfl⟩))
  go_ret
  exact ⟨rfl, rfl⟩
set_option maxHeartbeats 1000000 in
theorem l06Ask_any (b : Nat) (n : ByteArray) (lo la a1 a2 d : Int) (w : World) (c0 : w.cell? ⟨b, 0, none⟩ = some (.string n)) (c1 : w.cell? ⟨b, 1, none⟩ = some (.int .i64 lo)) (c2 : w.cell? ⟨b, 2, none⟩ = some (.int .i64 la)) :
    Calls Tryd.prog 53 #[.pointer (some ⟨b, 0, none⟩), .int .i64 a1, .int .i64 a2, .int .i64 d] w fun e w' =>
      e = .returned (.int .i64 (askI n.data.toList lo la a1 a2 d)) ∧ w = w' := by
  cases v1 : vSite n.data.toList lo la with
  | false =>
    go_enter Tryd.func53, Tryd.ntmps53
    go_wp2_with ((go_at_call 91; refine (l06Ok_any _ n lo la _ (by assumption) (by assumption) (by assumption)).mono ?_; rintro e w' ⟨rfl, rfl⟩))
    go_ret
    exact ⟨ret_int (by simp [askI, v1]), rfl⟩
  | true =>
    cases v2 : inB a1 0 359999 with
    | false =>
      go_enter Tryd.func53, Tryd.ntmps53
      go_wp2_with (first | (go_at_call 91; refine (l06Ok_any _ n lo la _ (by assumption) (by assumption) (by assumption)).mono ?_; rintro e w' ⟨rfl, rfl⟩) | (go_at_call 92; refine (l06Turn_any _ _).mono ?_; rintro e w' ⟨rfl, rfl⟩) | (go_at_call 101; refine (l06Latitude_any _ _).mono ?_; rintro e w' ⟨rfl, rfl⟩))
      go_ret
      exact ⟨ret_int (by simp [askI, v1, v2]), rfl⟩
    | true =>
      cases v3 : inB a2 0 359999 with
      | false =>
        go_enter Tryd.func53, Tryd.ntmps53
        go_wp2_with (first | (go_at_call 91; refine (l06Ok_any _ n lo la _ (by assumption) (by assumption) (by assumption)).mono ?_; rintro e w' ⟨rfl, rfl⟩) | (go_at_call 92; refine (l06Turn_any _ _).mono ?_; rintro e w' ⟨rfl, rfl⟩) | (go_at_call 101; refine (l06Latitude_any _ _).mono ?_; rintro e w' ⟨rfl, rfl⟩))
        go_ret
        exact ⟨ret_int (by simp [askI, v1, v2, v3]), rfl⟩
      | true =>
        cases v4 : inB d (-90000) 90000 with
        | false =>
          go_enter Tryd.func53, Tryd.ntmps53
          go_wp2_with (first | (go_at_call 91; refine (l06Ok_any _ n lo la _ (by assumption) (by assumption) (by assumption)).mono ?_; rintro e w' ⟨rfl, rfl⟩) | (go_at_call 92; refine (l06Turn_any _ _).mono ?_; rintro e w' ⟨rfl, rfl⟩) | (go_at_call 101; refine (l06Latitude_any _ _).mono ?_; rintro e w' ⟨rfl, rfl⟩))
          go_ret
          exact ⟨ret_int (by simp [askI, v1, v2, v3, v4]), rfl⟩
        | true =>
          go_enter Tryd.func53, Tryd.ntmps53
          go_wp2_with (first | (go_at_call 91; refine (l06Ok_any _ n lo la _ (by assumption) (by assumption) (by assumption)).mono ?_; rintro e w' ⟨rfl, rfl⟩) | (go_at_call 92; refine (l06Turn_any _ _).mono ?_; rintro e w' ⟨rfl, rfl⟩) | (go_at_call 101; refine (l06Latitude_any _ _).mono ?_; rintro e w' ⟨rfl, rfl⟩))
          go_ret
          exact ⟨ret_int (by simp [askI, v1, v2, v3, v4]), rfl⟩
end Go.Proofs.YtoddkojbeoifkaaDoor
