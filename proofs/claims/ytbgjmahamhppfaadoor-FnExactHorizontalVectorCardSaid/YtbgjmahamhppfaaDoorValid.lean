/- Contracts of the functions that ask whether a dome, a site, a planet, a star or a moment is valid. -/
import Derived.Test.YtbgjmahamhppfaaDoorNum
namespace Go.Proofs.YtbgjmahamhppfaaDoor
set_option linter.unusedVariables false
set_option linter.unusedSimpArgs false
open Go.RowKit
set_option maxHeartbeats 400000 in
theorem ValidSite_any (s : ByteArray) (r t : Int) (w : World) :
    Calls Tryd.prog 52 #[.agg #[.string s, .int .i64 r, .int .i64 t]] w fun e w' => e = .returned (.bool (vSite s.data.toList r t)) ∧ Below w.heap.size w w' := by
  go_enter Tryd.func52, Tryd.ntmps52
  go_wp2_with (first | (go_at_call 93; refine (IsName_any _ _).mono ?_; rintro e w' ⟨rfl, rfl⟩) | (go_at_call 53; refine (within_any _ _ _ _).mono ?_; rintro e w' ⟨rfl, rfl⟩))
  all_goals (go_ret; exact ⟨ret_bool (by simp [vSite, *]), (by repeat (first | exact Below.refl _ _ | refine below_alloc ?_ _ | refine below_drewN0 ?_ _ | refine below_drew0 ?_ | refine below_step ?_ (by assumption) | refine below_later ?_ _ | refine below_setCell0 ?_ (by first | exact Nat.le_refl _ | (simp; done) | omega | (simp; omega)) _))⟩)
theorem l06Latitude_any (a : Int) (w : World) : Calls Tryd.prog 89 #[.int .i64 a] w fun e w' => e = .returned (.bool (inB a (-90000) 90000)) ∧ w = w' := by
  go_enter Tryd.func89, Tryd.ntmps89
  go_wp2_with ((go_at_call 77; refine (l00In_any _ _ _ _).mono ?_; rintro e w' ⟨rfl, rfl⟩))
  go_ret
  exact ⟨rfl, rfl⟩
set_option maxHeartbeats 400000 in
theorem l06Ok_any (b : Nat) (s : ByteArray) (r t : Int) (w : World) (c0 : w.cell? ⟨b, 0, none⟩ = some (.string s)) (c1 : w.cell? ⟨b, 1, none⟩ = some (.int .i64 r)) (c2 : w.cell? ⟨b, 2, none⟩ = some (.int .i64 t)) :
    Calls Tryd.prog 87 #[.pointer (some ⟨b, 0, none⟩)] w fun e w' => e = .returned (.bool (vSite s.data.toList r t)) ∧ w = w' := by
  go_enter Tryd.func87, Tryd.ntmps87
  go_wp2_with (first | (go_at_call 80; refine (l01Name_any _ _).mono ?_; rintro e w' ⟨rfl, rfl⟩) | (go_at_call 77; refine (l00In_any _ _ _ _).mono ?_; rintro e w' ⟨rfl, rfl⟩) | (go_at_call 89; refine (l06Latitude_any _ _).mono ?_; rintro e w' ⟨rfl, rfl⟩))
  all_goals (go_ret; exact ⟨ret_bool (by simp [vSite, *]), rfl⟩)
set_option maxHeartbeats 400000 in
theorem ValidPlanet_any (s : ByteArray) (r t u : Int) (w : World) :
    Calls Tryd.prog 78 #[.agg #[.string s, .int .i64 r, .int .i64 t, .int .i64 u]] w fun e w' => e = .returned (.bool (vPlanet s.data.toList r t u)) ∧ Below w.heap.size w w' := by
  go_enter Tryd.func78, Tryd.ntmps78
  go_wp2_with (first | (go_at_call 93; refine (IsName_any _ _).mono ?_; rintro e w' ⟨rfl, rfl⟩) | (go_at_call 53; refine (within_any _ _ _ _).mono ?_; rintro e w' ⟨rfl, rfl⟩))
  all_goals (go_ret; exact ⟨ret_bool (by simp [vPlanet, *]), (by repeat (first | exact Below.refl _ _ | refine below_alloc ?_ _ | refine below_drewN0 ?_ _ | refine below_drew0 ?_ | refine below_step ?_ (by assumption) | refine below_later ?_ _ | refine below_setCell0 ?_ (by first | exact Nat.le_refl _ | (simp; done) | omega | (simp; omega)) _))⟩)
theorem l03Angle_any (a : Int) (w : World) : Calls Tryd.prog 81 #[.int .i64 a] w fun e w' => e = .returned (.bool (inB a 0 359999)) ∧ w = w' := by
  go_enter Tryd.func81, Tryd.ntmps81
  go_wp2_with ((go_at_call 77; refine (l00In_any _ _ _ _).mono ?_; rintro e w' ⟨rfl, rfl⟩))
  go_ret
  exact ⟨rfl, rfl⟩
set_option maxHeartbeats 400000 in
theorem l07One_any (b : Nat) (s : ByteArray) (r t u : Int) (w : World) (c0 : w.cell? ⟨b, 0, none⟩ = some (.string s)) (c1 : w.cell? ⟨b, 1, none⟩ = some (.int .i64 r)) (c2 : w.cell? ⟨b, 2, none⟩ = some (.int .i64 t)) (c3 : w.cell? ⟨b, 3, none⟩ = some (.int .i64 u)) :
    Calls Tryd.prog 42 #[.pointer (some ⟨b, 0, none⟩)] w fun e w' => e = .returned (.bool (vPlanet s.data.toList r t u)) ∧ w = w' := by
  go_enter Tryd.func42, Tryd.ntmps42
  go_wp2_with (first | (go_at_call 80; refine (l01Name_any _ _).mono ?_; rintro e w' ⟨rfl, rfl⟩) | (go_at_call 77; refine (l00In_any _ _ _ _).mono ?_; rintro e w' ⟨rfl, rfl⟩) | (go_at_call 81; refine (l03Angle_any _ _).mono ?_; rintro e w' ⟨rfl, rfl⟩))
  all_goals (go_ret; exact ⟨ret_bool (by simp [vPlanet, *]), rfl⟩)
theorem validDirection_any (a d : Int) (w : World) : Calls Tryd.prog 54 #[.int .i64 a, .int .i64 d] w fun e w' => e = .returned (.bool (vDir a d)) ∧ w = w' := by
  go_enter Tryd.func54, Tryd.ntmps54
  go_wp2_with ((go_at_call 53; refine (within_any _ _ _ _).mono ?_; rintro e w' ⟨rfl, rfl⟩))
  all_goals (go_ret; exact ⟨ret_bool (by simp [vDir, *]), rfl⟩)
theorem ValidMoment_any (a b : Int) (w : World) : Calls Tryd.prog 79 #[.agg #[.int .i64 a, .int .i64 b]] w fun e w' => e = .returned (.bool (vMoment a b)) ∧ Below w.heap.size w w' := by
  go_enter Tryd.func79, Tryd.ntmps79
  go_wp2_with ((go_at_call 53; refine (within_any _ _ _ _).mono ?_; rintro e w' ⟨rfl, rfl⟩))
  all_goals (go_ret; exact ⟨ret_bool (by simp [vMoment, *]), (by repeat (first | exact Below.refl _ _ | refine below_alloc ?_ _ | refine below_drewN0 ?_ _ | refine below_drew0 ?_ | refine below_step ?_ (by assumption) | refine below_later ?_ _ | refine below_setCell0 ?_ (by first | exact Nat.le_refl _ | (simp; done) | omega | (simp; omega)) _))⟩)
theorem l03Day_any (a : Int) (w : World) : Calls Tryd.prog 82 #[.int .i64 a] w fun e w' => e = .returned (.bool (inB a 0 99999)) ∧ w = w' := by
  go_enter Tryd.func82, Tryd.ntmps82
  go_wp2_with ((go_at_call 77; refine (l00In_any _ _ _ _).mono ?_; rintro e w' ⟨rfl, rfl⟩))
  go_ret
  exact ⟨rfl, rfl⟩
theorem l03Ok_any (a b : Int) (w : World) : Calls Tryd.prog 43 #[.agg #[.int .i64 a, .int .i64 b]] w fun e w' => e = .returned (.bool (vMoment a b)) ∧ Below w.heap.size w w' := by
  go_enter Tryd.func43, Tryd.ntmps43
  go_wp2_with (first | (go_at_call 77; refine (l00In_any _ _ _ _).mono ?_; rintro e w' ⟨rfl, rfl⟩) | (go_at_call 82; refine (l03Day_any _ _).mono ?_; rintro e w' ⟨rfl, rfl⟩))
  all_goals (go_ret; exact ⟨ret_bool (by simp [vMoment, *]), (by repeat (first | exact Below.refl _ _ | refine below_alloc ?_ _ | refine below_drewN0 ?_ _ | refine below_drew0 ?_ | refine below_step ?_ (by assumption) | refine below_later ?_ _ | refine below_setCell0 ?_ (by first | exact Nat.le_refl _ | (simp; done) | omega | (simp; omega)) _))⟩)
end Go.Proofs.YtbgjmahamhppfaaDoor
