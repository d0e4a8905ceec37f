/- Contracts of the functions that ask whether a dome, a site, a planet, a star or a moment is valid. -/
import Derived.Test.YtbpjnopnhmoigaaDoorNum
namespace Go.Proofs.YtbpjnopnhmoigaaDoor
set_option linter.unusedVariables false
set_option linter.unusedSimpArgs false
open Go.RowKit
set_option maxHeartbeats 400000 in
theorem ValidSite_any (s : ByteArray) (r t : Int) (w : World) :
    Calls Tryd.prog 72 #[.agg #[.string s, .int .i64 r, .int .i64 t]] w fun e w' => e = .returned (.bool (vSite s.data.toList r t)) ∧ Below w.heap.size w w' := by
  go_enter Tryd.func72, Tryd.ntmps72
  go_wp2_with (first | (go_at_call 117; refine (IsName_any _ _).mono ?_; rintro e w' ⟨rfl, rfl⟩) | (go_at_call 59; refine (within_any _ _ _ _).mono ?_; rintro e w' ⟨rfl, rfl⟩))
  all_goals (go_ret; exact ⟨ret_bool (by simp [vSite, *]), (by repeat (first | exact Below.refl _ _ | refine below_alloc ?_ _ | refine below_drewN0 ?_ _ | refine below_drew0 ?_ | refine below_step ?_ (by assumption) | refine below_later ?_ _ | refine below_setCell0 ?_ (by first | exact Nat.le_refl _ | (simp; done) | omega | (simp; omega)) _))⟩)
theorem l06Latitude_any (a : Int) (w : World) : Calls Tryd.prog 75 #[.int .i64 a] w fun e w' => e = .returned (.bool (inB a (-90000) 90000)) ∧ w = w' := by
  go_enter Tryd.func75, Tryd.ntmps75
  go_wp2_with ((go_at_call 54; refine (l00In_any _ _ _ _).mono ?_; rintro e w' ⟨rfl, rfl⟩))
  go_ret
  exact ⟨rfl, rfl⟩
set_option maxHeartbeats 400000 in
theorem l06Ok_any (b : Nat) (s : ByteArray) (r t : Int) (w : World) (c0 : w.cell? ⟨b, 0, none⟩ = some (.string s)) (c1 : w.cell? ⟨b, 1, none⟩ = some (.int .i64 r)) (c2 : w.cell? ⟨b, 2, none⟩ = some (.int .i64 t)) :
    Calls Tryd.prog 69 #[.pointer (some ⟨b, 0, none⟩)] w fun e w' => e = .returned (.bool (vSite s.data.toList r t)) ∧ w = w' := by
  go_enter Tryd.func69, Tryd.ntmps69
  go_wp2_with (first | (go_at_call 114; refine (l01Name_any _ _).mono ?_; rintro e w' ⟨rfl, rfl⟩) | (go_at_call 54; refine (l00In_any _ _ _ _).mono ?_; rintro e w' ⟨rfl, rfl⟩) | (go_at_call 75; refine (l06Latitude_any _ _).mono ?_; rintro e w' ⟨rfl, rfl⟩))
  all_goals (go_ret; exact ⟨ret_bool (by simp [vSite, *]), rfl⟩)
theorem l03Angle_any (a : Int) (w : World) : Calls Tryd.prog 166 #[.int .i64 a] w fun e w' => e = .returned (.bool (inB a 0 359999)) ∧ w = w' := by
  go_enter Tryd.func166, Tryd.ntmps166
  go_wp2_with ((go_at_call 54; refine (l00In_any _ _ _ _).mono ?_; rintro e w' ⟨rfl, rfl⟩))
  go_ret
  exact ⟨rfl, rfl⟩
theorem validDirection_any (a d : Int) (w : World) : Calls Tryd.prog 101 #[.int .i64 a, .int .i64 d] w fun e w' => e = .returned (.bool (vDir a d)) ∧ w = w' := by
  go_enter Tryd.func101, Tryd.ntmps101
  go_wp2_with ((go_at_call 59; refine (within_any _ _ _ _).mono ?_; rintro e w' ⟨rfl, rfl⟩))
  all_goals (go_ret; exact ⟨ret_bool (by simp [vDir, *]), rfl⟩)
theorem l05Direction_any (a d : Int) (w : World) : Calls Tryd.prog 144 #[.int .i64 a, .int .i64 d] w fun e w' => e = .returned (.bool (vDir a d)) ∧ w = w' := by
  go_enter Tryd.func144, Tryd.ntmps144
  go_wp2_with (first | (go_at_call 54; refine (l00In_any _ _ _ _).mono ?_; rintro e w' ⟨rfl, rfl⟩) | (go_at_call 166; refine (l03Angle_any _ _).mono ?_; rintro e w' ⟨rfl, rfl⟩))
  all_goals (go_ret; exact ⟨ret_bool (by simp [vDir, *]), rfl⟩)
theorem l05Direction_is {x y : Int} {b : Bool} (h : vDir x y = b) (w : World) :
    Calls Tryd.prog 144 #[.int .i64 x, .int .i64 y] w fun e w' => e = .returned (.bool b) ∧ w = w' := by subst h; exact l05Direction_any x y w
set_option maxHeartbeats 400000 in
theorem ValidStar_any (s : ByteArray) (r d m c : Int) (w : World) :
    Calls Tryd.prog 77 #[.agg #[.string s, .int .i64 r, .int .i64 d, .int .i64 m, .int .i64 c]] w fun e w' => e = .returned (.bool (vStar s.data.toList r d m c)) ∧ Below w.heap.size w w' := by
  cases h1 : isName s.data.toList with
  | false =>
    go_enter Tryd.func77, Tryd.ntmps77
    go_wp2_with (first | (go_at_call 117; refine (IsName_any _ _).mono ?_; rintro e w' ⟨rfl, rfl⟩) | (go_at_call 59; refine (within_any _ _ _ _).mono ?_; rintro e w' ⟨rfl, rfl⟩) | (go_at_call 101; refine (validDirection_any _ _ _).mono ?_; rintro e w' ⟨rfl, rfl⟩))
    all_goals (go_ret; exact ⟨ret_bool (by simp [vStar, *]), (by repeat (first | exact Below.refl _ _ | refine below_alloc ?_ _ | refine below_drewN0 ?_ _ | refine below_drew0 ?_ | refine below_step ?_ (by assumption) | refine below_later ?_ _ | refine below_setCell0 ?_ (by first | exact Nat.le_refl _ | (simp; done) | omega | (simp; omega)) _))⟩)
  | true =>
    go_enter Tryd.func77, Tryd.ntmps77
    go_wp2_with (first | (go_at_call 117; refine (IsName_any _ _).mono ?_; rintro e w' ⟨rfl, rfl⟩) | (go_at_call 59; refine (within_any _ _ _ _).mono ?_; rintro e w' ⟨rfl, rfl⟩) | (go_at_call 101; refine (validDirection_any _ _ _).mono ?_; rintro e w' ⟨rfl, rfl⟩))
    all_goals (go_ret; exact ⟨ret_bool (by simp [vStar, *]), (by repeat (first | exact Below.refl _ _ | refine below_alloc ?_ _ | refine below_drewN0 ?_ _ | refine below_drew0 ?_ | refine below_step ?_ (by assumption) | refine below_later ?_ _ | refine below_setCell0 ?_ (by first | exact Nat.le_refl _ | (simp; done) | omega | (simp; omega)) _))⟩)
set_option maxHeartbeats 1000000 in
theorem l05One_any (b o : Nat) (s : ByteArray) (r d m c : Int) (w : World) (c0 : w.cell? ⟨b, o, none⟩ = some (.string s)) (c1 : w.cell? ⟨b, o + 1, none⟩ = some (.int .i64 r)) (c2 : w.cell? ⟨b, o + 2, none⟩ = some (.int .i64 d))
    (c3 : w.cell? ⟨b, o + 3, none⟩ = some (.int .i64 m)) (c4 : w.cell? ⟨b, o + 4, none⟩ = some (.int .i64 c)) :
    Calls Tryd.prog 109 #[.pointer (some ⟨b, o, none⟩)] w fun e w' => e = .returned (.bool (vStar s.data.toList r d m c)) ∧ ∃ n, w' = w.drewN n := by
  cases h1 : isName s.data.toList with
  | false =>
    go_enter Tryd.func109, Tryd.ntmps109
    go_wp2_with (fail)
    go_quiet ((first | (go_at_call 114; exact quiet_left (l01Name_is h1 _)) | (go_at_call 144; exact quiet_left (l05Direction_is h2 _)) | (go_at_call 54; exact quiet_left (l00In_is (by assumption) _))))
    go_wp2
    go_ret
    exact ⟨ret_bool (by simp [vStar, *]), _, rfl⟩
  | true =>
    cases h2 : vDir r d with
    | false =>
      go_enter Tryd.func109, Tryd.ntmps109
      go_wp2_with (fail)
      go_quiet ((first | (go_at_call 114; exact quiet_left (l01Name_is h1 _)) | (go_at_call 144; exact quiet_left (l05Direction_is h2 _)) | (go_at_call 54; exact quiet_left (l00In_is (by assumption) _))))
      go_wp2
      go_ret
      exact ⟨ret_bool (by simp [vStar, *]), _, rfl⟩
    | true =>
      cases h3 : inB m (-200) 800 with
      | false =>
        go_enter Tryd.func109, Tryd.ntmps109
        go_wp2_with (fail)
        go_quiet ((first | (go_at_call 114; exact quiet_left (l01Name_is h1 _)) | (go_at_call 144; exact quiet_left (l05Direction_is h2 _)) | (go_at_call 54; exact quiet_left (l00In_is (by assumption) _))))
        go_wp2
        go_ret
        exact ⟨ret_bool (by simp [vStar, *]), _, rfl⟩
      | true =>
        cases h4 : inB c (-50) 250 with
        | false =>
          go_enter Tryd.func109, Tryd.ntmps109
          go_wp2_with (fail)
          go_quiet ((first | (go_at_call 114; exact quiet_left (l01Name_is h1 _)) | (go_at_call 144; exact quiet_left (l05Direction_is h2 _)) | (go_at_call 54; exact quiet_left (l00In_is (by assumption) _))))
          go_wp2
          go_ret
          exact ⟨ret_bool (by simp [vStar, *]), _, rfl⟩
        | true =>
          go_enter Tryd.func109, Tryd.ntmps109
          go_wp2_with (fail)
          go_quiet ((first | (go_at_call 114; exact quiet_left (l01Name_is h1 _)) | (go_at_call 144; exact quiet_left (l05Direction_is h2 _)) | (go_at_call 54; exact quiet_left (l00In_is (by assumption) _))))
          go_wp2
          go_ret
          exact ⟨ret_bool (by simp [vStar, *]), _, rfl⟩
set_option maxHeartbeats 400000 in
theorem sValidStar_any (s : ByteArray) (r d m c : Int) (w : World) :
    Calls Tryd.prog 74 #[.agg #[.string s, .int .i64 r, .int .i64 d, .int .i64 m, .int .i64 c]] w fun e w' => e = .returned (.bool (vStar s.data.toList r d m c)) ∧ Below w.heap.size w w' := by
  go_enter Tryd.func74, Tryd.ntmps74
  go_wp2_with ((go_at_call 109; refine (l05One_any _ _ s r d m c _ (by simp) (by simp) (by simp) (by simp) (by simp)).mono ?_; rintro e w' ⟨rfl, nd, rfl⟩))
  all_goals (go_ret; exact ⟨rfl, (by repeat (first | exact Below.refl _ _ | refine below_alloc ?_ _ | refine below_drewN0 ?_ _ | refine below_drew0 ?_ | refine below_step ?_ (by assumption) | refine below_later ?_ _ | refine below_setCell0 ?_ (by first | exact Nat.le_refl _ | (simp; done) | omega | (simp; omega)) _))⟩)
end Go.Proofs.YtbpjnopnhmoigaaDoor
