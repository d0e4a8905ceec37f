/- Contracts of the functions that ask whether a dome, a site, a planet, a star or a moment is valid. -/
import Derived.Test.YtoklogldehikeaaNum
namespace Go.Proofs.Ytoklogldehikeaa
set_option linter.unusedVariables false
set_option linter.unusedSimpArgs false
open Go.RowKit
theorem l03Angle_any (a : Int) (w : World) : Calls Try.prog 91 #[.int .i64 a] w fun e w' => e = .returned (.bool (inB a 0 359999)) ∧ w = w' := by
  go_enter Try.func91, Try.ntmps91
  go_wp2_with ((go_at_call 72; refine (l00In_any _ _ _ _).mono ?_; rintro e w' ⟨rfl, rfl⟩))
  go_ret
  exact ⟨rfl, rfl⟩
theorem validDirection_any (a d : Int) (w : World) : Calls Try.prog 73 #[.int .i64 a, .int .i64 d] w fun e w' => e = .returned (.bool (vDir a d)) ∧ w = w' := by
  go_enter Try.func73, Try.ntmps73
  go_wp2_with ((go_at_call 65; refine (within_any _ _ _ _).mono ?_; rintro e w' ⟨rfl, rfl⟩))
  all_goals (go_ret; exact ⟨ret_bool (by simp [vDir, *]), rfl⟩)
theorem l05Direction_any (a d : Int) (w : World) : Calls Try.prog 71 #[.int .i64 a, .int .i64 d] w fun e w' => e = .returned (.bool (vDir a d)) ∧ w = w' := by
  go_enter Try.func71, Try.ntmps71
  go_wp2_with (first | (go_at_call 72; refine (l00In_any _ _ _ _).mono ?_; rintro e w' ⟨rfl, rfl⟩) | (go_at_call 91; refine (l03Angle_any _ _).mono ?_; rintro e w' ⟨rfl, rfl⟩))
  all_goals (go_ret; exact ⟨ret_bool (by simp [vDir, *]), rfl⟩)
theorem l05Direction_is {x y : Int} {b : Bool} (h : vDir x y = b) (w : World) :
    Calls Try.prog 71 #[.int .i64 x, .int .i64 y] w fun e w' => e = .returned (.bool b) ∧ w = w' := by subst h; exact l05Direction_any x y w
set_option maxHeartbeats 400000 in
theorem ValidStar_any (s : ByteArray) (r d m c : Int) (w : World) :
    Calls Try.prog 44 #[.agg #[.string s, .int .i64 r, .int .i64 d, .int .i64 m, .int .i64 c]] w fun e w' => e = .returned (.bool (vStar s.data.toList r d m c)) ∧ Below w.heap.size w w' := by
  cases h1 : isName s.data.toList with
  | false =>
    go_enter Try.func44, Try.ntmps44
    go_wp2_with (first | (go_at_call 52; refine (IsName_any _ _).mono ?_; rintro e w' ⟨rfl, rfl⟩) | (go_at_call 65; refine (within_any _ _ _ _).mono ?_; rintro e w' ⟨rfl, rfl⟩) | (go_at_call 73; refine (validDirection_any _ _ _).mono ?_; rintro e w' ⟨rfl, rfl⟩))
    all_goals (go_ret; exact ⟨ret_bool (by simp [vStar, *]), (by repeat (first | exact Below.refl _ _ | refine below_alloc ?_ _ | refine below_drewN0 ?_ _ | refine below_drew0 ?_ | refine below_step ?_ (by assumption) | refine below_later ?_ _ | refine below_setCell0 ?_ (by first | exact Nat.le_refl _ | (simp; done) | omega | (simp; omega)) _))⟩)
  | true =>
    go_enter Try.func44, Try.ntmps44
    go_wp2_with (first | (go_at_call 52; refine (IsName_any _ _).mono ?_; rintro e w' ⟨rfl, rfl⟩) | (go_at_call 65; refine (within_any _ _ _ _).mono ?_; rintro e w' ⟨rfl, rfl⟩) | (go_at_call 73; refine (validDirection_any _ _ _).mono ?_; rintro e w' ⟨rfl, rfl⟩))
    all_goals (go_ret; exact ⟨ret_bool (by simp [vStar, *]), (by repeat (first | exact Below.refl _ _ | refine below_alloc ?_ _ | refine below_drewN0 ?_ _ | refine below_drew0 ?_ | refine below_step ?_ (by assumption) | refine below_later ?_ _ | refine below_setCell0 ?_ (by first | exact Nat.le_refl _ | (simp; done) | omega | (simp; omega)) _))⟩)
set_option maxHeartbeats 1000000 in
theorem l05One_any (b o : Nat) (s : ByteArray) (r d m c : Int) (w : World) (c0 : w.cell? ⟨b, o, none⟩ = some (.string s)) (c1 : w.cell? ⟨b, o + 1, none⟩ = some (.int .i64 r)) (c2 : w.cell? ⟨b, o + 2, none⟩ = some (.int .i64 d))
    (c3 : w.cell? ⟨b, o + 3, none⟩ = some (.int .i64 m)) (c4 : w.cell? ⟨b, o + 4, none⟩ = some (.int .i64 c)) :
    Calls Try.prog 41 #[.pointer (some ⟨b, o, none⟩)] w fun e w' => e = .returned (.bool (vStar s.data.toList r d m c)) ∧ ∃ n, w' = w.drewN n := by
  cases h1 : isName s.data.toList with
  | false =>
    go_enter Try.func41, Try.ntmps41
    go_wp2_with (fail)
    go_quiet ((first | (go_at_call 70; exact quiet_left (l01Name_is h1 _)) | (go_at_call 71; exact quiet_left (l05Direction_is h2 _)) | (go_at_call 72; exact quiet_left (l00In_is (by assumption) _))))
    go_wp2
    go_ret
    exact ⟨ret_bool (by simp [vStar, *]), _, rfl⟩
  | true =>
    cases h2 : vDir r d with
    | false =>
      go_enter Try.func41, Try.ntmps41
      go_wp2_with (fail)
      go_quiet ((first | (go_at_call 70; exact quiet_left (l01Name_is h1 _)) | (go_at_call 71; exact quiet_left (l05Direction_is h2 _)) | (go_at_call 72; exact quiet_left (l00In_is (by assumption) _))))
      go_wp2
      go_ret
      exact ⟨ret_bool (by simp [vStar, *]), _, rfl⟩
    | true =>
      cases h3 : inB m (-200) 800 with
      | false =>
        go_enter Try.func41, Try.ntmps41
        go_wp2_with (fail)
        go_quiet ((first | (go_at_call 70; exact quiet_left (l01Name_is h1 _)) | (go_at_call 71; exact quiet_left (l05Direction_is h2 _)) | (go_at_call 72; exact quiet_left (l00In_is (by assumption) _))))
        go_wp2
        go_ret
        exact ⟨ret_bool (by simp [vStar, *]), _, rfl⟩
      | true =>
        cases h4 : inB c (-50) 250 with
        | false =>
          go_enter Try.func41, Try.ntmps41
          go_wp2_with (fail)
          go_quiet ((first | (go_at_call 70; exact quiet_left (l01Name_is h1 _)) | (go_at_call 71; exact quiet_left (l05Direction_is h2 _)) | (go_at_call 72; exact quiet_left (l00In_is (by assumption) _))))
          go_wp2
          go_ret
          exact ⟨ret_bool (by simp [vStar, *]), _, rfl⟩
        | true =>
          go_enter Try.func41, Try.ntmps41
          go_wp2_with (fail)
          go_quiet ((first | (go_at_call 70; exact quiet_left (l01Name_is h1 _)) | (go_at_call 71; exact quiet_left (l05Direction_is h2 _)) | (go_at_call 72; exact quiet_left (l00In_is (by assumption) _))))
          go_wp2
          go_ret
          exact ⟨ret_bool (by simp [vStar, *]), _, rfl⟩
end Go.Proofs.Ytoklogldehikeaa
