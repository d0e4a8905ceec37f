/- Contracts of the functions that ask whether a dome, a site, a planet, a star or a moment is valid. -/
import Derived.Test.YthlkdbhbbihhjaaNum
namespace Go.Proofs.Ythlkdbhbbihhjaa
set_option linter.unusedVariables false
set_option linter.unusedSimpArgs false
open Go.RowKit
set_option maxHeartbeats 400000 in
theorem ValidDome_any (s : ByteArray) (r t : Int) (w : World) :
    Calls Try.prog 17 #[.agg #[.string s, .int .i64 r, .int .i64 t]] w fun e w' => e = .returned (.bool (vDome s.data.toList r t)) ∧ Below w.heap.size w w' := by
  go_enter Try.func17, Try.ntmps17
  go_wp2_with (first | (go_at_call 46; refine (IsName_any _ _).mono ?_; rintro e w' ⟨rfl, rfl⟩) | (go_at_call 47; refine (within_any _ _ _ _).mono ?_; rintro e w' ⟨rfl, rfl⟩))
  all_goals (go_ret; exact ⟨ret_bool (by simp [vDome, *]), (by repeat (first | exact Below.refl _ _ | refine below_alloc ?_ _ | refine below_drewN0 ?_ _ | refine below_drew0 ?_ | refine below_step ?_ (by assumption) | refine below_later ?_ _ | refine below_setCell0 ?_ (by first | exact Nat.le_refl _ | (simp; done) | omega | (simp; omega)) _))⟩)
set_option maxHeartbeats 400000 in
theorem l09Ok_any (b : Nat) (s : ByteArray) (r t : Int) (w : World) (c0 : w.cell? ⟨b, 0, none⟩ = some (.string s)) (c1 : w.cell? ⟨b, 1, none⟩ = some (.int .i64 r)) (c2 : w.cell? ⟨b, 2, none⟩ = some (.int .i64 t)) :
    Calls Try.prog 45 #[.pointer (some ⟨b, 0, none⟩)] w fun e w' => e = .returned (.bool (vDome s.data.toList r t)) ∧ w = w' := by
  go_enter Try.func45, Try.ntmps45
  go_wp2_with (first | (go_at_call 66; refine (l01Name_any _ _).mono ?_; rintro e w' ⟨rfl, rfl⟩) | (go_at_call 52; refine (l00In_any _ _ _ _).mono ?_; rintro e w' ⟨rfl, rfl⟩))
  all_goals (go_ret; exact ⟨ret_bool (by simp [vDome, *]), rfl⟩)
set_option maxHeartbeats 400000 in
theorem sValidDome_any (s : ByteArray) (r t : Int) (w : World) :
    Calls Try.prog 15 #[.agg #[.string s, .int .i64 r, .int .i64 t]] w fun e w' => e = .returned (.bool (vDome s.data.toList r t)) ∧ Below w.heap.size w w' := by
  go_enter Try.func15, Try.ntmps15
  go_wp2_with ((go_at_call 45; refine (l09Ok_any _ s r t _ (by simp) (by simp) (by simp)).mono ?_; rintro e w' ⟨rfl, rfl⟩))
  all_goals (go_ret; exact ⟨rfl, (by repeat (first | exact Below.refl _ _ | refine below_alloc ?_ _ | refine below_drewN0 ?_ _ | refine below_drew0 ?_ | refine below_step ?_ (by assumption) | refine below_later ?_ _ | refine below_setCell0 ?_ (by first | exact Nat.le_refl _ | (simp; done) | omega | (simp; omega)) _))⟩)
set_option maxHeartbeats 400000 in
theorem ValidSite_any (s : ByteArray) (r t : Int) (w : World) :
    Calls Try.prog 21 #[.agg #[.string s, .int .i64 r, .int .i64 t]] w fun e w' => e = .returned (.bool (vSite s.data.toList r t)) ∧ Below w.heap.size w w' := by
  go_enter Try.func21, Try.ntmps21
  go_wp2_with (first | (go_at_call 46; refine (IsName_any _ _).mono ?_; rintro e w' ⟨rfl, rfl⟩) | (go_at_call 47; refine (within_any _ _ _ _).mono ?_; rintro e w' ⟨rfl, rfl⟩))
  all_goals (go_ret; exact ⟨ret_bool (by simp [vSite, *]), (by repeat (first | exact Below.refl _ _ | refine below_alloc ?_ _ | refine below_drewN0 ?_ _ | refine below_drew0 ?_ | refine below_step ?_ (by assumption) | refine below_later ?_ _ | refine below_setCell0 ?_ (by first | exact Nat.le_refl _ | (simp; done) | omega | (simp; omega)) _))⟩)
theorem l06Latitude_any (a : Int) (w : World) : Calls Try.prog 67 #[.int .i64 a] w fun e w' => e = .returned (.bool (inB a (-90000) 90000)) ∧ w = w' := by
  go_enter Try.func67, Try.ntmps67
  go_wp2_with ((go_at_call 52; refine (l00In_any _ _ _ _).mono ?_; rintro e w' ⟨rfl, rfl⟩))
  go_ret
  exact ⟨rfl, rfl⟩
set_option maxHeartbeats 400000 in
theorem l06Ok_any (b : Nat) (s : ByteArray) (r t : Int) (w : World) (c0 : w.cell? ⟨b, 0, none⟩ = some (.string s)) (c1 : w.cell? ⟨b, 1, none⟩ = some (.int .i64 r)) (c2 : w.cell? ⟨b, 2, none⟩ = some (.int .i64 t)) :
    Calls Try.prog 48 #[.pointer (some ⟨b, 0, none⟩)] w fun e w' => e = .returned (.bool (vSite s.data.toList r t)) ∧ w = w' := by
  go_enter Try.func48, Try.ntmps48
  go_wp2_with (first | (go_at_call 66; refine (l01Name_any _ _).mono ?_; rintro e w' ⟨rfl, rfl⟩) | (go_at_call 52; refine (l00In_any _ _ _ _).mono ?_; rintro e w' ⟨rfl, rfl⟩) | (go_at_call 67; refine (l06Latitude_any _ _).mono ?_; rintro e w' ⟨rfl, rfl⟩))
  all_goals (go_ret; exact ⟨ret_bool (by simp [vSite, *]), rfl⟩)
set_option maxHeartbeats 400000 in
theorem sValidSite_any (s : ByteArray) (r t : Int) (w : World) :
    Calls Try.prog 19 #[.agg #[.string s, .int .i64 r, .int .i64 t]] w fun e w' => e = .returned (.bool (vSite s.data.toList r t)) ∧ Below w.heap.size w w' := by
  go_enter Try.func19, Try.ntmps19
  go_wp2_with ((go_at_call 48; refine (l06Ok_any _ s r t _ (by simp) (by simp) (by simp)).mono ?_; rintro e w' ⟨rfl, rfl⟩))
  all_goals (go_ret; exact ⟨rfl, (by repeat (first | exact Below.refl _ _ | refine below_alloc ?_ _ | refine below_drewN0 ?_ _ | refine below_drew0 ?_ | refine below_step ?_ (by assumption) | refine below_later ?_ _ | refine below_setCell0 ?_ (by first | exact Nat.le_refl _ | (simp; done) | omega | (simp; omega)) _))⟩)
set_option maxHeartbeats 400000 in
theorem ValidPlanet_any (s : ByteArray) (r t u : Int) (w : World) :
    Calls Try.prog 25 #[.agg #[.string s, .int .i64 r, .int .i64 t, .int .i64 u]] w fun e w' => e = .returned (.bool (vPlanet s.data.toList r t u)) ∧ Below w.heap.size w w' := by
  go_enter Try.func25, Try.ntmps25
  go_wp2_with (first | (go_at_call 46; refine (IsName_any _ _).mono ?_; rintro e w' ⟨rfl, rfl⟩) | (go_at_call 47; refine (within_any _ _ _ _).mono ?_; rintro e w' ⟨rfl, rfl⟩))
  all_goals (go_ret; exact ⟨ret_bool (by simp [vPlanet, *]), (by repeat (first | exact Below.refl _ _ | refine below_alloc ?_ _ | refine below_drewN0 ?_ _ | refine below_drew0 ?_ | refine below_step ?_ (by assumption) | refine below_later ?_ _ | refine below_setCell0 ?_ (by first | exact Nat.le_refl _ | (simp; done) | omega | (simp; omega)) _))⟩)
theorem l03Angle_any (a : Int) (w : World) : Calls Try.prog 68 #[.int .i64 a] w fun e w' => e = .returned (.bool (inB a 0 359999)) ∧ w = w' := by
  go_enter Try.func68, Try.ntmps68
  go_wp2_with ((go_at_call 52; refine (l00In_any _ _ _ _).mono ?_; rintro e w' ⟨rfl, rfl⟩))
  go_ret
  exact ⟨rfl, rfl⟩
set_option maxHeartbeats 400000 in
theorem l07One_any (b : Nat) (s : ByteArray) (r t u : Int) (w : World) (c0 : w.cell? ⟨b, 0, none⟩ = some (.string s)) (c1 : w.cell? ⟨b, 1, none⟩ = some (.int .i64 r)) (c2 : w.cell? ⟨b, 2, none⟩ = some (.int .i64 t)) (c3 : w.cell? ⟨b, 3, none⟩ = some (.int .i64 u)) :
    Calls Try.prog 49 #[.pointer (some ⟨b, 0, none⟩)] w fun e w' => e = .returned (.bool (vPlanet s.data.toList r t u)) ∧ w = w' := by
  go_enter Try.func49, Try.ntmps49
  go_wp2_with (first | (go_at_call 66; refine (l01Name_any _ _).mono ?_; rintro e w' ⟨rfl, rfl⟩) | (go_at_call 52; refine (l00In_any _ _ _ _).mono ?_; rintro e w' ⟨rfl, rfl⟩) | (go_at_call 68; refine (l03Angle_any _ _).mono ?_; rintro e w' ⟨rfl, rfl⟩))
  all_goals (go_ret; exact ⟨ret_bool (by simp [vPlanet, *]), rfl⟩)
set_option maxHeartbeats 400000 in
theorem sValidPlanet_any (s : ByteArray) (r t u : Int) (w : World) :
    Calls Try.prog 23 #[.agg #[.string s, .int .i64 r, .int .i64 t, .int .i64 u]] w fun e w' => e = .returned (.bool (vPlanet s.data.toList r t u)) ∧ Below w.heap.size w w' := by
  go_enter Try.func23, Try.ntmps23
  go_wp2_with ((go_at_call 49; refine (l07One_any _ s r t u _ (by simp) (by simp) (by simp) (by simp)).mono ?_; rintro e w' ⟨rfl, rfl⟩))
  all_goals (go_ret; exact ⟨rfl, (by repeat (first | exact Below.refl _ _ | refine below_alloc ?_ _ | refine below_drewN0 ?_ _ | refine below_drew0 ?_ | refine below_step ?_ (by assumption) | refine below_later ?_ _ | refine below_setCell0 ?_ (by first | exact Nat.le_refl _ | (simp; done) | omega | (simp; omega)) _))⟩)
theorem validDirection_any (a d : Int) (w : World) : Calls Try.prog 51 #[.int .i64 a, .int .i64 d] w fun e w' => e = .returned (.bool (vDir a d)) ∧ w = w' := by
  go_enter Try.func51, Try.ntmps51
  go_wp2_with ((go_at_call 47; refine (within_any _ _ _ _).mono ?_; rintro e w' ⟨rfl, rfl⟩))
  all_goals (go_ret; exact ⟨ret_bool (by simp [vDir, *]), rfl⟩)
theorem l05Direction_any (a d : Int) (w : World) : Calls Try.prog 69 #[.int .i64 a, .int .i64 d] w fun e w' => e = .returned (.bool (vDir a d)) ∧ w = w' := by
  go_enter Try.func69, Try.ntmps69
  go_wp2_with (first | (go_at_call 52; refine (l00In_any _ _ _ _).mono ?_; rintro e w' ⟨rfl, rfl⟩) | (go_at_call 68; refine (l03Angle_any _ _).mono ?_; rintro e w' ⟨rfl, rfl⟩))
  all_goals (go_ret; exact ⟨ret_bool (by simp [vDir, *]), rfl⟩)
theorem l05Direction_is {x y : Int} {b : Bool} (h : vDir x y = b) (w : World) :
    Calls Try.prog 69 #[.int .i64 x, .int .i64 y] w fun e w' => e = .returned (.bool b) ∧ w = w' := by subst h; exact l05Direction_any x y w
set_option maxHeartbeats 400000 in
theorem ValidStar_any (s : ByteArray) (r d m c : Int) (w : World) :
    Calls Try.prog 29 #[.agg #[.string s, .int .i64 r, .int .i64 d, .int .i64 m, .int .i64 c]] w fun e w' => e = .returned (.bool (vStar s.data.toList r d m c)) ∧ Below w.heap.size w w' := by
  cases h1 : isName s.data.toList with
  | false =>
    go_enter Try.func29, Try.ntmps29
    go_wp2_with (first | (go_at_call 46; refine (IsName_any _ _).mono ?_; rintro e w' ⟨rfl, rfl⟩) | (go_at_call 47; refine (within_any _ _ _ _).mono ?_; rintro e w' ⟨rfl, rfl⟩) | (go_at_call 51; refine (validDirection_any _ _ _).mono ?_; rintro e w' ⟨rfl, rfl⟩))
    all_goals (go_ret; exact ⟨ret_bool (by simp [vStar, *]), (by repeat (first | exact Below.refl _ _ | refine below_alloc ?_ _ | refine below_drewN0 ?_ _ | refine below_drew0 ?_ | refine below_step ?_ (by assumption) | refine below_later ?_ _ | refine below_setCell0 ?_ (by first | exact Nat.le_refl _ | (simp; done) | omega | (simp; omega)) _))⟩)
  | true =>
    go_enter Try.func29, Try.ntmps29
    go_wp2_with (first | (go_at_call 46; refine (IsName_any _ _).mono ?_; rintro e w' ⟨rfl, rfl⟩) | (go_at_call 47; refine (within_any _ _ _ _).mono ?_; rintro e w' ⟨rfl, rfl⟩) | (go_at_call 51; refine (validDirection_any _ _ _).mono ?_; rintro e w' ⟨rfl, rfl⟩))
    all_goals (go_ret; exact ⟨ret_bool (by simp [vStar, *]), (by repeat (first | exact Below.refl _ _ | refine below_alloc ?_ _ | refine below_drewN0 ?_ _ | refine below_drew0 ?_ | refine below_step ?_ (by assumption) | refine below_later ?_ _ | refine below_setCell0 ?_ (by first | exact Nat.le_refl _ | (simp; done) | omega | (simp; omega)) _))⟩)
set_option maxHeartbeats 1000000 in
theorem l05One_any (b o : Nat) (s : ByteArray) (r d m c : Int) (w : World) (c0 : w.cell? ⟨b, o, none⟩ = some (.string s)) (c1 : w.cell? ⟨b, o + 1, none⟩ = some (.int .i64 r)) (c2 : w.cell? ⟨b, o + 2, none⟩ = some (.int .i64 d))
    (c3 : w.cell? ⟨b, o + 3, none⟩ = some (.int .i64 m)) (c4 : w.cell? ⟨b, o + 4, none⟩ = some (.int .i64 c)) :
    Calls Try.prog 50 #[.pointer (some ⟨b, o, none⟩)] w fun e w' => e = .returned (.bool (vStar s.data.toList r d m c)) ∧ ∃ n, w' = w.drewN n := by
  cases h1 : isName s.data.toList with
  | false =>
    go_enter Try.func50, Try.ntmps50
    go_wp2_with (fail)
    go_quiet ((first | (go_at_call 66; exact quiet_left (l01Name_is h1 _)) | (go_at_call 69; exact quiet_left (l05Direction_is h2 _)) | (go_at_call 52; exact quiet_left (l00In_is (by assumption) _))))
    go_wp2
    go_ret
    exact ⟨ret_bool (by simp [vStar, *]), _, rfl⟩
  | true =>
    cases h2 : vDir r d with
    | false =>
      go_enter Try.func50, Try.ntmps50
      go_wp2_with (fail)
      go_quiet ((first | (go_at_call 66; exact quiet_left (l01Name_is h1 _)) | (go_at_call 69; exact quiet_left (l05Direction_is h2 _)) | (go_at_call 52; exact quiet_left (l00In_is (by assumption) _))))
      go_wp2
      go_ret
      exact ⟨ret_bool (by simp [vStar, *]), _, rfl⟩
    | true =>
      cases h3 : inB m (-200) 800 with
      | false =>
        go_enter Try.func50, Try.ntmps50
        go_wp2_with (fail)
        go_quiet ((first | (go_at_call 66; exact quiet_left (l01Name_is h1 _)) | (go_at_call 69; exact quiet_left (l05Direction_is h2 _)) | (go_at_call 52; exact quiet_left (l00In_is (by assumption) _))))
        go_wp2
        go_ret
        exact ⟨ret_bool (by simp [vStar, *]), _, rfl⟩
      | true =>
        cases h4 : inB c (-50) 250 with
        | false =>
          go_enter Try.func50, Try.ntmps50
          go_wp2_with (fail)
          go_quiet ((first | (go_at_call 66; exact quiet_left (l01Name_is h1 _)) | (go_at_call 69; exact quiet_left (l05Direction_is h2 _)) | (go_at_call 52; exact quiet_left (l00In_is (by assumption) _))))
          go_wp2
          go_ret
          exact ⟨ret_bool (by simp [vStar, *]), _, rfl⟩
        | true =>
          go_enter Try.func50, Try.ntmps50
          go_wp2_with (fail)
          go_quiet ((first | (go_at_call 66; exact quiet_left (l01Name_is h1 _)) | (go_at_call 69; exact quiet_left (l05Direction_is h2 _)) | (go_at_call 52; exact quiet_left (l00In_is (by assumption) _))))
          go_wp2
          go_ret
          exact ⟨ret_bool (by simp [vStar, *]), _, rfl⟩
set_option maxHeartbeats 400000 in
theorem sValidStar_any (s : ByteArray) (r d m c : Int) (w : World) :
    Calls Try.prog 27 #[.agg #[.string s, .int .i64 r, .int .i64 d, .int .i64 m, .int .i64 c]] w fun e w' => e = .returned (.bool (vStar s.data.toList r d m c)) ∧ Below w.heap.size w w' := by
  go_enter Try.func27, Try.ntmps27
  go_wp2_with ((go_at_call 50; refine (l05One_any _ _ s r d m c _ (by simp) (by simp) (by simp) (by simp) (by simp)).mono ?_; rintro e w' ⟨rfl, nd, rfl⟩))
  all_goals (go_ret; exact ⟨rfl, (by repeat (first | exact Below.refl _ _ | refine below_alloc ?_ _ | refine below_drewN0 ?_ _ | refine below_drew0 ?_ | refine below_step ?_ (by assumption) | refine below_later ?_ _ | refine below_setCell0 ?_ (by first | exact Nat.le_refl _ | (simp; done) | omega | (simp; omega)) _))⟩)
theorem ValidMoment_any (a b : Int) (w : World) : Calls Try.prog 57 #[.agg #[.int .i64 a, .int .i64 b]] w fun e w' => e = .returned (.bool (vMoment a b)) ∧ Below w.heap.size w w' := by
  go_enter Try.func57, Try.ntmps57
  go_wp2_with ((go_at_call 47; refine (within_any _ _ _ _).mono ?_; rintro e w' ⟨rfl, rfl⟩))
  all_goals (go_ret; exact ⟨ret_bool (by simp [vMoment, *]), (by repeat (first | exact Below.refl _ _ | refine below_alloc ?_ _ | refine below_drewN0 ?_ _ | refine below_drew0 ?_ | refine below_step ?_ (by assumption) | refine below_later ?_ _ | refine below_setCell0 ?_ (by first | exact Nat.le_refl _ | (simp; done) | omega | (simp; omega)) _))⟩)
theorem l03Day_any (a : Int) (w : World) : Calls Try.prog 70 #[.int .i64 a] w fun e w' => e = .returned (.bool (inB a 0 99999)) ∧ w = w' := by
  go_enter Try.func70, Try.ntmps70
  go_wp2_with ((go_at_call 52; refine (l00In_any _ _ _ _).mono ?_; rintro e w' ⟨rfl, rfl⟩))
  go_ret
  exact ⟨rfl, rfl⟩
theorem l03Ok_any (a b : Int) (w : World) : Calls Try.prog 55 #[.agg #[.int .i64 a, .int .i64 b]] w fun e w' => e = .returned (.bool (vMoment a b)) ∧ Below w.heap.size w w' := by
  go_enter Try.func55, Try.ntmps55
  go_wp2_with (first | (go_at_call 52; refine (l00In_any _ _ _ _).mono ?_; rintro e w' ⟨rfl, rfl⟩) | (go_at_call 70; refine (l03Day_any _ _).mono ?_; rintro e w' ⟨rfl, rfl⟩))
  all_goals (go_ret; exact ⟨ret_bool (by simp [vMoment, *]), (by repeat (first | exact Below.refl _ _ | refine below_alloc ?_ _ | refine below_drewN0 ?_ _ | refine below_drew0 ?_ | refine below_step ?_ (by assumption) | refine below_later ?_ _ | refine below_setCell0 ?_ (by first | exact Nat.le_refl _ | (simp; done) | omega | (simp; omega)) _))⟩)
end Go.Proofs.Ythlkdbhbbihhjaa
