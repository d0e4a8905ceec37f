/- Contracts of the functions on brightness. -/
import Derived.Test.YtoklogldehikeaaValid
import Derived.Test.YtoklogldehikeaaOpen
import Derived.Test.YtoklogldehikeaaPlainFlux
namespace Go.Proofs.Ytoklogldehikeaa
set_option linter.unusedVariables false
set_option linter.unusedSimpArgs false
open Go.RowKit
set_option maxHeartbeats 1000000 in
theorem fluxOf_any (m : Int) (w : World) (h1 : -200 ≤ m) (h2 : m ≤ 800) :
    Calls Try.prog 66 #[.int .i64 m] w fun e w' => e = .returned (.int .i64 (fluxI m)) ∧ Below w.heap.size w w' := by
  go_enter Try.func66, Try.ntmps66
  go_wp2_with (fail)
  refine wp_named ?_
  intro W1 hW1
  have hlt : w.heap.size < W1.heap.size := by rw [hW1]; simp
  have hbW : Below w.heap.size w W1 := by rw [hW1]; exact (by repeat (first | exact Below.refl _ _ | refine below_alloc ?_ _ | refine below_drewN0 ?_ _ | refine below_drew0 ?_ | refine below_step ?_ (by assumption) | refine below_later ?_ _ | refine below_setCell0 ?_ (by first | exact Nat.le_refl _ | (simp; done) | omega | (simp; omega)) _))
  have hcell : ∀ k : Nat, k < 11 → W1.cell? ⟨w.heap.size, k, none⟩ = some (.int .i64 (fluxTab.getD k 0)) := fun k hk => by
    rw [hW1]
    rcases k with _ | _ | _ | _ | _ | _ | _ | _ | _ | _ | _ | k <;> first | (simp [fluxTab]; done) | omega
  clear hW1
  have hn0 : 0 ≤ 800 - m := by omega
  have hn1 : 800 - m ≤ 1000 := by omega
  have HE : Hid (fluxI m = fluxUp ((800 - m) / 100).toNat (fluxAt (800 - m))) := rfl
  generalize 800 - m = n at *
  have hA := fluxAt_bd n hn0 hn1
  have HA : Hid (fluxAt n = fluxTab.getD (n % 100 / 10).toNat 0 + rnd ((fluxTab.getD ((n % 100 / 10).toNat + 1) 0 - fluxTab.getD (n % 100 / 10).toNat 0) * (n % 10)) 10) := rfl
  generalize fluxAt n = fa at *
  obtain ⟨k, hk⟩ : ∃ k : Nat, n % 100 / 10 = k := ⟨(n % 100 / 10).toNat, by omega⟩
  have hk9 : k ≤ 9 := by omega
  obtain ⟨h, hh⟩ : ∃ h : Nat, n / 100 = h := ⟨(n / 100).toNat, by omega⟩
  have hh10 : h ≤ 10 := by omega
  obtain ⟨d, hd⟩ : ∃ d : Int, n % 10 = d := ⟨_, rfl⟩
  have hd9 : 0 ≤ d ∧ d ≤ 9 := by omega
  rw [hk, hd] at HA
  rw [hh] at HE
  rw [hk]
  simp only [Int.toNat_natCast] at HA HE
  have c0 := hcell k (by omega)
  have c1 := hcell (k + 1) (by omega)
  have b0 := fluxTab_bd k (by omega)
  have b1 := fluxTab_bd (k + 1) (by omega)
  clear hcell
  generalize fluxTab.getD k 0 = t0 at *
  generalize fluxTab.getD (k + 1) 0 = t1 at *
  have m0 : -2000 ≤ t1 - t0 ∧ t1 - t0 ≤ 2000 := by omega
  have m1 := mul_small (t1 - t0) d 2000 9 m0 hd9
  have r1 := rnd_between ((t1 - t0) * d) 10 (-1800) 1800 (by omega) (by omega) (by omega)
  obtain ⟨r1, r2⟩ := r1
  obtain ⟨m1, m2⟩ := m1
  obtain ⟨A1, A2⟩ := hA
  have hq : IntKind.i64.wrap ((n : Int).tdiv 100) = h := by rw [← hh]; exact IntWalk.i64_quo _ _ (by omega)
  have hr : (n : Int).tmod 10 = d := by rw [← hd]; exact IntWalk.rem_in _ _ (by omega)
  have hs : IntKind.i64.wrap (t1 - t0) = t1 - t0 := IntWalk.i64_in _ (by omega)
  have hm : IntKind.i64.wrap ((t1 - t0) * d) = (t1 - t0) * d := IntWalk.i64_in _ (by omega)
  have hk0 : ((k : Nat) : Int) < 11 := by omega
  have hk2 : (k : Int) + 1 < 11 := by omega
  have hk3 : 0 ≤ (k : Int) + 1 := by omega
  have hk1 : IntKind.i64.wrap ((k : Int) + 1) = (k : Int) + 1 := IntWalk.i64_in _ (by omega)
  have ha : IntKind.i64.wrap (t0 + rnd ((t1 - t0) * d) 10) = fa := by rw [HA.out]; exact IntWalk.i64_in _ (by omega)
  have C1 : Hid (∀ W, Calls Try.prog 86 #[.int .i64 ((t1 - t0) * d), .int .i64 10] W fun e w' => e = .returned (.int .i64 (rnd ((t1 - t0) * d) 10)) ∧ ∃ n, w' = W.drewN n) := fun W => nearest_any _ _ W (by omega) (by omega) (by omega) (by omega)
  (refine later_intro_wp ?_; intro y)
  (refine wp_region_later (by kernel_rfl) (by kernel_rfl) ?_; (repeat (quiet_step ((go_at_call 86; exact later_drew (C1.out _))))); refine wpQuiet_nil ?_; rintro _ ⟨y, rfl⟩)
  clear C1 HA m0 m1 r1 r2 hs hm hk1 ha c0 c1
  go_wp2_with (fail)
  go_loopw [6, 31] (fun f i wr => ∃ j : Nat, j ≤ h ∧ i = .int .i64 j ∧ f = .int .i64 (fluxUp j fa) ∧ ∃ z : Later W1, wr = z.w) (fun _ i _ => h - (intOf i).toNat)
  case atStart => exact ⟨0, by omega, rfl, rfl, _, rfl⟩
  case round =>
    obtain ⟨j, hj, rfl, rfl, z, rfl⟩ := hrel
    have hb := fluxUp_ten j fa (by omega) A1 A2
    obtain ⟨b1, b2⟩ := hb
    have HU := Lib.hid (fluxUp_snoc j fa)
    by_cases hlt2 : j < h
    · go_wp2_with ((go_at_call 86; refine (later_drew (nearest_any _ _ _ (by omega) (by omega) (by omega) (by omega))).mono ?_; rintro e w' ⟨rfl, y, rfl⟩))
      go_roundw
      case rel => exact ⟨j + 1, by omega, by go_num, by rw [HU.out], _, rfl⟩
      case measure => simp [intOf]; omega
    · go_wp2
      go_ret
      exact ⟨ret_int (by rw [HE.out, show j = h by omega]), (by repeat (first | exact Below.refl _ _ | refine below_alloc ?_ _ | refine below_drewN0 ?_ _ | refine below_drew0 ?_ | refine below_step ?_ (by assumption) | refine below_later ?_ _ | refine below_setCell0 ?_ (by first | exact Nat.le_refl _ | (simp; done) | omega | (simp; omega)) _))⟩
theorem FluxOf_any (m : Int) (w : World) :
    Calls Try.prog 35 #[.int .i64 m] w fun e w' => e = .returned (.tuple #[.int .i64 (fluxO m).1, .int .i64 (fluxO m).2]) ∧ Below w.heap.size w w' := by
  cases h : inB m (-200) 800 with
  | false =>
    have HE := Lib.hid (fluxO_no h)
    go_enter Try.func35, Try.ntmps35
    go_wp2_with ((go_at_call 65; refine (within_any _ _ _ _).mono ?_; rintro e w' ⟨rfl, rfl⟩))
    go_ret2
    exact ⟨by rw [HE.out]; rfl, (by repeat (first | exact Below.refl _ _ | refine below_alloc ?_ _ | refine below_drewN0 ?_ _ | refine below_drew0 ?_ | refine below_step ?_ (by assumption) | refine below_later ?_ _ | refine below_setCell0 ?_ (by first | exact Nat.le_refl _ | (simp; done) | omega | (simp; omega)) _))⟩
  | true =>
    have HE := Lib.hid (fluxO_yes h)
    have hb := (inB_iff _ _ _).1 h
    go_enter Try.func35, Try.ntmps35
    go_wp2_with (fail)
    (refine later_intro ?_; intro y)
    go_wp2_with (first | (go_at_call 65; refine (within_any _ _ _ _).mono ?_; rintro e w' ⟨rfl, rfl⟩) | (go_at_call 66; refine (later_below (fluxOf_any _ _ hb.1 hb.2)).mono ?_; rintro e w' ⟨rfl, y, rfl⟩))
    go_ret2
    exact ⟨by rw [HE.out]; rfl, (by repeat (first | exact Below.refl _ _ | refine below_alloc ?_ _ | refine below_drewN0 ?_ _ | refine below_drew0 ?_ | refine below_step ?_ (by assumption) | refine below_later ?_ _ | refine below_setCell0 ?_ (by first | exact Nat.le_refl _ | (simp; done) | omega | (simp; omega)) _))⟩
set_option maxHeartbeats 1000000 in
theorem magnitudeOf_any (f : Int) (w : World) :
    Calls Try.prog 67 #[.int .i64 f] w fun e w' => e = .returned (.tuple #[.int .i64 (magT f).1, .int .i64 (magT f).2]) ∧ Below w.heap.size w w' := by
  have HE : Hid (magT f = if magFrom 1001 f < -200 then (0, 6) else (magFrom 1001 f, 0)) := rfl
  go_enter Try.func67, Try.ntmps67
  go_wp2_with (fail)
  (refine later_intro_wp ?_; intro y)
  go_loopw [4] (fun i wr => ∃ n : Nat, n ≤ 1001 ∧ i = .int .i64 ((n : Int) - 201) ∧ magFrom 1001 f = magFrom n f ∧ ∃ z : Later w, wr = z.w) (fun i _ => (intOf i + 201).toNat)
  case atStart => exact ⟨1001, by omega, rfl, rfl, _, rfl⟩
  case round =>
    obtain ⟨n, hn, rfl, heq, z, rfl⟩ := hrel
    have HQ := Lib.hid heq; clear heq
    rcases n with _ | n
    · go_wp2
      go_ret2
      exact ⟨by rw [HE.out, HQ.out]; rfl, (by repeat (first | exact Below.refl _ _ | refine below_alloc ?_ _ | refine below_drewN0 ?_ _ | refine below_drew0 ?_ | refine below_step ?_ (by assumption) | refine below_later ?_ _ | refine below_setCell0 ?_ (by first | exact Nat.le_refl _ | (simp; done) | omega | (simp; omega)) _))⟩
    · have e1 : ((n + 1 : Nat) : Int) - 201 = (n : Int) - 200 := by omega
      rw [e1]
      have HS : Hid (magFrom (n + 1) f = if f ≤ fluxI ((n : Int) - 200) then (n : Int) - 200 else magFrom n f) := rfl
      clear e1
      by_cases hc : f ≤ fluxI ((n : Int) - 200)
      · go_wp2_with ((go_at_call 66; refine (later_below (fluxOf_any _ _ (by omega) (by omega))).mono ?_; rintro e w' ⟨rfl, y, rfl⟩))
        go_ret2
        exact ⟨by rw [HE.out, HQ.out, HS.out, if_pos hc, if_neg (by omega)]; rfl, (by repeat (first | exact Below.refl _ _ | refine below_alloc ?_ _ | refine below_drewN0 ?_ _ | refine below_drew0 ?_ | refine below_step ?_ (by assumption) | refine below_later ?_ _ | refine below_setCell0 ?_ (by first | exact Nat.le_refl _ | (simp; done) | omega | (simp; omega)) _))⟩
      · go_wp2_with ((go_at_call 66; refine (later_below (fluxOf_any _ _ (by omega) (by omega))).mono ?_; rintro e w' ⟨rfl, y, rfl⟩))
        go_roundw
        case rel => exact ⟨n, by omega, by go_num, by rw [HQ.out, HS.out, if_neg (by omega)], _, rfl⟩
        case measure => simp [intOf]; omega
theorem MagnitudeOf_any (f : Int) (w : World) :
    Calls Try.prog 36 #[.int .i64 f] w fun e w' => e = .returned (.tuple #[.int .i64 (magO f).1, .int .i64 (magO f).2]) ∧ Below w.heap.size w w' := by
  cases h : inB f 1 1000000000000 with
  | false =>
    have HE := Lib.hid (magO_no h)
    go_enter Try.func36, Try.ntmps36
    go_wp2_with ((go_at_call 65; refine (within_any _ _ _ _).mono ?_; rintro e w' ⟨rfl, rfl⟩))
    go_ret2
    exact ⟨by rw [HE.out]; rfl, (by repeat (first | exact Below.refl _ _ | refine below_alloc ?_ _ | refine below_drewN0 ?_ _ | refine below_drew0 ?_ | refine below_step ?_ (by assumption) | refine below_later ?_ _ | refine below_setCell0 ?_ (by first | exact Nat.le_refl _ | (simp; done) | omega | (simp; omega)) _))⟩
  | true =>
    have HE := Lib.hid (magO_yes h)
    go_enter Try.func36, Try.ntmps36
    go_wp2_with (fail)
    (refine later_intro ?_; intro y)
    go_wp2_with (first | (go_at_call 65; refine (within_any _ _ _ _).mono ?_; rintro e w' ⟨rfl, rfl⟩) | (go_at_call 67; refine (later_below (magnitudeOf_any _ _)).mono ?_; rintro e w' ⟨rfl, y, rfl⟩))
    go_ret2
    exact ⟨by rw [HE.out]; rfl, (by repeat (first | exact Below.refl _ _ | refine below_alloc ?_ _ | refine below_drewN0 ?_ _ | refine below_drew0 ?_ | refine below_step ?_ (by assumption) | refine below_later ?_ _ | refine below_setCell0 ?_ (by first | exact Nat.le_refl _ | (simp; done) | omega | (simp; omega)) _))⟩
end Go.Proofs.Ytoklogldehikeaa
