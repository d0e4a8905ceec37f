/- Contracts of the functions on the magnitude of all stars together. -/
import Derived.Test.YtoklogldehikeaaSta
import Derived.Test.YtoklogldehikeaaFlux
namespace Go.Proofs.Ytoklogldehikeaa
set_option linter.unusedVariables false
set_option linter.unusedSimpArgs false
open Go.RowKit
/-- the flux of the first stars -/
def sumFlux : List Sta → Int
  | [] => 0
  | x :: l => fluxI x.ma + sumFlux l
theorem sumFlux_snoc (l : List Sta) (x : Sta) : sumFlux (l ++ [x]) = sumFlux l + fluxI x.ma := by
  induction l with
  | nil => simp [sumFlux]
  | cons y l ih => rw [List.cons_append, sumFlux, ih, sumFlux]; omega
theorem sumFlux_take {l : List Sta} {k : Nat} {x : Sta} (h : l[k]? = some x) : sumFlux (l.take (k + 1)) = sumFlux (l.take k) + fluxI x.ma := by
  rw [List.take_add_one, h]; exact sumFlux_snoc _ _
theorem ok_mag {x : Sta} (h : x.ok = true) : -200 ≤ x.ma ∧ x.ma ≤ 800 := by
  simp only [Sta.ok, vStar, Bool.and_eq_true, inB_iff] at h; omega
theorem fluxI_bd {m : Int} (h1 : -200 ≤ m) (h2 : m ≤ 800) : 1000 ≤ fluxI m ∧ fluxI m ≤ 200000000 := by
  have := fluxAt_bd (800 - m) (by omega) (by omega)
  exact fluxUp_ten _ _ (by omega) this.1 this.2
/-- what TotalMagnitude answers -/
def totO (l : List Sta) : Int × Int := if vStars l then (if l.length = 0 then (0, 3) else magT (sumFlux l)) else (0, 1)
theorem totO_no {l : List Sta} (h : vStars l = false) : totO l = (0, 1) := by simp [totO, h]
theorem totO_nil {l : List Sta} (h : vStars l = true) (h0 : l.length = 0) : totO l = (0, 3) := by simp [totO, h, h0]
theorem totO_yes {l : List Sta} (h : vStars l = true) (h0 : l.length ≠ 0) : totO l = magT (sumFlux l) := by rw [totO, if_pos h, if_neg h0]
set_option maxHeartbeats 1000000 in
theorem TotalMagnitude_any (A : Option Addr) (n c : Nat) (l : List Sta) (w : World) (hl : l.length = n) (hn : n ≤ 9223372036854775807) (hS : Stars w A l) :
    Calls Try.prog 38 #[.slice A n c] w fun e w' => e = .returned (.tuple #[.int .i64 (totO l).1, .int .i64 (totO l).2]) ∧ Below w.heap.size w w' := by
  have HL := Lib.hid hl; clear hl
  cases hv : vStars l with
  | false =>
    have HO := Lib.hid (totO_no hv)
    go_enter Try.func38, Try.ntmps38
    go_wp2_with (refine (ValidStars_any A n c l _ HL.out hn hS).mono ?_; rw [hv]; rintro e w' ⟨rfl, hb⟩)
    go_ret2
    exact ⟨by rw [HO.out]; rfl, hb⟩
  | true =>
    have h24 := vStars_len hv
    by_cases hz : n = 0
    · have HO := Lib.hid (totO_nil hv (by have := HL.out; omega))
      subst hz
      go_enter Try.func38, Try.ntmps38
      go_wp2_with (refine (ValidStars_any A 0 c l _ HL.out hn hS).mono ?_; rw [hv]; rintro e w' ⟨rfl, hb⟩)
      go_ret2
      exact ⟨by rw [HO.out]; rfl, hb⟩
    · have HO := Lib.hid (totO_yes hv (by have := HL.out; omega))
      have hz' : ((n : Int) == 0) = false := by simp; omega
      have h24' : n ≤ 24 := by have := HL.out; omega
      go_enter Try.func38, Try.ntmps38
      go_wp2_with (refine (ValidStars_any A n c l _ HL.out hn hS).mono ?_; rw [hv]; rintro e w1 ⟨rfl, hb1⟩)
      go_loopw [4, 6, 15] (fun s p i wr => ∃ (k : Nat) (z : Int), k ≤ n ∧ i = .int .i64 k ∧ s = .int .i64 z ∧ z = sumFlux (l.take k) ∧ 0 ≤ z ∧ z ≤ 200000000 * k ∧ Below w.heap.size w wr) (fun _ _ i _ => n - (intOf i).toNat)
      case atStart => exact ⟨0, 0, by omega, rfl, rfl, rfl, by omega, by omega, hb1⟩
      case round =>
        obtain ⟨k, z, hk, rfl, rfl, hzz, z0, z1, hb⟩ := hrel
        have HZ := Lib.hid hzz; clear hzz
        by_cases hlt : k < n
        · obtain ⟨x, hx⟩ := at_lt (l := l) (k := k) (by have := HL.out; omega)
          obtain ⟨b, o, rfl, hc⟩ := hS.below hb (by have := HL.out; omega)
          have l0 := (hc k x hx).lt
          obtain ⟨c0, c1, c2, c3, c4⟩ := hc k x hx
          obtain ⟨m1, m2⟩ := ok_mag (vStars_ok hv hx)
          obtain ⟨f1, f2⟩ := fluxI_bd m1 m2
          have HX := Lib.hid hx
          clear hx hc hS
          go_wp2_with (refine (fluxOf_any x.ma _ m1 m2).mono ?_; rintro e w' ⟨rfl, hb2⟩)
          go_roundw
          case rel => exact ⟨k + 1, z + fluxI x.ma, by omega, by go_num, rfl, by rw [sumFlux_take HX.out, HZ.out], by omega, by omega, below_step (below_alloc hb _) hb2⟩
          case measure => simp [intOf]; omega
        · have hk2 : l.take k = l := List.take_of_length_le (by have := HL.out; omega)
          rw [hk2] at HZ
          clear hk2
          go_wp2_with (refine (magnitudeOf_any z _).mono ?_; rintro e w' ⟨rfl, hb2⟩)
          go_ret2
          exact ⟨by rw [HO.out, ← HZ.out]; rfl, below_step hb hb2⟩
end Go.Proofs.Ytoklogldehikeaa
