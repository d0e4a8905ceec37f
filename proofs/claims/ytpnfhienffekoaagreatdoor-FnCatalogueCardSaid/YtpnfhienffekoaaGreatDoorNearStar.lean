/- Contracts of the functions on the star nearest to a direction. -/
import Derived.Test.YtpnfhienffekoaaGreatDoorFar
import Derived.Test.YtpnfhienffekoaaGreatDoorGrpHor
namespace Go.Proofs.YtpnfhienffekoaaGreatDoor
set_option linter.unusedVariables false
set_option linter.unusedSimpArgs false
open Go.RowKit
attribute [local go_sem ↓] Go.wp_at_zero Go.wp_at_succ
/-- the distance of a star from a direction -/
def apartI (x : Sta) (r d : Int) : Int := sepI (dirV r d) x.dir
/-- the nearest one of the first n + 1 stars, and its distance -/
def nearAt (l : List Sta) (r d : Int) : Nat → Int × Int
  | 0 => (0, match l[0]? with | some x => apartI x r d | none => 0)
  | k + 1 => match l[k + 1]? with
    | some x => if apartI x r d < (nearAt l r d k).2 then (((k : Int) + 1), apartI x r d) else nearAt l r d k
    | none => nearAt l r d k
theorem nearAt_zero {l : List Sta} {r d : Int} {x : Sta} (h : l[0]? = some x) : nearAt l r d 0 = (0, apartI x r d) := by simp [nearAt, h]
theorem nearAt_yes {l : List Sta} {r d : Int} {k : Nat} {x : Sta} (h : l[k + 1]? = some x) (hd : apartI x r d < (nearAt l r d k).2) : nearAt l r d (k + 1) = (((k : Int) + 1), apartI x r d) := by simp [nearAt, h, hd]
theorem nearAt_no {l : List Sta} {r d : Int} {k : Nat} {x : Sta} (h : l[k + 1]? = some x) (hd : ¬ apartI x r d < (nearAt l r d k).2) : nearAt l r d (k + 1) = nearAt l r d k := by simp [nearAt, h, hd]
/-- what NearestStar answers -/
def nearO (l : List Sta) (r d : Int) : Int × Int × Int := if vStars l then (if vDir r d then (if l.length = 0 then (0, 0, 3) else ((nearAt l r d (l.length - 1)).1, (nearAt l r d (l.length - 1)).2, 0)) else (0, 0, 2)) else (0, 0, 1)
theorem nearO_no {l : List Sta} {r d : Int} (h : vStars l = false) : nearO l r d = (0, 0, 1) := by simp [nearO, h]
theorem nearO_range {l : List Sta} {r d : Int} (h : vStars l = true) (h2 : vDir r d = false) : nearO l r d = (0, 0, 2) := by simp [nearO, h, h2]
theorem nearO_nil {l : List Sta} {r d : Int} (h : vStars l = true) (h2 : vDir r d = true) (h0 : l.length = 0) : nearO l r d = (0, 0, 3) := by simp [nearO, h, h2, h0]
theorem nearO_yes {l : List Sta} {r d : Int} (h : vStars l = true) (h2 : vDir r d = true) (h0 : l.length ≠ 0) : nearO l r d = ((nearAt l r d (l.length - 1)).1, (nearAt l r d (l.length - 1)).2, 0) := by rw [nearO, if_pos h, if_pos h2, if_neg h0]
theorem dir_ang {r d : Int} (h : vDir r d = true) : AngOk r ∧ AngOk d := by
  have := vDir_bd h; unfold AngOk; omega
set_option maxHeartbeats 4000000 in
theorem NearestStar_any (A : Option Addr) (n c : Nat) (l : List Sta) (r d : Int) (w : World) (hS : SinOk w) (hl : l.length = n) (hn : n ≤ 9223372036854775807) (hA : Stars w A l) :
    Calls Tryz.prog 27 #[.slice A n c, .int .i64 r, .int .i64 d] w fun e w' => e = .returned (.tuple #[.int .i64 (nearO l r d).1, .int .i64 (nearO l r d).2.1, .int .i64 (nearO l r d).2.2]) ∧ Below w.heap.size w w' := by
  have HL := Lib.hid hl; clear hl
  have V : Hid (∀ W (A : Option Addr), Stars W A l → Calls Tryz.prog 67 #[.slice A n c] W fun e w' => e = .returned (.bool (vStars l)) ∧ Below W.heap.size W w') := fun W A hW => ValidStars_any A n c l W HL.out hn hW
  cases hv : vStars l with
  | false =>
    have HO := Lib.hid (nearO_no (r := r) (d := d) hv)
    rw [hv] at V
    clear hv
    go_enter Tryz.func27, Tryz.ntmps27
    go_wp2_with (refine (V.out _ _ hA).mono ?_; rintro e w1 ⟨rfl, hb1⟩)
    go_ret3
    exact ⟨by rw [HO.out]; rfl, hb1⟩
  | true =>
    have h24 : n ≤ 24 := by have := vStars_len hv; have := HL.out; omega
    rw [hv] at V
    cases hd : vDir r d with
    | false =>
      have HO := Lib.hid (nearO_range hv hd)
      clear hv
      go_enter Tryz.func27, Tryz.ntmps27
      go_wp2_with (first | (refine (V.out _ _ hA).mono ?_; rintro e w1 ⟨rfl, hb1⟩) | (go_at_call 77; refine (validDirection_any _ _ _).mono ?_; rintro e w' ⟨rfl, rfl⟩))
      go_ret3
      exact ⟨by rw [HO.out]; rfl, hb1⟩
    | true =>
      by_cases hz : n = 0
      · have HO := Lib.hid (nearO_nil hv hd (by have := HL.out; omega))
        subst hz
        go_enter Tryz.func27, Tryz.ntmps27
        go_wp2_with (first | (refine (V.out _ _ hA).mono ?_; rintro e w1 ⟨rfl, hb1⟩) | (go_at_call 77; refine (validDirection_any _ _ _).mono ?_; rintro e w' ⟨rfl, rfl⟩))
        go_ret3
        exact ⟨by rw [HO.out]; rfl, hb1⟩
      · have HO := Lib.hid (nearO_yes hv hd (by have := HL.out; omega))
        have hz' : ((n : Int) == 0) = false := by simp; omega
        obtain ⟨x0, hx0⟩ := at_lt (l := l) (k := 0) (by have := HL.out; omega)
        obtain ⟨b0, o0, rfl, hc0⟩ := hA (by have := HL.out; omega)
        have s0 := hc0 0 x0 hx0
        simp only [Nat.zero_mul, Nat.add_zero] at s0
        have v0 := vStars_ok hv hx0
        have a0 := ok_ang v0
        have aD := dir_ang hd
        have HN0 := Lib.hid (nearAt_zero (r := r) (d := d) hx0)
        have HX0 := Lib.hid hx0; clear hx0
        have HV := Lib.hid hv; clear hv
        have hn0 : (0 : Int) < n := by omega
        go_enter Tryz.func27, Tryz.ntmps27
        go_wp2_with (first | (refine (V.out _ _ hA).mono ?_; rintro e w1 ⟨rfl, hb1⟩; obtain ⟨t0, t1, t2, t3, t4⟩ := s0.below hb1) | (go_at_call 77; refine (validDirection_any _ _ _).mono ?_; rintro e w' ⟨rfl, rfl⟩))
        refine (starDistance_any x0 r d _ (hS.of_below hb1) a0.1 a0.2 aD.1 aD.2).mono ?_
        rintro e w2 ⟨rfl, hb2⟩
        clear t0 t1 t2 t3 t4
        have hbb := below_step hb1 hb2
        go_wp2_with (fail)
        go_loopw [9, 10, 11, 12] (fun u v i q wr => ∃ (k : Nat) (z1 z2 : Int), k < n ∧ i = .int .i64 ((k : Int) + 1) ∧ u = .int .i64 z1 ∧ v = .int .i64 z2 ∧ nearAt l r d k = (z1, z2) ∧ Below w.heap.size w wr) (fun _ _ i _ _ => n - (intOf i).toNat)
        case atStart => exact ⟨0, 0, apartI x0 r d, by omega, rfl, rfl, rfl, HN0.out, hbb⟩
        case round =>
          obtain ⟨k, z1, z2, hk, rfl, rfl, rfl, hN, hb⟩ := hrel
          have HN := Lib.hid hN; clear hN
          by_cases hlt : k + 1 < n
          · obtain ⟨x, hx⟩ := at_lt (l := l) (k := k + 1) (by have := HL.out; omega)
            have s1 := hc0.below (hb1.mono (Nat.le_refl _)) (k + 1) x hx
            have hbc : Below w1.heap.size w1 w1 := Below.refl _ _
            have s2 := (hc0 (k + 1) x hx).below hb
            have vx := vStars_ok HV.out hx
            have ax := ok_ang vx
            have HX := Lib.hid hx; clear hx
            have hk1 : ((k : Int) + 1) < n := by omega
            have l1 := s2.lt
            obtain ⟨u0, u1, u2, u3, u4⟩ := s2
            clear s1 hbc
            have HY : Hid (apartI x r d < z2 → nearAt l r d (k + 1) = (((k : Int) + 1), apartI x r d)) := fun h => nearAt_yes HX.out (by rw [HN.out]; exact h)
            have HY2 : Hid (¬ apartI x r d < z2 → nearAt l r d (k + 1) = (z1, z2)) := fun h => (nearAt_no HX.out (by rw [HN.out]; exact h)).trans HN.out
            by_cases hlt2 : apartI x r d < z2
            · go_wp2_with (refine (starDistance_any x r d _ (hS.of_below hb) ax.1 ax.2 aD.1 aD.2).mono ?_; rintro e w4 ⟨rfl, hb4⟩; rw [show sepI (dirV r d) x.dir = apartI x r d from rfl])
              go_roundw
              case rel => exact ⟨k + 1, _, _, by omega, by go_num, by go_num, rfl, HY.out hlt2, below_step hb hb4⟩
              case measure => simp [intOf]; omega
            · go_wp2_with (refine (starDistance_any x r d _ (hS.of_below hb) ax.1 ax.2 aD.1 aD.2).mono ?_; rintro e w4 ⟨rfl, hb4⟩; rw [show sepI (dirV r d) x.dir = apartI x r d from rfl])
              go_roundw
              case rel => exact ⟨k + 1, _, _, by omega, by go_num, rfl, rfl, HY2.out hlt2, below_step hb hb4⟩
              case measure => simp [intOf]; omega
          · have hk2 : l.length - 1 = k := by have := HL.out; omega
            rw [hk2, HN.out] at HO
            clear hk2
            go_wp2
            go_ret3
            exact ⟨by rw [HO.out]; rfl, hb⟩
end Go.Proofs.YtpnfhienffekoaaGreatDoor
