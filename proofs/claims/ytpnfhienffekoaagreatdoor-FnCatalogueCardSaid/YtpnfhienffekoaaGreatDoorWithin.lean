/- Contracts of the functions on the stars within a distance of a direction. -/
import Derived.Test.YtpnfhienffekoaaGreatDoorNearStar
import Derived.Test.YtpnfhienffekoaaGreatDoorGrpOwn
namespace Go.Proofs.YtpnfhienffekoaaGreatDoor
set_option linter.unusedVariables false
set_option linter.unusedSimpArgs false
open Go.RowKit
attribute [local go_sem ↓] Go.wp_at_zero Go.wp_at_succ
/-- the stars among the first k within that distance -/
def wiUpto (l : List Sta) (r d rad : Int) : Nat → List Int
  | 0 => []
  | k + 1 => match l[k]? with
    | some x => if apartI x r d ≤ rad then wiUpto l r d rad k ++ [(k : Int)] else wiUpto l r d rad k
    | none => wiUpto l r d rad k
theorem wiUpto_yes {l : List Sta} {r d rad : Int} {k : Nat} {x : Sta} (h : l[k]? = some x) (hd : apartI x r d ≤ rad) : wiUpto l r d rad (k + 1) = wiUpto l r d rad k ++ [(k : Int)] := by simp [wiUpto, h, hd]
theorem wiUpto_no {l : List Sta} {r d rad : Int} {k : Nat} {x : Sta} (h : l[k]? = some x) (hd : ¬ apartI x r d ≤ rad) : wiUpto l r d rad (k + 1) = wiUpto l r d rad k := by simp [wiUpto, h, hd]
theorem wiUpto_len (l : List Sta) (r d rad : Int) (k : Nat) : (wiUpto l r d rad k).length ≤ k := by
  induction k with
  | zero => simp [wiUpto]
  | succ k ih =>
    rw [wiUpto]
    split
    · split
      · rw [List.length_append]; simp; omega
      · omega
    · omega
def wiO (l : List Sta) (r d rad : Int) : List Int × Int := if vStars l then (if vDir r d then (if inB rad 0 180000 then (wiUpto l r d rad l.length, 0) else ([], 2)) else ([], 2)) else ([], 1)
theorem wiO_no {l : List Sta} {r d rad : Int} (h : vStars l = false) : wiO l r d rad = ([], 1) := by simp [wiO, h]
theorem wiO_dir {l : List Sta} {r d rad : Int} (h : vStars l = true) (h2 : vDir r d = false) : wiO l r d rad = ([], 2) := by simp [wiO, h, h2]
theorem wiO_rad {l : List Sta} {r d rad : Int} (h : vStars l = true) (h2 : vDir r d = true) (h3 : inB rad 0 180000 = false) : wiO l r d rad = ([], 2) := by simp [wiO, h, h2, h3]
theorem wiO_yes {l : List Sta} {r d rad : Int} (h : vStars l = true) (h2 : vDir r d = true) (h3 : inB rad 0 180000 = true) : wiO l r d rad = (wiUpto l r d rad l.length, 0) := by simp [wiO, h, h2, h3]
theorem wiO_len (l : List Sta) (r d rad : Int) : (wiO l r d rad).1.length ≤ 24 := by
  cases hv : vStars l with
  | false => rw [wiO_no hv]; simp
  | true =>
    have := vStars_len hv
    cases hd : vDir r d with
    | false => rw [wiO_dir hv hd]; simp
    | true =>
      cases hr : inB rad 0 180000 with
      | false => rw [wiO_rad hv hd hr]; simp
      | true => rw [wiO_yes hv hd hr]; exact Nat.le_trans (wiUpto_len _ _ _ _ _) this
set_option maxRecDepth 100000 in
set_option maxHeartbeats 4000000 in
theorem StarsWithin_any (A : Option Addr) (n c : Nat) (l : List Sta) (r d rad : Int) (w : World) (hS : SinOk w) (hl : l.length = n) (hn : n ≤ 9223372036854775807) (hA : Stars w A l) :
    Calls Tryz.prog 28 #[.slice A n c, .int .i64 r, .int .i64 d, .int .i64 rad] w fun e w' => ∃ v : Value, e = .returned (.tuple #[v, .int .i64 (wiO l r d rad).2]) ∧ OwnI w' w.heap.size v (wiO l r d rad).1 ∧ Below w.heap.size w w' := by
  have HL := Lib.hid hl; clear hl
  have V : Hid (∀ W (A : Option Addr), Stars W A l → Calls Tryz.prog 67 #[.slice A n c] W fun e w' => e = .returned (.bool (vStars l)) ∧ Below W.heap.size W w') := fun W A hW => ValidStars_any A n c l W HL.out hn hW
  cases hv : vStars l with
  | false =>
    have HO := Lib.hid (wiO_no (r := r) (d := d) (rad := rad) hv)
    rw [hv] at V
    clear hv
    go_enter Tryz.func28, Tryz.ntmps28
    go_wp2_with (refine (V.out _ _ hA).mono ?_; rintro e w1 ⟨rfl, hb1⟩)
    go_ret2
    exact ⟨.slice none 0 0, by rw [HO.out]; rfl, by rw [HO.out]; exact OwnI.nil _ _, hb1⟩
  | true =>
    have h24 : n ≤ 24 := by have := vStars_len hv; have := HL.out; omega
    rw [hv] at V
    have D : Hid (∀ W, Calls Tryz.prog 77 #[.int .i64 r, .int .i64 d] W fun e w' => e = .returned (.bool (vDir r d)) ∧ W = w') := fun W => validDirection_any _ _ _
    have R : Hid (∀ W, Calls Tryz.prog 79 #[.int .i64 rad, .int .i64 0, .int .i64 180000] W fun e w' => e = .returned (.bool (inB rad 0 180000)) ∧ W = w') := fun W => within_any _ _ _ _
    cases hd : vDir r d with
    | false =>
      have HO := Lib.hid (wiO_dir (rad := rad) hv hd)
      rw [hd] at D
      clear hv hd
      go_enter Tryz.func28, Tryz.ntmps28
      go_wp2_with (first | (refine (V.out _ _ hA).mono ?_; rintro e w1 ⟨rfl, hb1⟩) | (go_at_call 77; refine (D.out _).mono ?_; rintro e w' ⟨rfl, rfl⟩) | (go_at_call 79; refine (R.out _).mono ?_; rintro e w' ⟨rfl, rfl⟩))
      go_ret2
      exact ⟨.slice none 0 0, by rw [HO.out]; rfl, by rw [HO.out]; exact OwnI.nil _ _, hb1⟩
    | true =>
      rw [hd] at D
      cases hr : inB rad 0 180000 with
      | false =>
        have HO := Lib.hid (wiO_rad hv hd hr)
        rw [hr] at R
        clear hv hd hr
        go_enter Tryz.func28, Tryz.ntmps28
        go_wp2_with (first | (refine (V.out _ _ hA).mono ?_; rintro e w1 ⟨rfl, hb1⟩) | (go_at_call 77; refine (D.out _).mono ?_; rintro e w' ⟨rfl, rfl⟩) | (go_at_call 79; refine (R.out _).mono ?_; rintro e w' ⟨rfl, rfl⟩))
        go_ret2
        exact ⟨.slice none 0 0, by rw [HO.out]; rfl, by rw [HO.out]; exact OwnI.nil _ _, hb1⟩
      | true =>
        have HO := Lib.hid (wiO_yes hv hd hr)
        rw [hr] at R
        have HV := Lib.hid hv
        have aD := dir_ang hd
        clear hv hd hr
        go_enter Tryz.func28, Tryz.ntmps28
        go_wp2_with (first | (refine (V.out _ _ hA).mono ?_; rintro e w1 ⟨rfl, hb1⟩) | (go_at_call 77; refine (D.out _).mono ?_; rintro e w' ⟨rfl, rfl⟩) | (go_at_call 79; refine (R.out _).mono ?_; rintro e w' ⟨rfl, rfl⟩))
        go_loopw [10, 11, 12, 27] (fun f u p i wr => ∃ (k : Nat), k ≤ n ∧ i = .int .i64 k ∧ OwnI wr w.heap.size f (wiUpto l r d rad k) ∧ Below w.heap.size w wr) (fun _ _ _ i _ => n - (intOf i).toNat)
        case atStart => exact ⟨0, by omega, rfl, OwnI.nil _ _, hb1⟩
        case round =>
          obtain ⟨k, hk, rfl, hO, hb⟩ := hrel
          by_cases hlt : k < n
          · obtain ⟨x, hx⟩ := at_lt (l := l) (k := k) (by have := HL.out; omega)
            obtain ⟨b0, o0, rfl, hc0⟩ := hA.below hb (by have := HL.out; omega)
            have s0 := hc0 k x hx
            obtain ⟨t0, t1, t2, t3, t4⟩ := s0
            have ax := ok_ang (vStars_ok HV.out hx)
            have hlen := wiUpto_len l r d rad k
            by_cases hle : apartI x r d ≤ rad
            · have HY := Lib.hid (wiUpto_yes hx hle)
              clear hx hc0
              go_wp2_with (fail)
              refine calls_named ?_
              intro W1 hW1
              have hbW : Below w.heap.size w W1 := by rw [hW1]; exact below_alloc hb _
              have hO1 := hO.at_ hW1
              clear hW1 t0 t1 t2 t3 t4
              refine (starDistance_any x r d W1 (hS.of_below hbW) ax.1 ax.2 aD.1 aD.2).mono ?_
              rintro e w4 ⟨rfl, hb4⟩
              rw [show sepI (dirV r d) x.dir = apartI x r d from rfl]
              have hO4 := hO1.below hb4
              have hb5 := below_step hbW hb4
              go_wp2_with (at_builtin; refine wpList_app_int rfl _ _ rfl w.heap.size _ _ (k : Int) w4.heap.size 1 rfl rfl (hO4.alloc _) (by simp) (by omega) (Nat.le_trans hb5.size (by simp)) ?_; intro v' w6 hO6 hg6)
              have hb6 : Below w.heap.size w w6 := below_of_grown (below_alloc hb5 _) hg6 (Nat.le_trans hb5.size (by simp)) (fun q hq => (hO4.lt q hq).1)
              go_wp2_with (fail)
              go_roundw
              case rel => exact ⟨k + 1, by omega, by go_num, by rw [HY.out]; exact hO6, hb6⟩
              case measure => simp [intOf]; omega
            · have HY := Lib.hid (wiUpto_no hx hle)
              clear hx hc0
              go_wp2_with (fail)
              refine calls_named ?_
              intro W1 hW1
              have hbW : Below w.heap.size w W1 := by rw [hW1]; exact below_alloc hb _
              have hO1 := hO.at_ hW1
              clear hW1 t0 t1 t2 t3 t4
              refine (starDistance_any x r d W1 (hS.of_below hbW) ax.1 ax.2 aD.1 aD.2).mono ?_
              rintro e w4 ⟨rfl, hb4⟩
              rw [show sepI (dirV r d) x.dir = apartI x r d from rfl]
              have hO4 := hO1.below hb4
              have hb5 := below_step hbW hb4
              go_wp2_with (fail)
              go_roundw
              case rel => exact ⟨k + 1, by omega, by go_num, by rw [HY.out]; exact hO4, hb5⟩
              case measure => simp [intOf]; omega
          · obtain rfl : k = n := by omega
            go_wp2
            go_ret2
            rw [HL.out] at HO
            refine ⟨_, ?_, by rw [HO.out]; exact hO, hb⟩
            rw [HO.out]; rfl
end Go.Proofs.YtpnfhienffekoaaGreatDoor
