/- Contracts of the functions on the star nearest to a direction. -/
import Derived.Test.YtoddkojbeoifkaaDoorFar
import Derived.Test.YtoddkojbeoifkaaDoorHor
namespace Go.Proofs.YtoddkojbeoifkaaDoor
set_option linter.unusedVariables false
set_option linter.unusedSimpArgs false
open Go.RowKit
attribute [local go_sem ↓] Go.wp_at_zero Go.wp_at_succ
/-- the distance of a star from a direction -/
def apartI (x : Sta) (r d : Int) : Int := sepI (dirV r d) x.dir
/-- the nearest one of the first n + 1 stars, and its distance -/
def nearAt (l : List Sta) (r d : Int) : Nat → Int × Int
  | 0 => (0, match l[0]? with | some x => apartI x r d | none => 0)
  | k + 1 => match l[k + 1]? with
    | some x => if apartI x r d < (nearAt l r d k).2 then (((k : Int) + 1), apartI x r d) else nearAt l r d k
    | none => nearAt l r d k
theorem nearAt_zero {l : List Sta} {r d : Int} {x : Sta} (h : l[0]? = some x) : nearAt l r d 0 = (0, apartI x r d) := by simp [nearAt, h]
theorem nearAt_yes {l : List Sta} {r d : Int} {k : Nat} {x : Sta} (h : l[k + 1]? = some x) (hd : apartI x r d < (nearAt l r d k).2) : nearAt l r d (k + 1) = (((k : Int) + 1), apartI x r d) := by simp [nearAt, h, hd]
theorem nearAt_no {l : List Sta} {r d : Int} {k : Nat} {x : Sta} (h : l[k + 1]? = some x) (hd : ¬ apartI x r d < (nearAt l r d k).2) : nearAt l r d (k + 1) = nearAt l r d k := by simp [nearAt, h, hd]
/-- what NearestStar answers -/
def nearO (l : List Sta) (r d : Int) : Int × Int × Int := if vStars l then (if vDir r d then (if l.length = 0 then (0, 0, 3) else ((nearAt l r d (l.length - 1)).1, (nearAt l r d (l.length - 1)).2, 0)) else (0, 0, 2)) else (0, 0, 1)
theorem nearO_no {l : List Sta} {r d : Int} (h : vStars l = false) : nearO l r d = (0, 0, 1) := by simp [nearO, h]
theorem nearO_range {l : List Sta} {r d : Int} (h : vStars l = true) (h2 : vDir r d = false) : nearO l r d = (0, 0, 2) := by simp [nearO, h, h2]
theorem nearO_nil {l : List Sta} {r d : Int} (h : vStars l = true) (h2 : vDir r d = true) (h0 : l.length = 0) : nearO l r d = (0, 0, 3) := by simp [nearO, h, h2, h0]
theorem nearO_yes {l : List Sta} {r d : Int} (h : vStars l = true) (h2 : vDir r d = true) (h0 : l.length ≠ 0) : nearO l r d = ((nearAt l r d (l.length - 1)).1, (nearAt l r d (l.length - 1)).2, 0) := by rw [nearO, if_pos h, if_pos h2, if_neg h0]
theorem dir_ang {r d : Int} (h : vDir r d = true) : AngOk r ∧ AngOk d := by
  have := vDir_bd h; unfold AngOk; omega
set_option maxHeartbeats 1000000 in
theorem sDirectionOf_any (r d : Int) (w : World) (hr : AngOk r) (hd : -90000 ≤ d ∧ d ≤ 90000) :
    Calls Tryd.prog 124 #[.int .i64 r, .int .i64 d] w fun e w' => e = .returned (.tuple #[.agg #[.int .i64 (dirV r d).x, .int .i64 (dirV r d).y, .int .i64 (dirV r d).z], .int .i64 0]) ∧ Below w.heap.size w w' := by
  have h : inB d (-90000) 90000 = true := (inB_iff _ _ _).2 hd
  have C1 : Hid (∀ W, Calls Tryd.prog 54 #[.int .i64 r, .int .i64 d] W fun e w' => e = .returned (.agg #[.int .i64 (dirV r d).x, .int .i64 (dirV r d).y, .int .i64 (dirV r d).z]) ∧ Below W.heap.size W w') := fun W => l04Direction_any r d W hr ⟨by omega, by omega⟩
  generalize dirV r d = v at *
  clear hr
  go_enter Tryd.func124, Tryd.ntmps124
  go_wp2_with (fail)
  refine calls_named ?_
  intro W1 hW1
  have hbW : Below w.heap.size w W1 := by rw [hW1]; exact (by repeat (first | exact Below.refl _ _ | refine below_alloc ?_ _ | refine below_drewN0 ?_ _ | refine below_drew0 ?_ | refine below_step ?_ (by assumption) | refine below_later ?_ _ | refine below_setCell0 ?_ (by first | exact Nat.le_refl _ | (simp; done) | omega | (simp; omega)) _))
  have hlt : w.heap.size < W1.heap.size := by rw [hW1]; simp
  have e0 : W1.cell? ⟨w.heap.size, 0, none⟩ = some (.int .i64 0) := by rw [hW1]; simp
  have e1 : W1.cell? ⟨w.heap.size, 1, none⟩ = some (.int .i64 0) := by rw [hW1]; simp
  have e2 : W1.cell? ⟨w.heap.size, 2, none⟩ = some (.int .i64 0) := by rw [hW1]; simp
  have f0 : W1.frozen? ⟨w.heap.size, 0, none⟩ = false := by rw [hW1]; simp [go_sem]
  have f1 : W1.frozen? ⟨w.heap.size, 1, none⟩ = false := by rw [hW1]; simp [go_sem]
  have f2 : W1.frozen? ⟨w.heap.size, 2, none⟩ = false := by rw [hW1]; simp [go_sem]
  clear hW1
  (refine later_intro ?_; intro y)
  go_wp2_with (first | (go_at_call 71; refine (later_same (l00In_any _ _ _ _)).mono ?_; rintro e w' ⟨rfl, y, rfl⟩) | (go_at_call 54; refine (later_below (C1.out _)).mono ?_; rintro e w' ⟨rfl, y, rfl⟩))
  exact bodyPost_ret (v := .tuple #[.agg #[.int .i64 v.x, .int .i64 v.y, .int .i64 v.z], .int .i64 0]) (by simp [results, Tryd.results124, go_sem, hlt, e0, e1, e2]) rfl ⟨rfl, below_setCell0 (below_setCell0 (below_setCell0 (below_later hbW _) (Nat.le_refl _) _) (Nat.le_refl _) _) (Nat.le_refl _) _⟩
set_option maxHeartbeats 1000000 in
theorem sSeparation_any (a b : V3) (w : World) (ha : a.sm) (hb : b.sm) :
    Calls Tryd.prog 125 #[.agg #[.int .i64 a.x, .int .i64 a.y, .int .i64 a.z], .agg #[.int .i64 b.x, .int .i64 b.y, .int .i64 b.z]] w fun e w' => e = .returned (.tuple #[.int .i64 (sepO a b).1, .int .i64 (sepO a b).2]) ∧ Below w.heap.size w w' := by
  have va : vVec a.x a.y a.z = true := by obtain ⟨h1, h2, h3⟩ := ha.md; exact vVec_ok h1 h2 h3
  have vb : vVec b.x b.y b.z = true := by obtain ⟨h1, h2, h3⟩ := hb.md; exact vVec_ok h1 h2 h3
  have HC : Hid (∀ W, Calls Tryd.prog 122 #[.agg #[.int .i64 a.x, .int .i64 a.y, .int .i64 a.z], .agg #[.int .i64 b.x, .int .i64 b.y, .int .i64 b.z]] W fun e w' => e = .returned (.tuple #[.int .i64 (sepI a b), .bool (sepOk a b)]) ∧ Below W.heap.size W w') := fun W => l04Away_any a b W ha hb
  cases hk : sepOk a b with
  | false =>
    have HO : Hid (sepO a b = (0, 6)) := by show _ = _; rw [sepO, hk]; rfl
    rw [hk] at HC
    clear hk ha hb
    go_enter Tryd.func125, Tryd.ntmps125
    go_wp2_with (fail)
    (refine later_intro ?_; intro y)
    go_wp2_with (first | (go_at_call 56; refine (later_below (l04Ok_any _ _ _ _)).mono ?_; rintro e w' ⟨rfl, y, rfl⟩) | (go_at_call 122; refine (later_below (HC.out _)).mono ?_; rintro e w' ⟨rfl, y, rfl⟩))
    go_ret2
    exact ⟨by rw [HO.out]; rfl, (by repeat (first | exact Below.refl _ _ | refine below_alloc ?_ _ | refine below_drewN0 ?_ _ | refine below_drew0 ?_ | refine below_step ?_ (by assumption) | refine below_later ?_ _ | refine below_setCell0 ?_ (by first | exact Nat.le_refl _ | (simp; done) | omega | (simp; omega)) _))⟩
  | true =>
    have HO : Hid (sepO a b = (sepI a b, 0)) := by show _ = _; rw [sepO, sepI, hk]; rfl
    rw [hk] at HC
    clear hk ha hb
    generalize sepI a b = z at *
    go_enter Tryd.func125, Tryd.ntmps125
    go_wp2_with (fail)
    (refine later_intro ?_; intro y)
    go_wp2_with (first | (go_at_call 56; refine (later_below (l04Ok_any _ _ _ _)).mono ?_; rintro e w' ⟨rfl, y, rfl⟩) | (go_at_call 122; refine (later_below (HC.out _)).mono ?_; rintro e w' ⟨rfl, y, rfl⟩))
    go_ret2
    exact ⟨by rw [HO.out]; rfl, (by repeat (first | exact Below.refl _ _ | refine below_alloc ?_ _ | refine below_drewN0 ?_ _ | refine below_drew0 ?_ | refine below_step ?_ (by assumption) | refine below_later ?_ _ | refine below_setCell0 ?_ (by first | exact Nat.le_refl _ | (simp; done) | omega | (simp; omega)) _))⟩
set_option maxHeartbeats 4000000 in
theorem l05Apart_any (b o : Nat) (x : Sta) (r d : Int) (w : World) (hx : StaAt w b o x) (h1 : x.ok = true) (h2 : vDir r d = true) :
    Calls Tryd.prog 78 #[.pointer (some ⟨b, o, none⟩), .int .i64 r, .int .i64 d] w fun e w' => e = .returned (.int .i64 (apartI x r d)) ∧ Below w.heap.size w w' := by
  have l0 := hx.lt
  obtain ⟨_, c1, c2, _, _⟩ := hx
  have h3 := ok_dir h1
  have h4 := ok_ang h1
  have h5 := dir_ang h2
  have h6 := vDir_bd h2
  have HO : Hid ((sepO x.dir (dirV r d)).1 = apartI x r d) := by show _ = _; rw [sepO_fst]; exact (sepI_swap _ _).symm
  have C1 : Hid (∀ W, Calls Tryd.prog 124 #[.int .i64 x.ri, .int .i64 x.de] W fun e w' => e = .returned (.tuple #[.agg #[.int .i64 x.dir.x, .int .i64 x.dir.y, .int .i64 x.dir.z], .int .i64 0]) ∧ Below W.heap.size W w') := fun W => sDirectionOf_any x.ri x.de W h4.1 h3.2.2
  have C2 : Hid (∀ W, Calls Tryd.prog 124 #[.int .i64 r, .int .i64 d] W fun e w' => e = .returned (.tuple #[.agg #[.int .i64 (dirV r d).x, .int .i64 (dirV r d).y, .int .i64 (dirV r d).z], .int .i64 0]) ∧ Below W.heap.size W w') := fun W => sDirectionOf_any r d W h5.1 h6.2.2
  have C3 : Hid (∀ W, Calls Tryd.prog 125 #[.agg #[.int .i64 x.dir.x, .int .i64 x.dir.y, .int .i64 x.dir.z], .agg #[.int .i64 (dirV r d).x, .int .i64 (dirV r d).y, .int .i64 (dirV r d).z]] W fun e w' => e = .returned (.tuple #[.int .i64 (sepO x.dir (dirV r d)).1, .int .i64 (sepO x.dir (dirV r d)).2]) ∧ Below W.heap.size W w') := fun W => sSeparation_any _ _ W (dirV_sm _ _) (dirV_sm _ _)
  generalize apartI x r d = z at *
  generalize dirV r d = a at *
  generalize x.dir = q at *
  generalize (sepO q a).1 = z1 at *
  generalize (sepO q a).2 = z2 at *
  clear h1 h2 h3 h4 h5 h6
  go_enter Tryd.func78, Tryd.ntmps78
  go_wp2_with (fail)
  go_region_held3 (fun w' => w'.cell? ⟨b, o + 1, none⟩ = some (.int .i64 x.ri) ∧ w'.cell? ⟨b, o + 2, none⟩ = some (.int .i64 x.de) ∧ Below w.heap.size w w')
    ((refine ⟨?_, ?_, ?_⟩ <;> (first | (with_reducible (repeat (first | assumption | refine Later.held _ ?_ | refine held_alloc _ ?_ | refine held_drew ?_ | refine held_set trivial (by first | exact Nat.ne_of_gt l0 | exact Nat.ne_of_gt (lt_later_drew l0 _)) ?_)); done) | ((repeat (first | assumption | exact (And.right (And.right (by assumption))) | exact Below.refl _ _ | refine below_later ?_ _ | refine below_alloc ?_ _ | refine below_drew0 ?_ | refine below_setCell0 ?_ (by repeat (first | exact Nat.le_refl _ | refine Nat.le_trans ?_ (below_size (Later.below _)))) _)); done))))
    (first | (go_at_call 124; refine later_intro ?_; intro y; refine (later_below (C1.out _)).mono ?_; rintro e w' ⟨rfl, y, rfl⟩))
  all_goals (first | refine box_new ?_ | refine box_set (by first | exact later_some (by simp [go_sem]) | exact later_some (later_some (by simp [go_sem]))) (by first | exact later_some (by simp [go_sem]) | exact later_some (later_some (by simp [go_sem]))) (by first | exact later_some (by simp [go_sem]) | exact later_some (later_some (by simp [go_sem]))) ?_)
  all_goals (intro W3 b0 b1 b2 hW3)
  all_goals
    have hb3 : Below w.heap.size w W3 := by
      rw [hW3]
      first
        | exact And.right (And.right (by assumption))
        | exact below_alloc (And.right (And.right (by assumption))) _
        | exact below_setCell0 (below_setCell0 (below_setCell0 (And.right (And.right (by assumption))) (by repeat (first | exact Nat.le_refl _ | refine Nat.le_trans ?_ (below_size (Later.below _)))) _) (by repeat (first | exact Nat.le_refl _ | refine Nat.le_trans ?_ (below_size (Later.below _)))) _) (by repeat (first | exact Nat.le_refl _ | refine Nat.le_trans ?_ (below_size (Later.below _)))) _
    clear hW3
    have hg := World.block_lt_of_cell? W3 _ b0
    dsimp only at hg
    go_wp2_with (fail)
    (refine later_intro ?_; intro y)
    (go_at_call 124; refine (later_below (C2.out _)).mono ?_; rintro e w' ⟨rfl, y, rfl⟩)
    rename Later W3 => y2
    have a0' := (Later.cell y2 hg).trans b0
    have a1' := (Later.cell y2 hg).trans b1
    have a2' := (Later.cell y2 hg).trans b2
    have hg2 := Nat.lt_of_lt_of_le hg (below_size y2.below)
    have hne := Nat.ne_of_lt hg2
    go_wp2_with (refine (C3.out _).mono ?_; rintro e w9 ⟨rfl, hb9⟩)
    go_ret
    exact ⟨ret_int (by rw [← HO.out]), below_step (below_alloc (below_later hb3 _) _) hb9⟩
set_option maxHeartbeats 4000000 in
theorem NearestStar_any (A : Option Addr) (n c : Nat) (l : List Sta) (r d : Int) (w : World) (hS : SinOk w) (hl : l.length = n) (hn : n ≤ 9223372036854775807) (hA : Stars w A l) :
    Calls Tryd.prog 27 #[.slice A n c, .int .i64 r, .int .i64 d] w fun e w' => e = .returned (.tuple #[.int .i64 (nearO l r d).1, .int .i64 (nearO l r d).2.1, .int .i64 (nearO l r d).2.2]) ∧ Below w.heap.size w w' := by
  have HL := Lib.hid hl; clear hl
  have V : Hid (∀ W (A : Option Addr), Stars W A l → Calls Tryd.prog 74 #[.slice A n c] W fun e w' => e = .returned (.bool (vStars l)) ∧ Below W.heap.size W w') := fun W A hW => ValidStars_any A n c l W HL.out hn hW
  cases hv : vStars l with
  | false =>
    have HO := Lib.hid (nearO_no (r := r) (d := d) hv)
    rw [hv] at V
    clear hv
    go_enter Tryd.func27, Tryd.ntmps27
    go_wp2_with (refine (V.out _ _ hA).mono ?_; rintro e w1 ⟨rfl, hb1⟩)
    go_ret3
    exact ⟨by rw [HO.out]; rfl, hb1⟩
  | true =>
    have h24 : n ≤ 24 := by have := vStars_len hv; have := HL.out; omega
    rw [hv] at V
    cases hd : vDir r d with
    | false =>
      have HO := Lib.hid (nearO_range hv hd)
      clear hv
      go_enter Tryd.func27, Tryd.ntmps27
      go_wp2_with (first | (refine (V.out _ _ hA).mono ?_; rintro e w1 ⟨rfl, hb1⟩) | (go_at_call 61; refine (validDirection_any _ _ _).mono ?_; rintro e w' ⟨rfl, rfl⟩))
      go_ret3
      exact ⟨by rw [HO.out]; rfl, hb1⟩
    | true =>
      by_cases hz : n = 0
      · have HO := Lib.hid (nearO_nil hv hd (by have := HL.out; omega))
        subst hz
        go_enter Tryd.func27, Tryd.ntmps27
        go_wp2_with (first | (refine (V.out _ _ hA).mono ?_; rintro e w1 ⟨rfl, hb1⟩) | (go_at_call 61; refine (validDirection_any _ _ _).mono ?_; rintro e w' ⟨rfl, rfl⟩))
        go_ret3
        exact ⟨by rw [HO.out]; rfl, hb1⟩
      · have HO := Lib.hid (nearO_yes hv hd (by have := HL.out; omega))
        have hz' : ((n : Int) == 0) = false := by simp; omega
        obtain ⟨x0, hx0⟩ := at_lt (l := l) (k := 0) (by have := HL.out; omega)
        obtain ⟨b0, o0, rfl, hc0⟩ := hA (by have := HL.out; omega)
        have s0 := hc0 0 x0 hx0
        simp only [Nat.zero_mul, Nat.add_zero] at s0
        have v0 := vStars_ok hv hx0
        have a0 := ok_ang v0
        have aD := dir_ang hd
        have HN0 := Lib.hid (nearAt_zero (r := r) (d := d) hx0)
        have HX0 := Lib.hid hx0; clear hx0
        have HV := Lib.hid hv; clear hv
        have hn0 : (0 : Int) < n := by omega
        go_enter Tryd.func27, Tryd.ntmps27
        go_wp2_with (first | (refine (V.out _ _ hA).mono ?_; rintro e w1 ⟨rfl, hb1⟩; obtain ⟨t0, t1, t2, t3, t4⟩ := s0.below hb1) | (go_at_call 61; refine (validDirection_any _ _ _).mono ?_; rintro e w' ⟨rfl, rfl⟩))
        refine (starDistance_any x0 r d _ (hS.of_below hb1) a0.1 a0.2 aD.1 aD.2).mono ?_
        rintro e w2 ⟨rfl, hb2⟩
        clear t0 t1 t2 t3 t4
        have hbb := below_step hb1 hb2
        go_wp2_with (fail)
        go_loopw [9, 10, 11, 12] (fun u v i q wr => ∃ (k : Nat) (z1 z2 : Int), k < n ∧ i = .int .i64 ((k : Int) + 1) ∧ u = .int .i64 z1 ∧ v = .int .i64 z2 ∧ nearAt l r d k = (z1, z2) ∧ Below w.heap.size w wr) (fun _ _ i _ _ => n - (intOf i).toNat)
        case atStart => exact ⟨0, 0, apartI x0 r d, by omega, rfl, rfl, rfl, HN0.out, hbb⟩
        case round =>
          obtain ⟨k, z1, z2, hk, rfl, rfl, rfl, hN, hb⟩ := hrel
          have HN := Lib.hid hN; clear hN
          by_cases hlt : k + 1 < n
          · obtain ⟨x, hx⟩ := at_lt (l := l) (k := k + 1) (by have := HL.out; omega)
            have s1 := hc0.below (hb1.mono (Nat.le_refl _)) (k + 1) x hx
            have hbc : Below w1.heap.size w1 w1 := Below.refl _ _
            have s2 := (hc0 (k + 1) x hx).below hb
            have vx := vStars_ok HV.out hx
            have ax := ok_ang vx
            have HX := Lib.hid hx; clear hx
            have hk1 : ((k : Int) + 1) < n := by omega
            have l1 := s2.lt
            obtain ⟨u0, u1, u2, u3, u4⟩ := s2
            clear s1 hbc
            have HY : Hid (apartI x r d < z2 → nearAt l r d (k + 1) = (((k : Int) + 1), apartI x r d)) := fun h => nearAt_yes HX.out (by rw [HN.out]; exact h)
            have HY2 : Hid (¬ apartI x r d < z2 → nearAt l r d (k + 1) = (z1, z2)) := fun h => (nearAt_no HX.out (by rw [HN.out]; exact h)).trans HN.out
            by_cases hlt2 : apartI x r d < z2
            · go_wp2_with (refine (starDistance_any x r d _ (hS.of_below hb) ax.1 ax.2 aD.1 aD.2).mono ?_; rintro e w4 ⟨rfl, hb4⟩; rw [show sepI (dirV r d) x.dir = apartI x r d from rfl])
              go_roundw
              case rel => exact ⟨k + 1, _, _, by omega, by go_num, by go_num, rfl, HY.out hlt2, below_step hb hb4⟩
              case measure => simp [intOf]; omega
            · go_wp2_with (refine (starDistance_any x r d _ (hS.of_below hb) ax.1 ax.2 aD.1 aD.2).mono ?_; rintro e w4 ⟨rfl, hb4⟩; rw [show sepI (dirV r d) x.dir = apartI x r d from rfl])
              go_roundw
              case rel => exact ⟨k + 1, _, _, by omega, by go_num, rfl, rfl, HY2.out hlt2, below_step hb hb4⟩
              case measure => simp [intOf]; omega
          · have hk2 : l.length - 1 = k := by have := HL.out; omega
            rw [hk2, HN.out] at HO
            clear hk2
            go_wp2
            go_ret3
            exact ⟨by rw [HO.out]; rfl, hb⟩
set_option maxHeartbeats 4000000 in
theorem sNearestStar_any (A : Option Addr) (n c : Nat) (l : List Sta) (r d : Int) (w : World) (hl : l.length = n) (hn : n ≤ 9223372036854775807) (hA : Stars w A l) :
    Calls Tryd.prog 26 #[.slice A n c, .int .i64 r, .int .i64 d] w fun e w' => e = .returned (.tuple #[.int .i64 (nearO l r d).1, .int .i64 (nearO l r d).2.1, .int .i64 (nearO l r d).2.2]) ∧ Below w.heap.size w w' := by
  have HL := Lib.hid hl; clear hl
  have V : Hid (∀ W (A : Option Addr), Stars W A l → Calls Tryd.prog 70 #[.slice A n c] W fun e w' => e = .returned (.bool (vStars l)) ∧ Below W.heap.size W w') := fun W A hW => l05Ok_any A n c l W HL.out hn hW
  cases hv : vStars l with
  | false =>
    have HO := Lib.hid (nearO_no (r := r) (d := d) hv)
    rw [hv] at V
    clear hv
    go_enter Tryd.func26, Tryd.ntmps26
    go_wp2_with (refine (V.out _ _ hA).mono ?_; rintro e w1 ⟨rfl, hb1⟩)
    go_ret3
    exact ⟨by rw [HO.out]; rfl, hb1⟩
  | true =>
    have h24 : n ≤ 24 := by have := vStars_len hv; have := HL.out; omega
    rw [hv] at V
    cases hd : vDir r d with
    | false =>
      have HO := Lib.hid (nearO_range hv hd)
      clear hv
      go_enter Tryd.func26, Tryd.ntmps26
      go_wp2_with (first | (refine (V.out _ _ hA).mono ?_; rintro e w1 ⟨rfl, hb1⟩) | (go_at_call 77; refine (l05Direction_any _ _ _).mono ?_; rintro e w' ⟨rfl, rfl⟩))
      go_ret3
      exact ⟨by rw [HO.out]; rfl, hb1⟩
    | true =>
      by_cases hz : n = 0
      · have HO := Lib.hid (nearO_nil hv hd (by have := HL.out; omega))
        subst hz
        go_enter Tryd.func26, Tryd.ntmps26
        go_wp2_with (first | (refine (V.out _ _ hA).mono ?_; rintro e w1 ⟨rfl, hb1⟩) | (go_at_call 77; refine (l05Direction_any _ _ _).mono ?_; rintro e w' ⟨rfl, rfl⟩))
        go_ret3
        exact ⟨by rw [HO.out]; rfl, hb1⟩
      · have HO := Lib.hid (nearO_yes hv hd (by have := HL.out; omega))
        have hz' : ((n : Int) == 0) = false := by simp; omega
        obtain ⟨x0, hx0⟩ := at_lt (l := l) (k := 0) (by have := HL.out; omega)
        obtain ⟨b0, o0, rfl, hc0⟩ := hA (by have := HL.out; omega)
        have s0 := hc0 0 x0 hx0
        simp only [Nat.zero_mul, Nat.add_zero] at s0
        have v0 := vStars_ok hv hx0
        have a0 := ok_ang v0
        have aD := dir_ang hd
        have HN0 := Lib.hid (nearAt_zero (r := r) (d := d) hx0)
        have HX0 := Lib.hid hx0; clear hx0
        have HV := Lib.hid hv; clear hv
        have hn0 : (0 : Int) < n := by omega
        go_enter Tryd.func26, Tryd.ntmps26
        go_wp2_with (first | (refine (V.out _ _ hA).mono ?_; rintro e w1 ⟨rfl, hb1⟩; obtain ⟨t0, t1, t2, t3, t4⟩ := s0.below hb1) | (go_at_call 77; refine (l05Direction_any _ _ _).mono ?_; rintro e w' ⟨rfl, rfl⟩))
        refine (l05Apart_any b0 o0 x0 r d _ (s0.below hb1) v0 hd).mono ?_
        rintro e w2 ⟨rfl, hb2⟩
        clear t0 t1 t2 t3 t4
        have hbb := below_step hb1 hb2
        go_wp2_with (fail)
        go_loopw [9, 10, 11, 12] (fun u v i q wr => ∃ (k : Nat) (z1 z2 : Int), k < n ∧ i = .int .i64 ((k : Int) + 1) ∧ u = .int .i64 z1 ∧ v = .int .i64 z2 ∧ nearAt l r d k = (z1, z2) ∧ Below w.heap.size w wr) (fun _ _ i _ _ => n - (intOf i).toNat)
        case atStart => exact ⟨0, 0, apartI x0 r d, by omega, rfl, rfl, rfl, HN0.out, hbb⟩
        case round =>
          obtain ⟨k, z1, z2, hk, rfl, rfl, rfl, hN, hb⟩ := hrel
          have HN := Lib.hid hN; clear hN
          by_cases hlt : k + 1 < n
          · obtain ⟨x, hx⟩ := at_lt (l := l) (k := k + 1) (by have := HL.out; omega)
            have s1 := hc0.below (hb1.mono (Nat.le_refl _)) (k + 1) x hx
            have hbc : Below w1.heap.size w1 w1 := Below.refl _ _
            have s2 := (hc0 (k + 1) x hx).below hb
            have vx := vStars_ok HV.out hx
            have ax := ok_ang vx
            have HX := Lib.hid hx; clear hx
            have hk1 : ((k : Int) + 1) < n := by omega
            have l1 := s2.lt
            clear s1 hbc
            have HY : Hid (apartI x r d < z2 → nearAt l r d (k + 1) = (((k : Int) + 1), apartI x r d)) := fun h => nearAt_yes HX.out (by rw [HN.out]; exact h)
            have HY2 : Hid (¬ apartI x r d < z2 → nearAt l r d (k + 1) = (z1, z2)) := fun h => (nearAt_no HX.out (by rw [HN.out]; exact h)).trans HN.out
            by_cases hlt2 : apartI x r d < z2
            · go_wp2_with (refine (l05Apart_any _ _ x r d _ s2 vx hd).mono ?_; rintro e w4 ⟨rfl, hb4⟩)
              go_roundw
              case rel => exact ⟨k + 1, _, _, by omega, by go_num, by go_num, rfl, HY.out hlt2, below_step hb hb4⟩
              case measure => simp [intOf]; omega
            · go_wp2_with (refine (l05Apart_any _ _ x r d _ s2 vx hd).mono ?_; rintro e w4 ⟨rfl, hb4⟩)
              go_roundw
              case rel => exact ⟨k + 1, _, _, by omega, by go_num, rfl, rfl, HY2.out hlt2, below_step hb hb4⟩
              case measure => simp [intOf]; omega
          · have hk2 : l.length - 1 = k := by have := HL.out; omega
            rw [hk2, HN.out] at HO
            clear hk2
            go_wp2
            go_ret3
            exact ⟨by rw [HO.out]; rfl, hb⟩
end Go.Proofs.YtoddkojbeoifkaaDoor
