/- Contracts of the functions on a figure's centre: the program's. -/
import Derived.Test.YtpnfhienffekoaaGreatDoorMgC
import Derived.Test.YtpnfhienffekoaaGreatDoorMgI
import Derived.Deep.RegionHeld3
namespace Go.Proofs.YtpnfhienffekoaaGreatDoor
set_option linter.unusedVariables false
set_option linter.unusedSimpArgs false
open Go.RowKit
attribute [local go_sem ↓] Go.wp_at_zero Go.wp_at_succ
attribute [local go_sem] drew_size Later.lt_size Later.lt_size1
/-- a vector in memory, that may be changed -/
structure VecAt (w : World) (g : Nat) (x y z : Int) : Prop where
  c0 : w.cell? ⟨g, 0, none⟩ = some (.int .i64 x)
  c1 : w.cell? ⟨g, 1, none⟩ = some (.int .i64 y)
  c2 : w.cell? ⟨g, 2, none⟩ = some (.int .i64 z)
  f0 : w.frozen? ⟨g, 0, none⟩ = false
  f1 : w.frozen? ⟨g, 1, none⟩ = false
  f2 : w.frozen? ⟨g, 2, none⟩ = false
theorem VecAt.lt {w : World} {g : Nat} {x y z : Int} (h : VecAt w g x y z) : g < w.heap.size := World.block_lt_of_cell? w _ h.c0
theorem VecAt.keep {w w' : World} {g : Nat} {x y z : Int} (h : VecAt w g x y z) (hb : Below w.heap.size w w') : VecAt w' g x y z := by
  have l := h.lt
  exact ⟨(hb.cell (p := ⟨g, 0, none⟩) l).trans h.c0, (hb.cell (p := ⟨g, 1, none⟩) l).trans h.c1, (hb.cell (p := ⟨g, 2, none⟩) l).trans h.c2, (hb.frozen (p := ⟨g, 0, none⟩) l).trans h.f0, (hb.frozen (p := ⟨g, 1, none⟩) l).trans h.f1, (hb.frozen (p := ⟨g, 2, none⟩) l).trans h.f2⟩
theorem VecAt.new (w : World) (t : TypeId) (x y z : Int) : VecAt (w.alloc (.cells #[.int .i64 x, .int .i64 y, .int .i64 z] t)) w.heap.size x y z := by
  constructor <;> simp [go_sem]
theorem VecAt.set {w w' : World} {g : Nat} {x y z x' y' z' : Int} (h : VecAt w g x y z) (e : w' = ((w.setCell ⟨g, 0, none⟩ (.int .i64 x')).setCell ⟨g, 1, none⟩ (.int .i64 y')).setCell ⟨g, 2, none⟩ (.int .i64 z')) : VecAt w' g x' y' z' := by
  subst e
  obtain ⟨h0, h1, h2, h3, h4, h5⟩ := h
  constructor <;> simp [go_sem, h0, h1, h2, h3, h4, h5]
theorem within_yesC (a b c : Int) (w : World) (h : inB a b c = true) : Calls Tryz.prog 79 #[.int .i64 a, .int .i64 b, .int .i64 c] w fun e w' => e = .returned (.bool true) ∧ w = w' :=
  (within_any a b c w).mono (fun e w' h2 => ⟨h2.1.trans (by rw [h]), h2.2⟩)
set_option maxHeartbeats 400000 in
theorem DivRound_any (a b : Int) (w : World) (h1 : -1000000000000 ≤ a ∧ a ≤ 1000000000000) (h2 : 0 < b ∧ b ≤ 1000000000000) :
    Calls Tryz.prog 90 #[.int .i64 a, .int .i64 b] w fun e w' => e = .returned (.int .i64 (rnd a b)) ∧ ∃ n, w' = w.drewN n := by
  have hb : ¬ b = 0 := by omega
  go_enter Tryz.func90, Tryz.ntmps90
  go_wp2_with (first | (go_at_call 79; refine (within_yesC _ _ _ _ (by rw [inB_iff]; omega)).mono ?_; rintro e w' ⟨rfl, rfl⟩) | (go_at_call 50; refine (nearest_any a b _ (by omega) (by omega) h2.1 (by omega)).mono ?_; rintro e w' ⟨rfl, nd, rfl⟩))
  go_ret
  exact ⟨rfl, nd, rfl⟩
set_option maxRecDepth 100000 in
set_option maxHeartbeats 8000000 in
theorem FigureCentre_any (nm : ByteArray) (B : Option Addr) (p q : Nat) (L : List (List Int)) (A : Option Addr) (n c : Nat) (l : List Sta) (w : World) (hSin : SinOk w) (hp : L.length = p) (hp2 : p ≤ 9223372036854775807) (hB : Lists w B L) (hl : l.length = n) (hn : n ≤ 9223372036854775807) (hS : Stars w A l) :
    Calls Tryz.prog 38 #[.agg #[.string nm, .slice B p q], .slice A n c] w fun e w' => e = .returned (.tuple #[.int .i64 (centO nm L l).1, .int .i64 (centO nm L l).2.1, .int .i64 (centO nm L l).2.2]) ∧ Below w.heap.size w w' := by
  have hb0 : Below w.heap.size w (w.alloc (.cells #[.string nm, .slice B p q] 63)) := below_alloc (Below.refl _ _) _
  have hX0 : Blk (w.alloc (.cells #[.string nm, .slice B p q] 63)) w.heap.size 63 (figCells nm B p q) := Blk.new _ _ _
  have C := Lib.hid (ValidFigure_any nm B p q L A n c l _ hp hp2 (hB.below hb0) hl hn (hS.below hb0))
  have HP := Lib.hid hp; clear hp
  have HL := Lib.hid hl; clear hl
  cases hv : vFig nm L l with
  | false =>
    have HO := Lib.hid (centO_no hv)
    rw [hv] at C
    clear hv hB
    go_enter Tryz.func38, Tryz.ntmps38
    go_wp2_with (refine C.out.mono ?_; rintro e w1 ⟨rfl, hb1⟩)
    go_ret3
    exact ⟨by rw [HO.out]; rfl, below_step hb0 hb1⟩
  | true =>
    have HO : Hid ((setI (endsL L)).length = 0 → centO nm L l = (0, 0, 6)) := Lib.hid (centO_none hv)
    have HO2 : Hid (¬ (setI (endsL L)).length = 0 → centO nm L l = anglesO (meanV l (setI (endsL L)))) := Lib.hid (centO_yes hv)
    have HV := Lib.hid (vFig_lines hv)
    have HVS := Lib.hid (vFig_stars hv)
    have h24 : n ≤ 24 := by have := vStars_len HVS.out; have := HL.out; omega
    rw [hv] at C
    clear hv
    have hlen := ends_len HV.out
    have HEA : Hid (∀ (k2 : Nat) (x : Int), (setI (endsL L))[k2]? = some x → 0 ≤ x ∧ x < (n : Int)) := Lib.hid (fun k2 x hx => by rw [← HL.out]; exact ends_at2 HV.out hx)
    by_cases hz : (setI (endsL L)).length = 0
    · have HO3 := Lib.hid (HO.out hz)
      clear HO HO2
      go_enter Tryz.func38, Tryz.ntmps38
      go_wp2_with (first | (go_at_call 84; refine C.out.mono ?_; rintro e w1 ⟨rfl, hb1⟩; have hX1 := (hX0.keep hb1).fig; obtain ⟨x0, x1⟩ := hX1; have hB1 := (hB.below hb0).below hb1) | (go_at_call 86; refine (endsOf_any _ nm B p q L _ HP.out HV.out hB1).mono ?_; rintro e w2 ⟨v2, rfl, hO2, hb2⟩; obtain ⟨A2, c2, rfl, hI2, _, _, _, _⟩ := hO2.form2; rw [hz]))
      go_ret3
      exact ⟨by rw [HO3.out]; rfl, below_step (below_step hb0 hb1) hb2⟩
    · have HO3 := Lib.hid (HO2.out hz)
      have hzI : ((((setI (endsL L)).length : Nat) : Int) == 0) = false := by rw [beq_eq_false_iff_ne]; omega
      clear HO HO2
      go_enter Tryz.func38, Tryz.ntmps38
      go_wp2_with (first | (go_at_call 84; refine C.out.mono ?_; rintro e w1 ⟨rfl, hb1⟩; have hX1 := (hX0.keep hb1).fig; obtain ⟨x0, x1⟩ := hX1; have hB1 := (hB.below hb0).below hb1) | (go_at_call 86; refine (endsOf_any _ nm B p q L _ HP.out HV.out hB1).mono ?_; rintro e w2 ⟨v2, rfl, hO2, hb2⟩; obtain ⟨A2, c2, rfl, hI2, _, _, _, _⟩ := hO2.form2))
      have hbb := below_step (below_step hb0 hb1) hb2
      clear hb0 hX0 hb1 hb2 C x0 x1 hB1 hO2 hB
      generalize setI (endsL L) = E at *
      generalize hnE : E.length = ne at *
      have HNE := Lib.hid hnE
      clear hnE
      have hV0 := VecAt.new w2 116 0 0 0
      have hbv : Below w2.heap.size w2 (w2.alloc (.cells #[.int .i64 0, .int .i64 0, .int .i64 0] 116)) := below_alloc (Below.refl _ _) _
      go_loopw [10, 11, 24] (fun _ _ s wr => ∃ i : Nat, i ≤ ne ∧ s = .int .i64 (i : Int) ∧ VecAt wr w2.heap.size (cenX l E i) (cenY l E i) (cenZ l E i) ∧ Below w2.heap.size w2 wr) (fun _ _ s _ => ne - (intOf s).toNat)
      case atStart => exact ⟨0, by omega, rfl, hV0, hbv⟩
      case round =>
        clear hV0 hbv
        obtain ⟨i, hi, rfl, hV, hb⟩ := hrel
        by_cases hlt : i < ne
        · obtain ⟨u, hu⟩ := at_lt (l := E) (k := i) (by have := HNE.out; omega)
          obtain ⟨hu0, hu1⟩ := HEA.out i u hu
          obtain ⟨u, rfl⟩ : ∃ u' : Nat, u = u' := ⟨u.toNat, by omega⟩
          obtain ⟨sx, hsx⟩ := at_lt (l := l) (k := u) (by have := HL.out; omega)
          obtain ⟨⟨a1, a2⟩, a3, a4⟩ := ok_ang (vStars_ok HVS.out hsx)
          have HX : Hid (cenX l E (i + 1) = cenX l E i + dirX sx.ri sx.de ∧ cenY l E (i + 1) = cenY l E i + dirY sx.ri sx.de ∧ cenZ l E (i + 1) = cenZ l E i + dirZ sx.de) := Lib.hid (cen_at hu hsx)
          obtain ⟨⟨q1, q2⟩, ⟨q3, q4⟩, q5, q6⟩ := cen_bd l E i
          obtain ⟨p1, p2⟩ := dirX_bd sx.ri sx.de
          obtain ⟨p3, p4⟩ := dirY_bd sx.ri sx.de
          obtain ⟨p5, p6⟩ := dirZ_bd sx.de
          obtain ⟨b, o, rfl, hc⟩ := (hI2.below hb) (by have := HNE.out; omega)
          have c0 := hc i _ hu
          have l0 := World.block_lt_of_cell? wr _ c0
          dsimp only at l0
          obtain ⟨sb, so, rfl, hcs⟩ := ((hS.below hbb).below hb) (by have := HL.out; omega)
          obtain ⟨_, s1, s2, _, _⟩ := hcs u sx hsx
          have l1 := World.block_lt_of_cell? wr _ s1
          dsimp only at l1
          have hSr := (hSin.of_below hbb).of_below hb
          have CD : Hid (∀ W, SinOk W → Calls Tryz.prog 88 #[.int .i64 sx.ri, .int .i64 sx.de] W fun e w' => e = .returned (.agg #[.int .i64 (dirX sx.ri sx.de), .int .i64 (dirY sx.ri sx.de), .int .i64 (dirZ sx.de)]) ∧ Below W.heap.size W w') := Lib.hid (fun W hW => directionOf_any sx.ri sx.de W hW ⟨a1, a2⟩ ⟨a3, a4⟩)
          clear hc hu hsx hcs a1 a2 a3 a4
          generalize dirX sx.ri sx.de = dx at *
          generalize dirY sx.ri sx.de = dy at *
          generalize dirZ sx.de = dz at *
          generalize cenX l E i = X at *
          generalize cenY l E i = Y at *
          generalize cenZ l E i = Z at *
          have w1 : IntKind.i64.wrap (X + dx) = X + dx := wrap_in (by omega) (by omega)
          have w2 : IntKind.i64.wrap (Y + dy) = Y + dy := wrap_in (by omega) (by omega)
          have w3 : IntKind.i64.wrap (Z + dz) = Z + dz := wrap_in (by omega) (by omega)
          go_wp2_with (fail)
          clear c0 l0
          go_region_held3 (fun w' => w'.cell? ⟨sb, so + u * 5 + 1, none⟩ = some (.int .i64 sx.ri) ∧ w'.cell? ⟨sb, so + u * 5 + 2, none⟩ = some (.int .i64 sx.de) ∧ Below wr.heap.size wr w')
            ((refine ⟨?_, ?_, ?_⟩ <;> (first | (with_reducible (repeat (first | assumption | refine Later.held _ ?_ | refine held_alloc _ ?_ | refine held_drew ?_ | refine held_set trivial (by first | exact Nat.ne_of_gt l1 | exact Nat.ne_of_gt (lt_later_drew l1 _)) ?_)); done) | ((repeat (first | assumption | exact (And.right (And.right (by assumption))) | exact Below.refl _ _ | refine below_later ?_ _ | refine below_alloc ?_ _ | refine below_drew0 ?_ | refine below_setCell0 ?_ (by repeat (first | exact Nat.le_refl _ | refine Nat.le_trans ?_ (below_size (Later.below _)))) _)); done))))
            (first | (go_at_call 88; refine later_intro ?_; intro y; refine (later_below (CD.out _ (by repeat (first | assumption | refine SinOk.later ?_ _ | refine SinOk.alloc ?_ _ | exact SinOk.drewN hSr 1)))).mono ?_; rintro e w' ⟨rfl, y, rfl⟩))
          all_goals (first | refine box_new ?_ | refine box_set (by first | exact later_some (by simp [go_sem]) | exact later_some (later_some (by simp [go_sem]))) (by first | exact later_some (by simp [go_sem]) | exact later_some (later_some (by simp [go_sem]))) (by first | exact later_some (by simp [go_sem]) | exact later_some (later_some (by simp [go_sem]))) ?_)
          all_goals (intro W3 b0 b1 b2 hW3)
          all_goals
            have hb3 : Below wr.heap.size wr W3 := by
              rw [hW3]
              first
                | exact And.right (And.right (by assumption))
                | exact below_alloc (And.right (And.right (by assumption))) _
                | exact below_setCell0 (below_setCell0 (below_setCell0 (And.right (And.right (by assumption))) (by repeat (first | exact Nat.le_refl _ | refine Nat.le_trans ?_ (below_size (Later.below _)))) _) (by repeat (first | exact Nat.le_refl _ | refine Nat.le_trans ?_ (below_size (Later.below _)))) _) (by repeat (first | exact Nat.le_refl _ | refine Nat.le_trans ?_ (below_size (Later.below _)))) _
            clear hW3
            have hg := World.block_lt_of_cell? W3 _ b0
            dsimp only at hg
            have hV3 := hV.keep hb3
            have hb4 := below_step hb hb3
            obtain ⟨v0, v1, v2, g0, g1, g2⟩ := id hV3
            have hVl := hV3.lt
            clear hV s1 s2 CD
            go_wp2_with (fail)
            go_roundw
            case rel => exact ⟨i + 1, by omega, by go_num, by rw [HX.out.1, HX.out.2.1, HX.out.2.2]; exact hV3.set rfl, below_setCell0 (below_setCell0 (below_setCell0 hb4 (Nat.le_refl _) _) (Nat.le_refl _) _) (Nat.le_refl _) _⟩
            case measure => simp [intOf]; omega
        · obtain rfl : i = ne := by omega
          have hSr := (hSin.of_below hbb).of_below hb
          have hm : meanV l E = ⟨rnd (cenX l E i) i, rnd (cenY l E i) i, rnd (cenZ l E i) i⟩ := by rw [meanV, HNE.out]
          have hmd := (meanV_sm (l := l) (E := E) (by have := HNE.out; omega)).md
          have CA : Hid (∀ W : Later wr, Calls Tryz.prog 89 #[.agg #[.int .i64 (rnd (cenX l E i) i), .int .i64 (rnd (cenY l E i) i), .int .i64 (rnd (cenZ l E i) i)]] W.w fun e w' => e = .returned (.tuple #[.int .i64 (anglesO (meanV l E)).1, .int .i64 (anglesO (meanV l E)).2.1, .int .i64 (anglesO (meanV l E)).2.2]) ∧ Below W.w.heap.size W.w w') := Lib.hid (fun W => by
            have := AnglesOf_any (meanV l E) W.w (hSr.later W) hmd
            rw [hm] at this ⊢
            exact this)
          obtain ⟨⟨q1, q2⟩, ⟨q3, q4⟩, q5, q6⟩ := cen_bd l E i
          clear hm hmd
          generalize cenX l E i = X at *
          generalize cenY l E i = Y at *
          generalize cenZ l E i = Z at *
          obtain ⟨v0, v1, v2, _, _, _⟩ := id hV
          have hVl := hV.lt
          go_wp2_with (fail)
          (refine later_intro_wp ?_; intro y)
          (refine wp_region_later (by kernel_rfl) (by kernel_rfl) ?_; (repeat (first | go_big_quiet_step ((first | (go_at_call 90; exact later_drew (DivRound_any _ _ _ (by omega) (by omega))) | (go_at_call 89; exact later_below (CA.out _)))) | quiet_step ((first | (go_at_call 90; exact later_drew (DivRound_any _ _ _ (by omega) (by omega))) | (go_at_call 89; exact later_below (CA.out _)))))); refine wpQuiet_nil ?_; rintro _ ⟨y, rfl⟩)
          go_wp2_with (fail)
          go_ret3
          exact ⟨by rw [HO3.out]; rfl, below_later (below_step hbb hb) _⟩
end Go.Proofs.YtpnfhienffekoaaGreatDoor
