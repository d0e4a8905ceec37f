/- Contracts of the functions on a figure's centre: the reference's. -/
import Derived.Test.YtbpjnopnhmoigaaDoorCent
import Derived.Test.YtbpjnopnhmoigaaDoorFigSpanS
namespace Go.Proofs.YtbpjnopnhmoigaaDoor
set_option linter.unusedVariables false
set_option linter.unusedSimpArgs false
open Go.RowKit
attribute [local go_sem ↓] Go.wp_at_zero Go.wp_at_succ
attribute [local go_sem] drew_size Later.lt_size Later.lt_size1
theorem box_new_drew {F : World → Prop} {W : World} {v0 v1 v2 : Value} {t : TypeId}
    (k : ∀ W3 : World, W3.cell? ⟨W.heap.size, 0, none⟩ = some v0 → W3.cell? ⟨W.heap.size, 1, none⟩ = some v1 → W3.cell? ⟨W.heap.size, 2, none⟩ = some v2 → W3 = (W.alloc (.cells #[v0, v1, v2] t)).drew → F W3) :
    F (W.alloc (.cells #[v0, v1, v2] t)).drew := by
  refine k _ ?_ ?_ ?_ rfl <;> simp [go_sem]
theorem box_set_drew {F : World → Prop} {g : Nat} {W : World} {v0 v1 v2 : Value} (h0 : (W.cell? ⟨g, 0, none⟩).isSome = true) (h1 : (W.cell? ⟨g, 1, none⟩).isSome = true) (h2 : (W.cell? ⟨g, 2, none⟩).isSome = true)
    (k : ∀ W3 : World, W3.cell? ⟨g, 0, none⟩ = some v0 → W3.cell? ⟨g, 1, none⟩ = some v1 → W3.cell? ⟨g, 2, none⟩ = some v2 → W3 = (((W.setCell ⟨g, 0, none⟩ v0).setCell ⟨g, 1, none⟩ v1).setCell ⟨g, 2, none⟩ v2).drew → F W3) :
    F (((W.setCell ⟨g, 0, none⟩ v0).setCell ⟨g, 1, none⟩ v1).setCell ⟨g, 2, none⟩ v2).drew := by
  obtain ⟨u0, e0⟩ := Option.isSome_iff_exists.1 h0
  obtain ⟨u1, e1⟩ := Option.isSome_iff_exists.1 h1
  obtain ⟨u2, e2⟩ := Option.isSome_iff_exists.1 h2
  refine k _ ?_ ?_ ?_ rfl <;> simp [go_sem, e0, e1, e2]
set_option maxRecDepth 100000 in
set_option maxHeartbeats 8000000 in
theorem sFigureCentre_any (nm : ByteArray) (B : Option Addr) (p q : Nat) (L : List (List Int)) (A : Option Addr) (n c : Nat) (l : List Sta) (w : World) (hp : L.length = p) (hp2 : p ≤ 9223372036854775807) (hB : Lists w B L) (hl : l.length = n) (hn : n ≤ 9223372036854775807) (hS : Stars w A l) :
    Calls Tryd.prog 34 #[.agg #[.string nm, .slice B p q], .slice A n c] w fun e w' => e = .returned (.tuple #[.int .i64 (centO nm L l).1, .int .i64 (centO nm L l).2.1, .int .i64 (centO nm L l).2.2]) ∧ Below w.heap.size w w' := by
  have hb0 : Below w.heap.size w (w.alloc (.cells #[.string nm, .slice B p q] 40)) := below_alloc (Below.refl _ _) _
  have hX0 : Blk (w.alloc (.cells #[.string nm, .slice B p q] 40)) w.heap.size 40 (figCells nm B p q) := Blk.new _ _ _
  obtain ⟨x0, x1⟩ := hX0.fig
  have C := Lib.hid (l08Ok_any w.heap.size nm B p q L A n c l _ x0 x1 hp hp2 (hB.below hb0) hl hn (hS.below hb0))
  have HP := Lib.hid hp; clear hp x0 x1
  have HL := Lib.hid hl; clear hl
  cases hv : vFig nm L l with
  | false =>
    have HO := Lib.hid (centO_no hv)
    rw [hv] at C
    clear hv hB
    go_enter Tryd.func34, Tryd.ntmps34
    go_wp2_with (refine C.out.mono ?_; rintro e w1 ⟨rfl, hb1⟩)
    go_ret3
    exact ⟨by rw [HO.out]; rfl, below_step hb0 hb1⟩
  | true =>
    have HO : Hid ((setI (endsL L)).length = 0 → centO nm L l = (0, 0, 6)) := Lib.hid (centO_none hv)
    have HO2 : Hid (¬ (setI (endsL L)).length = 0 → centO nm L l = anglesO (meanV l (setI (endsL L)))) := Lib.hid (centO_yes hv)
    have HV := Lib.hid (vFig_lines hv)
    have HVS := Lib.hid (vFig_stars hv)
    have h24 : n ≤ 24 := by have := vStars_len HVS.out; have := HL.out; omega
    rw [hv] at C
    clear hv
    have hlen := ends_len HV.out
    have HEA : Hid (∀ (k2 : Nat) (x : Int), (setI (endsL L))[k2]? = some x → 0 ≤ x ∧ x < (n : Int)) := Lib.hid (fun k2 x hx => by rw [← HL.out]; exact ends_at2 HV.out hx)
    by_cases hz : (setI (endsL L)).length = 0
    · have HO3 := Lib.hid (HO.out hz)
      clear HO HO2
      go_enter Tryd.func34, Tryd.ntmps34
      go_wp2_with (first | (go_at_call 64; refine C.out.mono ?_; rintro e w1 ⟨rfl, hb1⟩; have hX1 := (hX0.keep hb1).fig; obtain ⟨x0, x1⟩ := hX1; have hB1 := (hB.below hb0).below hb1) | (go_at_call 81; refine (l08Stars_any _ w.heap.size B p q L _ HP.out HV.out x1 hB1).mono ?_; rintro e w2 ⟨v2, rfl, hO2, hb2⟩; obtain ⟨A2, c2, rfl, hI2, _, _, _, _⟩ := hO2.form2; rw [hz]))
      go_ret3
      exact ⟨by rw [HO3.out]; rfl, below_step (below_step hb0 hb1) hb2⟩
    · have HO3 := Lib.hid (HO2.out hz)
      have hzI : ((((setI (endsL L)).length : Nat) : Int) == 0) = false := by rw [beq_eq_false_iff_ne]; omega
      clear HO HO2
      go_enter Tryd.func34, Tryd.ntmps34
      go_wp2_with (first | (go_at_call 64; refine C.out.mono ?_; rintro e w1 ⟨rfl, hb1⟩; have hX1 := (hX0.keep hb1).fig; obtain ⟨x0, x1⟩ := hX1; have hB1 := (hB.below hb0).below hb1) | (go_at_call 81; refine (l08Stars_any _ w.heap.size B p q L _ HP.out HV.out x1 hB1).mono ?_; rintro e w2 ⟨v2, rfl, hO2, hb2⟩; obtain ⟨A2, c2, rfl, hI2, _, _, _, _⟩ := hO2.form2))
      have hbb := below_step (below_step hb0 hb1) hb2
      clear hb0 hX0 hb1 hb2 C x0 x1 hB1 hO2 hB
      generalize setI (endsL L) = E at *
      generalize hnE : E.length = ne at *
      have HNE := Lib.hid hnE
      clear hnE
      have hV0 := VecAt.new w2 69 0 0 0
      have hbv : Below w2.heap.size w2 (w2.alloc (.cells #[.int .i64 0, .int .i64 0, .int .i64 0] 69)) := below_alloc (Below.refl _ _) _
      go_loopw [10, 11] (fun s _ wr => ∃ i : Nat, i ≤ ne ∧ s = .int .i64 (i : Int) ∧ VecAt wr w2.heap.size (cenX l E i) (cenY l E i) (cenZ l E i) ∧ Below w2.heap.size w2 wr) (fun s _ _ => ne - (intOf s).toNat)
      case atStart => exact ⟨0, by omega, rfl, hV0, hbv⟩
      case round =>
        clear hV0 hbv
        obtain ⟨i, hi, rfl, hV, hb⟩ := hrel
        by_cases hlt : i < ne
        · obtain ⟨u, hu⟩ := at_lt (l := E) (k := i) (by have := HNE.out; omega)
          obtain ⟨hu0, hu1⟩ := HEA.out i u hu
          obtain ⟨u, rfl⟩ : ∃ u' : Nat, u = u' := ⟨u.toNat, by omega⟩
          obtain ⟨sx, hsx⟩ := at_lt (l := l) (k := u) (by have := HL.out; omega)
          obtain ⟨⟨a1, a2⟩, a3, a4⟩ := ok_ang (vStars_ok HVS.out hsx)
          have HX : Hid (cenX l E (i + 1) = cenX l E i + dirX sx.ri sx.de ∧ cenY l E (i + 1) = cenY l E i + dirY sx.ri sx.de ∧ cenZ l E (i + 1) = cenZ l E i + dirZ sx.de) := Lib.hid (cen_at hu hsx)
          obtain ⟨⟨q1, q2⟩, ⟨q3, q4⟩, q5, q6⟩ := cen_bd l E i
          obtain ⟨p1, p2⟩ := dirX_bd sx.ri sx.de
          obtain ⟨p3, p4⟩ := dirY_bd sx.ri sx.de
          obtain ⟨p5, p6⟩ := dirZ_bd sx.de
          obtain ⟨b, o, rfl, hc⟩ := (hI2.below hb) (by have := HNE.out; omega)
          have c0 := hc i _ hu
          have l0 := World.block_lt_of_cell? wr _ c0
          dsimp only at l0
          obtain ⟨sb, so, rfl, hcs⟩ := ((hS.below hbb).below hb) (by have := HL.out; omega)
          obtain ⟨_, s1, s2, _, _⟩ := hcs u sx hsx
          have l1 := World.block_lt_of_cell? wr _ s1
          dsimp only at l1
          have CD : Hid (∀ W, Calls Tryd.prog 84 #[.int .i64 sx.ri, .int .i64 sx.de] W fun e w' => e = .returned (.agg #[.int .i64 (dirX sx.ri sx.de), .int .i64 (dirY sx.ri sx.de), .int .i64 (dirZ sx.de)]) ∧ Below W.heap.size W w') := Lib.hid (fun W => l04Direction_any sx.ri sx.de W ⟨a1, a2⟩ ⟨a3, a4⟩)
          clear hc hu hsx hcs a1 a2 a3 a4
          generalize dirX sx.ri sx.de = dx at *
          generalize dirY sx.ri sx.de = dy at *
          generalize dirZ sx.de = dz at *
          generalize cenX l E i = X at *
          generalize cenY l E i = Y at *
          generalize cenZ l E i = Z at *
          have wX : IntKind.i64.wrap (X + dx) = X + dx := wrap_in (by omega) (by omega)
          have wY : IntKind.i64.wrap (Y + dy) = Y + dy := wrap_in (by omega) (by omega)
          have wZ : IntKind.i64.wrap (Z + dz) = Z + dz := wrap_in (by omega) (by omega)
          go_wp2_with (fail)
          go_region_held3 (fun w' => w'.cell? ⟨b, o + i, none⟩ = some (.int .i64 (u : Int)) ∧ w'.cell? ⟨sb, so + u * 5 + 1, none⟩ = some (.int .i64 sx.ri) ∧ w'.cell? ⟨sb, so + u * 5 + 2, none⟩ = some (.int .i64 sx.de) ∧ Below wr.heap.size wr w')
            ((refine ⟨?_, ?_, ?_, ?_⟩ <;> (first | (with_reducible (repeat (first | assumption | refine Later.held _ ?_ | refine held_alloc _ ?_ | refine held_drew ?_ | refine held_set trivial (by first | exact Nat.ne_of_gt l1 | exact Nat.ne_of_gt (lt_later_drew l1 _) | exact Nat.ne_of_gt l0 | exact Nat.ne_of_gt (lt_later_drew l0 _)) ?_)); done) | ((repeat (first | assumption | exact (And.right (And.right (And.right (by assumption)))) | exact Below.refl _ _ | refine below_later ?_ _ | refine below_alloc ?_ _ | refine below_drew0 ?_ | refine below_setCell0 ?_ (by repeat (first | exact Nat.le_refl _ | refine Nat.le_trans ?_ (below_size (Later.below _)))) _)); done))))
            (first | (go_at_call 84; refine later_intro ?_; intro y; refine (later_below (CD.out _)).mono ?_; rintro e w' ⟨rfl, y, rfl⟩))
          all_goals (first | refine box_new ?_ | refine box_set (by first | exact later_some (by simp [go_sem]) | exact later_some (later_some (by simp [go_sem]))) (by first | exact later_some (by simp [go_sem]) | exact later_some (later_some (by simp [go_sem]))) (by first | exact later_some (by simp [go_sem]) | exact later_some (later_some (by simp [go_sem]))) ?_)
          all_goals (intro W3 b0 b1 b2 hW3)
          all_goals
            have hb3 : Below wr.heap.size wr W3 := by
              rw [hW3]
              first
                | exact And.right (And.right (And.right (by assumption)))
                | exact below_alloc (And.right (And.right (And.right (by assumption)))) _
                | exact below_setCell0 (below_setCell0 (below_setCell0 (And.right (And.right (And.right (by assumption)))) (by repeat (first | exact Nat.le_refl _ | refine Nat.le_trans ?_ (below_size (Later.below _)))) _) (by repeat (first | exact Nat.le_refl _ | refine Nat.le_trans ?_ (below_size (Later.below _)))) _) (by repeat (first | exact Nat.le_refl _ | refine Nat.le_trans ?_ (below_size (Later.below _)))) _
            clear hW3
            have hg := World.block_lt_of_cell? W3 _ b0
            dsimp only at hg
            have hV3 := hV.keep hb3
            have hb4 := below_step hb hb3
            have hne : w2.heap.size < wr.heap.size := hV.lt
            obtain ⟨v0, v1, v2, g0, g1, g2⟩ := id hV3
            have hVl := hV3.lt
            clear hV s1 s2 CD c0
            go_wp2_with (fail)
            go_roundw
            case rel => exact ⟨i + 1, by omega, by go_num, by rw [HX.out.1, HX.out.2.1, HX.out.2.2]; exact hV3.set rfl, below_setCell0 (below_setCell0 (below_setCell0 hb4 (Nat.le_refl _) _) (Nat.le_refl _) _) (Nat.le_refl _) _⟩
            case measure => simp [intOf]; omega
        · obtain rfl : i = ne := by omega
          have hm : meanV l E = ⟨rnd (cenX l E i) i, rnd (cenY l E i) i, rnd (cenZ l E i) i⟩ := by rw [meanV, HNE.out]
          have hmd := (meanV_sm (l := l) (E := E) (by have := HNE.out; omega)).md
          have qa := run_eql_vec (rnd (cenX l E i) i) (rnd (cenY l E i) i) (rnd (cenZ l E i) i)
          rw [← hm] at qa
          obtain ⟨⟨q1, q2⟩, ⟨q3, q4⟩, q5, q6⟩ := cen_bd l E i
          cases hz0 : zeroV (meanV l E) with
          | true =>
            have HO4 := Lib.hid (anglesO_zero hz0)
            rw [hz0] at qa
            clear hz0 hm hmd
            generalize cenX l E i = X at *
            generalize cenY l E i = Y at *
            generalize cenZ l E i = Z at *
            obtain ⟨v0, v1, v2, _, _, _⟩ := id hV
            have hVl := hV.lt
            have hVl0 := Nat.le_refl wr.heap.size
            go_wp2_with (fail)
            go_region_held3 (fun w' => w'.cell? ⟨w2.heap.size, 0, none⟩ = some (.int .i64 X) ∧ w'.cell? ⟨w2.heap.size, 1, none⟩ = some (.int .i64 Y) ∧ w'.cell? ⟨w2.heap.size, 2, none⟩ = some (.int .i64 Z) ∧ Below wr.heap.size wr w')
              ((refine ⟨?_, ?_, ?_, ?_⟩ <;> (first | (with_reducible (repeat (first | assumption | refine held_alloc _ ?_ | refine held_drew ?_ | refine held_set trivial (Nat.ne_of_gt hVl) ?_)); done) | ((repeat (first | assumption | exact (And.right (And.right (And.right (by assumption)))) | exact Below.refl _ _ | refine below_alloc ?_ _ | refine below_drew0 ?_ | refine below_setCell0 ?_ (Nat.le_refl _) _)); done))))
              (first | (go_at_call 85; refine (l01Div_any _ _ _ (by omega) (by omega) (by omega) (by omega)).mono ?_; rintro e w' ⟨rfl, rfl⟩))
            all_goals (first | refine box_new ?_ | refine box_new_drew ?_ | refine box_set (by simp [go_sem]; done) (by simp [go_sem]; done) (by simp [go_sem]; done) ?_ | refine box_set_drew (by simp [go_sem]; done) (by simp [go_sem]; done) (by simp [go_sem]; done) ?_)
            all_goals (intro W3 b0 b1 b2 hW3)
            all_goals
              have hb3 : Below wr.heap.size wr W3 := by
                rw [hW3]
                first
                  | exact And.right (And.right (And.right (by assumption)))
                  | exact below_alloc (And.right (And.right (And.right (by assumption)))) _
                  | exact below_setCell0 (below_setCell0 (below_setCell0 (And.right (And.right (And.right (by assumption)))) (Nat.le_refl _) _) (Nat.le_refl _) _) (Nat.le_refl _) _
              clear hW3
              have hg := World.block_lt_of_cell? W3 _ b0
              dsimp only at hg
              go_wp2_with (fail)
              go_ret3
              exact ⟨by rw [HO3.out, HO4.out]; rfl, below_step (below_step hbb hb) hb3⟩
          | false =>
            have HO4 := Lib.hid (anglesO_yes hz0)
            have CL : Hid (∀ W, Calls Tryd.prog 86 #[.agg #[.int .i64 (rnd (cenX l E i) i), .int .i64 (rnd (cenY l E i) i), .int .i64 (rnd (cenZ l E i) i)]] W fun e w' => e = .returned (.tuple #[.int .i64 (lonI (meanV l E)), .int .i64 (latI (meanV l E))]) ∧ Below W.heap.size W w') := Lib.hid (fun W => by
              have := l04Angles_any (meanV l E) W hmd hz0
              rw [hm] at this ⊢
              exact this)
            rw [hz0] at qa
            clear hz0 hm hmd
            generalize cenX l E i = X at *
            generalize cenY l E i = Y at *
            generalize cenZ l E i = Z at *
            obtain ⟨v0, v1, v2, _, _, _⟩ := id hV
            have hVl := hV.lt
            have hVl0 := Nat.le_refl wr.heap.size
            go_wp2_with (fail)
            go_region_held3 (fun w' => w'.cell? ⟨w2.heap.size, 0, none⟩ = some (.int .i64 X) ∧ w'.cell? ⟨w2.heap.size, 1, none⟩ = some (.int .i64 Y) ∧ w'.cell? ⟨w2.heap.size, 2, none⟩ = some (.int .i64 Z) ∧ Below wr.heap.size wr w')
              ((refine ⟨?_, ?_, ?_, ?_⟩ <;> (first | (with_reducible (repeat (first | assumption | refine held_alloc _ ?_ | refine held_drew ?_ | refine held_set trivial (Nat.ne_of_gt hVl) ?_)); done) | ((repeat (first | assumption | exact (And.right (And.right (And.right (by assumption)))) | exact Below.refl _ _ | refine below_alloc ?_ _ | refine below_drew0 ?_ | refine below_setCell0 ?_ (Nat.le_refl _) _)); done))))
              (first | (go_at_call 85; refine (l01Div_any _ _ _ (by omega) (by omega) (by omega) (by omega)).mono ?_; rintro e w' ⟨rfl, rfl⟩))
            all_goals (first | refine box_new ?_ | refine box_new_drew ?_ | refine box_set (by simp [go_sem]; done) (by simp [go_sem]; done) (by simp [go_sem]; done) ?_ | refine box_set_drew (by simp [go_sem]; done) (by simp [go_sem]; done) (by simp [go_sem]; done) ?_)
            all_goals (intro W3 b0 b1 b2 hW3)
            all_goals
              have hb3 : Below wr.heap.size wr W3 := by
                rw [hW3]
                first
                  | exact And.right (And.right (And.right (by assumption)))
                  | exact below_alloc (And.right (And.right (And.right (by assumption)))) _
                  | exact below_setCell0 (below_setCell0 (below_setCell0 (And.right (And.right (And.right (by assumption)))) (Nat.le_refl _) _) (Nat.le_refl _) _) (Nat.le_refl _) _
              clear hW3
              have hg := World.block_lt_of_cell? W3 _ b0
              dsimp only at hg
              go_wp2_with (go_at_call 86; refine (CL.out _).mono ?_; rintro e w9 ⟨rfl, hb9⟩)
              go_ret3
              exact ⟨by rw [HO3.out, HO4.out]; rfl, below_step (below_step (below_step hbb hb) hb3) hb9⟩
end Go.Proofs.YtbpjnopnhmoigaaDoor
