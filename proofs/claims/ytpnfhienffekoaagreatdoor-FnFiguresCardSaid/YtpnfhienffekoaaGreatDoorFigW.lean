/- A figure has no more parts than stars and no greater span than length, if it is one part, and lines that can be seen are lines: for all arguments. No condition. -/
import Derived.Test.YtpnfhienffekoaaGreatDoorMgC
import Derived.Test.YtpnfhienffekoaaGreatDoorDrawI
import Derived.Test.YtpnfhienffekoaaGreatDoorMgK
import Derived.Test.YtpnfhienffekoaaGreatDoorMgH
import Derived.Test.YtpnfhienffekoaaGreatDoorGrpFig
import Derived.Test.YtpnfhienffekoaaGreatDoorParts
import Derived.Test.YtpnfhienffekoaaGreatDoorCent
import Derived.Test.YtpnfhienffekoaaGreatDoorVis
import Derived.Test.YtpnfhienffekoaaGreatDoorMgN
import Derived.Test.YtpnfhienffekoaaGreatDoorReadF
import Derived.RowKit
namespace Go.Proofs.YtpnfhienffekoaaGreatDoor
set_option linter.unusedVariables false
set_option linter.unusedSimpArgs false
open Go.RowKit
set_option maxRecDepth 100000 in
set_option maxHeartbeats 4000000 in
theorem FnFigures_walk (A0 : Option Addr) (n0 c0 : Nat) (l0 : List Int) (A1 : Option Addr) (n1 c1 : Nat) (l1 : List Int) (w : World) (hl0 : l0.length = n0) (hn0 : n0 ≤ 9223372036854775807) (hS0 : Bytes w A0 l0) (hi0 : ∀ x ∈ l0, ByteOk x) (hl1 : l1.length = n1) (hn1 : n1 ≤ 9223372036854775807) (hS1 : Bytes w A1 l1) (hi1 : ∀ x ∈ l1, ByteOk x) (hSin : SinOk w) (hTxt : TxtOk w) :
    Calls Tryz.prog 5 #[.slice A0 n0 c0, .slice A1 n1 c1] w fun e w' => e = .returned (.bool true) ∧ Below w.heap.size w w' := by
  have HI0 := Lib.hid hi0
  have HI1 := Lib.hid hi1
  have HSin := Lib.hid hSin
  have HTxt := Lib.hid hTxt
  have HB1 := Lib.hid hS1
  have HL1 := Lib.hid hl1
  clear hi0 hi1 hSin hTxt hS1 hl1
  have CL := Lib.hid (b10Long_at A0 n0 c0 w)
  have CM := Lib.hid (b10Long_at A1 n1 c1 w)
  by_cases hlong : 1048576 < n0
  · rw [decide_eq_true hlong] at CL
    clear hlong
    go_enter Tryz.func5, Tryz.ntmps5
    go_wp2_with (refine CL.out.mono ?_; rintro e w1 ⟨rfl, rfl⟩)
    go_ret
    exact ⟨rfl, Below.refl _ _⟩
  rw [decide_eq_false hlong] at CL
  by_cases hlong1 : 1048576 < n1
  · rw [decide_eq_true hlong1] at CM
    go_enter Tryz.func5, Tryz.ntmps5
    go_wp2_with (fail)
    refine CL.out.mono ?_
    rintro e w1 ⟨rfl, rfl⟩
    go_wp2_with (fail)
    refine CM.out.mono ?_
    rintro e w1 ⟨rfl, rfl⟩
    go_wp2_with (fail)
    go_ret
    exact ⟨rfl, Below.refl _ _⟩
  rw [decide_eq_false hlong1] at CM
  go_enter Tryz.func5, Tryz.ntmps5
  go_wp2_with (fail)
  refine CL.out.mono ?_
  rintro e w1 ⟨rfl, rfl⟩
  go_wp2_with (fail)
  refine CM.out.mono ?_
  rintro e w1 ⟨rfl, rfl⟩
  go_wp2_with (fail)
  refine (DrawFigureLength_any A0 n0 c0 l0 w hl0 (by omega) hS0 HI0.out).mono ?_
  rintro e w2 ⟨nm, A, c, L, v, l, rfl, hrow, hL17, hO, hl30, hbW⟩
  obtain ⟨A2, c2, rfl, hSt⟩ := hO.form
  have hLi := hrow.lists
  clear hrow hO CL CM hS0 hl0
  go_wp2_with (fail)
  refine calls_named ?_
  intro W3 e3
  have hb3 : Below w2.heap.size w2 W3 := by rw [e3]; exact below_alloc (Below.refl _ _) _
  have hF : Blk W3 w2.heap.size 63 [.string nm, .slice A L.length c] := by rw [e3]; exact Blk.new w2 _ _
  replace hLi := hLi.below hb3
  replace hSt := hSt.below hb3
  replace hbW := below_step hbW hb3
  clear e3 hb3
  generalize w2.heap.size = q at *
  have C1 := Lib.hid (fun W h1 h2 h3 => FigureLength_any nm A L.length c L A2 l.length c2 l W h1 rfl (by omega) h2 rfl (by omega) h3)
  have C2 := Lib.hid (fun W h2 h3 => FigureStars_any nm A L.length c L A2 l.length c2 l W rfl (by omega) h2 rfl (by omega) h3)
  have C3 := Lib.hid (fun W h2 h3 => FigureParts_any nm A L.length c L A2 l.length c2 l W rfl (by omega) h2 rfl (by omega) h3)
  have C4 := Lib.hid (fun W h1 h2 h3 => FigureSpan_any nm A L.length c L A2 l.length c2 l W h1 rfl (by omega) h2 rfl (by omega) h3)
  have C5 := Lib.hid (fun W h1 h2 h3 => FigureCentre_any nm A L.length c L A2 l.length c2 l W h1 rfl (by omega) h2 rfl (by omega) h3)
  obtain ⟨x0, x1⟩ := hF.twoG
  have hql := hF.lt
  cases hv : vFig nm L l with
  | false =>
    rw [flenO_no hv] at C1
    rw [figO_no hv] at C2
    rw [partO_no hv] at C3
    rw [spanO_no hv] at C4
    dsimp only at C1 C2 C3 C4
    clear hv C5
    refine (C1.out _ (HSin.out.of_below hbW) hLi hSt).mono ?_
    rintro e w4 ⟨rfl, hb4⟩
    replace hF := hF.keep hb4
    replace hLi := hLi.below hb4
    replace hSt := hSt.below hb4
    replace hbW := below_step hbW hb4
    clear hb4 x0 x1 hql
    obtain ⟨x0, x1⟩ := hF.twoG
    have hql := hF.lt
    go_wp2_with (fail)
    refine (C2.out _ hLi hSt).mono ?_
    rintro e w5 ⟨v5, rfl, _, hb5⟩
    replace hF := hF.keep hb5
    replace hLi := hLi.below hb5
    replace hSt := hSt.below hb5
    replace hbW := below_step hbW hb5
    clear hb5 x0 x1 hql
    obtain ⟨x0, x1⟩ := hF.twoG
    have hql := hF.lt
    go_wp2_with (fail)
    refine (C3.out _ hLi hSt).mono ?_
    rintro e w6 ⟨rfl, hb6⟩
    replace hF := hF.keep hb6
    replace hLi := hLi.below hb6
    replace hSt := hSt.below hb6
    replace hbW := below_step hbW hb6
    clear hb6 x0 x1 hql
    obtain ⟨x0, x1⟩ := hF.twoG
    have hql := hF.lt
    go_wp2_with (fail)
    refine (C4.out _ (HSin.out.of_below hbW) hLi hSt).mono ?_
    rintro e w7 ⟨rfl, hb7⟩
    replace hF := hF.keep hb7
    replace hLi := hLi.below hb7
    replace hSt := hSt.below hb7
    replace hbW := below_step hbW hb7
    clear hb7 x0 x1 hql
    obtain ⟨x0, x1⟩ := hF.twoG
    have hql := hF.lt
    go_wp2_with (fail)
    go_ret
    exact ⟨rfl, hbW⟩
  | true =>
    have hsp := span_le hv
    have hpz := parts_zero hv
    have hcb := cent_bd hv
    obtain ⟨z1, z2, z3, z4, hu32, hux, hur, hpa, hfl, h16⟩ := fig_nums hv
    rw [z1] at C1
    rw [z2] at C2
    rw [z3] at C3
    rw [z4] at C4
    have hsb : (spanO nm L l).1 ≤ 360000 := by
      rw [spanO_yes hv]
      exact spanUp_le (by omega) _ (fun i k _ _ => by have := gapL_bd l (gt (setI (endsL L)) i).toNat (gt (setI (endsL L)) k).toNat; omega)
    clear z1 z2 z3 z4 hv
    generalize (flenO nm L l).1 = len at *
    generalize (figO nm L l).1 = used at *
    generalize (partO nm L l (upFrom 0 l.length)).1 = parts at *
    generalize (spanO nm L l).1 = span at *
    generalize (centO nm L l).2.2 = cz at *
    generalize (centO nm L l).2.1 = cy at *
    generalize (centO nm L l).1 = cx at *
    have hux' := Lib.hid hux
    have hur' := Lib.hid hur
    clear hux hur
    have hd1 : decide ((used.length : Int) < parts) = false := decide_eq_false (by omega)
    have hgp : ∃ zb : Bool, (parts == 0) = zb ∧ ((L.length : Int) == 0) = zb := by
      by_cases h0 : L.length = 0
      · exact ⟨true, by rw [hpz.2 h0]; rfl, by rw [h0]; rfl⟩
      · exact ⟨false, by rw [beq_eq_false_iff_ne]; exact fun e => h0 (hpz.1 e), by rw [beq_eq_false_iff_ne]; omega⟩
    have hg1 : (parts = 1 ∧ ¬ (L.length = 0) ∧ decide (len + 40 * (L.length : Int) < span) = false) ∨ (parts == 1) = false := by
      by_cases h1 : parts = 1
      · refine .inl ⟨h1, fun e => by have := hpz.2 e; omega, decide_eq_false (by have := hsp h1; omega)⟩
      · exact .inr (by rw [beq_eq_false_iff_ne]; exact h1)
    have HGP := Lib.hid hgp
    have HG1 := Lib.hid hg1
    have HCB := Lib.hid hcb
    obtain ⟨hp0, _⟩ := hpa
    obtain ⟨hf0, hf1⟩ := hfl
    clear hgp hg1 hcb hsp hpz
    refine (C1.out _ (HSin.out.of_below hbW) hLi hSt).mono ?_
    rintro e w4 ⟨rfl, hb4⟩
    replace hF := hF.keep hb4
    replace hLi := hLi.below hb4
    replace hSt := hSt.below hb4
    replace hbW := below_step hbW hb4
    clear hb4 x0 x1 hql
    obtain ⟨x0, x1⟩ := hF.twoG
    have hql := hF.lt
    go_wp2_with (fail)
    refine (C2.out _ hLi hSt).mono ?_
    rintro e w5 ⟨v5, rfl, hO5, hb5⟩
    obtain ⟨A5, c5, rfl, hI5⟩ := hO5.form
    clear hO5
    replace hF := hF.keep hb5
    replace hLi := hLi.below hb5
    replace hSt := hSt.below hb5
    replace hbW := below_step hbW hb5
    clear hb5 x0 x1 hql
    obtain ⟨x0, x1⟩ := hF.twoG
    have hql := hF.lt
    go_wp2_with (fail)
    refine (C3.out _ hLi hSt).mono ?_
    rintro e w6 ⟨rfl, hb6⟩
    replace hI5 := hI5.below hb6
    replace hF := hF.keep hb6
    replace hLi := hLi.below hb6
    replace hSt := hSt.below hb6
    replace hbW := below_step hbW hb6
    clear hb6 x0 x1 hql
    obtain ⟨x0, x1⟩ := hF.twoG
    have hql := hF.lt
    go_wp2_with (fail)
    refine (C4.out _ (HSin.out.of_below hbW) hLi hSt).mono ?_
    rintro e w7 ⟨rfl, hb7⟩
    replace hI5 := hI5.below hb7
    replace hF := hF.keep hb7
    replace hLi := hLi.below hb7
    replace hSt := hSt.below hb7
    replace hbW := below_step hbW hb7
    clear hb7 x0 x1 hql
    obtain ⟨x0, x1⟩ := hF.twoG
    have hql := hF.lt
    go_wp2_with (fail)
    refine (b10Rises_yes A5 used.length c5 used l.length w7 rfl (by omega) (by omega) hI5 hux'.out hur'.out).mono ?_
    rintro e w8 ⟨rfl, hb8⟩
    replace hF := hF.keep hb8
    replace hLi := hLi.below hb8
    replace hSt := hSt.below hb8
    replace hbW := below_step hbW hb8
    clear hb8 x0 x1 hql
    obtain ⟨x0, x1⟩ := hF.twoG
    have hql := hF.lt
    clear C1 C2 C3 C4 hux' hur' hI5
    obtain ⟨zb, hz1, hz2⟩ := HGP.out
    have hcut : (parts = 1 ∧ ((L.length : Int) == 0) = false ∧ decide (len + 40 * (L.length : Int) < span) = false) ∨ ((parts == 1) = false) := by
      rcases HG1.out with ⟨h1, h2, h3⟩ | h1
      · exact .inl ⟨h1, by rw [beq_eq_false_iff_ne]; omega, h3⟩
      · exact .inr h1
    clear HGP HG1
    rcases hcut with ⟨rfl, h2, h3⟩ | h1
    case' inl => obtain rfl : zb = false := by rw [← hz2]; exact h2
    all_goals
      go_wp2_with (fail)
      refine (C5.out _ (HSin.out.of_below hbW) hLi hSt).mono ?_
      rintro e w9 ⟨rfl, hb9⟩
      replace hbW := below_step hbW hb9
      clear hb9 x0 x1 hql hF hLi hSt C5
      rcases HCB.out with rfl | ⟨rfl, ⟨hc1, hc2⟩, hc3, hc4⟩
      case' inr =>
        have d1 : decide (cx < 0) = false := decide_eq_false (by omega)
        have d2 : decide (360000 ≤ cx) = false := decide_eq_false (by omega)
        have d3 : decide (cy < -90000) = false := decide_eq_false (by omega)
        have d4 : decide (90000 < cy) = false := decide_eq_false (by omega)
      all_goals
        go_wp2_with (fail)
        refine (DrawVisibleLines_any A1 n1 c1 l1 w9 HL1.out (by omega) (HB1.out.below hbW) HI1.out).mono ?_
        rintro e w10 ⟨nm2, A3, c3, L2, v2, l2, s, lo, la, sid, rfl, hrow, hL2, hO2, hl2, hb10⟩
        obtain ⟨A4, c4, rfl, hSt⟩ := hO2.form
        have hLi := hrow.lists
        replace hbW := below_step hbW hb10
        clear hrow hO2 hb10
        go_wp2_with (fail)
        refine calls_named ?_
        intro W11 e11
        have hb0 : Below w10.heap.size w10 (w10.alloc (.cells #[.string nm2, .slice A3 L2.length c3] 63)) := below_alloc (Below.refl _ _) _
        have hb11 : Below w10.heap.size w10 W11 := by rw [e11]; exact below_alloc hb0 _
        have hF : Blk W11 w10.heap.size 63 [.string nm2, .slice A3 L2.length c3] := by rw [e11]; exact (Blk.new w10 _ _).alloc _
        replace hLi := hLi.below hb11
        replace hSt := hSt.below hb11
        replace hbW := below_step hbW hb11
        clear e11 hb0 hb11
        generalize w10.heap.size = g at *
        have hVC := vis_cases nm2 L2 l2 s.data.toList lo la sid
        refine (VisibleLines_any nm2 A3 L2.length c3 L2 A4 l2.length c4 l2 s lo la sid W11 (HSin.out.of_below hbW) rfl (by omega) hLi rfl (by omega) hSt).mono ?_
        rintro e w12 ⟨v, rfl, hOv, hb12⟩
        replace hF := hF.keep hb12
        replace hLi := hLi.below hb12
        replace hSt := hSt.below hb12
        replace hbW := below_step hbW hb12
        clear hb12
        have hsl := visO_len nm2 L2 l2 s.data.toList lo la sid
        generalize (visO nm2 L2 l2 s.data.toList lo la sid).1 = seen at *
        generalize (visO nm2 L2 l2 s.data.toList lo la sid).2 = six at *
        obtain ⟨A6, c6, rfl, hI6⟩ := hOv.form
        clear hOv
        rcases hVC with ⟨h6, rfl⟩ | ⟨rfl, hv2, hvx, hvr⟩
        · have h6' : (six == 0) = false := by rw [beq_eq_false_iff_ne]; exact h6
          simp only [List.length_nil] at *
          clear hF hLi hSt hI6
          go_wp2_with (fail)
          go_ret
          exact ⟨rfl, hbW⟩
        · obtain ⟨hback, htl⟩ := fig_back hv2
          obtain ⟨x0, x1⟩ := hF.twoG
          have hql := hF.lt
          have HVX := Lib.hid hvx
          have HVR := Lib.hid hvr
          have HV2 := Lib.hid hv2
          clear hvx hvr hv2
          go_wp2_with (fail)
          refine (FigureText_any nm2 A3 L2.length c3 L2 w12 rfl (by omega) hLi (HTxt.out.pow.below hbW)).mono ?_
          rintro e w13 ⟨rfl, hb13⟩
          replace hF := hF.keep hb13
          replace hLi := hLi.below hb13
          replace hSt := hSt.below hb13
          replace hI6 := hI6.below hb13
          replace hbW := below_step hbW hb13
          clear hb13 x0 x1 hql
          have CR : Hid (∀ W, TxtOk W → Calls Tryz.prog 41 #[.string (tx (figTO nm2.data.toList L2))] W fun e w' => ∃ (A7 : Option Addr) (c7 : Nat), e = .returned (.tuple #[.agg #[.string nm2, .slice A7 L2.length c7], .bool true]) ∧ Lists w' A7 L2 ∧ Below W.heap.size W w') := Lib.hid (fun W hW => by
            refine (ReadFigure_any (tx (figTO nm2.data.toList L2)) W (by rw [tx_size]; exact htl) hW).mono ?_
            rintro e w' ⟨v, he, ⟨qs, hQ⟩, hb⟩
            rw [tx_data, hback] at he hQ
            obtain ⟨A7, c7, hv7, _, _, hrow⟩ := hQ.rows
            refine ⟨A7, c7, ?_, hrow.lists, hb⟩
            rw [he, hv7]
            simp only [figNm, figLn, tx_self, Option.isSome])
          have CT := Lib.hid (fun (A : Option Addr) (c : Nat) (W : World) h1 h2 => FigureText_any nm2 A L2.length c L2 W rfl (by omega) h1 h2)
          clear hback htl
          generalize tx (figTO nm2.data.toList L2) = txt at *
          go_wp2_with (fail)
          refine (CR.out _ (HTxt.out.below hbW)).mono ?_
          rintro e w14 ⟨A7, c7, rfl, hL7, hb14⟩
          replace hF := hF.keep hb14
          replace hLi := hLi.below hb14
          replace hSt := hSt.below hb14
          replace hI6 := hI6.below hb14
          replace hbW := below_step hbW hb14
          clear hb14 CR
          go_upto_region 20 with (fail)
          refine wp_named ?_
          intro W15 e15
          have hb15 : Below w14.heap.size w14 W15 := by rw [e15]; exact below_alloc (Below.refl _ _) _
          have hZ : Blk W15 w14.heap.size 63 [.string nm2, .slice A7 L2.length c7] := by rw [e15]; exact Blk.new w14 _ _
          replace hF := hF.keep hb15
          replace hLi := hLi.below hb15
          replace hL7 := hL7.below hb15
          replace hSt := hSt.below hb15
          replace hI6 := hI6.below hb15
          replace hbW := below_step hbW hb15
          clear e15 hb15
          generalize w14.heap.size = z at *
          have CR1 : Hid (∀ y : Later W15, Calls Tryz.prog 37 #[.slice A6 seen.length c6, .int .i64 (L2.length : Int)] y.w fun e w' => e = .returned (.bool true) ∧ Below y.w.heap.size y.w w') := Lib.hid (fun y => b10Rises_yes A6 seen.length c6 seen L2.length y.w rfl (by omega) (by omega) (hI6.below y.below) HVX.out HVR.out)
          have CV : Hid (∀ y : Later W15, Calls Tryz.prog 43 #[.agg #[.string nm2, .slice A7 L2.length c7], .slice A4 l2.length c4] y.w fun e w' => e = .returned (.bool true) ∧ Below y.w.heap.size y.w w') := Lib.hid (fun y => by
            have h := sValidFigure_any nm2 A7 L2.length c7 L2 A4 l2.length c4 l2 y.w rfl (by omega) (hL7.below y.below) rfl (by omega) (hSt.below y.below)
            rw [HV2.out] at h
            exact h)
          have CT1 := Lib.hid (fun y : Later W15 => CT.out A7 c7 y.w (hL7.below y.below) ((HTxt.out.pow.below hbW).below y.below))
          have CT2 := Lib.hid (fun y : Later W15 => CT.out A3 c3 y.w (hLi.below y.below) ((HTxt.out.pow.below hbW).below y.below))
          obtain ⟨x0, x1⟩ := hF.twoG
          obtain ⟨z0, z1⟩ := hZ.twoG
          have hql := hF.lt
          have hzl := hZ.lt
          clear hF hZ hLi hL7 hSt hI6 CT
          (refine later_intro_wp ?_; intro y)
          (refine wp_region_later (by kernel_rfl) (by kernel_rfl) ?_; (repeat (first | go_big_quiet_step ((first | (go_at_call 37; with_reducible exact later_below (CR1.out _)) | (go_at_call 43; with_reducible exact later_below (CV.out _)) | (go_at_call 42; first | with_reducible exact later_below (CT1.out _) | with_reducible exact later_below (CT2.out _)))) | quiet_step ((first | (go_at_call 37; with_reducible exact later_below (CR1.out _)) | (go_at_call 43; with_reducible exact later_below (CV.out _)) | (go_at_call 42; first | with_reducible exact later_below (CT1.out _) | with_reducible exact later_below (CT2.out _)))))); refine wpQuiet_nil ?_; rintro _ ⟨y, rfl⟩)
          go_wp2_with (fail)
          go_ret
          exact ⟨rfl, below_later hbW _⟩
end Go.Proofs.YtpnfhienffekoaaGreatDoor
