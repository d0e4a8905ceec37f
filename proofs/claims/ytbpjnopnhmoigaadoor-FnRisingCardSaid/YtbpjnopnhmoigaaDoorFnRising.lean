/- A star rises as long before its passage as it sets behind it and is up in between; the stars that are seen come once each, the highest first: for all arguments. No condition. -/
import Derived.Test.YtbpjnopnhmoigaaDoorPlainRising
import Derived.Test.YtbpjnopnhmoigaaDoorDrawV
import Derived.Test.YtbpjnopnhmoigaaDoorBten
import Derived.Test.YtbpjnopnhmoigaaDoorRise
import Derived.Test.YtbpjnopnhmoigaaDoorSett
import Derived.Test.YtbpjnopnhmoigaaDoorVst
import Derived.Test.YtbpjnopnhmoigaaDoorTied
import Derived.Test.YtbpjnopnhmoigaaDoorChecked
import Derived.Test.YtbpjnopnhmoigaaDoorRows
import Derived.OpenVars
import Derived.RowKit
namespace Go.Proofs.YtbpjnopnhmoigaaDoor
set_option linter.unusedVariables false
set_option linter.unusedSimpArgs false
open Go.RowKit
theorem nrm_bd2 (a : Int) : 0 ≤ nrm a ∧ nrm a ≤ 359999 := by unfold nrm; omega
set_option maxRecDepth 100000 in
set_option maxHeartbeats 4000000 in
theorem FnRising_walk (A0 : Option Addr) (n0 c0 : Nat) (l0 : List Int) (A1 : Option Addr) (n1 c1 : Nat) (l1 : List Int) (w : World) (hl0 : l0.length = n0) (hn0 : n0 ≤ 9223372036854775807) (hS0 : Bytes w A0 l0) (hi0 : ∀ x ∈ l0, ByteOk x) (hl1 : l1.length = n1) (hn1 : n1 ≤ 9223372036854775807) (hS1 : Bytes w A1 l1) (hi1 : ∀ x ∈ l1, ByteOk x) (hSin : SinOk w) :
    Calls Tryd.prog 10 #[.slice A0 n0 c0, .slice A1 n1 c1] w fun e w' => e = .returned (.bool true) ∧ Below w.heap.size w w' := by
  have HI0 := Lib.hid hi0
  have HI1 := Lib.hid hi1
  clear hi0 hi1
  have CL := Lib.hid (b10Long_at A0 n0 c0 w)
  have CM := Lib.hid (b10Long_at A1 n1 c1 w)
  by_cases hlong : 1048576 < n0
  · rw [decide_eq_true hlong] at CL
    clear hlong
    go_enter Tryd.func10, Tryd.ntmps10
    go_wp2_with (refine CL.out.mono ?_; rintro e w1 ⟨rfl, rfl⟩)
    go_ret
    exact ⟨rfl, Below.refl _ _⟩
  rw [decide_eq_false hlong] at CL
  by_cases hlong1 : 1048576 < n1
  · rw [decide_eq_true hlong1] at CM
    go_enter Tryd.func10, Tryd.ntmps10
    go_wp2_with (fail)
    refine CL.out.mono ?_
    rintro e w1 ⟨rfl, rfl⟩
    go_wp2_with (fail)
    refine CM.out.mono ?_
    rintro e w1 ⟨rfl, rfl⟩
    go_wp2_with (fail)
    go_ret
    exact ⟨rfl, Below.refl _ _⟩
  rw [decide_eq_false hlong1] at CM
  go_enter Tryd.func10, Tryd.ntmps10
  go_wp2_with (fail)
  refine CL.out.mono ?_
  rintro e w1 ⟨rfl, rfl⟩
  go_wp2_with (fail)
  refine CM.out.mono ?_
  rintro e w1 ⟨rfl, rfl⟩
  go_wp2_with (fail)
  refine (DrawRisingOf_any A0 n0 c0 l0 w hl0 (by omega) hS0 HI0.out).mono ?_
  rintro e w1 ⟨s, lo, la, r, d, rfl, hdb, hb1⟩
  have HRC := Lib.hid (rise_codes s.data.toList lo la r d)
  have HRO := Lib.hid (fun h => rise_ok (n := s.data.toList) (lo := lo) (la := la) (r := r) (d := d) h)
  have CR := Lib.hid (fun W hW => RisingOf_any s lo la r d W hW)
  have CS := Lib.hid (fun W hW => SettingOf_any s lo la r d W hW)
  have CH := Lib.hid (fun W hW => SettingHour_any s lo la d W hW)
  rw [← HRC.out] at CS
  clear CL CM hS0 hl0
  go_wp2_with (fail)
  refine calls_named ?_
  intro W2 e2
  have hX : Blk W2 w1.heap.size 49 [.string s, .int .i64 lo, .int .i64 la] := by rw [e2]; exact Blk.new w1 _ _
  have hbW : Below w.heap.size w W2 := by rw [e2]; exact below_alloc hb1 _
  clear e2 hb1
  generalize w1.heap.size = q at *
  have HSin := Lib.hid hSin
  obtain ⟨x0, x1, x2⟩ := hX.three
  have hgl := hX.lt
  clear hSin HRC
  obtain ⟨code, hcode⟩ : ∃ c, c = (riseO s.data.toList lo la r d (-1)).2 := ⟨_, rfl⟩
  obtain ⟨ri, hri⟩ : ∃ c, c = (riseO s.data.toList lo la r d (-1)).1 := ⟨_, rfl⟩
  obtain ⟨se, hse⟩ : ∃ c, c = (riseO s.data.toList lo la r d 1).1 := ⟨_, rfl⟩
  obtain ⟨hh, hhh⟩ : ∃ c, c = (settO s.data.toList lo la d).1 := ⟨_, rfl⟩
  obtain ⟨hc3, hhc3⟩ : ∃ c, c = (settO s.data.toList lo la d).2 := ⟨_, rfl⟩
  rw [← hcode, ← hri] at CR
  rw [← hcode, ← hse] at CS
  rw [← hhh, ← hhc3] at CH
  have HE := Lib.hid (And.intro hcode (And.intro hri (And.intro hse (And.intro hhh hhc3))))
  clear hcode hri hse hhh hhc3
  go_wp2_with (fail)
  refine (CR.out _ (HSin.out.of_below hbW)).mono ?_
  rintro e w3 ⟨rfl, hb3⟩
  replace hX := hX.keep hb3
  replace hbW := below_step hbW hb3
  clear hb3 x0 x1 x2 hgl
  obtain ⟨x0, x1, x2⟩ := hX.three
  have hgl := hX.lt
  go_wp2_with (fail)
  refine (CS.out _ (HSin.out.of_below hbW)).mono ?_
  rintro e w4 ⟨rfl, hb4⟩
  replace hX := hX.keep hb4
  replace hbW := below_step hbW hb4
  clear hb4 x0 x1 x2 hgl
  obtain ⟨x0, x1, x2⟩ := hX.three
  have hgl := hX.lt
  go_wp2_with (fail)
  refine (CH.out _ (HSin.out.of_below hbW)).mono ?_
  rintro e w5 ⟨rfl, hb5⟩
  replace hX := hX.keep hb5
  replace hbW := below_step hbW hb5
  clear hb5 x0 x1 x2 hgl
  obtain ⟨x0, x1, x2⟩ := hX.three
  have hgl := hX.lt
  clear CR CS CH
  go_upto_if 65 with (fail)
  go_cut [] (fun wc => Below w.heap.size w wc)
  case first =>
    by_cases hc : code = 0
    · obtain ⟨h0, e1, e2, e3, e4⟩ := HE.out
      obtain ⟨hk, hv, hr, hd, hset, hrise, hset2, h1, h2, hup⟩ := HRO.out (by rw [← h0]; exact hc)
      rw [hrise] at e1
      rw [hset2] at e2
      rw [hset] at e3 e4
      dsimp only at e1 e2 e3 e4
      subst e3
      obtain ⟨hbet, hnrm⟩ := rise_set hr (by omega) h2
      rw [← e1, ← e2] at hbet
      rw [← e2] at hnrm
      have n1b : 0 ≤ ri ∧ ri ≤ 359999 := by rw [e1]; exact nrm_bd2 _
      have n2b : 0 ≤ se ∧ se ≤ 359999 := by rw [e2]; exact nrm_bd2 _
      subst hc e4
      have HUP := Lib.hid hup
      have HV := Lib.hid hv
      have HD := Lib.hid hd
      have HBET := Lib.hid hbet
      have HNRM := Lib.hid hnrm
      clear hset hrise hset2 hup hv hd hbet hnrm HRO HE h0 e1 e2
      go_wp2_with (fail)
      refine (b10Wide_any A1 n1 c1 l1 (2 * hh + 1) w5 hl1 (by omega) (hS1.below hbW) HI1.out (by omega)).mono ?_
      rintro e w6 ⟨uu, rfl, hu0, hu1, rfl⟩
      have hask : askI s.data.toList lo la (nrm (r + (uu - hh))) r d = 0 := by
        have := nrm_bd2 (r + (uu - hh))
        unfold askI
        rw [HV.out, HD.out]
        simp only [if_true, Bool.and_true]
        rw [if_pos]
        simp [inB]; omega
      have CV := Lib.hid (fun W hW => HorizontalVector_any s lo la (nrm (r + (uu - hh))) r d W hW)
      have CN := Lib.hid (fun W => NormalAngle_any (r + (uu - hh)) W (by omega) (by omega))
      have CN2 := Lib.hid (fun W => NormalAngle_any (se - r) W (by omega) (by omega))
      have CA := Lib.hid (fun W => b10Abs_any (uu - hh) W (by omega) (by omega))
      have hbne : (betI ri r != betI se r) = false := by rw [HBET.out]; simp
      rw [HNRM.out] at CN2
      rw [hvO_ok hask] at CV
      dsimp only at CV
      have HZ := Lib.hid (HUP.out (uu - hh))
      clear hask HUP HV HD HBET HNRM
      generalize hvX la (nrm (r + (uu - hh))) r d = vx at *
      generalize hvY (nrm (r + (uu - hh))) r d = vy at *
      generalize hvZ la (nrm (r + (uu - hh))) r d = vz at *
      generalize nrm (r + (uu - hh)) = tn at *
      go_wp2_with (fail)
      have hwr : IntKind.i64.wrap (r + (uu - hh)) = r + (uu - hh) := wrap_in' (by omega) (by omega)
      go_region_held3 (fun w' => w'.cell? ⟨q, 0, none⟩ = some (.string s) ∧ w'.cell? ⟨q, 1, none⟩ = some (.int .i64 lo) ∧ w'.cell? ⟨q, 2, none⟩ = some (.int .i64 la))
        ((refine ⟨?_, ?_, ?_⟩ <;> ((with_reducible (repeat (first | assumption | refine heldV_alloc _ ?_ | refine heldV_drew ?_ | refine heldV_set (by assumption) ?_)); done))))
        (first
          | (go_at_call 46; refine (CN.out _).mono ?_; rintro e w' ⟨rfl, rfl⟩)
          | (go_at_call 45; refine (CV.out _ (HSin.out.of_below (below_step hbW (by first | exact Below.refl _ _ | exact below_drew0 (Below.refl _ _) | exact below_alloc (Below.refl _ _) _ | exact below_drew0 (below_alloc (Below.refl _ _) _))))).mono ?_; rintro e w9 ⟨rfl, hb9⟩; have hb59 : Below w5.heap.size w5 w9 := below_step (by first | exact Below.refl _ _ | exact below_drew0 (Below.refl _ _) | exact below_alloc (Below.refl _ _) _ | exact below_drew0 (below_alloc (Below.refl _ _) _)) hb9; have k0 := cell_kept x0 hb59; have k1 := cell_kept x1 hb59; have k2 := cell_kept x2 hb59; have hqv : w5.heap.size ≠ q := Nat.ne_of_gt hgl; try (have hVb : Blk w9 w5.heap.size 69 [.int .i64 0, .int .i64 0, .int .i64 0] := Blk.keep (show Blk _ w5.heap.size 69 [.int .i64 0, .int .i64 0, .int .i64 0] from by exact (Blk.new w5 69 [.int .i64 0, .int .i64 0, .int .i64 0]).keep (by exact below_drew0 (Below.refl _ _))) hb9; obtain ⟨v0, v1, v2⟩ := hVb.three; have f0 := hVb.frozen 0; have f1 := hVb.frozen 1; have f2 := hVb.frozen 2; have hvl := hVb.lt)))
      all_goals
        go_upto_region 12 with (fail)
        refine wp_named ?_
        intro W11 e11
        first
        | (have hVV := hVb
           have hbV : Below w5.heap.size w5 W11 := by rw [e11]; exact below_setCell0 (below_setCell0 (below_setCell0 hb59 (Nat.le_refl _) _) (Nat.le_refl _) _) (Nat.le_refl _) _
           have hZ3 : Blk W11 w5.heap.size 69 [.int .i64 vx, .int .i64 vy, .int .i64 vz] := by rw [e11]; exact ((hVb.set_ 0 _).set_ 1 _).set_ 2 _
           clear hVV hVb v0 v1 v2 f0 f1 f2 hvl
           obtain ⟨vp, hvp⟩ : ∃ p, p = w5.heap.size := ⟨_, rfl⟩
           rw [← hvp] at hZ3 ⊢
           clear hvp)
        | (have hbV : Below w5.heap.size w5 W11 := by rw [e11]; exact below_alloc hb59 _
           have hZ3 : Blk W11 w9.heap.size 69 [.int .i64 vx, .int .i64 vy, .int .i64 vz] := by rw [e11]; exact Blk.new w9 _ _
           obtain ⟨vp, hvp⟩ : ∃ p, p = w9.heap.size := ⟨_, rfl⟩
           rw [← hvp] at hZ3 ⊢
           clear hvp)
        have hbE := below_step hbW hbV
        obtain ⟨z0, z1, z2⟩ := hZ3.three
        have hzl := hZ3.lt
        clear e11 hb9 hb59 k0 k1 k2 x0 x1 x2 hwr hZ3
        by_cases hu : absI (uu - hh) < hh
        · have hz : ¬ vz ≤ 0 := by have := HZ.out hu; omega
          generalize absI (uu - hh) = ab at *
          go_wp2_with (first | (go_at_call 47; refine (AngleBetween_any _ _ _ (by omega) (by omega)).mono ?_; rintro e w' ⟨rfl, rfl⟩) | (go_at_call 46; refine (CN2.out _).mono ?_; rintro e w' ⟨rfl, rfl⟩) | (go_at_call 48; refine (CA.out _).mono ?_; rintro e w' ⟨rfl, rfl⟩))
          go_meet
          exact hbE
        · generalize absI (uu - hh) = ab at *
          go_wp2_with (first | (go_at_call 47; refine (AngleBetween_any _ _ _ (by omega) (by omega)).mono ?_; rintro e w' ⟨rfl, rfl⟩) | (go_at_call 46; refine (CN2.out _).mono ?_; rintro e w' ⟨rfl, rfl⟩) | (go_at_call 48; refine (CA.out _).mono ?_; rintro e w' ⟨rfl, rfl⟩))
          go_meet
          exact hbE
    · have hc1 : (code == 0) = false := by rw [beq_eq_false_iff_ne]; exact hc
      go_wp2_with (fail)
      go_meet
      exact hbW
  case rest =>
    clear hX hbW x0 x1 x2 hgl HRO HE
    go_wp2_with (fail)
    refine (DrawVisibleStars_any A1 n1 c1 l1 wc hl1 (by omega) (hS1.below hcut) HI1.out).mono ?_
    rintro e w7 ⟨tn, lo2, la2, sid, v, l, least, rfl, hO, hl30, hb7⟩
    have hbW := below_step hcut hb7
    obtain ⟨A, c, rfl, hA⟩ := hO.form
    have HNIL := Lib.hid (fun h => vst_nil (l := l) (tn := tn.data.toList) (lo := lo2) (la := la2) (s := sid) (least := least) h)
    have HSEEN := Lib.hid (fun h k x hx => vst_seen (l := l) (tn := tn.data.toList) (lo := lo2) (la := la2) (s := sid) (least := least) h (k := k) (x := x) hx)
    have CVS := Lib.hid (fun W hW hA => VisibleStars_any A l.length c l tn lo2 la2 sid least W hW rfl (by omega) hA)
    have CHO := Lib.hid (fun r d W hW => Horizontal_any tn lo2 la2 sid r d W hW)
    have h24 := vstO_len l tn.data.toList lo2 la2 sid least
    clear hb7 hO hcut hS1 hl1
    generalize (vstO l tn.data.toList lo2 la2 sid least).1 = V at *
    generalize (vstO l tn.data.toList lo2 la2 sid least).2 = vc at *
    obtain ⟨m, hm⟩ : ∃ m, V.length = m := ⟨_, rfl⟩
    rw [hm] at h24
    have HM := Lib.hid hm
    clear hm
    go_wp2_with (fail)
    refine calls_named ?_
    intro W8 e8
    have hX : Blk W8 w7.heap.size 49 [.string tn, .int .i64 lo2, .int .i64 la2] := by rw [e8]; exact Blk.new w7 _ _
    have hb8 : Below w7.heap.size w7 W8 := by rw [e8]; exact below_alloc (Below.refl _ _) _
    replace hA := hA.below hb8
    replace hbW := below_step hbW hb8
    clear e8 hb8
    generalize w7.heap.size = q2 at *
    refine (CVS.out _ (HSin.out.of_below hbW) hA).mono ?_
    rintro e w9 ⟨v9, rfl, hO9, hb9⟩
    replace hX := hX.keep hb9
    replace hA := hA.below hb9
    replace hbW := below_step hbW hb9
    clear hb9 CVS
    by_cases hvc : vc = 0
    · subst hvc
      have HSE := Lib.hid (fun k x hx => HSEEN.out rfl k x hx)
      obtain ⟨Bv, cv, rfl, hI, hcv1, hcv2, _, _⟩ := hO9.form2
      rw [HM.out] at hcv1 ⊢
      clear HNIL HSEEN hO9
      go_wp2_with (fail)
      go_loopw [23, 24, 25, 26, 27, 28] (fun s23 s24 _ _ _ _ wr => ∃ (k : Nat) (last : Int), k ≤ m ∧ s24 = .int .i64 (k : Int) ∧ s23 = .int .i64 last ∧ (∀ x, V[k]? = some x → altAt l la2 sid x ≤ last) ∧ Below w9.heap.size w9 wr) (fun _ s24 _ _ _ _ _ => m - (intOf s24).toNat)
      case atStart => exact ⟨0, 90000, by omega, rfl, rfl, fun x hx => by obtain ⟨i, st, _, _, _, _, h, _, _⟩ := HSE.out 0 x hx; exact h, Below.refl _ _⟩
      case round =>
        obtain ⟨k, last, hk, rfl, rfl, hlast, hb⟩ := hrel
        have HLA := Lib.hid hlast
        clear hlast
        by_cases hlt : k < m
        · obtain ⟨x, hx⟩ := at_lt (l := V) (k := k) (by have := HM.out; omega)
          obtain ⟨i, st, rfl, hst, ⟨lon, hlon⟩, ha1, ha2, hnx, hds⟩ := HSE.out k x hx
          have hal := HLA.out _ hx
          obtain ⟨vb, vo, rfl, hc⟩ := (hI.below hb) (by have := HM.out; omega)
          have c0 := hc k _ hx
          have l0 := World.block_lt_of_cell? wr _ c0
          dsimp only at l0
          have hil : i < l.length := (List.getElem?_eq_some_iff.1 hst).1
          obtain ⟨sb, so, rfl, hcs⟩ := (hA.below hb) (by omega)
          obtain ⟨s0, s1, s2, s3, s4⟩ := hcs i st hst
          have hsl := World.block_lt_of_cell? wr _ s0
          dsimp only at hsl
          have hXr := hX.keep hb
          obtain ⟨x0, x1, x2⟩ := hXr.three
          have hql := hXr.lt
          have HIT : Hid (∀ W, Below wr.heap.size wr W → Calls Tryd.prog 50 #[.slice (some ⟨vb, vo, none⟩) k cv, .int .i64 (i : Int)] W fun e w' => e = .returned (.bool false) ∧ W = w') := Lib.hid (fun W hW => by
            have hI2 : Ints wr (some ⟨vb, vo, none⟩) (V.take k) := fun _ => ⟨vb, vo, rfl, fun j y hy => by
              rw [List.getElem?_take] at hy
              split at hy
              · exact hc j y hy
              · cases hy⟩
            refine b10Has_no _ k cv (V.take k) (i : Int) W (by rw [List.length_take, HM.out]; omega) (by omega) (hI2.below hW) (fun y hy => ?_)
            obtain ⟨j, hj⟩ := List.getElem?_of_mem hy
            rw [List.getElem?_take] at hj
            split at hj
            · next hjk => exact hds j y hjk hj
            · cases hj)
          have CHO2 := Lib.hid (fun W hW => CHO.out st.ri st.de W hW)
          rw [hlon] at CHO2
          dsimp only at CHO2
          have HNX := Lib.hid hnx
          have hi0 : decide ((i : Int) < 0) = false := decide_eq_false (by omega)
          have hi1 : decide ((l.length : Int) ≤ (i : Int)) = false := decide_eq_false (by omega)
          have hkc : k ≤ cv := by omega
          clear hc hcs hst hlon hds hnx hx
          generalize altAt l la2 sid (i : Int) = alt at *
          have hSW := Lib.hid (HSin.out.of_below (below_step hbW hb))
          go_wp2_with (fail)
          (refine later_intro_wp ?_; intro y)
          (refine wp_region_later (by kernel_rfl) (by kernel_rfl) ?_; (repeat (first | go_big_quiet_step ((go_at_call 50; exact later_same (HIT.out _ (Later.below _)))) | quiet_step ((go_at_call 50; exact later_same (HIT.out _ (Later.below _)))))); refine wpQuiet_nil ?_; rintro _ ⟨y, rfl⟩)
          go_upto_region 25 with (fail)
          refine wp_named ?_
          intro W12 e12
          have hb12 : Below wr.heap.size wr W12 := by rw [e12]; exact below_alloc (Later.below _) _
          have hT : Blk W12 y.w.heap.size 78 [.string st.id, .int .i64 st.ri, .int .i64 st.de, .int .i64 st.ma, .int .i64 st.co] := by rw [e12]; exact Blk.new y.w _ _
          have t1 : W12.cell? ⟨y.w.heap.size, 1, none⟩ = some (.int .i64 st.ri) := by rw [hT.cell]; rfl
          have t2 : W12.cell? ⟨y.w.heap.size, 2, none⟩ = some (.int .i64 st.de) := by rw [hT.cell]; rfl
          have htl := hT.lt
          replace x0 := cell_kept x0 hb12
          replace x1 := cell_kept x1 hb12
          replace x2 := cell_kept x2 hb12
          have HB12 := Lib.hid hb12
          clear e12 hT hb12 c0 s0 s1 s2 s3 s4 HIT
          generalize y.w.heap.size = pq at *
          go_wp2_with (fail)
          refine (CHO2.out _ (hSW.out.of_below HB12.out)).mono ?_
          rintro e w13 ⟨rfl, hb13⟩
          go_wp2_with (fail)
          go_roundw
          case rel => exact ⟨k + 1, alt, by omega, by go_num, rfl, fun x hx => HNX.out x hx, below_step (below_step hb HB12.out) hb13⟩
          case measure => simp [intOf]; omega
        · obtain rfl : k = m := by omega
          go_wp2_with (fail)
          go_ret
          exact ⟨rfl, below_step hbW hb⟩
    · have e := HNIL.out hvc
      subst e
      obtain ⟨A2, c2, rfl, _⟩ := hO9.form
      have hc1 : (vc == 0) = false := by rw [beq_eq_false_iff_ne]; exact hvc
      have hc2 : (vc != 0) = true := by rw [bne_iff_ne]; exact hvc
      clear HSEEN HNIL hO9
      go_wp2_with (fail)
      go_ret
      exact ⟨rfl, hbW⟩
namespace FnRising
open Go.ChangeShapes Go.WideShapes Go.ChangeAt Go.RowKit Go.Joins
open Go.ChangeMaps (open_string shut_string)
theorem own : ownKnob Tryd.prog.godebug = none := by kernel_rfl
theorem laidOut : laidOutB Tryd.prog = true := by kernel_rfl
theorem gTab : Tryd.prog.globalNamed "loop.example/g00955/impl.sines" = some 0 := by kernel_rfl
theorem gTabType : (Tryd.prog.globals[0]?).map (·.type) = some 165 := by kernel_rfl
theorem cellsT : Tryd.prog.cellsOf 165 = 91 := by kernel_rfl
theorem cells1 : Tryd.prog.cellsOf 2 = 1 := by kernel_rfl
theorem table {W : World} (h : laidMetH Tryd.prog Rows.fnRisingRow.laid W) : Lib.TabIs Tryd.prog W "loop.example/g00955/impl.sines" .i64 sinTab :=
  Lib.tabIs_of_head (rest := []) gTab gTabType Tryd.underlying165 Tryd.underlying2 cells1 cellsT h
theorem sinOk {W : World} (h : laidMetH Tryd.prog Rows.fnRisingRow.laid W) : SinOk W :=
  ⟨lt_of_cell ((table h).cell gTab 0 (by show 0 < 91; omega)), fun k hk => (table h).cell gTab k (by show k < 91; exact hk)⟩
noncomputable def laidWorld (os : Os) : World :=
  { World.holding Tryd.prog os ⟨#[], #[], []⟩ with heap := (World.holding Tryd.prog os ⟨#[], #[], []⟩).heap.modify 0 fun
      | .cells _ t frozen => .cells (sinTab.map (Value.int .i64)).toArray t frozen
      | o => o }
theorem laid_met (os : Os) : laidMet Tryd.prog Rows.fnRisingRow.laid ((laidWorld os).forCall (fun _ _ => 0) ⟨#[], #[.slice none 0 0, .slice none 0 0], []⟩).memory :=
  laidMet_of_run' 8 (by kernel_rfl) (by kernel_rfl)
theorem reads (os : Os) {H : Type} (enc : TypeId × Value → H) : ∃ places, DataW.whole enc Tryd.prog ((laidWorld os).forCall (fun _ _ => 0) ⟨#[], #[.slice none 0 0, .slice none 0 0], []⟩).memory Tryd.f10.params.toList Rows.fnRisingSpec.vars false (#[.slice none 0 0, .slice none 0 0] : Array Value).toList 8 = some ([.nil, .nil], [Rows.laid_loop_example_g00955_impl_sines], places) :=
  ⟨((DataW.whole enc Tryd.prog ((laidWorld os).forCall (fun _ _ => 0) ⟨#[], #[.slice none 0 0, .slice none 0 0], []⟩).memory Tryd.f10.params.toList Rows.fnRisingSpec.vars false (#[.slice none 0 0, .slice none 0 0] : Array Value).toList 8).map (fun x => x.2.2)).getD [], by kernel_rfl⟩
set_option maxRecDepth 100000 in
set_option maxHeartbeats 2000000 in
theorem lifted (os : Os) (started : os.Started) (H : Type) (enc : TypeId × Value → H) (F : Stop.Interp) :
    ReturnsInHanded {} Tryd.checked os 10 .any ((OpenSpec.ofChange Rows.fnRisingSpec).preRow enc Tryd.prog Tryd.f10 Rows.fnRisingRow.domain false Rows.fnRisingRow.laid) (((OpenSpec.ofChange Rows.fnRisingSpec).at F).post enc Tryd.prog Tryd.f10 false true false false) := by
  obtain ⟨places, hx⟩ := reads os enc
  refine returnsInHanded_of_row (C := Tryd.checked) (s := OpenSpec.ofChange Rows.fnRisingSpec) own started (by kernel_rfl) Tryd.func10
    (witness_row_at (enc := enc) (C := Tryd.checked) false (laidWorld os) #[.slice none 0 0, .slice none 0 0] rfl (by kernel_rfl) (by kernel_rfl) (by kernel_rfl)
      (OpenSpec.preRow_of_cond 8 hx (by kernel_rfl) (fun k hk => by cases hk) (by kernel_rfl) (laid_met os))) ?_
  intro W base args ds gs before hval0 hW _ _ _ hL _ _
  have hval : ∀ (j : Nat) t v, Tryd.f10.params[j]? = some t → args[j]? = some v → Value.okWide Tryd.prog W .any base t v := hval0
  have hW' := hW
  obtain ⟨p, q, hA0, hV, rfl, hfz, hnd⟩ := hW
  have hA : DataW.TrodAll enc Tryd.prog W 0 (fun _ => true) true Tryd.f10.params.toList args.toList ds p := hA0
  rw [Tryd.params10] at hA hval
  obtain ⟨v0, vs0, d0, ds0, p0, q0, hargs, rfl, rfl, h0, r0⟩ := trodAll_cons hA
  obtain ⟨v1, vs1, d1, ds1, p1, q1, rfl, rfl, rfl, h1, r1⟩ := trodAll_cons r0
  obtain ⟨rfl, rfl, rfl⟩ := trodAll_nil r1
  obtain rfl : args = #[v0, v1] := by cases args; simp_all
  have hVk := hV
  obtain ⟨_, _, _, _, dg, _, rfl, _, _, _, _, _⟩ := trodVars_one hV
  have k0 := h0
  have lt0 : ∀ x ∈ p0, x.block < W.heap.size := by obtain ⟨m, hm⟩ := k0; exact DataW.trod_lt m _ _ _ hm
  have k1 := h1
  have lt1 : ∀ x ∈ p1, x.block < W.heap.size := by obtain ⟨m, hm⟩ := k1; exact DataW.trod_lt m _ _ _ hm
  obtain ⟨A0, n0, c0, l0, rfl, hl0, hn0, hc0, hx0, hS0, hi0⟩ := open_bytes Tryd.underlying57 Tryd.underlying5 (by kernel_rfl) (hval 0 57 v0 rfl rfl) h0
  obtain ⟨A1, n1, c1, l1, rfl, hl1, hn1, hc1, hx1, hS1, hi1⟩ := open_bytes Tryd.underlying57 Tryd.underlying5 (by kernel_rfl) (hval 1 57 v1 rfl rfl) h1
  clear hA0 hval0
  refine (FnRising_walk A0 n0 c0 l0 A1 n1 c1 l1 W hl0 hn0 hS0 hi0 hl1 hn1 hS1 hi1 (sinOk hL)).mono fun e W' ⟨he, bel⟩ => ?_
  subst he
  exact ⟨_, rfl, _, _, _, [], _, _, hW', trodAll_mk1 (shut_bool Tryd.underlying4 _), (trodAll_cons_mk (Below.trod laidOut (by kernel_rfl) (of_decide_eq_true (by kernel_rfl)) k0 bel lt0) (trodAll_cons_mk (Below.trod laidOut (by kernel_rfl) (of_decide_eq_true (by kernel_rfl)) k1 bel lt1) trodAll_mk0)), Below.trodVars laidOut bel (by kernel_rfl) hVk, bel.frame _, fun h => by cases h⟩
theorem said : Rows.FnRisingSaid :=
  OpenClaim.holds_of_cond 10 Tryd.f10 rfl rfl rfl rfl rfl rfl rfl ⟨rfl, rfl, rfl, rfl, rfl⟩ rfl rfl rfl rfl rfl (by kernel_rfl) Tryd.func10 (by kernel_rfl)
    (of_decide_eq_true (by kernel_rfl)) (by unfold Func.isWrapper; first | (rw [if_pos (by decide +kernel)]; kernel_rfl) | (rw [if_neg (by decide +kernel)]; exact ⟨rfl, rfl⟩))
    (fun os started H enc _ F => by rw [OpenClaim.pre_eq_preRow]; exact lifted os started H enc F)
theorem plain (f : FuncId) (fn : Func) (hf : Tryd.pinned.checked.prog.funcNamed "loop.example/g00955/laws.FnRising" = some f) (hfn : Tryd.pinned.checked.prog.funcs[f]? = some fn) :
    false = Tryd.pinned.checked.prog.looks [] ∧ ∀ (j : Nat) t, fn.params[j]? = some t → Tryd.pinned.checked.prog.wantsStandIn t = false := by
  obtain rfl : f = 10 := Option.some.inj ((show Tryd.prog.funcNamed "loop.example/g00955/laws.FnRising" = some 10 by kernel_rfl).symm.trans hf) |>.symm
  obtain rfl : fn = Tryd.f10 := (Option.some.inj (Tryd.func10.symm.trans hfn)).symm
  refine ⟨by kernel_rfl, fun j t ht => ?_⟩
  rw [Tryd.params10] at ht
  have hm : t ∈ [57, 57] := by simpa using Array.mem_of_getElem? ht
  have hall : ([57, 57].all fun u => !Tryd.prog.wantsStandIn u) = true := by kernel_rfl
  exact (show Tryd.prog.wantsStandIn t = false by simpa using List.all_eq_true.1 hall t hm)
/-- the statement: the card -/
theorem proved : Rows.FnRisingCardSaid :=
  Claim7.holds_tied_plain_at .later [] _ _ _ _ said (fun _ h => by cases h) (by kernel_rfl) (fun _ h => by cases h) fnRising_row_tie rfl ⟨rfl, rfl⟩ (by kernel_rfl) rfl plain (by kernel_rfl)
end FnRising
end Go.Proofs.YtbpjnopnhmoigaaDoor
