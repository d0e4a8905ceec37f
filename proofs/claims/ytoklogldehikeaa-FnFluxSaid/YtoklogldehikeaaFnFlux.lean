/- Brighter magnitudes have more flux, magnitudes are found again from it, and all stars together are not fainter than the brightest one: for all arguments. No condition. -/
import Derived.Test.YtoklogldehikeaaPlainFluxL
import Derived.Test.YtoklogldehikeaaR8
import Derived.Test.YtoklogldehikeaaDrawS
import Derived.Test.YtoklogldehikeaaTotal
import Derived.Test.YtoklogldehikeaaChecked
import Derived.Test.YtoklogldehikeaaRows
import Derived.OpenVars
import Derived.RowKit
namespace Go.Proofs.Ytoklogldehikeaa
set_option linter.unusedVariables false
set_option linter.unusedSimpArgs false
open Go.RowKit
/-- all stars together have at least the flux of one -/
theorem sumFlux_ge {l : List Sta} (hok : ∀ x ∈ l, -200 ≤ x.ma ∧ x.ma ≤ 800) : 0 ≤ sumFlux l ∧ ∀ x ∈ l, fluxI x.ma ≤ sumFlux l := by
  induction l with
  | nil => exact ⟨Int.le_refl _, fun x hx => by cases hx⟩
  | cons y l ih =>
    obtain ⟨h1, h2⟩ := ih fun x hx => hok x (List.mem_cons_of_mem _ hx)
    have hy := flux_ok (hok y List.mem_cons_self).1 (hok y List.mem_cons_self).2
    rw [sumFlux]
    refine ⟨by omega, fun x hx => ?_⟩
    rcases List.mem_cons.1 hx with rfl | hx
    · omega
    · have := h2 x hx; omega
theorem sta_bd {x : Sta} (h : x.ok = true) : -200 ≤ x.ma ∧ x.ma ≤ 800 ∧ -50 ≤ x.co ∧ x.co ≤ 250 := by
  simp [Sta.ok, vStar, inB] at h
  omega
theorem totO_most {l : List Sta} (hv : vStars l = true) (h0 : l.length ≠ 0) (h : (totO l).2 = 0) : ∀ x ∈ l, (totO l).1 ≤ x.ma := by
  rw [totO_yes hv h0] at h ⊢
  intro x hx
  have hok : ∀ x ∈ l, -200 ≤ x.ma ∧ x.ma ≤ 800 := fun x hx => by
    obtain ⟨k, hk, e⟩ := List.mem_iff_getElem.1 hx
    have := sta_bd (vStars_ok hv (k := k) (x := x) (by rw [← e]; exact List.getElem?_eq_getElem hk))
    omega
  have h2 := (sumFlux_ge hok).2 x hx
  have h3 := hok x hx
  obtain ⟨i, hi⟩ : ∃ i : Nat, x.ma = (i : Int) - 200 := ⟨(x.ma + 200).toNat, by omega⟩
  rw [hi] at h2 ⊢
  exact magT_most h2 h
set_option maxRecDepth 100000 in
set_option maxHeartbeats 4000000 in
theorem FnFlux_walk (A0 : Option Addr) (n0 c0 : Nat) (l0 : List Int) (A1 : Option Addr) (n1 c1 : Nat) (l1 : List Int) (w : World) (hl0 : l0.length = n0) (hn0 : n0 ≤ 9223372036854775807) (hS0 : Bytes w A0 l0) (hi0 : ∀ x ∈ l0, ByteOk x) (hl1 : l1.length = n1) (hn1 : n1 ≤ 9223372036854775807) (hS1 : Bytes w A1 l1) (hi1 : ∀ x ∈ l1, ByteOk x) :
    Calls Try.prog 8 #[.slice A0 n0 c0, .slice A1 n1 c1] w fun e w' => e = .returned (.bool true) ∧ Below w.heap.size w w' := by
  have HI0 := Lib.hid hi0
  have HI1 := Lib.hid hi1
  clear hi0 hi1
  have CL := Lib.hid (r8Long_any A0 A1 n0 c0 n1 c1 w)
  cases hlong : (decide (1048576 < n0) || decide (1048576 < n1)) with
  | true =>
    rw [hlong] at CL
    clear hlong
    go_enter Try.func8, Try.ntmps8
    go_wp2_with (refine CL.out.mono ?_; rintro e w1 ⟨rfl, rfl⟩)
    go_ret
    exact ⟨rfl, Below.refl _ _⟩
  | false =>
    rw [hlong] at CL
    have hs0 : n0 ≤ 1048576 ∧ n1 ≤ 1048576 := by simp at hlong; omega
    clear hlong
    obtain ⟨hs0, hs1⟩ := hs0
    go_enter Try.func8, Try.ntmps8
    go_wp2_with (refine CL.out.mono ?_; rintro e w1 ⟨rfl, rfl⟩)
    refine (r8Wide_any A1 n1 c1 0 l1 1000 w1 hl1 hs1 hS1 HI1.out (by omega) (by omega)).mono ?_
    rintro e w2 ⟨i, rfl, hi, rfl⟩
    have hi2 : i < 1000 := by omega
    have HF := Lib.hid (fluxO_yes (m := (i : Int) - 200) (by simp [inB]; omega))
    have HG := Lib.hid (fluxO_yes (m := (i : Int) - 200 + 1) (by simp [inB]; omega))
    have HB := Lib.hid (magO_back (i := i) (by omega))
    have hlt := flux_next hi2
    rw [show (i : Int) + 1 - 200 = (i : Int) - 200 + 1 by omega] at hlt
    have CF := Lib.hid (fun W => FluxOf_any ((i : Int) - 200) W)
    have CG := Lib.hid (fun W => FluxOf_any ((i : Int) - 200 + 1) W)
    have CM := Lib.hid (fun W => MagnitudeOf_any (fluxI ((i : Int) - 200)) W)
    rw [HF.out] at CF
    rw [HG.out] at CG
    rw [HB.out] at CM
    clear HF HG HB hi
    generalize fluxI ((i : Int) - 200) = f0 at *
    generalize fluxI ((i : Int) - 200 + 1) = f1 at *
    go_wp2_with (fail)
    refine (CF.out _).mono ?_
    rintro e w3 ⟨rfl, hb3⟩
    go_wp2_with (fail)
    refine (CG.out _).mono ?_
    rintro e w4 ⟨rfl, hb4⟩
    go_wp2_with (fail)
    refine (CM.out _).mono ?_
    rintro e w5 ⟨rfl, hb5⟩
    have hge : ¬ f0 ≤ f1 := by omega
    go_wp2_with (fail)
    have hb35 := below_step (below_step hb3 hb4) hb5
    refine (R8Stars_any A0 n0 c0 l0 w5 hl0 hs0 (hS0.below hb35) HI0.out).mono ?_
    rintro e w6 ⟨v, l, rfl, hO, hV, hl6, hb6⟩
    have hb36 := below_step hb35 hb6
    clear CF CG CM CL hb3 hb4 hb5 hb35 hb6 hge hlt hS0 hS1 hl0 hl1
    obtain ⟨A, c, rfl, hA, _, _, _, _⟩ := hO.form2
    clear hO
    have HV := Lib.hid hV
    clear hV
    go_wp2_with (fail)
    refine (TotalMagnitude_any A l.length c l w6 rfl (by omega) hA).mono ?_
    rintro e w7 ⟨rfl, hb7⟩
    have hA7 := hA.below hb7
    have hb37 := below_step hb36 hb7
    clear hA hb36 hb7
    by_cases h0 : l.length = 0
    · rw [totO_nil HV.out h0]
      go_wp2_with (fail)
      go_ret
      exact ⟨rfl, hb37⟩
    · have HM := Lib.hid (totO_most HV.out h0)
      have hcode : (totO l).2 = 0 ∨ (totO l).2 = 6 := by rw [totO_yes HV.out h0]; exact magT_code _
      generalize (totO l).1 = tot at *
      generalize (totO l).2 = code at *
      have h0' : ((l.length : Int) == 0) = false := by rw [beq_eq_false_iff_ne]; omega
      go_wp2_with (fail)
      go_loopw [15] (fun s wq => ∃ k : Nat, k ≤ l.length ∧ s = .int .i64 (k : Int) ∧ Below w7.heap.size w7 wq) (fun s _ => l.length - (intOf s).toNat)
      case atStart => exact ⟨0, by omega, rfl, Below.refl _ _⟩
      case round =>
        obtain ⟨k, hk, rfl, hb⟩ := hrel
        by_cases hlt : k < l.length
        · obtain ⟨x, hx⟩ := at_lt (l := l) (k := k) hlt
          have hbd := sta_bd (vStars_ok HV.out hx)
          have hmost : code = 0 → tot ≤ x.ma := fun h => HM.out h x (List.mem_of_getElem? hx)
          obtain ⟨b, o, rfl, hc⟩ := (hA7.below hb) (by omega)
          obtain ⟨a0, a1, a2, a3, a4⟩ := hc k x hx
          clear hc hx
          obtain ⟨_, _, hc0, hc1⟩ := hbd
          generalize x.ma = ma at *
          generalize x.co = co at *
          have CC := Lib.hid (fun W => ColourName_any co W hc0 hc1)
          rcases hcode with rfl | rfl
          · have hm := hmost rfl
            go_wp2_with (refine (CC.out _).mono ?_; rintro e w8 ⟨s, rfl, hs, hs2, rfl⟩)
            go_roundw
            case rel => exact ⟨k + 1, by omega, by go_num, hb⟩
            case measure => simp [intOf]; omega
          · go_wp2_with (refine (CC.out _).mono ?_; rintro e w8 ⟨s, rfl, hs, hs2, rfl⟩)
            go_roundw
            case rel => exact ⟨k + 1, by omega, by go_num, hb⟩
            case measure => simp [intOf]; omega
        · obtain rfl : k = l.length := by omega
          rcases hcode with rfl | rfl
          · go_wp2_with (fail)
            go_ret
            exact ⟨rfl, below_step hb37 hb⟩
          · go_wp2_with (fail)
            go_ret
            exact ⟨rfl, below_step hb37 hb⟩
namespace FnFlux
open Go.ChangeShapes Go.WideShapes Go.ChangeAt Go.RowKit Go.Joins
open Go.ChangeMaps (open_string shut_string)
theorem own : ownKnob Try.prog.godebug = none := by kernel_rfl
theorem laidOut : laidOutB Try.prog = true := by kernel_rfl
set_option maxRecDepth 100000 in
set_option maxHeartbeats 1000000 in
theorem lifted (os : Os) (started : os.Started) (H : Type) (enc : TypeId × Value → H) :
    ReturnsInHanded {} Try.checked os 8 .any (Rows.fnFluxSpec.pre6 enc Try.prog Try.f8 Rows.fnFluxRow.domain false) (Rows.fnFluxSpec.post enc Try.prog Try.f8 false true false false) := by
  refine returnsInHanded_of_change (C := Try.checked) own started (by kernel_rfl) Try.func8
    (ChangeSpec.witness6 (enc := enc) (C := Try.checked) false ⟨#[], #[.slice none 0 0, .slice none 0 0], []⟩ 8 (by kernel_rfl) (by kernel_rfl) (by kernel_rfl) (by kernel_rfl)) ?_
  intro W base args ds gs before hval0 hW hcnd _
  have hval : ∀ (j : Nat) t v, Try.f8.params[j]? = some t → args[j]? = some v → Value.okWide Try.prog W .any base t v := hval0
  have hW' := hW
  obtain ⟨p, q, hA0, hV, rfl, hfz, hnd⟩ := hW
  have hA : DataW.TrodAll enc Try.prog W 0 (fun _ => true) true Try.f8.params.toList args.toList ds p := hA0
  rw [Try.params8] at hA hval
  obtain ⟨v0, vs0, d0, ds0, p0, q0, hargs, rfl, rfl, h0, r0⟩ := trodAll_cons hA
  obtain ⟨v1, vs1, d1, ds1, p1, q1, rfl, rfl, rfl, h1, r1⟩ := trodAll_cons r0
  obtain ⟨rfl, rfl, rfl⟩ := trodAll_nil r1
  obtain rfl : args = #[v0, v1] := by cases args; simp_all
  obtain ⟨rfl, rfl⟩ := trodVars_none hV
  have k0 := h0
  have lt0 : ∀ x ∈ p0, x.block < W.heap.size := by obtain ⟨m, hm⟩ := k0; exact DataW.trod_lt m _ _ _ hm
  have k1 := h1
  have lt1 : ∀ x ∈ p1, x.block < W.heap.size := by obtain ⟨m, hm⟩ := k1; exact DataW.trod_lt m _ _ _ hm
  obtain ⟨A0, n0, c0, l0, rfl, hl0, hn0, hc0, hx0, hS0, hi0⟩ := open_bytes Try.underlying55 Try.underlying5 (by kernel_rfl) (hval 0 55 v0 rfl rfl) h0
  obtain ⟨A1, n1, c1, l1, rfl, hl1, hn1, hc1, hx1, hS1, hi1⟩ := open_bytes Try.underlying55 Try.underlying5 (by kernel_rfl) (hval 1 55 v1 rfl rfl) h1
  clear hA0 hval0
  refine (FnFlux_walk A0 n0 c0 l0 A1 n1 c1 l1 W hl0 hn0 hS0 hi0 hl1 hn1 hS1 hi1).mono fun e W' ⟨he, bel⟩ => ?_
  subst he
  exact ⟨_, rfl, _, _, _, [], _, [], hW', trodAll_mk1 (shut_bool Try.underlying4 _), (trodAll_cons_mk (Below.trod laidOut (by kernel_rfl) (of_decide_eq_true (by kernel_rfl)) k0 bel lt0) (trodAll_cons_mk (Below.trod laidOut (by kernel_rfl) (of_decide_eq_true (by kernel_rfl)) k1 bel lt1) trodAll_mk0)), rfl, bel.frame _, fun h => by cases h⟩
theorem over : Rows.fnFluxRow.holds Try.pinned (OpenSpec.ofChange Rows.fnFluxSpec) :=
  OpenClaim.holds_of_wide 8 Try.f8 rfl rfl rfl rfl rfl rfl rfl ⟨rfl, rfl, rfl, rfl, rfl⟩ rfl rfl rfl rfl rfl (by kernel_rfl) Try.func8 (by kernel_rfl)
    (of_decide_eq_true (by kernel_rfl)) (by unfold Func.isWrapper; first | (rw [if_pos (by decide +kernel)]; kernel_rfl) | (rw [if_neg (by decide +kernel)]; exact ⟨rfl, rfl⟩))
    (fun os started H enc _ => lifted os started H enc)
/-- the statement -/
theorem proved : Rows.FnFluxSaid := over
end FnFlux
end Go.Proofs.Ytoklogldehikeaa
