/- The program's BrightestFirst returns what the reference's returns, for all arguments. No condition. -/
import Derived.Test.YtoklogldehikeaaBrightS
import Derived.Test.YtoklogldehikeaaMark
import Derived.Test.YtoklogldehikeaaChecked
import Derived.Test.YtoklogldehikeaaRows
import Derived.OpenVars
import Derived.RowKit
namespace Go.Proofs.Ytoklogldehikeaa
set_option linter.unusedVariables false
set_option linter.unusedSimpArgs false
open Go.RowKit
set_option maxHeartbeats 4000000 in
theorem FnExactBrightestFirst_walk (A0 : Option Addr) (n0 c0 : Nat) (l0 : List Sta) (w : World) (hl0 : l0.length = n0) (hn0 : n0 ≤ 9223372036854775807) (hS0 : Stars w A0 l0) (hi0 : ∀ x ∈ l0, x.i64) :
    Calls Try.prog 7 #[.slice A0 n0 c0] w fun e w' => e = .returned (.bool true) ∧ Below w.heap.size w w' := by
  have HL0 := Lib.hid hl0
  have HI0 := Lib.hid hi0
  clear hl0 hi0
  have CS : Hid (∀ W A, Stars W A l0 → Calls Try.prog 31 #[.slice A n0 n0] W fun e w' => ∃ v : Value, e = .returned (.tuple #[v, .int .i64 (brO l0).2]) ∧ OwnI w' W.heap.size v (brO l0).1 ∧ Below W.heap.size W w') := Lib.hid (fun W A hA => sBrightestFirst_any A n0 n0 l0 W HL0.out hn0 hA)
  have CI : Hid (∀ W A, Stars W A l0 → Calls Try.prog 32 #[.slice A n0 n0] W fun e w' => ∃ v : Value, e = .returned (.tuple #[v, .int .i64 (brO l0).2]) ∧ OwnI w' W.heap.size v (brO l0).1 ∧ Below W.heap.size W w') := Lib.hid (fun W A hA => BrightestFirst_any A n0 n0 l0 W HL0.out hn0 hA)
  have hLen : (brO l0).1.length ≤ 24 := brO_len _
  generalize (brO l0).1 = L at *
  generalize (brO l0).2 = code0 at *
  go_enter Try.func7, Try.ntmps7
  go_wp2_with (fail)
  refine (szStarS_any A0 n0 c0 l0 1048576 _ HL0.out hn0 hS0 HI0.out (by omega) (by omega)).mono ?_
  rintro e w1 ⟨r1, rfl, hr1, hb1⟩
  rcases hr1 with hr1 | ⟨za1, zb1, zc1⟩
  · go_wp2
    go_ret
    exact ⟨rfl, (by repeat (first | exact Below.refl _ _ | refine below_alloc ?_ _ | refine below_drewN0 ?_ _ | refine below_drew0 ?_ | refine below_step ?_ (by assumption) | refine below_later ?_ _ | refine below_setCell0 ?_ (by first | exact Nat.le_refl _ | (simp; done) | omega | (simp; omega)) _))⟩
  have HT := hb1
  go_wp2_with (fail)
  refine (toStarS_any A0 n0 c0 l0 _ HL0.out (by omega) (hS0.below HT)).mono ?_
  rintro e w2 ⟨rfl, hP, hb2⟩
  replace HT := below_step HT hb2
  go_wp2_with (fail)
  refine (CS.out _ _ hP.stars).mono ?_
  rintro e w3 ⟨vW, rfl, hW, hb3⟩
  replace HT := below_step HT hb3
  clear hP
  have neW : ∀ q, vW.ownBlock = some q → some w3.heap.size = some q → False := fun q hq e => by have h1 := (hW.lt q hq).2; injection e with e; omega
  have hgX : w.heap.size ≤ w3.heap.size := HT.size
  go_wp2_with (fail)
  refine (toStarS_any A0 n0 c0 l0 _ HL0.out (by omega) (hS0.below HT)).mono ?_
  rintro e w4 ⟨rfl, hX, hb4⟩
  replace HT := below_step HT hb4
  replace hW := hW.below hb4
  go_wp2_with (fail)
  refine (CI.out _ _ hX.stars).mono ?_
  rintro e w5 ⟨vG, rfl, hG, hb5⟩
  have neG : ∀ q, vG.ownBlock = some q → some w3.heap.size = some q → False := fun q hq e => by have h1 := (hG.lt q hq).1; have h2 := hX.lt; injection e with e; omega
  have neWG : ∀ q, vW.ownBlock = some q → vG.ownBlock = some q → False := fun q hq e => by have h1 := (hG.lt q e).1; have h2 := (hW.lt q hq).2; omega
  have hGB : ∀ q, vG.ownBlock = some q → w.heap.size ≤ q := fun q hq => by have h1 := (hG.lt q hq).1; have h2 := HT.size; omega
  replace HT := below_step HT hb5
  replace hW := hW.below hb5
  replace hX := hX.keep hb5
  go_wp2_with (fail)
  refine (eqOwnI_same _ _ _ _ L _ (by omega) hG hW).mono ?_
  rintro e w6 ⟨rfl, hb6⟩
  replace HT := below_step HT hb6
  replace hW := hW.below hb6
  replace hG := hG.below hb6
  replace hX := hX.keep hb6
  go_wp2_with (fail)
  refine (toStarS_any A0 n0 c0 l0 _ HL0.out (by omega) (hS0.below HT)).mono ?_
  rintro e w7 ⟨rfl, hT, hb7⟩
  replace HT := below_step HT hb7
  replace hW := hW.below hb7
  replace hG := hG.below hb7
  replace hX := hX.keep hb7
  have hTs := hT.stars
  go_wp2_with (fail)
  refine (eqStarS_same _ _ n0 _ _ l0 _ HL0.out (by omega) hX.stars hTs).mono ?_
  rintro e w8 ⟨rfl, hb8⟩
  replace HT := below_step HT hb8
  replace hW := hW.below hb8
  replace hG := hG.below hb8
  replace hX := hX.keep hb8
  clear hTs hT
  go_wp2_with (fail)
  refine (markStarS_any w3.heap.size n0 n0 (staCells l0) 1 _ (by rw [staCells_length, HL0.out]; exact Nat.le_refl _) (by omega) hX (by omega) (by omega)).mono ?_
  rintro e w9 ⟨ds, rfl, hD, _, _, hg9⟩
  replace HT := below_of_grown HT hg9 HT.size (fun q hq => by injection hq with hq; omega)
  replace hW := hW.only hg9 neW
  replace hG := hG.only hg9 neG
  clear hX hD hg9
  go_wp2_with (fail)
  refine (eqOwnI_same _ _ _ _ L _ (by omega) hG hW).mono ?_
  rintro e w10 ⟨rfl, hb10⟩
  replace HT := below_step HT hb10
  replace hW := hW.below hb10
  replace hG := hG.below hb10
  go_wp2_with (fail)
  refine (markOwnI_any _ _ L 1 _ (by omega) hG (by omega) (by omega)).mono ?_
  rintro e w11 ⟨rfl, hM, hg11⟩
  replace HT := below_of_grown HT hg11 HT.size hGB
  replace hW := hW.only hg11 neWG
  clear hG
  go_wp2_with (fail)
  refine (heldOwnI_same _ _ L.length 1 _ (by omega) hM (by omega) (by omega)).mono ?_
  rintro e w12 ⟨rfl, rfl⟩
  go_wp2_with (fail)
  refine (toStarS_any A0 n0 c0 l0 _ HL0.out (by omega) (hS0.below HT)).mono ?_
  rintro e w13 ⟨rfl, hZ, hb13⟩
  replace HT := below_step HT hb13
  replace hW := hW.below hb13
  replace hM := hM.below hb13
  go_wp2_with (fail)
  refine (CI.out _ _ hZ.stars).mono ?_
  rintro e w14 ⟨vH, rfl, hH, hb14⟩
  replace HT := below_step HT hb14
  replace hW := hW.below hb14
  replace hM := hM.below hb14
  clear hZ
  go_wp2_with (fail)
  refine (eqOwnI_same _ _ _ _ L _ (by omega) hH hW).mono ?_
  rintro e w15 ⟨rfl, hb15⟩
  replace HT := below_step HT hb15
  replace hW := hW.below hb15
  replace hM := hM.below hb15
  replace hH := hH.below hb15
  go_wp2_with (fail)
  refine (heldOwnI_same _ _ L.length 1 _ (by omega) hM (by omega) (by omega)).mono ?_
  rintro e w16 ⟨rfl, rfl⟩
  go_wp2
  go_ret
  exact ⟨rfl, HT⟩
namespace FnExactBrightestFirst
open Go.ChangeShapes Go.WideShapes Go.ChangeAt Go.RowKit Go.Joins
open Go.ChangeMaps (open_string shut_string)
theorem own : ownKnob Try.prog.godebug = none := by kernel_rfl
theorem laidOut : laidOutB Try.prog = true := by kernel_rfl
set_option maxRecDepth 100000 in
set_option maxHeartbeats 1000000 in
theorem lifted (os : Os) (started : os.Started) (H : Type) (enc : TypeId × Value → H) :
    ReturnsInHanded {} Try.checked os 7 .any (Rows.fnExactBrightestFirstSpec.pre6 enc Try.prog Try.f7 Rows.fnExactBrightestFirstRow.domain false) (Rows.fnExactBrightestFirstSpec.post enc Try.prog Try.f7 false true false false) := by
  refine returnsInHanded_of_change (C := Try.checked) own started (by kernel_rfl) Try.func7
    (ChangeSpec.witness6 (enc := enc) (C := Try.checked) false ⟨#[], #[.slice none 0 0], []⟩ 8 (by kernel_rfl) (by kernel_rfl) (by kernel_rfl) (by kernel_rfl)) ?_
  intro W base args ds gs before hval0 hW hcnd _
  have hval : ∀ (j : Nat) t v, Try.f7.params[j]? = some t → args[j]? = some v → Value.okWide Try.prog W .any base t v := hval0
  have hW' := hW
  obtain ⟨p, q, hA0, hV, rfl, hfz, hnd⟩ := hW
  have hA : DataW.TrodAll enc Try.prog W 0 (fun _ => true) true Try.f7.params.toList args.toList ds p := hA0
  rw [Try.params7] at hA hval
  obtain ⟨v0, vs0, d0, ds0, p0, q0, hargs, rfl, rfl, h0, r0⟩ := trodAll_cons hA
  obtain ⟨rfl, rfl, rfl⟩ := trodAll_nil r0
  obtain rfl : args = #[v0] := by cases args; simp_all
  obtain ⟨rfl, rfl⟩ := trodVars_none hV
  have k0 := h0
  have lt0 : ∀ x ∈ p0, x.block < W.heap.size := by obtain ⟨m, hm⟩ := k0; exact DataW.trod_lt m _ _ _ hm
  obtain ⟨A0, n0, c0, l0, rfl, hl0, hn0, hc0, hx0, hS0, hi0⟩ := open_stars Try.underlying22 Try.underlying24 (by kernel_rfl) (by kernel_rfl) Try.underlying9 Try.underlying2 Try.underlying2 Try.underlying2 Try.underlying2 (hval 0 22 v0 rfl rfl) h0
  clear hA0 hval0
  refine (FnExactBrightestFirst_walk A0 n0 c0 l0 W hl0 hn0 hS0 hi0).mono fun e W' ⟨he, bel⟩ => ?_
  subst he
  exact ⟨_, rfl, _, _, _, [], _, [], hW', trodAll_mk1 (shut_bool Try.underlying4 _), (trodAll_cons_mk (Below.trod laidOut (by kernel_rfl) (of_decide_eq_true (by kernel_rfl)) k0 bel lt0) trodAll_mk0), rfl, bel.frame _, fun h => by cases h⟩
theorem over : Rows.fnExactBrightestFirstRow.holds Try.pinned (OpenSpec.ofChange Rows.fnExactBrightestFirstSpec) :=
  OpenClaim.holds_of_wide 7 Try.f7 rfl rfl rfl rfl rfl rfl rfl ⟨rfl, rfl, rfl, rfl, rfl⟩ rfl rfl rfl rfl rfl (by kernel_rfl) Try.func7 (by kernel_rfl)
    (of_decide_eq_true (by kernel_rfl)) (by unfold Func.isWrapper; first | (rw [if_pos (by decide +kernel)]; kernel_rfl) | (rw [if_neg (by decide +kernel)]; exact ⟨rfl, rfl⟩))
    (fun os started H enc _ => lifted os started H enc)
/-- the statement -/
theorem proved : Rows.FnExactBrightestFirstSaid := over
end FnExactBrightestFirst
end Go.Proofs.Ytoklogldehikeaa
