/- The program's AddStar returns what the reference's returns, for all arguments. No condition. -/
import Derived.Test.YtoklogldehikeaaAddS
import Derived.Deep.RegionHeld3
import Derived.Test.YtoklogldehikeaaMark
import Derived.Test.YtoklogldehikeaaChecked
import Derived.Test.YtoklogldehikeaaRows
import Derived.OpenVars
import Derived.RowKit
namespace Go.Proofs.Ytoklogldehikeaa
set_option linter.unusedVariables false
set_option linter.unusedSimpArgs false
open Go.RowKit
set_option maxHeartbeats 4000000 in
theorem FnExactAddStar_walk (A0 : Option Addr) (n0 c0 : Nat) (l0 : List Sta) (a1_0 : ByteArray) (a1_1 : Int) (a1_2 : Int) (a1_3 : Int) (a1_4 : Int) (w : World) (hl0 : l0.length = n0) (hn0 : n0 ≤ 9223372036854775807) (hS0 : Stars w A0 l0) (hi0 : ∀ x ∈ l0, x.i64) (g1_0 : StrOk a1_0) (g1_1 : I64 a1_1) (g1_2 : I64 a1_2) (g1_3 : I64 a1_3) (g1_4 : I64 a1_4) :
    Calls Try.prog 3 #[.slice A0 n0 c0, .agg #[.string a1_0, .int .i64 a1_1, .int .i64 a1_2, .int .i64 a1_3, .int .i64 a1_4]] w fun e w' => e = .returned (.bool true) ∧ Below w.heap.size w w' := by
  have HL0 := Lib.hid hl0
  have HI0 := Lib.hid hi0
  clear hl0 hi0
  have X1d : ∃ X1 : Sta, X1 = ⟨a1_0, a1_1, a1_2, a1_3, a1_4⟩ := ⟨_, rfl⟩
  obtain ⟨X1, eX1⟩ := X1d
  obtain ⟨rfl, rfl, rfl, rfl, rfl⟩ : a1_0 = X1.id ∧ a1_1 = X1.ri ∧ a1_2 = X1.de ∧ a1_3 = X1.ma ∧ a1_4 = X1.co := by subst eX1; exact ⟨rfl, rfl, rfl, rfl, rfl⟩
  clear eX1
  have CS : Hid (∀ W A, (Stars W A l0 ∧ (A = none → n0 = 0 ∧ n0 = 0) ∧ (A = none ∨ ∃ b o, A = some ⟨b, o, none⟩)) → Calls Try.prog 11 #[.slice A n0 n0, .agg #[.string X1.id, .int .i64 X1.ri, .int .i64 X1.de, .int .i64 X1.ma, .int .i64 X1.co]] W fun e w' => ∃ v : Value, e = .returned (.tuple #[v, .int .i64 (addO l0 X1).2]) ∧ OwnS w' W.heap.size v (addO l0 X1).1 ∧ Below W.heap.size W w') := Lib.hid (fun W A hA => sAddStar_any A n0 n0 l0 X1 W HL0.out hn0 (Nat.le_refl _) hn0 hA.2.1 hA.2.2 hA.1)
  have CI : Hid (∀ W A, (Stars W A l0 ∧ (A = none → n0 = 0 ∧ n0 = 0) ∧ (A = none ∨ ∃ b o, A = some ⟨b, o, none⟩)) → Calls Try.prog 14 #[.slice A n0 n0, .agg #[.string X1.id, .int .i64 X1.ri, .int .i64 X1.de, .int .i64 X1.ma, .int .i64 X1.co]] W fun e w' => ∃ v : Value, e = .returned (.tuple #[v, .int .i64 (addO l0 X1).2]) ∧ OwnS w' W.heap.size v (addO l0 X1).1 ∧ Below W.heap.size W w') := Lib.hid (fun W A hA => AddStar_any A n0 n0 l0 X1 W HL0.out hn0 (Nat.le_refl _) hA.2.1 hA.1)
  have hLen : (addO l0 X1).1.length ≤ 24 := addO_len _ _
  generalize (addO l0 X1).1 = L at *
  generalize (addO l0 X1).2 = code0 at *
  go_enter Try.func3, Try.ntmps3
  have HBX : Blk (w.alloc (.cells #[.string X1.id, .int .i64 X1.ri, .int .i64 X1.de, .int .i64 X1.ma, .int .i64 X1.co] 24)) w.heap.size 24 (staCells [X1]) := Blk.new _ _ _
  have HT0 : Below w.heap.size w (w.alloc (.cells #[.string X1.id, .int .i64 X1.ri, .int .i64 X1.de, .int .i64 X1.ma, .int .i64 X1.co] 24)) := below_alloc (Below.refl _ _) _
  go_wp2_with (fail)
  refine (szStarS_any A0 n0 c0 l0 1048576 _ HL0.out hn0 (hS0.below HT0) HI0.out (by omega) (by omega)).mono ?_
  rintro e w1 ⟨r1, rfl, hr1, hb1⟩
  rcases hr1 with hr1 | ⟨za1, zb1, zc1⟩
  · go_wp2
    go_ret
    exact ⟨rfl, (by repeat (first | exact Below.refl _ _ | refine below_alloc ?_ _ | refine below_drewN0 ?_ _ | refine below_drew0 ?_ | refine below_step ?_ (by assumption) | refine below_later ?_ _ | refine below_setCell0 ?_ (by first | exact Nat.le_refl _ | (simp; done) | omega | (simp; omega)) _))⟩
  have HT := below_step HT0 hb1
  replace HBX := HBX.keep hb1
  clear HT0
  obtain ⟨bx0, bx1, bx2, bx3, bx4⟩ := HBX.star
  go_wp2_with (fail)
  refine (szSta_sz X1 r1 _ g1_0 (by omega) (by omega)).mono ?_
  rintro e w2 ⟨r2, rfl, hr2, hb2⟩
  rcases hr2 with hr2 | ⟨za2, zb2, zc2⟩
  · go_wp2
    go_ret
    exact ⟨rfl, (by repeat (first | exact Below.refl _ _ | refine below_alloc ?_ _ | refine below_drewN0 ?_ _ | refine below_drew0 ?_ | refine below_step ?_ (by assumption) | refine below_later ?_ _ | refine below_setCell0 ?_ (by first | exact Nat.le_refl _ | (simp; done) | omega | (simp; omega)) _))⟩
  replace HT := below_step HT hb2
  replace HBX := HBX.keep hb2
  clear bx0 bx1 bx2 bx3 bx4
  have hBX := HBX.star
  obtain ⟨bx0, bx1, bx2, bx3, bx4⟩ := id hBX
  go_wp2_with (fail)
  go_region_held3 (fun w' => w'.cell? ⟨w.heap.size, 0, none⟩ = some (.string X1.id) ∧ w'.cell? ⟨w.heap.size, 1, none⟩ = some (.int .i64 X1.ri) ∧ w'.cell? ⟨w.heap.size, 2, none⟩ = some (.int .i64 X1.de) ∧ w'.cell? ⟨w.heap.size, 3, none⟩ = some (.int .i64 X1.ma) ∧ w'.cell? ⟨w.heap.size, 4, none⟩ = some (.int .i64 X1.co))
    ((first | assumption | exact held_star (by assumption) (by assumption) | exact held_star (by assumption) (below_drew0 (Below.refl _ _))))
    (first
      | (go_at_call 12; refine (toStarS_any A0 n0 c0 l0 _ HL0.out (by omega) (hS0.below (by first | exact HT | exact below_drew0 HT))).mono ?_; rintro e w3 ⟨rfl, hP, hb3⟩)
      | (go_at_call 13; refine (toSta_any X1 _).mono ?_; rintro e w4 ⟨rfl, hb4⟩)
      | (go_at_call 11; refine (CS.out _ _ ⟨(hP.keep hb4).stars, (fun h => by cases h), .inr ⟨_, _, rfl⟩⟩).mono ?_; rintro e w5 ⟨vW, rfl, hW, hb5⟩))
  clear hBX bx0 bx1 bx2 bx3 bx4
  have HT0 := below_drew0 HT
  replace HT := below_step (below_step (below_step HT0 hb3) hb4) hb5
  replace HBX := (((HBX.keep (below_drew0 (Below.refl _ _))).keep hb3).keep hb4).keep hb5
  clear hP
  have neW : ∀ q, vW.ownBlock = some q → some w5.heap.size = some q → False := fun q hq e => by have h1 := (hW.lt q hq).2; injection e with e; omega
  have hgX : w.heap.size ≤ w5.heap.size := HT.size
  have HBN : w.heap.size < w5.heap.size := HBX.lt
  go_wp2_with (fail)
  refine (toStarS_any A0 n0 c0 l0 _ HL0.out (by omega) (hS0.below HT)).mono ?_
  rintro e w6 ⟨rfl, hX, hb6⟩
  replace HT := below_step HT hb6
  replace hW := hW.below hb6
  replace HBX := HBX.keep hb6
  obtain ⟨bx0, bx1, bx2, bx3, bx4⟩ := HBX.star
  go_wp2_with (fail)
  refine (toSta_any X1 _).mono ?_
  rintro e w7 ⟨rfl, hb7⟩
  replace HT := below_step HT hb7
  replace hW := hW.below hb7
  replace HBX := HBX.keep hb7
  replace hX := hX.keep hb7
  clear bx0 bx1 bx2 bx3 bx4
  go_wp2_with (fail)
  refine (CI.out _ _ ⟨hX.stars, (fun h => by cases h), .inr ⟨_, _, rfl⟩⟩).mono ?_
  rintro e w8 ⟨vG, rfl, hG, hb8⟩
  have neG : ∀ q, vG.ownBlock = some q → some w5.heap.size = some q → False := fun q hq e => by have h1 := (hG.lt q hq).1; have h2 := hX.lt; injection e with e; omega
  have neWG : ∀ q, vW.ownBlock = some q → vG.ownBlock = some q → False := fun q hq e => by have h1 := (hG.lt q e).1; have h2 := (hW.lt q hq).2; omega
  have hGB : ∀ q, vG.ownBlock = some q → w.heap.size ≤ q := fun q hq => by have h1 := (hG.lt q hq).1; have h2 := HT.size; omega
  have hGN : ∀ q, vG.ownBlock = some q → w.heap.size ≠ q := fun q hq => by have h1 := (hG.lt q hq).1; have h2 := HBX.lt; omega
  replace HT := below_step HT hb8
  replace hW := hW.below hb8
  replace HBX := HBX.keep hb8
  replace hX := hX.keep hb8
  go_wp2_with (fail)
  refine (eqOwnS_same _ _ _ _ L _ (by omega) hG hW).mono ?_
  rintro e w9 ⟨rfl, hb9⟩
  replace HT := below_step HT hb9
  replace hW := hW.below hb9
  replace hG := hG.below hb9
  replace HBX := HBX.keep hb9
  replace hX := hX.keep hb9
  go_wp2_with (fail)
  refine (toStarS_any A0 n0 c0 l0 _ HL0.out (by omega) (hS0.below HT)).mono ?_
  rintro e w10 ⟨rfl, hT, hb10⟩
  replace HT := below_step HT hb10
  replace hW := hW.below hb10
  replace hG := hG.below hb10
  replace HBX := HBX.keep hb10
  replace hX := hX.keep hb10
  have hTs := hT.stars
  go_wp2_with (fail)
  refine (eqStarS_same _ _ n0 _ _ l0 _ HL0.out (by omega) hX.stars hTs).mono ?_
  rintro e w11 ⟨rfl, hb11⟩
  replace HT := below_step HT hb11
  replace hW := hW.below hb11
  replace hG := hG.below hb11
  replace HBX := HBX.keep hb11
  replace hX := hX.keep hb11
  clear hTs hT
  go_wp2_with (fail)
  refine (markStarS_any w5.heap.size n0 n0 (staCells l0) 1 _ (by rw [staCells_length, HL0.out]; exact Nat.le_refl _) (by omega) hX (by omega) (by omega)).mono ?_
  rintro e w12 ⟨ds, rfl, hD, _, _, hg12⟩
  replace HT := below_of_grown HT hg12 HT.size (fun q hq => by injection hq with hq; omega)
  replace HBX := HBX.grown hg12 (fun q hq => by injection hq with hq; have := HBN; omega)
  replace hW := hW.only hg12 neW
  replace hG := hG.only hg12 neG
  clear hX hD hg12
  go_wp2_with (fail)
  refine (eqOwnS_same _ _ _ _ L _ (by omega) hG hW).mono ?_
  rintro e w13 ⟨rfl, hb13⟩
  replace HT := below_step HT hb13
  replace hW := hW.below hb13
  replace hG := hG.below hb13
  replace HBX := HBX.keep hb13
  go_wp2_with (fail)
  refine (markOwnS_any _ _ L _ (by omega) hG).mono ?_
  rintro e w14 ⟨rfl, hM, hg14⟩
  replace HT := below_of_grown HT hg14 HT.size hGB
  replace HBX := HBX.grown hg14 hGN
  replace hW := hW.only hg14 neWG
  clear hG
  go_wp2_with (fail)
  refine (heldOwnS_same _ _ L.length _ (by omega) hM).mono ?_
  rintro e w15 ⟨rfl, hb15⟩
  replace HT := below_step HT hb15
  replace hW := hW.below hb15
  replace hM := hM.below hb15
  replace HBX := HBX.keep hb15
  have hBX := HBX.star
  obtain ⟨bx0, bx1, bx2, bx3, bx4⟩ := id hBX
  go_wp2_with (fail)
  go_region_held3 (fun w' => w'.cell? ⟨w.heap.size, 0, none⟩ = some (.string X1.id) ∧ w'.cell? ⟨w.heap.size, 1, none⟩ = some (.int .i64 X1.ri) ∧ w'.cell? ⟨w.heap.size, 2, none⟩ = some (.int .i64 X1.de) ∧ w'.cell? ⟨w.heap.size, 3, none⟩ = some (.int .i64 X1.ma) ∧ w'.cell? ⟨w.heap.size, 4, none⟩ = some (.int .i64 X1.co))
    ((first | assumption | exact held_star (by assumption) (by assumption) | exact held_star (by assumption) (below_drew0 (Below.refl _ _))))
    (first
      | (go_at_call 12; refine (toStarS_any A0 n0 c0 l0 _ HL0.out (by omega) (hS0.below (by first | exact HT | exact below_drew0 HT))).mono ?_; rintro e w16 ⟨rfl, hZ, hb16⟩)
      | (go_at_call 13; refine (toSta_any X1 _).mono ?_; rintro e w17 ⟨rfl, hb17⟩)
      | (go_at_call 14; refine (CI.out _ _ ⟨(hZ.keep hb17).stars, (fun h => by cases h), .inr ⟨_, _, rfl⟩⟩).mono ?_; rintro e w18 ⟨vH, rfl, hH, hb18⟩))
  clear hBX bx0 bx1 bx2 bx3 bx4
  have HT0 := below_drew0 HT
  replace HT := below_step (below_step (below_step HT0 hb16) hb17) hb18
  replace hW := (((hW.below (below_drew0 (Below.refl _ _))).below hb16).below hb17).below hb18
  replace hM := (((hM.below (below_drew0 (Below.refl _ _))).below hb16).below hb17).below hb18
  replace HBX := (((HBX.keep (below_drew0 (Below.refl _ _))).keep hb16).keep hb17).keep hb18
  clear hZ HBX
  go_wp2_with (fail)
  refine (eqOwnS_same _ _ _ _ L _ (by omega) hH hW).mono ?_
  rintro e w19 ⟨rfl, hb19⟩
  replace HT := below_step HT hb19
  replace hW := hW.below hb19
  replace hM := hM.below hb19
  replace hH := hH.below hb19
  go_wp2_with (fail)
  refine (heldOwnS_same _ _ L.length _ (by omega) hM).mono ?_
  rintro e w20 ⟨rfl, hb20⟩
  replace HT := below_step HT hb20
  replace hW := hW.below hb20
  replace hM := hM.below hb20
  replace hH := hH.below hb20
  go_wp2
  go_ret
  exact ⟨rfl, HT⟩
namespace FnExactAddStar
open Go.ChangeShapes Go.WideShapes Go.ChangeAt Go.RowKit Go.Joins
open Go.ChangeMaps (open_string shut_string)
theorem own : ownKnob Try.prog.godebug = none := by kernel_rfl
theorem laidOut : laidOutB Try.prog = true := by kernel_rfl
set_option maxRecDepth 100000 in
set_option maxHeartbeats 1000000 in
theorem lifted (os : Os) (started : os.Started) (H : Type) (enc : TypeId × Value → H) :
    ReturnsInHanded {} Try.checked os 3 .any (Rows.fnExactAddStarSpec.pre6 enc Try.prog Try.f3 Rows.fnExactAddStarRow.domain false) (Rows.fnExactAddStarSpec.post enc Try.prog Try.f3 false true false false) := by
  refine returnsInHanded_of_change (C := Try.checked) own started (by kernel_rfl) Try.func3
    (ChangeSpec.witness6 (enc := enc) (C := Try.checked) false ⟨#[], #[.slice none 0 0, .agg #[.string ⟨#[]⟩, .int .i64 0, .int .i64 0, .int .i64 0, .int .i64 0]], []⟩ 8 (by kernel_rfl) (by kernel_rfl) (by kernel_rfl) (by kernel_rfl)) ?_
  intro W base args ds gs before hval0 hW hcnd _
  have hval : ∀ (j : Nat) t v, Try.f3.params[j]? = some t → args[j]? = some v → Value.okWide Try.prog W .any base t v := hval0
  have hW' := hW
  obtain ⟨p, q, hA0, hV, rfl, hfz, hnd⟩ := hW
  have hA : DataW.TrodAll enc Try.prog W 0 (fun _ => true) true Try.f3.params.toList args.toList ds p := hA0
  rw [Try.params3] at hA hval
  obtain ⟨v0, vs0, d0, ds0, p0, q0, hargs, rfl, rfl, h0, r0⟩ := trodAll_cons hA
  obtain ⟨v1, vs1, d1, ds1, p1, q1, rfl, rfl, rfl, h1, r1⟩ := trodAll_cons r0
  obtain ⟨rfl, rfl, rfl⟩ := trodAll_nil r1
  obtain rfl : args = #[v0, v1] := by cases args; simp_all
  obtain ⟨rfl, rfl⟩ := trodVars_none hV
  have k0 := h0
  have lt0 : ∀ x ∈ p0, x.block < W.heap.size := by obtain ⟨m, hm⟩ := k0; exact DataW.trod_lt m _ _ _ hm
  have k1 := h1
  have lt1 : ∀ x ∈ p1, x.block < W.heap.size := by obtain ⟨m, hm⟩ := k1; exact DataW.trod_lt m _ _ _ hm
  obtain ⟨A0, n0, c0, l0, rfl, hl0, hn0, hc0, hx0, hS0, hi0⟩ := open_stars Try.underlying22 Try.underlying24 (by kernel_rfl) (by kernel_rfl) Try.underlying9 Try.underlying2 Try.underlying2 Try.underlying2 Try.underlying2 (hval 0 22 v0 rfl rfl) h0
  obtain ⟨c1_0, c1_1, c1_2, c1_3, c1_4, y1_0, y1_1, y1_2, y1_3, y1_4, m1, rfl, rfl, rfl, t1_0, t1_1, t1_2, t1_3, t1_4⟩ := open_agg5 Try.underlying24 (by kernel_rfl) (by kernel_rfl) (hval 1 24 v1 rfl rfl) h1
  obtain ⟨a1_0, rfl, g1_0⟩ := cell_string Try.underlying9 t1_0
  obtain ⟨a1_1, rfl, g1_1⟩ := cell_int Try.underlying2 t1_1
  obtain ⟨a1_2, rfl, g1_2⟩ := cell_int Try.underlying2 t1_2
  obtain ⟨a1_3, rfl, g1_3⟩ := cell_int Try.underlying2 t1_3
  obtain ⟨a1_4, rfl, g1_4⟩ := cell_int Try.underlying2 t1_4
  clear hA0 hval0
  refine (FnExactAddStar_walk A0 n0 c0 l0 a1_0 a1_1 a1_2 a1_3 a1_4 W hl0 hn0 hS0 hi0 g1_0 g1_1 g1_2 g1_3 g1_4).mono fun e W' ⟨he, bel⟩ => ?_
  subst he
  exact ⟨_, rfl, _, _, _, [], _, [], hW', trodAll_mk1 (shut_bool Try.underlying4 _), (trodAll_cons_mk (Below.trod laidOut (by kernel_rfl) (of_decide_eq_true (by kernel_rfl)) k0 bel lt0) (trodAll_cons_mk (Below.trod laidOut (by kernel_rfl) (of_decide_eq_true (by kernel_rfl)) k1 bel lt1) trodAll_mk0)), rfl, bel.frame _, fun h => by cases h⟩
theorem over : Rows.fnExactAddStarRow.holds Try.pinned (OpenSpec.ofChange Rows.fnExactAddStarSpec) :=
  OpenClaim.holds_of_wide 3 Try.f3 rfl rfl rfl rfl rfl rfl rfl ⟨rfl, rfl, rfl, rfl, rfl⟩ rfl rfl rfl rfl rfl (by kernel_rfl) Try.func3 (by kernel_rfl)
    (of_decide_eq_true (by kernel_rfl)) (by unfold Func.isWrapper; first | (rw [if_pos (by decide +kernel)]; kernel_rfl) | (rw [if_neg (by decide +kernel)]; exact ⟨rfl, rfl⟩))
    (fun os started H enc _ => lifted os started H enc)
/-- the statement -/
theorem proved : Rows.FnExactAddStarSaid := over
end FnExactAddStar
end Go.Proofs.Ytoklogldehikeaa
