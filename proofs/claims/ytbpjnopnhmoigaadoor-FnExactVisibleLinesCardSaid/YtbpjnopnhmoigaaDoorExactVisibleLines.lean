/- The program's VisibleLines returns what the reference's returns, for all arguments. No condition. -/
import Derived.Test.YtbpjnopnhmoigaaDoorVisS
import Derived.Test.YtbpjnopnhmoigaaDoorGrpFigs
import Derived.Test.YtbpjnopnhmoigaaDoorGrpNum
import Derived.Test.YtbpjnopnhmoigaaDoorHeld
import Derived.Deep.RegionHeld3
import Derived.Test.YtbpjnopnhmoigaaDoorChecked
import Derived.Test.YtbpjnopnhmoigaaDoorRows
import Derived.Test.YtbpjnopnhmoigaaDoorTied
import Derived.OpenVars
import Derived.RowKit
namespace Go.Proofs.YtbpjnopnhmoigaaDoor
set_option linter.unusedVariables false
set_option linter.unusedSimpArgs false
open Go.RowKit
set_option maxRecDepth 100000 in
set_option maxHeartbeats 4000000 in
theorem FnExactVisibleLines_walk (a0_0 : ByteArray) (B0 : Option Addr) (p0 q0 : Nat) (LL0 : List (List Int)) (A1 : Option Addr) (n1 c1 : Nat) (l1 : List Sta) (a2_0 : ByteArray) (a2_1 a2_2 : Int) (a3 : Int) (w : World) (g0_0 : StrOk a0_0) (hp0 : LL0.length = p0) (hq0 : p0 ≤ 9223372036854775807) (hB0 : Lists w B0 LL0) (hl1 : l1.length = n1) (hn1 : n1 ≤ 9223372036854775807) (hS1 : Stars w A1 l1) (hi1 : ∀ x ∈ l1, x.i64) (g2_0 : StrOk a2_0) (g2_1 : I64 a2_1) (g2_2 : I64 a2_2) (g3 : I64 a3) (hSin : SinOk w) :
    Calls Tryd.prog 5 #[.agg #[.string a0_0, .slice B0 p0 q0], .slice A1 n1 c1, .agg #[.string a2_0, .int .i64 a2_1, .int .i64 a2_2], .int .i64 a3] w fun e w' => e = .returned (.bool true) ∧ Below w.heap.size w w' := by
  have HP := Lib.hid hp0
  clear hp0
  have HL1 := Lib.hid hl1
  have HI1 := Lib.hid hi1
  clear hl1 hi1
  have CS : Hid (∀ W B A, Lists W B LL0 → Stars W A l1 → Calls Tryd.prog 26 #[.agg #[.string a0_0, .slice B p0 p0], .slice A n1 n1, .agg #[.string a2_0, .int .i64 a2_1, .int .i64 a2_2], .int .i64 a3] W fun e w' => ∃ v : Value, e = .returned (.tuple #[v, .int .i64 (visO a0_0 LL0 l1 a2_0.data.toList a2_1 a2_2 a3).2]) ∧ OwnI w' W.heap.size v (visO a0_0 LL0 l1 a2_0.data.toList a2_1 a2_2 a3).1 ∧ Below W.heap.size W w') := Lib.hid (fun W B A hB hA => sVisibleLines_any a0_0 B p0 p0 LL0 A n1 n1 l1 a2_0 a2_1 a2_2 a3 W HP.out hq0 hB HL1.out hn1 hA)
  have CI : Hid (∀ W B A, SinOk W → Lists W B LL0 → Stars W A l1 → Calls Tryd.prog 28 #[.agg #[.string a0_0, .slice B p0 p0], .slice A n1 n1, .agg #[.string a2_0, .int .i64 a2_1, .int .i64 a2_2], .int .i64 a3] W fun e w' => ∃ v : Value, e = .returned (.tuple #[v, .int .i64 (visO a0_0 LL0 l1 a2_0.data.toList a2_1 a2_2 a3).2]) ∧ OwnI w' W.heap.size v (visO a0_0 LL0 l1 a2_0.data.toList a2_1 a2_2 a3).1 ∧ Below W.heap.size W w') := Lib.hid (fun W B A hW hB hA => VisibleLines_any a0_0 B p0 p0 LL0 A n1 n1 l1 a2_0 a2_1 a2_2 a3 W hW HP.out hq0 hB HL1.out hn1 hA)
  have hLen : (visO a0_0 LL0 l1 a2_0.data.toList a2_1 a2_2 a3).1.length ≤ 32 := visO_len _ _ _ _ _ _ _
  generalize (visO a0_0 LL0 l1 a2_0.data.toList a2_1 a2_2 a3).1 = L at CS CI hLen
  generalize (visO a0_0 LL0 l1 a2_0.data.toList a2_1 a2_2 a3).2 = code0 at CS CI
  have HBX : Blk (w.alloc (.cells #[.string a0_0, .slice B0 p0 q0] 36)) w.heap.size 36 (figCells a0_0 B0 p0 q0) := Blk.new _ _ _
  have HT : Below w.heap.size w (w.alloc (.cells #[.string a0_0, .slice B0 p0 q0] 36)) := below_alloc (Below.refl _ _) _
  have HSX : Blk ((w.alloc (.cells #[.string a0_0, .slice B0 p0 q0] 36)).alloc (.cells #[.string a2_0, .int .i64 a2_1, .int .i64 a2_2] 45)) (w.heap.size + 1) 45 (siteCells a2_0 a2_1 a2_2) := by
    have := Blk.new (w.alloc (.cells #[.string a0_0, .slice B0 p0 q0] 36)) 45 (siteCells a2_0 a2_1 a2_2)
    simpa [siteCells] using this
  replace HT := below_alloc HT (.cells #[.string a2_0, .int .i64 a2_1, .int .i64 a2_2] 45)
  replace HBX := HBX.alloc (.cells #[.string a2_0, .int .i64 a2_1, .int .i64 a2_2] 45)
  go_enter Tryd.func5, Tryd.ntmps5
  obtain ⟨bx0, bx1⟩ := HBX.fig
  go_wp2_with (fail)
  refine (szFigure_any a0_0 B0 p0 q0 LL0 1048576 _ g0_0 HP.out hq0 (hB0.below HT) (by omega) (by omega)).mono ?_
  rintro e w1 ⟨r1, rfl, hr1, hb1⟩
  rcases hr1 with hr1 | ⟨za1, zb1, zc1⟩
  · go_wp2
    go_ret
    exact ⟨rfl, below_step HT hb1⟩
  replace HT := below_step HT hb1
  replace HBX := HBX.keep hb1
  replace HSX := HSX.keep hb1
  clear bx0 bx1
  have hsz : p0 + tot LL0 ≤ 1048576 := by omega
  have hp1 : p0 ≤ 1048576 := by omega
  go_wp2_with (fail)
  refine (szStarS_any A1 n1 c1 l1 r1 _ HL1.out hn1 (hS1.below HT) HI1.out (by omega) (by omega)).mono ?_
  rintro e w2 ⟨r2, rfl, hr2, hb2⟩
  rcases hr2 with hr2 | ⟨za2, zb2, zc2⟩
  · go_wp2
    go_ret
    exact ⟨rfl, below_step HT hb2⟩
  replace HT := below_step HT hb2
  replace HBX := HBX.keep hb2
  replace HSX := HSX.keep hb2
  obtain ⟨tx0, tx1, tx2⟩ := HSX.site
  rcases szL_cases r2 a2_0.size with ⟨zz1, zz2⟩ | ⟨zz1, zz2⟩
  · go_wp2_with (refine (szSite_any a2_0 a2_1 a2_2 r2 _ g2_0 (by omega) (by omega)).mono ?_; rintro e w3 ⟨rfl, hb3⟩)
    go_ret
    exact ⟨rfl, below_step HT hb3⟩
  go_wp2_with (fail)
  refine (szSite_any a2_0 a2_1 a2_2 r2 _ g2_0 (by omega) (by omega)).mono ?_
  rintro e w3 ⟨rfl, hb3⟩
  replace HT := below_step HT hb3
  replace HBX := HBX.keep hb3
  replace HSX := HSX.keep hb3
  clear tx0 tx1 tx2
  obtain ⟨bx0, bx1⟩ := HBX.fig
  obtain ⟨tx0, tx1, tx2⟩ := HSX.site
  have hS5 := And.intro bx0 (And.intro bx1 (And.intro tx0 (And.intro tx1 tx2)))
  go_wp2_with (fail)
  go_region_held3 (fun w' => w'.cell? ⟨w.heap.size, 0, none⟩ = some (.string a0_0) ∧ w'.cell? ⟨w.heap.size, 1, none⟩ = some (.slice B0 p0 q0) ∧ w'.cell? ⟨(w.heap.size + 1), 0, none⟩ = some (.string a2_0) ∧ w'.cell? ⟨(w.heap.size + 1), 1, none⟩ = some (.int .i64 a2_1) ∧ w'.cell? ⟨(w.heap.size + 1), 2, none⟩ = some (.int .i64 a2_2))
    ((first | assumption | exact held5 (by assumption) (by assumption) | exact held5 (by assumption) (below_drew0 (Below.refl _ _))))
    (first
      | (go_at_call 22; refine (toFigure_any a0_0 B0 p0 q0 LL0 _ HP.out hsz (hB0.below (by first | exact HT | exact below_drew0 HT))).mono ?_; rintro e w4 ⟨gP, rfl, hP, hPge, hb4⟩)
      | (go_at_call 13; refine (toStarS_any A1 n1 c1 l1 _ HL1.out (by omega) (hS1.below (below_step (by first | exact HT | exact below_drew0 HT) hb4))).mono ?_; rintro e w5 ⟨rfl, hQ, hb5⟩)
      | (go_at_call 27; refine (toSite_any a2_0 a2_1 a2_2 _).mono ?_; rintro e w6 ⟨rfl, hb6⟩)
      | (go_at_call 26; refine (CS.out _ _ _ (((hP.keep hb5).keep hb6).lists2 (by omega)) (hQ.keep hb6).stars).mono ?_; rintro e w7 ⟨vW, rfl, hW, hb7⟩))
  clear tx0 tx1 tx2
  clear hS5
  have HTd := below_drew0 (Below.refl w3.heap.size w3)
  replace HT := below_step HT HTd
  replace HBX := HBX.keep HTd
  replace HSX := HSX.keep HTd
  clear HTd
  replace HT := below_step HT hb4
  replace HBX := HBX.keep hb4
  replace HSX := HSX.keep hb4
  replace HT := below_step HT hb5
  replace HBX := HBX.keep hb5
  replace HSX := HSX.keep hb5
  replace HT := below_step HT hb6
  replace HBX := HBX.keep hb6
  replace HSX := HSX.keep hb6
  replace HT := below_step HT hb7
  replace HBX := HBX.keep hb7
  replace HSX := HSX.keep hb7
  clear bx0 bx1
  clear hP hQ
  have hWlt : ∀ q, vW.ownBlock = some q → q < w7.heap.size := fun q hq => (hW.lt q hq).2
  have hBXl : w.heap.size < w7.heap.size := HBX.lt
  have HSXl0 : w.heap.size + 1 < w7.heap.size := HSX.lt
  obtain ⟨bx0, bx1⟩ := HBX.fig
  go_wp2_with (fail)
  refine (toFigure_any a0_0 B0 p0 q0 LL0 _ HP.out hsz (hB0.below HT)).mono ?_
  rintro e w8 ⟨gF, rfl, hF, hFge, hb8⟩
  replace HT := below_step HT hb8
  replace HBX := HBX.keep hb8
  replace HSX := HSX.keep hb8
  replace hW := hW.below hb8
  clear bx0 bx1
  go_wp2_with (fail)
  have HX0 : Blk (w8.alloc (.cells #[.string a0_0, .slice (some ⟨gF, 0, none⟩) p0 p0] 40)) w8.heap.size 40 (figCells a0_0 (some ⟨gF, 0, none⟩) p0 p0) := Blk.new _ _ _
  have hF1 := hF.lt
  have hFR := hF.rowsOf
  have hBB := HX0.lt
  have HTa : Below w8.heap.size w8 (w8.alloc (.cells #[.string a0_0, .slice (some ⟨gF, 0, none⟩) p0 p0] 40)) := below_alloc (Below.refl _ _) _
  replace HT := below_step HT HTa
  replace HBX := HBX.keep HTa
  replace HSX := HSX.keep HTa
  replace hW := hW.below HTa
  replace hF := hF.keep HTa
  replace hFR := hFR.keep HTa
  clear HTa
  generalize w8.alloc (.cells #[.string a0_0, .slice (some ⟨gF, 0, none⟩) p0 p0] 40) = wB at *
  generalize w8.heap.size = bX at *
  go_wp2_with (fail)
  refine (toStarS_any A1 n1 c1 l1 _ HL1.out (by omega) (hS1.below HT)).mono ?_
  rintro e w9 ⟨rfl, hX, hb9⟩
  replace HT := below_step HT hb9
  replace HBX := HBX.keep hb9
  replace HSX := HSX.keep hb9
  replace hW := hW.below hb9
  replace hF := hF.keep hb9
  replace HX0 := HX0.keep hb9
  replace hFR := hFR.keep hb9
  have hsB := hb9.size
  obtain ⟨xx0, xx1⟩ := HX0.fig
  have hXlt := hX.lt
  obtain ⟨tx0, tx1, tx2⟩ := HSX.site
  have hS5 := And.intro xx0 (And.intro xx1 (And.intro tx0 (And.intro tx1 tx2)))
  go_wp2_with (fail)
  go_region_held3 (fun w' => w'.cell? ⟨bX, 0, none⟩ = some (.string a0_0) ∧ w'.cell? ⟨bX, 1, none⟩ = some (.slice (some ⟨gF, 0, none⟩) p0 p0) ∧ w'.cell? ⟨(w.heap.size + 1), 0, none⟩ = some (.string a2_0) ∧ w'.cell? ⟨(w.heap.size + 1), 1, none⟩ = some (.int .i64 a2_1) ∧ w'.cell? ⟨(w.heap.size + 1), 2, none⟩ = some (.int .i64 a2_2))
    ((first | assumption | exact held5 (by assumption) (by assumption) | exact held5 (by assumption) (below_drew0 (Below.refl _ _))))
    (first
      | (go_at_call 27; refine (toSite_any a2_0 a2_1 a2_2 _).mono ?_; rintro e w10 ⟨rfl, hb10⟩)
      | (go_at_call 28; refine (CI.out _ _ _ (hSin.of_below (below_step (by first | exact HT | exact below_drew0 HT) hb10)) ((hF.keep (below_step (below_drew0 (Below.refl _ _)) hb10)).lists2 (by omega)) (hX.keep (below_step (below_drew0 (Below.refl _ _)) hb10)).stars).mono ?_; rintro e w11 ⟨vG, rfl, hG, hb11⟩))
  clear tx0 tx1 tx2
  clear hS5
  have HTd := below_drew0 (Below.refl w9.heap.size w9)
  replace HT := below_step HT HTd
  replace HBX := HBX.keep HTd
  replace HSX := HSX.keep HTd
  replace hW := hW.below HTd
  replace hF := hF.keep HTd
  replace HX0 := HX0.keep HTd
  replace hFR := hFR.keep HTd
  replace hX := hX.keep HTd
  clear HTd
  replace HT := below_step HT hb10
  replace HBX := HBX.keep hb10
  replace HSX := HSX.keep hb10
  replace hW := hW.below hb10
  replace hF := hF.keep hb10
  replace HX0 := HX0.keep hb10
  replace hFR := hFR.keep hb10
  replace hX := hX.keep hb10
  replace HT := below_step HT hb11
  replace HBX := HBX.keep hb11
  replace HSX := HSX.keep hb11
  replace hW := hW.below hb11
  replace hF := hF.keep hb11
  replace HX0 := HX0.keep hb11
  replace hFR := hFR.keep hb11
  replace hX := hX.keep hb11
  have hsT : w9.heap.size ≤ w10.heap.size := hb10.size
  clear xx0 xx1
  have hGge : ∀ q, vG.ownBlock = some q → wB.heap.size < q := fun q hq => by have h1 := (hG.lt q hq).1; have h2 := hXlt; omega
  go_wp2_with (fail)
  refine (eqOwnI_same _ _ _ _ L _ (by omega) hG hW).mono ?_
  rintro e w12 ⟨rfl, hb12⟩
  replace HT := below_step HT hb12
  replace HBX := HBX.keep hb12
  replace HSX := HSX.keep hb12
  replace hW := hW.below hb12
  replace hF := hF.keep hb12
  replace HX0 := HX0.keep hb12
  replace hFR := hFR.keep hb12
  replace hX := hX.keep hb12
  replace hG := hG.below hb12
  obtain ⟨bx0, bx1⟩ := HBX.fig
  obtain ⟨xx0, xx1⟩ := HX0.fig
  have hS4 := And.intro bx0 (And.intro bx1 (And.intro xx0 xx1))
  go_wp2_with (fail)
  go_region_held3 (fun w' => w'.cell? ⟨w.heap.size, 0, none⟩ = some (.string a0_0) ∧ w'.cell? ⟨w.heap.size, 1, none⟩ = some (.slice B0 p0 q0) ∧ w'.cell? ⟨bX, 0, none⟩ = some (.string a0_0) ∧ w'.cell? ⟨bX, 1, none⟩ = some (.slice (some ⟨gF, 0, none⟩) p0 p0))
    ((first | assumption | exact held4 (by assumption) (by assumption) | exact held4 (by assumption) (below_drew0 (Below.refl _ _))))
    (first
      | (go_at_call 22; refine (toFigure_any a0_0 B0 p0 q0 LL0 _ HP.out hsz (hB0.below (by first | exact HT | exact below_drew0 HT))).mono ?_; rintro e w13 ⟨gE, rfl, hE, hEge, hb13⟩)
      | (go_at_call 24; refine (eqFigure_same a0_0 _ _ p0 p0 p0 LL0 _ HP.out hq0 ((hF.keep (below_step (below_drew0 (Below.refl _ _)) hb13)).lists2 (by omega)) (hE.lists2 (by omega))).mono ?_; rintro e w14 ⟨rfl, hb14⟩))
  clear bx0 bx1
  clear xx0 xx1
  clear hS4
  have HTd := below_drew0 (Below.refl w12.heap.size w12)
  replace HT := below_step HT HTd
  replace HBX := HBX.keep HTd
  replace HSX := HSX.keep HTd
  replace hW := hW.below HTd
  replace hF := hF.keep HTd
  replace HX0 := HX0.keep HTd
  replace hFR := hFR.keep HTd
  replace hX := hX.keep HTd
  replace hG := hG.below HTd
  clear HTd
  replace HT := below_step HT hb13
  replace HBX := HBX.keep hb13
  replace HSX := HSX.keep hb13
  replace hW := hW.below hb13
  replace hF := hF.keep hb13
  replace HX0 := HX0.keep hb13
  replace hFR := hFR.keep hb13
  replace hX := hX.keep hb13
  replace hG := hG.below hb13
  replace HT := below_step HT hb14
  replace HBX := HBX.keep hb14
  replace HSX := HSX.keep hb14
  replace hW := hW.below hb14
  replace hF := hF.keep hb14
  replace HX0 := HX0.keep hb14
  replace hFR := hFR.keep hb14
  replace hX := hX.keep hb14
  replace hG := hG.below hb14
  clear hE
  go_wp2_with (fail)
  refine (toStarS_any A1 n1 c1 l1 _ HL1.out (by omega) (hS1.below HT)).mono ?_
  rintro e w15 ⟨rfl, hT, hb15⟩
  replace HT := below_step HT hb15
  replace HBX := HBX.keep hb15
  replace HSX := HSX.keep hb15
  replace hW := hW.below hb15
  replace hF := hF.keep hb15
  replace HX0 := HX0.keep hb15
  replace hFR := hFR.keep hb15
  replace hX := hX.keep hb15
  replace hG := hG.below hb15
  go_wp2_with (fail)
  refine (eqStarS_same _ _ n1 _ _ l1 _ HL1.out (by omega) hX.stars hT.stars).mono ?_
  rintro e w16 ⟨rfl, hb16⟩
  replace HT := below_step HT hb16
  replace HBX := HBX.keep hb16
  replace HSX := HSX.keep hb16
  replace hW := hW.below hb16
  replace hF := hF.keep hb16
  replace HX0 := HX0.keep hb16
  replace hFR := hFR.keep hb16
  replace hX := hX.keep hb16
  replace hG := hG.below hb16
  replace hT := hT.keep hb16
  clear hT
  obtain ⟨xx0, xx1⟩ := HX0.fig
  go_wp2_with (fail)
  refine (markFigure_rows a0_0 gF p0 bX LL0 1 _ HP.out hFR hsz (by omega) (by omega)).mono ?_
  rintro e w17 ⟨rfl, hwi17⟩
  clear xx0 xx1
  replace HT := below_of_within HT hwi17 HT.size (by omega)
  replace hW := hW.within hwi17 (fun q hq => .inl (by have := hWlt q hq; omega))
  replace hG := hG.within hwi17 (fun q hq => .inr (by have := hGge q hq; omega))
  replace hX := hX.within hwi17 (.inr (by omega))
  replace HBX := HBX.within hwi17 (.inl (by omega))
  have HSXl := HSXl0
  replace HSX := HSX.within hwi17 (.inl (by omega))
  clear hF hFR HX0 hwi17
  go_wp2_with (fail)
  refine (markStarS_int wB.heap.size n1 n1 (staCells l1) (1 + tot LL0) _ _ (by omega) (by rw [staCells_length, HL1.out]; exact Nat.le_refl _) (by omega) hX (by omega) (by omega)).mono ?_
  rintro e w18 ⟨mk, rfl, hmk, hg18⟩
  replace HT := below_of_grown HT hg18 HT.size (fun q hq => by injection hq with hq; omega)
  replace HBX := HBX.grown2 hg18 (fun q hq => by injection hq with hq; omega)
  replace hW := hW.only hg18 (fun q hq e => by have h1 := hWlt q hq; injection e with e; omega)
  replace hG := hG.only hg18 (fun q hq e => by have h1 := hGge q hq; injection e with e; omega)
  replace HSX := HSX.grown2 hg18 (fun q hq => by injection hq with hq; omega)
  clear hX hg18
  go_wp2_with (fail)
  refine (eqOwnI_same _ _ _ _ L _ (by omega) hG hW).mono ?_
  rintro e w19 ⟨rfl, hb19⟩
  replace HT := below_step HT hb19
  replace HBX := HBX.keep hb19
  replace HSX := HSX.keep hb19
  replace hW := hW.below hb19
  replace hG := hG.below hb19
  go_wp2_with (fail)
  refine (markOwnI_any _ _ L 1 _ (by omega) hG (by omega) (by omega)).mono ?_
  rintro e w20 ⟨rfl, hM, hg20⟩
  replace HT := below_of_grown HT hg20 HT.size (fun q hq => by have := hGge q hq; omega)
  replace HBX := HBX.grown2 hg20 (fun q hq => by have := hGge q hq; omega)
  replace hW := hW.only hg20 (fun q hq hq2 => by have h1 := hWlt q hq; have h2 := hGge q hq2; omega)
  replace HSX := HSX.grown2 hg20 (fun q hq => by have := hGge q hq; omega)
  clear hG hg20
  go_wp2_with (fail)
  refine (heldOwnI_same _ _ L.length 1 _ (by omega) hM (by omega) (by omega)).mono ?_
  rintro e w21 ⟨rfl, rfl⟩
  obtain ⟨bx0, bx1⟩ := HBX.fig
  obtain ⟨tx0, tx1, tx2⟩ := HSX.site
  have hS5 := And.intro bx0 (And.intro bx1 (And.intro tx0 (And.intro tx1 tx2)))
  go_wp2_with (fail)
  go_region_held3 (fun w' => w'.cell? ⟨w.heap.size, 0, none⟩ = some (.string a0_0) ∧ w'.cell? ⟨w.heap.size, 1, none⟩ = some (.slice B0 p0 q0) ∧ w'.cell? ⟨(w.heap.size + 1), 0, none⟩ = some (.string a2_0) ∧ w'.cell? ⟨(w.heap.size + 1), 1, none⟩ = some (.int .i64 a2_1) ∧ w'.cell? ⟨(w.heap.size + 1), 2, none⟩ = some (.int .i64 a2_2))
    ((first | assumption | exact held5 (by assumption) (by assumption) | exact held5 (by assumption) (below_drew0 (Below.refl _ _))))
    (first
      | (go_at_call 22; refine (toFigure_any a0_0 B0 p0 q0 LL0 _ HP.out hsz (hB0.below (by first | exact HT | exact below_drew0 HT))).mono ?_; rintro e w22 ⟨gZ, rfl, hZ, hZge, hb22⟩)
      | (go_at_call 13; refine (toStarS_any A1 n1 c1 l1 _ HL1.out (by omega) (hS1.below (below_step (by first | exact HT | exact below_drew0 HT) hb22))).mono ?_; rintro e w23 ⟨rfl, hY, hb23⟩)
      | (go_at_call 27; refine (toSite_any a2_0 a2_1 a2_2 _).mono ?_; rintro e w24 ⟨rfl, hb24⟩)
      | (go_at_call 28; refine (CI.out _ _ _ (hSin.of_below (below_step (below_step (below_step (by first | exact HT | exact below_drew0 HT) hb22) hb23) hb24)) (((hZ.keep hb23).keep hb24).lists2 (by omega)) (hY.keep hb24).stars).mono ?_; rintro e w25 ⟨vH, rfl, hH, hb25⟩))
  clear tx0 tx1 tx2
  clear hS5
  have HTd := below_drew0 (Below.refl w20.heap.size w20)
  replace HT := below_step HT HTd
  replace HBX := HBX.keep HTd
  replace HSX := HSX.keep HTd
  replace hW := hW.below HTd
  replace hM := hM.below HTd
  clear HTd
  replace HT := below_step HT hb22
  replace HBX := HBX.keep hb22
  replace HSX := HSX.keep hb22
  replace hW := hW.below hb22
  replace hM := hM.below hb22
  replace HT := below_step HT hb23
  replace HBX := HBX.keep hb23
  replace HSX := HSX.keep hb23
  replace hW := hW.below hb23
  replace hM := hM.below hb23
  replace HT := below_step HT hb24
  replace HBX := HBX.keep hb24
  replace HSX := HSX.keep hb24
  replace hW := hW.below hb24
  replace hM := hM.below hb24
  replace HT := below_step HT hb25
  replace HBX := HBX.keep hb25
  replace HSX := HSX.keep hb25
  replace hW := hW.below hb25
  replace hM := hM.below hb25
  clear bx0 bx1
  clear hZ hY
  go_wp2_with (fail)
  refine (eqOwnI_same _ _ _ _ L _ (by omega) hH hW).mono ?_
  rintro e w26 ⟨rfl, hb26⟩
  replace HT := below_step HT hb26
  replace HBX := HBX.keep hb26
  replace HSX := HSX.keep hb26
  replace hW := hW.below hb26
  replace hM := hM.below hb26
  replace hH := hH.below hb26
  go_wp2_with (fail)
  refine (heldOwnI_same _ _ L.length 1 _ (by omega) hM (by omega) (by omega)).mono ?_
  rintro e w27 ⟨rfl, rfl⟩
  go_wp2
  go_ret
  exact ⟨rfl, HT⟩
namespace FnExactVisibleLines
open Go.ChangeShapes Go.WideShapes Go.ChangeAt Go.RowKit Go.Joins
open Go.ChangeMaps (open_string shut_string)
theorem own : ownKnob Tryd.prog.godebug = none := by kernel_rfl
theorem laidOut : laidOutB Tryd.prog = true := by kernel_rfl
theorem gTab : Tryd.prog.globalNamed "loop.example/g00955/impl.sines" = some 0 := by kernel_rfl
theorem gTabType : (Tryd.prog.globals[0]?).map (·.type) = some 165 := by kernel_rfl
theorem cellsT : Tryd.prog.cellsOf 165 = 91 := by kernel_rfl
theorem cells1 : Tryd.prog.cellsOf 2 = 1 := by kernel_rfl
theorem table {W : World} (h : laidMetH Tryd.prog Rows.fnExactVisibleLinesRow.laid W) : Lib.TabIs Tryd.prog W "loop.example/g00955/impl.sines" .i64 sinTab :=
  Lib.tabIs_of_head (rest := []) gTab gTabType Tryd.underlying165 Tryd.underlying2 cells1 cellsT h
theorem sinOk {W : World} (h : laidMetH Tryd.prog Rows.fnExactVisibleLinesRow.laid W) : SinOk W :=
  ⟨lt_of_cell ((table h).cell gTab 0 (by show 0 < 91; omega)), fun k hk => (table h).cell gTab k (by show k < 91; exact hk)⟩
noncomputable def laidWorld (os : Os) : World :=
  { World.holding Tryd.prog os ⟨#[], #[], []⟩ with heap := (World.holding Tryd.prog os ⟨#[], #[], []⟩).heap.modify 0 fun
      | .cells _ t frozen => .cells (sinTab.map (Value.int .i64)).toArray t frozen
      | o => o }
theorem laid_met (os : Os) : laidMet Tryd.prog Rows.fnExactVisibleLinesRow.laid ((laidWorld os).forCall (fun _ _ => 0) ⟨#[], #[.agg #[.string ⟨#[]⟩, .slice none 0 0], .slice none 0 0, .agg #[.string ⟨#[]⟩, .int .i64 0, .int .i64 0], .int .i64 0], []⟩).memory :=
  laidMet_of_run' 8 (by kernel_rfl) (by kernel_rfl)
theorem reads (os : Os) {H : Type} (enc : TypeId × Value → H) : ∃ places, DataW.whole enc Tryd.prog ((laidWorld os).forCall (fun _ _ => 0) ⟨#[], #[.agg #[.string ⟨#[]⟩, .slice none 0 0], .slice none 0 0, .agg #[.string ⟨#[]⟩, .int .i64 0, .int .i64 0], .int .i64 0], []⟩).memory Tryd.f5.params.toList Rows.fnExactVisibleLinesSpec.vars false (#[.agg #[.string ⟨#[]⟩, .slice none 0 0], .slice none 0 0, .agg #[.string ⟨#[]⟩, .int .i64 0, .int .i64 0], .int .i64 0] : Array Value).toList 8 = some ([.agg [.lit (.string []), .nil], .nil, .agg [.lit (.string []), .lit (.int .i64 0), .lit (.int .i64 0)], .lit (.int .i64 0)], [Rows.laid_loop_example_g00955_impl_sines], places) :=
  ⟨((DataW.whole enc Tryd.prog ((laidWorld os).forCall (fun _ _ => 0) ⟨#[], #[.agg #[.string ⟨#[]⟩, .slice none 0 0], .slice none 0 0, .agg #[.string ⟨#[]⟩, .int .i64 0, .int .i64 0], .int .i64 0], []⟩).memory Tryd.f5.params.toList Rows.fnExactVisibleLinesSpec.vars false (#[.agg #[.string ⟨#[]⟩, .slice none 0 0], .slice none 0 0, .agg #[.string ⟨#[]⟩, .int .i64 0, .int .i64 0], .int .i64 0] : Array Value).toList 8).map (fun x => x.2.2)).getD [], by kernel_rfl⟩
set_option maxRecDepth 100000 in
set_option maxHeartbeats 2000000 in
theorem lifted (os : Os) (started : os.Started) (H : Type) (enc : TypeId × Value → H) (F : Stop.Interp) :
    ReturnsInHanded {} Tryd.checked os 5 .any ((OpenSpec.ofChange Rows.fnExactVisibleLinesSpec).preRow enc Tryd.prog Tryd.f5 Rows.fnExactVisibleLinesRow.domain false Rows.fnExactVisibleLinesRow.laid) (((OpenSpec.ofChange Rows.fnExactVisibleLinesSpec).at F).post enc Tryd.prog Tryd.f5 false true false false) := by
  obtain ⟨places, hx⟩ := reads os enc
  refine returnsInHanded_of_row (C := Tryd.checked) (s := OpenSpec.ofChange Rows.fnExactVisibleLinesSpec) own started (by kernel_rfl) Tryd.func5
    (witness_row_at (enc := enc) (C := Tryd.checked) false (laidWorld os) #[.agg #[.string ⟨#[]⟩, .slice none 0 0], .slice none 0 0, .agg #[.string ⟨#[]⟩, .int .i64 0, .int .i64 0], .int .i64 0] rfl (by kernel_rfl) (by kernel_rfl) (by kernel_rfl)
      (OpenSpec.preRow_of_cond 8 hx (by kernel_rfl) (fun k hk => by cases hk) (by kernel_rfl) (laid_met os))) ?_
  intro W base args ds gs before hval0 hW _ _ _ hL _ _
  have hval : ∀ (j : Nat) t v, Tryd.f5.params[j]? = some t → args[j]? = some v → Value.okWide Tryd.prog W .any base t v := hval0
  have hW' := hW
  obtain ⟨p, q, hA0, hV, rfl, hfz, hnd⟩ := hW
  have hA : DataW.TrodAll enc Tryd.prog W 0 (fun _ => true) true Tryd.f5.params.toList args.toList ds p := hA0
  rw [Tryd.params5] at hA hval
  obtain ⟨v0, vs0, d0, ds0, p0, q0, hargs, rfl, rfl, h0, r0⟩ := trodAll_cons hA
  obtain ⟨v1, vs1, d1, ds1, p1, q1, rfl, rfl, rfl, h1, r1⟩ := trodAll_cons r0
  obtain ⟨v2, vs2, d2, ds2, p2, q2, rfl, rfl, rfl, h2, r2⟩ := trodAll_cons r1
  obtain ⟨v3, vs3, d3, ds3, p3, q3, rfl, rfl, rfl, h3, r3⟩ := trodAll_cons r2
  obtain ⟨rfl, rfl, rfl⟩ := trodAll_nil r3
  obtain rfl : args = #[v0, v1, v2, v3] := by cases args; simp_all
  have hVk := hV
  obtain ⟨_, _, _, _, dg, _, rfl, _, _, _, _, _⟩ := trodVars_one hV
  have k0 := h0
  have lt0 : ∀ x ∈ p0, x.block < W.heap.size := by obtain ⟨m, hm⟩ := k0; exact DataW.trod_lt m _ _ _ hm
  have k1 := h1
  have lt1 : ∀ x ∈ p1, x.block < W.heap.size := by obtain ⟨m, hm⟩ := k1; exact DataW.trod_lt m _ _ _ hm
  have k2 := h2
  have lt2 : ∀ x ∈ p2, x.block < W.heap.size := by obtain ⟨m, hm⟩ := k2; exact DataW.trod_lt m _ _ _ hm
  have k3 := h3
  have lt3 : ∀ x ∈ p3, x.block < W.heap.size := by obtain ⟨m, hm⟩ := k3; exact DataW.trod_lt m _ _ _ hm
  obtain ⟨c0_0, c0_1, y0_0, y0_1, m0, rfl, rfl, rfl, t0_0, t0_1⟩ := open_agg2 Tryd.underlying36 (by kernel_rfl) (by kernel_rfl) (hval 0 36 v0 rfl rfl) h0
  obtain ⟨a0_0, rfl, g0_0⟩ := cell_string Tryd.underlying9 t0_0
  obtain ⟨B0, p0, q0, LL0, rfl, hp0, hq0, _, _, hB0⟩ := open_lists Tryd.underlying34 Tryd.underlying24 Tryd.underlying2 (by kernel_rfl) (by kernel_rfl) t0_1
  obtain ⟨A1, n1, c1, l1, rfl, hl1, hn1, hc1, hx1, hS1, hi1⟩ := open_stars Tryd.underlying22 Tryd.underlying82 (by kernel_rfl) (by kernel_rfl) Tryd.underlying9 Tryd.underlying2 Tryd.underlying2 Tryd.underlying2 Tryd.underlying2 (hval 1 22 v1 rfl rfl) h1
  obtain ⟨c2_0, c2_1, c2_2, y2_0, y2_1, y2_2, m2, rfl, rfl, rfl, t2_0, t2_1, t2_2⟩ := open_agg3 Tryd.underlying45 (by kernel_rfl) (by kernel_rfl) (hval 2 45 v2 rfl rfl) h2
  obtain ⟨a2_0, rfl, g2_0⟩ := cell_string Tryd.underlying9 t2_0
  obtain ⟨a2_1, rfl, g2_1⟩ := cell_int Tryd.underlying2 t2_1
  obtain ⟨a2_2, rfl, g2_2⟩ := cell_int Tryd.underlying2 t2_2
  obtain ⟨a3, rfl, rfl, rfl, g3⟩ := open_int Tryd.underlying2 (hval 3 2 v3 rfl rfl) h3
  clear hA0 hval0
  refine (FnExactVisibleLines_walk a0_0 B0 p0 q0 LL0 A1 n1 c1 l1 a2_0 a2_1 a2_2 a3 W g0_0 hp0 hq0 hB0 hl1 hn1 hS1 hi1 g2_0 g2_1 g2_2 (i64_of_wf g3) (sinOk hL)).mono fun e W' ⟨he, bel⟩ => ?_
  subst he
  exact ⟨_, rfl, _, _, _, [], _, _, hW', trodAll_mk1 (shut_bool Tryd.underlying4 _), (trodAll_cons_mk (Below.trod laidOut (by kernel_rfl) (of_decide_eq_true (by kernel_rfl)) k0 bel lt0) (trodAll_cons_mk (Below.trod laidOut (by kernel_rfl) (of_decide_eq_true (by kernel_rfl)) k1 bel lt1) (trodAll_cons_mk (Below.trod laidOut (by kernel_rfl) (of_decide_eq_true (by kernel_rfl)) k2 bel lt2) (trodAll_cons_mk (Below.trod laidOut (by kernel_rfl) (of_decide_eq_true (by kernel_rfl)) k3 bel lt3) trodAll_mk0)))), Below.trodVars laidOut bel (by kernel_rfl) hVk, bel.frame _, fun h => by cases h⟩
theorem said : Rows.FnExactVisibleLinesSaid :=
  OpenClaim.holds_of_cond 5 Tryd.f5 rfl rfl rfl rfl rfl rfl rfl ⟨rfl, rfl, rfl, rfl, rfl⟩ rfl rfl rfl rfl rfl (by kernel_rfl) Tryd.func5 (by kernel_rfl)
    (of_decide_eq_true (by kernel_rfl)) (by unfold Func.isWrapper; first | (rw [if_pos (by decide +kernel)]; kernel_rfl) | (rw [if_neg (by decide +kernel)]; exact ⟨rfl, rfl⟩))
    (fun os started H enc _ F => by rw [OpenClaim.pre_eq_preRow]; exact lifted os started H enc F)
theorem plain (f : FuncId) (fn : Func) (hf : Tryd.pinned.checked.prog.funcNamed "loop.example/g00955/laws.FnExactVisibleLines" = some f) (hfn : Tryd.pinned.checked.prog.funcs[f]? = some fn) :
    false = Tryd.pinned.checked.prog.looks [] ∧ ∀ (j : Nat) t, fn.params[j]? = some t → Tryd.pinned.checked.prog.wantsStandIn t = false := by
  obtain rfl : f = 5 := Option.some.inj ((show Tryd.prog.funcNamed "loop.example/g00955/laws.FnExactVisibleLines" = some 5 by kernel_rfl).symm.trans hf) |>.symm
  obtain rfl : fn = Tryd.f5 := (Option.some.inj (Tryd.func5.symm.trans hfn)).symm
  refine ⟨by kernel_rfl, fun j t ht => ?_⟩
  rw [Tryd.params5] at ht
  have hm : t ∈ [36, 22, 45, 2] := by simpa using Array.mem_of_getElem? ht
  have hall : ([36, 22, 45, 2].all fun u => !Tryd.prog.wantsStandIn u) = true := by kernel_rfl
  exact (show Tryd.prog.wantsStandIn t = false by simpa using List.all_eq_true.1 hall t hm)
/-- the statement: the card -/
theorem proved : Rows.FnExactVisibleLinesCardSaid :=
  Claim7.holds_tied_plain_at .later [] _ _ _ _ said (fun _ h => by cases h) (by kernel_rfl) (fun _ h => by cases h) fnExactVisibleLines_row_tie rfl ⟨rfl, rfl⟩ (by kernel_rfl) rfl plain (by kernel_rfl)
end FnExactVisibleLines
end Go.Proofs.YtbpjnopnhmoigaaDoor
