/- Contracts of the functions that draw a figure and its stars. -/
import Derived.Test.YtpnfhienffekoaaGreatDoorDrawF
import Derived.Test.YtpnfhienffekoaaGreatDoorGrpNum
import Derived.Deep.RegionLaw
namespace Go.Proofs.YtpnfhienffekoaaGreatDoor
set_option linter.unusedVariables false
set_option linter.unusedSimpArgs false
open Go.RowKit
theorem Blk.twoG {w : World} {g : Nat} {t : TypeId} {v0 v1 : Value} (h : Blk w g t [v0, v1]) : w.cell? ⟨g, 0, none⟩ = some v0 ∧ w.cell? ⟨g, 1, none⟩ = some v1 :=
  ⟨by rw [h.cell]; rfl, by rw [h.cell]; rfl⟩
def figNames : List ByteArray := [⟨#[98, 101, 97, 114]⟩, ⟨#[115, 119, 97, 110]⟩, ⟨#[108, 121, 114, 101]⟩]
def oddNames : List ByteArray := [⟨#[]⟩, ⟨#[66]⟩]
theorem OwnS.setNe {w : World} {base r i : Nat} {u v : Value} {l : List Sta} (h : OwnS w base v l) (hne : ∀ p, v.ownBlock = some p → p ≠ r) : OwnS (w.setCell ⟨r, i, none⟩ u) base v l := by
  obtain ⟨h0, hv | ⟨g, cap, cur, hv, hb, hh, h1, h2, h3, h4⟩⟩ := h
  · exact ⟨h0, .inl hv⟩
  · exact ⟨h0, .inr ⟨g, cap, cur, hv, hb, (Below.heap_setCell w ⟨r, i, none⟩ u g (by show g ≠ r; exact hne g (by subst hv; rfl))).trans hh, h1, h2, h3, h4⟩⟩
/-- a figure under way -/
structure FigSt (w w' : World) (g a B q : Nat) (v : Value) (l : List Sta) (nm : ByteArray) (A : Option Addr) (c : Nat) (L : List (List Int)) : Prop where
  f : Blk w' q 63 [.string nm, .slice A L.length c]
  rows : RowsIn w' (q + 1) A L
  len : L.length ≤ 17
  stas : OwnS w' (w.heap.size + 1) v l
  src : Src w' g a B
  grown : w.grownBy w' (some g)
  r : Blk w' w.heap.size 63 [.string ⟨#[]⟩, .slice none 0 0]
  qw : w.heap.size < q
theorem step_app_last {W : World} {ops : Array Oper} {o : Oper} {a : Act} {K : Act → World → Prop} {Q : Exit → Act → World → Prop} {E : Prop} (hgd : o.guard = none) (s x : Operand)
    (ho : o.op = .call { callee := .builtin .append, args := #[s, x], argTypes := #[61, 61] })
    (base : Nat) (v : Value) (L : List (List Int)) (qs : List Nat) (y : List Int) (q b c : Nat) (hs : a.eval s = v) (hx : a.eval x = .slice (some ⟨b, 0, none⟩) 1 c) (hown : LinesIn W base v L qs) (hc : W.cell? ⟨b, 0, none⟩ = some (.slice (some ⟨q, 0, none⟩) y.length y.length)) (hy : Blk W q 2 (numCells y)) (hy2 : y.length ≤ 9223372036854775807) (hbq : base ≤ q) (hoff : v.ownBlock ≠ some q) (hl : L.length ≤ 1048577) (hb : base ≤ W.heap.size)
    (h : ∀ v' w', (∃ A c', v' = .slice A (L ++ [y]).length c' ∧ (L ++ [y]).length ≤ c' ∧ c' ≤ 9223372036854775807 ∧ RowsIn w' base A (L ++ [y])) → W.grownBy w' v.ownBlock → K (a.put o.dst v') w') :
    if Region.wanted o (yielded ops a.tmps) = true then Oper.wp Tryz.prog o a W K Q else E := by
  have hw : Region.wanted o (yielded ops a.tmps) = true := by simp [Region.wanted, hgd]
  rw [if_pos hw]
  exact oper_app_last s x ho base v L qs y q b c hs hx hown hc hy hy2 hbq hoff hl hb h
/-- the figure handed back -/
theorem fig_fin {w W : World} {g a B q : Nat} {v : Value} {l : List Sta} {nm : ByteArray} {A : Option Addr} {c : Nat} {L : List (List Int)} (h : FigSt w W g a B q v l nm A c L) (hB : B ≤ w.heap.size) :
    ∃ WF, WF = ((W.setCell ⟨w.heap.size, 0, none⟩ (.string nm)).setCell ⟨w.heap.size, 1, none⟩ (.slice A L.length c)) ∧ WF.cell? ⟨w.heap.size, 0, none⟩ = some (.string nm) ∧ WF.cell? ⟨w.heap.size, 1, none⟩ = some (.slice A L.length c) ∧ RowsIn WF w.heap.size A L ∧ OwnS WF w.heap.size v l ∧ Src WF g a B ∧ w.grownBy WF (some g) := by
  have hne : ∀ p, v.ownBlock = some p → p ≠ w.heap.size := fun p hp => by have := (h.stas.lt p hp).1; omega
  have hq := h.qw
  have hF : Blk _ w.heap.size 63 [.string nm, .slice A L.length c] := (h.r.set_ 0 (.string nm)).set_ 1 (.slice A L.length c)
  exact ⟨_, rfl, hF.twoG.1, hF.twoG.2, ((h.rows.far (p := ⟨w.heap.size, 0, none⟩) (by show w.heap.size < q + 1; omega) _).far (p := ⟨w.heap.size, 1, none⟩) (by show w.heap.size < q + 1; omega) _).base_le (by omega), ((h.stas.setNe hne).setNe hne).base_le (by omega), (h.src.set hB 0 _).set hB 1 _, grown_far (grown_far h.grown (Nat.le_refl _) 0 _) (Nat.le_refl _) 1 _⟩
/-- what drawing a figure leaves -/
def FigDrawn (g a B : Nat) (w : World) (e : Ending) (w' : World) : Prop := ∃ (nm : ByteArray) (A : Option Addr) (c : Nat) (L : List (List Int)) (v : Value) (l : List Sta), e = .returned (.tuple #[.agg #[.string nm, .slice A L.length c], v]) ∧ RowsIn w' w.heap.size A L ∧ L.length ≤ 17 ∧ OwnS w' w.heap.size v l ∧ l.length ≤ 30 ∧ Src w' g a B ∧ w.grownBy w' (some g)
set_option maxRecDepth 100000 in
set_option maxHeartbeats 4000000 in
theorem l08Draw_any (g a B : Nat) (w : World) (h : Src w g a B) (ha : a ≤ 999900000) (hB : B ≤ w.heap.size) :
    Calls Tryz.prog 83 #[.pointer (some ⟨g, 0, none⟩)] w (FigDrawn g (a + 3000) B w) := by
  have hgl := h.lt
  go_enter Tryz.func83, Tryz.ntmps83
  go_wp2_with (fail)
  refine calls_named ?_
  intro W1 e1
  have hb1 : Below w.heap.size w W1 := by rw [e1]; exact below_alloc (Below.refl _ _) _
  have hR1 : Blk W1 w.heap.size 63 [.string ⟨#[]⟩, .slice none 0 0] := by rw [e1]; exact Blk.new w _ _
  clear e1
  have hS1 := h.keep hb1
  have hG1 := grown_of_below hb1 (some g)
  have hz1 := hb1.size
  clear hb1
  refine (l05Draw_any g a B W1 hS1 (by omega) (by omega)).mono ?_
  rintro e w2 ⟨v, l, rfl, hO, _, hl6, _, hS2, hg2⟩
  have hO2 := hO.base_le (b2 := w.heap.size + 1) (by have := hR1.lt; omega)
  have hR2 := hR1.grown hg2 (fun p hp => by injection hp with hp; omega)
  have hG2 := grown_trans0 hG1 hg2
  clear hO hR1 hG1 hS1 hg2 hz1
  go_wp2_with (fail)
  refine (one_any g (a + 100) B 3 w2 hS2 (by omega) (by omega)).mono ?_
  rintro e w3 ⟨b, rfl, hS3, hg3⟩
  have hO3 := hO2.only hg3 (fun p hp hq => by have := hO2.lt p hp; injection hq with hq; omega)
  have hR3 := hR2.grown hg3 (fun p hp => by injection hp with hp; omega)
  have hG3 := grown_trans0 hG2 hg3
  have hz3 := hG3.size
  clear hO2 hR2 hG2 hS2 hg3
  go_upto_if 9 with (fail)
  go_cut [4] (fun s4 wc => ∃ l : List Sta, OwnS wc (w.heap.size + 1) s4 l ∧ l.length ≤ 30 ∧ Src wc g (a + 302) B ∧ w.grownBy wc (some g) ∧ Blk wc w.heap.size 63 [.string ⟨#[]⟩, .slice none 0 0])
  case first =>
    cases b with
    | true =>
      go_wp2_with (fail)
      refine (l05Bent_any g (a + 102) B w3 hS3 (by omega) (by omega)).mono ?_
      rintro e w4 ⟨v4, l4, rfl, hO4, hl4, hS4, hg4⟩
      have hR4 := hR3.grown hg4 (fun p hp => by injection hp with hp; omega)
      have hG4 := grown_trans0 hG3 hg4
      go_wp2_with (fail)
      go_meet
      exact ⟨l4, hO4.base_le (by have := hR3.lt; omega), hl4, hS4.mono (by omega), hG4, hR4⟩
    | false =>
      go_wp2_with (fail)
      go_meet
      exact ⟨l, hO3, by omega, hS3.mono (by omega), hG3, hR3⟩
  case rest =>
    clear hO3 hR3 hG3 hS3 hz3 hl6
    obtain ⟨l, hO, hl30, hS, hG, hR⟩ := hcut
    obtain ⟨A, c, rfl, hA⟩ := hO.form
    clear hA
    have hz := hG.size
    go_wp2_with (fail)
    refine calls_named ?_
    intro W5 e5
    have hb5 : Below wc.heap.size wc W5 := by rw [e5]; exact below_alloc (Below.refl _ _) _
    have hN : Blk W5 wc.heap.size 9 (figNames.map Value.string) := by
      rw [e5]
      have := Blk.new wc 9 (figNames.map Value.string)
      simpa [figNames] using this
    have hO5 := hO.below hb5
    have hS5 := hS.keep hb5
    have hG5 := grown_trans0 hG (grown_of_below hb5 (some g))
    have hR5 := hR.keep hb5
    have hgc := hS.lt
    clear e5 hb5 hO hS hG hR
    refine (text_any g (a + 302) B wc.heap.size 3 3 figNames W5 hS5 (by omega) rfl (by omega) (by omega) (by omega) (fun k s hs => by rw [hN.cell, List.getElem?_map, hs]; rfl)).mono ?_
    rintro e w6 ⟨nm, rfl, hnm, hS6, hg6⟩
    have hO6 := hO5.only hg6 (fun p hp hq => by have := hO5.lt p hp; injection hq with hq; omega)
    have hR6 := hR5.grown hg6 (fun p hp => by injection hp with hp; omega)
    have hG6 := grown_trans0 hG5 hg6
    have hrl := hR6.lt
    have hg6l := hS6.lt
    clear hN hO5 hS5 hG5 hR5 hg6 hz hgc
    go_wp2_with (fail)
    refine calls_named ?_
    intro W7 e7
    have hb7 : Below w6.heap.size w6 W7 := by rw [e7]; exact below_alloc (Below.refl _ _) _
    have hF7 : Blk W7 w6.heap.size 63 [.string nm, .slice none 0 0] := by rw [e7]; exact Blk.new w6 _ _
    have hvne : ∀ p, (Value.slice A l.length c).ownBlock = some p → p ≠ w6.heap.size := fun p hp => by have := (hO6.lt p hp).2; omega
    have hO7 := hO6.below hb7
    have hS7 := hS6.keep hb7
    have hG7 := grown_trans0 hG6 (grown_of_below hb7 (some g))
    have hR7 := hR6.keep hb7
    have hwq : w.heap.size < w6.heap.size := hrl
    have HVN := Lib.hid hvne
    have hvo2 : ∀ p, (Value.slice A l.length c).ownBlock = some p → ¬ (w6.heap.size + 1 ≤ p) := fun p hp => by have := (hO6.lt p hp).2; omega
    have HVO2 := Lib.hid hvo2
    clear e7 hb7 hO6 hS6 hG6 hR6 hvne hvo2
    generalize w6.heap.size = q at *
    have hF7l := hF7.lt
    refine (l08DrawLines_any g (a + 304) B l.length W7 hS7 (by omega) (by have := hG7.size; omega) hl30).mono ?_
    rintro e w8 ⟨v8, L, qs, rfl, hQ8, hL16, hS8, hg8⟩
    have hQ8 := hQ8.base_le (b2 := q + 1) (by omega)
    have hO8 := hO7.only hg8 (fun p hp hq => by have := hO7.lt p hp; injection hq with hq; omega)
    have hF8 := hF7.grown hg8 (fun p hp => by injection hp with hp; omega)
    have hR8 := hR7.grown hg8 (fun p hp => by injection hp with hp; omega)
    have hG8 := grown_trans0 hG7 hg8
    obtain ⟨A8, c8, e8, _, _, _⟩ := hQ8.rows
    subst e8
    have f1 := hF8.frozen 1
    have d1 : w8.cell? ⟨q, 1, none⟩ = some (.slice none 0 0) := by rw [hF8.cell]; rfl
    have hql := hF8.lt
    clear hO7 hS7 hG7 hR7 hF7 hg8 hF7l
    go_wp2_with (fail)
    refine calls_named ?_
    intro W9 e9
    have hF9 : Blk W9 q 63 [.string nm, .slice A8 L.length c8] := by rw [e9]; exact hF8.set_ 1 _
    have hQ9 := hQ8.set (p := ⟨q, 1, none⟩) (by show q < q + 1; omega) (.slice A8 L.length c8)
    have hO9 := hO8.setNe (r := q) (i := 1) (u := .slice A8 L.length c8) HVN.out
    have hR9 := hR8.far (p := ⟨q, 1, none⟩) (by show w.heap.size ≠ q; omega) (.slice A8 L.length c8)
    have hS9 := hS8.set (q := q) (by omega) 1 (.slice A8 L.length c8)
    have hG9 := grown_far hG8 (q := q) (by omega) 1 (.slice A8 L.length c8)
    rw [← e9] at hQ9 hO9 hR9 hS9 hG9
    clear e9 hF8 hQ8 hO8 hR8 hS8 hG8 f1 d1 hql
    refine (pick_any g (a + 304 + 1800) B 20 W9 hS9 (by omega) (by omega)).mono ?_
    rintro e w10 ⟨k, rfl, hk, hS10, hg10⟩
    have hQ10 := hQ9.grown hg10 (fun p hp => by injection hp with hp; omega)
    have hO10 := hO9.only hg10 (fun p hp hq => by have := hO9.lt p hp; injection hq with hq; omega)
    have hF10 := hF9.grown hg10 (fun p hp => by injection hp with hp; omega)
    have hR10 := hR9.grown hg10 (fun p hp => by injection hp with hp; omega)
    have hG10 := grown_trans0 hG9 hg10
    clear hQ9 hO9 hF9 hR9 hS9 hG9 hg10 hk
    obtain ⟨x0, x1⟩ := hF10.twoG
    have f0 := hF10.frozen 0
    have f1 := hF10.frozen 1
    have hql := hF10.lt
    have hgl10 := hS10.lt
    by_cases k0 : k = 0
    · subst k0
      go_wp2_with (fail)
      refine calls_named ?_
      intro W11 e11
      have hb11 : Below w10.heap.size w10 W11 := by rw [e11]; exact below_alloc (Below.refl _ _) _
      have hN : Blk W11 w10.heap.size 9 (oddNames.map Value.string) := by
        rw [e11]
        have := Blk.new w10 9 (oddNames.map Value.string)
        simpa [oddNames] using this
      have hQ11 := hQ10.below hb11
      have hO11 := hO10.below hb11
      have hF11 := hF10.keep hb11
      have hR11 := hR10.keep hb11
      have hS11 := hS10.keep hb11
      have hG11 := grown_trans0 hG10 (grown_of_below hb11 (some g))
      clear e11 hb11 hQ10 hO10 hF10 hR10 hS10 hG10 x0 x1 f0 f1 hql
      refine (text_any g (a + 304 + 1800 + 2) B w10.heap.size 2 2 oddNames W11 hS11 (by omega) rfl (by omega) (by omega) (by omega) (fun k s hs => by rw [hN.cell, List.getElem?_map, hs]; rfl)).mono ?_
      rintro e w12 ⟨nm2, rfl, _, hS12, hg12⟩
      have hQ12 := hQ11.grown hg12 (fun p hp => by injection hp with hp; omega)
      have hO12 := hO11.only hg12 (fun p hp hq => by have := hO11.lt p hp; injection hq with hq; omega)
      have hF12 := hF11.grown hg12 (fun p hp => by injection hp with hp; omega)
      have hR12 := hR11.grown hg12 (fun p hp => by injection hp with hp; omega)
      have hG12 := grown_trans0 hG11 hg12
      have f0 := hF12.frozen 0
      have d0 : w12.cell? ⟨q, 0, none⟩ = some (.string nm) := by rw [hF12.cell]; rfl
      have hql := hF12.lt
      clear hN hQ11 hO11 hF11 hR11 hS11 hG11 hg12
      go_upto_region 13 with (fail)
      refine wp_named ?_
      intro W13 e13
      have hst : FigSt w W13 g (a + 3000) B q (.slice A l.length c) l nm2 A8 c8 L := by
        obtain ⟨A9, c9, e9, _, _, hrow⟩ := (hQ12.set (p := ⟨q, 0, none⟩) (by show q < q + 1; omega) (.string nm2)).rows
        injection e9 with e9 _ e9'
        subst e9 e9'
        rw [e13]
        exact ⟨hF12.set_ 0 _, hrow, by omega, hO12.setNe HVN.out, (hS12.set (q := q) (by omega) 0 _).mono (by omega), grown_far hG12 (q := q) (by omega) 0 _, hR12.far (p := ⟨q, 0, none⟩) (by show w.heap.size ≠ q; omega) _, hwq⟩
      clear e13 hQ12 hO12 hF12 hR12 hG12 hS12 f0 d0 hql
      obtain ⟨x0, x1⟩ := hst.f.twoG
      obtain ⟨r0, r1⟩ := hst.r.twoG
      have f0 := hst.r.frozen 0
      have f1 := hst.r.frozen 1
      have hql := hst.f.lt
      have hrl := hst.r.lt
      have HST := Lib.hid hst
      clear hst
      go_wp2_with (fail)
      obtain ⟨WF, hWF, d0, d1, d2, d3, d4, d5⟩ := fig_fin HST.out hB
      rw [← hWF]
      clear hWF x0 x1 r0 r1 f0 f1
      exact bodyPost_ret (v := .tuple #[.agg #[.string nm2, .slice A8 L.length c8], .slice A l.length c]) (by simp [results, Tryz.results83, go_sem, d0, d1]) rfl ⟨nm2, A8, c8, L, _, l, rfl, d2, HST.out.len, d3, hl30, d4, d5⟩
    · have hk0 : ((k : Int) == 0) = false := by rw [beq_eq_false_iff_ne]; omega
      by_cases k1 : k = 1
      · subst k1
        generalize hV8 : Value.slice A8 L.length c8 = V8 at *
        have HV8 := Lib.hid hV8
        clear hV8
        have hvo := fun p hp => (hQ10.vlt p hp)
        have hlen : ∀ y : List Int, (L ++ [y]).length = L.length + 1 := fun y => by simp
        have HLEN := Lib.hid hlen
        have HQ := Lib.hid hQ10
        have HO := Lib.hid hO10
        have HF := Lib.hid hF10
        have HR := Lib.hid hR10
        have HS := Lib.hid hS10
        have HG := Lib.hid hG10
        have HVO := Lib.hid hvo
        clear hQ10 hO10 hF10 hR10 hS10 hG10 hlen hvo
        go_wp2_with (fail)
        go_region_law (first
          | (refine step_app_last (by rfl) (.tmp 32) (.tmp 38) (by rfl) (q + 1) V8 L qs [(p1 : Int), (p2 : Int)] w12.heap.size (w12.heap.size + 1) 1 (by rfl) (by rfl) (HQ12.out.below HBA.out) (by simp [go_sem, rowVal]) (HB12.out.alloc _) (by simp) (by omega) (fun e => by have := (HVO.out _ e).2; omega) (by omega) (by simp; omega) ?_; rintro v13 w13 ⟨A13, c13, e13, _, _, hrow13⟩ hg13; rw [HLEN.out] at e13; subst e13; have hF13 := (HF12.out.keep HBA.out).grown2 hg13 (fun z hz => by have := (HVO.out z hz).1; omega); have f1' := hF13.frozen 1; obtain ⟨u0, u1⟩ := hF13.twoG; have hql13 := hF13.lt; have HF13 := Lib.hid hF13; have HG13 := Lib.hid hg13; have HROW := Lib.hid hrow13; clear hF13 hg13 hrow13)
          | (go_simp; go_at_call 100; with_reducible refine (pick_any g (a + 304 + 1800 + 2) B 3 _ (HS.out.keep (by first | exact Below.refl _ _ | exact below_drew0 (Below.refl _ _))) (by omega) (by omega)).mono ?_; rintro e w11 ⟨p1, rfl, _, hS11, hg11⟩; have hG1x : w10.grownBy w11 (some g) := grown_trans0 (grown_of_below (by first | exact Below.refl _ _ | exact below_drew0 (Below.refl _ _)) (some g)) hg11; obtain ⟨y0, y1⟩ := (HF.out.grown hG1x (fun p hp => by injection hp with hp; omega)).twoG; have HS11 := Lib.hid hS11; have HG1x := Lib.hid hG1x; clear hS11 hg11 hG1x)
          | (go_simp; go_at_call 100; with_reducible refine (pick_any g (a + 304 + 1800 + 2 + 2) B 9 _ HS11.out (by omega) (by omega)).mono ?_; rintro e w12 ⟨p2, rfl, _, hS12, hg12⟩; have hG2x := grown_trans0 HG1x.out hg12; have hF12 := HF.out.grown hG2x (fun p hp => by injection hp with hp; omega); obtain ⟨z0, z1⟩ := hF12.twoG; have HQ12 := Lib.hid (HQ.out.grown hG2x (fun p hp => by injection hp with hp; omega)); have hq12 := hF12.lt; have hs12 := hG2x.size; have HBA : Hid (Below w12.heap.size w12 ((w12.alloc (.cells #[.int .i64 (p1 : Int), .int .i64 (p2 : Int)] 2)).alloc (.cells #[.slice (some ⟨w12.heap.size, 0, none⟩) 2 2] 55))) := Lib.hid (below_alloc (below_alloc (Below.refl _ _) _) _); have HB12 := Lib.hid (Blk.new w12 2 (numCells [(p1 : Int), (p2 : Int)])); have HF12 := Lib.hid hF12; have HS12 := Lib.hid hS12; have HG2x := Lib.hid hG2x; clear hS12 hG2x hg12 hF12))
        all_goals
          go_upto_region 13 with (fail)
          refine wp_named ?_
          intro W13 e13
          have hst : FigSt w W13 g (a + 3000) B q (.slice A l.length c) l nm A13 c13 (L ++ [[(p1 : Int), (p2 : Int)]]) := by
            rw [e13]
            have hGa := grown_trans0 (grown_trans0 HG.out HG2x.out) (grown_of_below HBA.out (some g))
            have hO12 := HO.out.only HG2x.out (fun p hp hq => by have := HO.out.lt p hp; injection hq with hq; omega)
            have hO13 := (hO12.below HBA.out).only HG13.out (fun p hp hq => (HVO2.out p hp) (by have := (HVO.out p hq).1; omega))
            exact ⟨by rw [HLEN.out]; exact HF13.out.set_ 1 _, HROW.out.far (p := ⟨q, 1, none⟩) (by show q < q + 1; omega) _, by rw [HLEN.out]; omega, hO13.setNe HVN.out, (((HS12.out.keep HBA.out).grown HG13.out (fun p hp => by have := (HVO.out p hp).1; omega)).set (q := q) (by omega) 1 _).mono (by omega), grown_far (grown_own hGa HG13.out (fun p hp => by have := (HVO.out p hp).1; omega)) (q := q) (by omega) 1 _, (((HR.out.grown HG2x.out (fun p hp => by injection hp with hp; omega)).keep HBA.out).grown2 HG13.out (fun z hz => by have := (HVO.out z hz).1; omega)).far (p := ⟨q, 1, none⟩) (by show w.heap.size ≠ q; omega) _, hwq⟩
          clear e13 x0 x1 f0 f1 hql
          obtain ⟨x0, x1⟩ := hst.f.twoG
          obtain ⟨r0, r1⟩ := hst.r.twoG
          have f0 := hst.r.frozen 0
          have f1 := hst.r.frozen 1
          have hql := hst.f.lt
          have hrl := hst.r.lt
          have HST := Lib.hid hst
          clear hst
          rw [HLEN.out] at x1
          go_wp2_with (fail)
          obtain ⟨WF, hWF, d0, d1, d2, d3, d4, d5⟩ := fig_fin HST.out hB
          rw [HLEN.out] at hWF d1
          rw [← hWF]
          clear hWF x0 x1 r0 r1 f0 f1
          exact bodyPost_ret (v := .tuple #[.agg #[.string nm, .slice A13 (L.length + 1) c13], .slice A l.length c]) (by simp [results, Tryz.results83, go_sem, d0, d1]) rfl ⟨nm, A13, c13, L ++ [[(p1 : Int), (p2 : Int)]], _, l, by rw [HLEN.out], d2, HST.out.len, d3, hl30, d4, d5⟩
      · have hk1 : ((k : Int) == 1) = false := by rw [beq_eq_false_iff_ne]; omega
        by_cases k2 : k = 2
        · subst k2
          generalize hV8 : Value.slice A8 L.length c8 = V8 at *
          have HV8 := Lib.hid hV8
          clear hV8
          have hvo := fun p hp => (hQ10.vlt p hp)
          have hlen : (L ++ [[(0 : Int)]]).length = L.length + 1 := by simp
          have HLEN := Lib.hid hlen
          have hbA : Below w10.heap.size w10 ((w10.alloc (.cells #[.int .i64 0] 2)).alloc (.cells #[.slice (some ⟨w10.heap.size, 0, none⟩) 1 1] 55)) := below_alloc (below_alloc (Below.refl _ _) _) _
          have HBA := Lib.hid hbA
          have HB10 := Lib.hid (Blk.new w10 2 (numCells [(0 : Int)]))
          have HQ := Lib.hid hQ10
          have HF := Lib.hid hF10
          have HR := Lib.hid hR10
          have HO := Lib.hid hO10
          have HS := Lib.hid hS10
          have HG := Lib.hid hG10
          have HVO := Lib.hid hvo
          clear hbA hlen hQ10 hO10 hF10 hR10 hS10 hG10 hvo
          go_upto_region 13 with (at_builtin; refine wpList_app_last rfl (.tmp 44) (.tmp 46) rfl (q + 1) V8 L qs [0] w10.heap.size (w10.heap.size + 1) 1 rfl rfl (HQ.out.below HBA.out) (by simp [go_sem, rowVal]) (HB10.out.alloc _) (by simp) (by omega) (fun e => by have := (HVO.out _ e).2; omega) (by omega) (by simp; omega) ?_; rintro v11 w11 ⟨A11, c11, e11, _, _, hrow11⟩ hg11; rw [HLEN.out] at e11; subst e11; have hF11 := (HF.out.keep HBA.out).grown2 hg11 (fun z hz => by have := (HVO.out z hz).1; omega); have f1' := hF11.frozen 1; obtain ⟨u0, u1⟩ := hF11.twoG; have hql11 := hF11.lt; have HF11 := Lib.hid hF11; have HG11 := Lib.hid hg11; have HROW := Lib.hid hrow11; clear hF11 hg11 hrow11)
          refine wp_named ?_
          intro W13 e13
          have hst : FigSt w W13 g (a + 3000) B q (.slice A l.length c) l nm A11 c11 (L ++ [[0]]) := by
            rw [e13]
            have hGa := grown_trans0 HG.out (grown_of_below HBA.out (some g))
            have hO11 := (HO.out.below HBA.out).only HG11.out (fun p hp hq => (HVO2.out p hp) (by have := (HVO.out p hq).1; omega))
            exact ⟨by rw [HLEN.out]; exact HF11.out.set_ 1 _, HROW.out.far (p := ⟨q, 1, none⟩) (by show q < q + 1; omega) _, by rw [HLEN.out]; omega, hO11.setNe HVN.out, (((HS.out.keep HBA.out).grown HG11.out (fun p hp => by have := (HVO.out p hp).1; omega)).set (q := q) (by omega) 1 _).mono (by omega), grown_far (grown_own hGa HG11.out (fun p hp => by have := (HVO.out p hp).1; omega)) (q := q) (by omega) 1 _, ((HR.out.keep HBA.out).grown2 HG11.out (fun z hz => by have := (HVO.out z hz).1; omega)).far (p := ⟨q, 1, none⟩) (by show w.heap.size ≠ q; omega) _, hwq⟩
          clear e13 u0 u1 f1' hql11 x0 x1 f0 f1 hql
          obtain ⟨x0, x1⟩ := hst.f.twoG
          obtain ⟨r0, r1⟩ := hst.r.twoG
          have f0 := hst.r.frozen 0
          have f1 := hst.r.frozen 1
          have hql := hst.f.lt
          have hrl := hst.r.lt
          have HST := Lib.hid hst
          clear hst
          rw [HLEN.out] at x1
          go_wp2_with (fail)
          obtain ⟨WF, hWF, d0, d1, d2, d3, d4, d5⟩ := fig_fin HST.out hB
          rw [HLEN.out] at hWF d1
          rw [← hWF]
          clear hWF x0 x1 r0 r1 f0 f1
          exact bodyPost_ret (v := .tuple #[.agg #[.string nm, .slice A11 (L.length + 1) c11], .slice A l.length c]) (by simp [results, Tryz.results83, go_sem, d0, d1]) rfl ⟨nm, A11, c11, L ++ [[0]], _, l, by rw [HLEN.out], d2, HST.out.len, d3, hl30, d4, d5⟩
        · have hk2 : ((k : Int) == 2) = false := by rw [beq_eq_false_iff_ne]; omega
          have hst : FigSt w w10 g (a + 3000) B q (.slice A l.length c) l nm A8 c8 L := by
            obtain ⟨A9, c9, e9, _, _, hrow⟩ := hQ10.rows
            injection e9 with e9 _ e9'
            subst e9 e9'
            exact ⟨hF10, hrow, by omega, hO10, hS10.mono (by omega), hG10, hR10, hwq⟩
          clear hQ10 hO10 hF10 hR10 hS10 hG10 x0 x1 f0 f1 hql
          obtain ⟨x0, x1⟩ := hst.f.twoG
          obtain ⟨r0, r1⟩ := hst.r.twoG
          have f0 := hst.r.frozen 0
          have f1 := hst.r.frozen 1
          have hql := hst.f.lt
          have hrl := hst.r.lt
          have HST := Lib.hid hst
          clear hst
          go_wp2_with (fail)
          obtain ⟨WF, hWF, d0, d1, d2, d3, d4, d5⟩ := fig_fin HST.out hB
          rw [← hWF]
          clear hWF x0 x1 r0 r1 f0 f1
          exact bodyPost_ret (v := .tuple #[.agg #[.string nm, .slice A8 L.length c8], .slice A l.length c]) (by simp [results, Tryz.results83, go_sem, d0, d1]) rfl ⟨nm, A8, c8, L, _, l, rfl, d2, HST.out.len, d3, hl30, d4, d5⟩
end Go.Proofs.YtpnfhienffekoaaGreatDoor
