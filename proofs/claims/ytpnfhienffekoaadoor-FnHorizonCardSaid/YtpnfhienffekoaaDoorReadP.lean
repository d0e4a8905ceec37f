/- Contracts of the functions that read sites. -/
import Derived.Test.YtpnfhienffekoaaDoorReadA
import Derived.Test.YtpnfhienffekoaaDoorReadS
namespace Go.Proofs.YtpnfhienffekoaaDoor
set_option linter.unusedVariables false
set_option linter.unusedSimpArgs false
open Go.RowKit
theorem ms_len {rd : List UInt8 → Option Int} {ws : List (List UInt8)} (h : ws.length ≠ 3) : mkSite rd ws = none := by unfold mkSite; rw [if_neg h]
theorem ms_one {p0 p1 p2 : List UInt8} (h : angB p1 = false) : mkSite angR [p0, p1, p2] = none := by
  unfold mkSite
  rw [if_pos (show [p0, p1, p2].length = 3 from rfl)]
  have : angR p1 = none := by unfold angB at h; cases e : angR p1 with
    | none => rfl
    | some x => rw [e] at h; cases h
  show (match angR p1, angR p2 with | some lo, some la => _ | _, _ => none) = none
  rw [this]
theorem ms_two {p0 p1 p2 : List UInt8} (h : angB p2 = false) : mkSite angR [p0, p1, p2] = none := by
  unfold mkSite
  rw [if_pos (show [p0, p1, p2].length = 3 from rfl)]
  have : angR p2 = none := by unfold angB at h; cases e : angR p2 with
    | none => rfl
    | some x => rw [e] at h; cases h
  show (match angR p1, angR p2 with | some lo, some la => _ | _, _ => none) = none
  rw [this]
  cases angR p1 <;> rfl
theorem ms_ok {p0 p1 p2 : List UInt8} (h1 : angB p1 = true) (h2 : angB p2 = true) : mkSite angR [p0, p1, p2] = if vSite p0 (angV p1) (angV p2) = true then some (p0, angV p1, angV p2) else none := by
  unfold angB at h1 h2
  unfold mkSite angV
  rw [if_pos (show [p0, p1, p2].length = 3 from rfl)]
  show (match angR p1, angR p2 with | some lo, some la => _ | _, _ => none) = _
  cases e1 : angR p1 with
  | none => rw [e1] at h1; cases h1
  | some x =>
    cases e2 : angR p2 with
    | none => rw [e2] at h2; cases h2
    | some y => rfl
theorem mkSite_IR (ws : List (List UInt8)) : mkSite angI ws = mkSite angR ws := by
  have : angI = angR := funext ang_eq
  rw [this]
theorem rsI_none {l : List UInt8} (h : mkSite angR (wordsL l) = none) : readSiteR l = none := by rw [← readSite_eq]; unfold readSiteI; rw [mkSite_IR, h]
theorem rsI_some {l nm : List UInt8} {lo la : Int} (h : mkSite angR (wordsL l) = some (nm, lo, la)) : readSiteR l = if siteT nm lo la = l then some (nm, lo, la) else none := by rw [← readSite_eq]; unfold readSiteI; rw [mkSite_IR, h]
theorem rsR_eq {l : List UInt8} : readSiteR l = mkSite angR (partsL 32 l) := rfl
theorem angV_i64 (l : List UInt8) : I64 (angV l) := by
  unfold angV
  cases h : angR l with
  | none => exact ⟨by decide, by decide⟩
  | some a =>
    have := (inB_iff _ _ _).1 ((angR_iff l a).1 h).1
    exact ⟨by simp; omega, by simp; omega⟩
/-- the value of a site that was read -/
def siteOf (o : Option (List UInt8 × Int × Int)) : Value := match o with
  | some (nm, lo, la) => .agg #[.string (tx nm), .int .i64 lo, .int .i64 la]
  | none => .agg #[.string ⟨#[]⟩, .int .i64 0, .int .i64 0]
def SiteRet (o : Option (List UInt8 × Int × Int)) (w : World) (e : Ending) (w' : World) : Prop := e = .returned (.tuple #[siteOf o, .bool o.isSome]) ∧ Below w.heap.size w w'
theorem three_of {α : Type} {l : List α} (h : l.length = 3) : ∃ a b c, l = [a, b, c] := by
  match l, h with
  | [a, b, c], _ => exact ⟨a, b, c, rfl⟩
theorem row3 {w : World} {g : Nat} {a b c : ByteArray} (h : Strs w (some ⟨g, 0, none⟩) [a, b, c]) : w.cell? ⟨g, 0, none⟩ = some (.string a) ∧ w.cell? ⟨g, 1, none⟩ = some (.string b) ∧ w.cell? ⟨g, 2, none⟩ = some (.string c) := by
  obtain ⟨bb, o, e, hc⟩ := h (by simp)
  injection e with e; injection e with e1 e2
  subst e1 e2
  exact ⟨hc 0 a rfl, hc 1 b rfl, hc 2 c rfl⟩
/-- three values stored in a block, the world under a name of its own -/
theorem site_end {W w : World} {g : Nat} {t : TypeId} {u0 u1 u2 : Value} (hZ : Blk W g t [u0, u1, u2]) (hb : Below w.heap.size w W) (hg : w.heap.size ≤ g) (v0 v1 v2 : Value) :
    ∃ WF, WF = (((W.setCell ⟨g, 0, none⟩ v0).setCell ⟨g, 1, none⟩ v1).setCell ⟨g, 2, none⟩ v2) ∧ Below w.heap.size w WF ∧ WF.cell? ⟨g, 0, none⟩ = some v0 ∧ WF.cell? ⟨g, 1, none⟩ = some v1 ∧ WF.cell? ⟨g, 2, none⟩ = some v2 := by
  have h := ((hZ.set_ 0 v0).set_ 1 v1).set_ 2 v2
  refine ⟨_, rfl, below_setCell0 (below_setCell0 (below_setCell0 hb hg _) hg _) hg _, ?_, ?_, ?_⟩ <;> (rw [h.cell]; rfl)
def zeroSite : List Value := [.string ⟨#[]⟩, .int .i64 0, .int .i64 0]
theorem Blk.zsite {w : World} {g : Nat} {t : TypeId} (h : Blk w g t zeroSite) : (w.cell? ⟨g, 0, none⟩ = some (.string ⟨#[]⟩) ∧ w.cell? ⟨g, 1, none⟩ = some (.int .i64 0) ∧ w.cell? ⟨g, 2, none⟩ = some (.int .i64 0)) ∧ (w.frozen? ⟨g, 0, none⟩ = false ∧ w.frozen? ⟨g, 1, none⟩ = false ∧ w.frozen? ⟨g, 2, none⟩ = false) :=
  ⟨⟨by rw [h.cell]; rfl, by rw [h.cell]; rfl, by rw [h.cell]; rfl⟩, h.frozen 0, h.frozen 1, h.frozen 2⟩
set_option maxRecDepth 100000 in
set_option maxHeartbeats 4000000 in
theorem ReadSite_any (s : ByteArray) (w : World) (hs : s.size ≤ 1048576) (hT : TxtOk w) :
    Calls Tryd.prog 12 #[.string s] w (SiteRet (readSiteR s.data.toList) w) := by
  have hZ0 : Blk (w.alloc (.cells #[.string ⟨#[]⟩, .int .i64 0, .int .i64 0] 25)) w.heap.size 25 zeroSite := Blk.new _ _ _
  have hb0 : Below w.heap.size w (w.alloc (.cells #[.string ⟨#[]⟩, .int .i64 0, .int .i64 0] 25)) := below_alloc (Below.refl _ _) _
  have HW : Hid (∀ p ∈ wordsL s.data.toList, p.length ≤ 1048576) := Lib.hid (fun p hp => words_mem hp hs)
  have HI := Lib.hid (fun h => rsI_none (l := s.data.toList) h)
  have HJ := Lib.hid (fun nm lo la h => rsI_some (l := s.data.toList) (nm := nm) (lo := lo) (la := la) h)
  have HT := Lib.hid hT
  clear hT
  go_enter Tryd.func12, Tryd.ntmps12
  go_wp2_with (fail)
  refine calls_named ?_
  intro W0 e0
  have hZ : Blk W0 w.heap.size 25 zeroSite := by rw [e0]; exact hZ0
  have hbW : Below w.heap.size w W0 := by rw [e0]; exact hb0
  clear e0 hZ0 hb0
  refine (SplitWords_any s W0 hs (HT.out.below hbW).maxl).mono ?_
  rintro e w1 ⟨v, rfl, hO, hb1⟩
  replace hZ := hZ.keep hb1
  replace hbW := below_step hbW hb1
  clear hb1
  generalize wordsL s.data.toList = ws at *
  obtain ⟨A, c, rfl, hA, hc1, hc2, hc3, hc4⟩ := hO.form
  have hN : (ws.map tx).length = ws.length := List.length_map ..
  by_cases h5 : ws.length = 3
  · rw [hN, h5] at hc1 ⊢
    have hA0 : ∃ g, A = some ⟨g, 0, none⟩ := by
      rcases hc4 with rfl | h
      · have := (hc3 rfl).2; rw [hN, h5] at this; omega
      · exact h
    obtain ⟨g, rfl⟩ := hA0
    obtain ⟨p0, p1, p2, rfl⟩ := three_of h5
    have hR : Strs w1 (some ⟨g, 0, none⟩) [tx p0, tx p1, tx p2] := hA
    have hz1 : (tx p1).size ≤ 1048576 := by rw [tx_size]; exact HW.out p1 (by simp)
    have hz2 : (tx p2).size ≤ 1048576 := by rw [tx_size]; exact HW.out p2 (by simp)
    have C1 := Lib.hid (ReadAngle_any (tx p1) w1 hz1 (HT.out.below hbW))
    have C2 := Lib.hid (fun W hb => ReadAngle_any (tx p2) W hz2 (HT.out.below (w' := W) hb))
    rw [tx_data] at C1 C2
    have HI1 := Lib.hid (fun h => HI.out (ms_one (p0 := p0) (p1 := p1) (p2 := p2) h))
    have HI2 := Lib.hid (fun h => HI.out (ms_two (p0 := p0) (p1 := p1) (p2 := p2) h))
    have HI3 := Lib.hid (fun h h2 => ms_ok (p0 := p0) (p1 := p1) (p2 := p2) h h2)
    have i1 := angV_i64 p1
    have i2 := angV_i64 p2
    have hgl : g < w1.heap.size := World.block_lt_of_cell? w1 _ (row3 hR).1
    obtain ⟨r0, r1, r2⟩ := row3 hR
    clear hA hO hN h5 hc3 hc4 HW hz1 hz2
    go_wp2_with (fail)
    refine C1.out.mono ?_
    rintro e w2 ⟨rfl, hb2⟩
    replace hZ := hZ.keep hb2
    replace hbW := below_step hbW hb2
    replace hR := hR.below hb2
    have hgl2 : g < w2.heap.size := World.block_lt_of_cell? w2 _ (row3 hR).1
    clear r0 r1 r2
    obtain ⟨r0, r1, r2⟩ := row3 hR
    clear C1 hb2 hgl
    go_wp2_with (fail)
    refine (C2.out _ hbW).mono ?_
    rintro e w3 ⟨rfl, hb3⟩
    replace hZ := hZ.keep hb3
    replace hbW := below_step hbW hb3
    replace hR := hR.below hb3
    have hgl3 : g < w3.heap.size := World.block_lt_of_cell? w3 _ (row3 hR).1
    clear r0 r1 r2
    obtain ⟨r0, r1, r2⟩ := row3 hR
    clear C2 hb3 hgl2 hR
    generalize angV p1 = lo at *
    generalize angV p2 = la at *
    have hX0 : Blk (w3.alloc (.cells #[.string (tx p0), .int .i64 lo, .int .i64 la] 25)) w3.heap.size 25 [.string (tx p0), .int .i64 lo, .int .i64 la] := Blk.new _ _ _
    have hb4 : Below w3.heap.size w3 (w3.alloc (.cells #[.string (tx p0), .int .i64 lo, .int .i64 la] 25)) := below_alloc (Below.refl _ _) _
    have hZ4 := hZ.keep hb4
    cases hk1 : angB p1 with
    | false =>
      have HO := Lib.hid (HI1.out hk1)
      obtain ⟨⟨t0, t1, t2⟩, f0, f1, f2⟩ := hZ.zsite
      have hgz := hZ.lt
      clear hk1
      go_wp2_with (fail)
      obtain ⟨WF, hWF, hbF, z0, z1, z2⟩ := site_end hZ hbW (Nat.le_refl _) (.string ⟨#[]⟩) (.int .i64 0) (.int .i64 0)
      rw [← hWF]
      have hgF := World.block_lt_of_cell? WF _ z0
      dsimp only at hgF
      clear hWF hZ hZ4 hX0 hb4 t0 t1 t2 f0 f1 f2 r0 r1 r2
      refine bodyPost_ret (v := .tuple #[.agg #[.string ⟨#[]⟩, .int .i64 0, .int .i64 0], .bool false]) (by simp [results, Tryd.results12, go_sem, *]) rfl ⟨by rw [HO.out]; rfl, below_alloc hbF _⟩
    | true =>
      cases hk2 : angB p2 with
      | false =>
        have HO := Lib.hid (HI2.out hk2)
        obtain ⟨⟨t0, t1, t2⟩, f0, f1, f2⟩ := hZ.zsite
        have hgz := hZ.lt
        clear hk1 hk2
        go_wp2_with (fail)
        obtain ⟨WF, hWF, hbF, z0, z1, z2⟩ := site_end hZ hbW (Nat.le_refl _) (.string ⟨#[]⟩) (.int .i64 0) (.int .i64 0)
        rw [← hWF]
        have hgF := World.block_lt_of_cell? WF _ z0
        dsimp only at hgF
        clear hWF hZ hZ4 hX0 hb4 t0 t1 t2 f0 f1 f2 r0 r1 r2
        refine bodyPost_ret (v := .tuple #[.agg #[.string ⟨#[]⟩, .int .i64 0, .int .i64 0], .bool false]) (by simp [results, Tryd.results12, go_sem, *]) rfl ⟨by rw [HO.out]; rfl, below_alloc hbF _⟩
      | true =>
        have HM := Lib.hid (HI3.out hk1 hk2)
        clear hk1 hk2
        go_wp2_with (fail)
        refine calls_named ?_
        intro W4 e4
        have hX : Blk W4 w3.heap.size 25 [.string (tx p0), .int .i64 lo, .int .i64 la] := by rw [e4]; exact hX0
        replace hZ : Blk W4 w.heap.size 25 zeroSite := by rw [e4]; exact hZ4
        replace hbW : Below w.heap.size w W4 := by rw [e4]; exact below_step hbW hb4
        clear e4 hX0 hb4 hZ4 r0 r1 r2
        have CV := Lib.hid (ValidSite_any (tx p0) lo la W4)
        have CT := Lib.hid (fun W hb => SiteText_any (tx p0) lo la W i1 i2 (HT.out.below (w' := W) hb).pow)
        rw [tx_data] at CV CT
        generalize w3.heap.size = q3 at *
        cases hv : vSite p0 lo la with
        | false =>
          have HO := Lib.hid (HI.out (HM.out.trans (if_neg (by rw [hv]; exact Bool.false_ne_true))))
          rw [hv] at CV
          clear hv CT
          refine CV.out.mono ?_
          rintro e w5 ⟨rfl, hb5⟩
          replace hZ := hZ.keep hb5
          replace hbW := below_step hbW hb5
          obtain ⟨⟨t0, t1, t2⟩, f0, f1, f2⟩ := hZ.zsite
          have hgz := hZ.lt
          clear hb5 hX
          go_wp2_with (fail)
          obtain ⟨WF, hWF, hbF, z0, z1, z2⟩ := site_end hZ hbW (Nat.le_refl _) (.string ⟨#[]⟩) (.int .i64 0) (.int .i64 0)
          rw [← hWF]
          clear hWF hZ t0 t1 t2 f0 f1 f2
          refine bodyPost_ret (v := .tuple #[.agg #[.string ⟨#[]⟩, .int .i64 0, .int .i64 0], .bool false]) (by simp [results, Tryd.results12, go_sem, *]) rfl ⟨by rw [HO.out]; rfl, hbF⟩
        | true =>
          have HMS := Lib.hid (HJ.out _ _ _ (HM.out.trans (if_pos hv)))
          rw [hv] at CV
          have HST : Hid (siteO p0 lo la = siteT p0 lo la) := Lib.hid (by rw [siteO, if_pos hv])
          clear hv
          refine CV.out.mono ?_
          rintro e w5 ⟨rfl, hb5⟩
          replace hZ := hZ.keep hb5
          replace hbW := below_step hbW hb5
          replace hX := hX.keep hb5
          have x0 : w5.cell? ⟨q3, 0, none⟩ = some (.string (tx p0)) := by rw [hX.cell]; rfl
          have x1 : w5.cell? ⟨q3, 1, none⟩ = some (.int .i64 lo) := by rw [hX.cell]; rfl
          have x2 : w5.cell? ⟨q3, 2, none⟩ = some (.int .i64 la) := by rw [hX.cell]; rfl
          have hgx := hX.lt
          clear hb5
          obtain ⟨T, hTx⟩ : ∃ T, T = tx (siteO p0 lo la) := ⟨_, rfl⟩
          rw [← hTx] at CT
          have HTX := Lib.hid hTx
          clear hTx
          go_wp2_with (fail)
          refine (CT.out _ hbW).mono ?_
          rintro e w6 ⟨rfl, hb6⟩
          replace hZ := hZ.keep hb6
          replace hbW := below_step hbW hb6
          replace hX := hX.keep hb6
          clear x0 x1 x2 hgx hb6 CT
          obtain ⟨⟨t0, t1, t2⟩, f0, f1, f2⟩ := hZ.zsite
          have hgz := hZ.lt
          by_cases he : siteT p0 lo la = s.data.toList
          · have hq := eqs_yes (a := T) (b := s) (by rw [HTX.out, HST.out]; exact tx_eq2 he)
            have hms := HMS.out
            rw [if_pos he] at hms
            have HO := Lib.hid hms
            have x0 : w6.cell? ⟨q3, 0, none⟩ = some (.string (tx p0)) := by rw [hX.cell]; rfl
            have x1 : w6.cell? ⟨q3, 1, none⟩ = some (.int .i64 lo) := by rw [hX.cell]; rfl
            have x2 : w6.cell? ⟨q3, 2, none⟩ = some (.int .i64 la) := by rw [hX.cell]; rfl
            have hgx := hX.lt
            clear hX hms he
            go_wp2_with (fail)
            obtain ⟨WF, hWF, hbF, z0, z1, z2⟩ := site_end hZ hbW (Nat.le_refl _) (.string (tx p0)) (.int .i64 lo) (.int .i64 la)
            rw [← hWF]
            clear hWF hZ t0 t1 t2 f0 f1 f2 x0 x1 x2
            refine bodyPost_ret (v := .tuple #[.agg #[.string (tx p0), .int .i64 lo, .int .i64 la], .bool true]) (by simp [results, Tryd.results12, go_sem, *]) rfl ⟨by rw [HO.out]; rfl, hbF⟩
          · have hq := eqs_no (a := T) (b := s) (by rw [HTX.out, HST.out]; exact tx_ne he)
            have hms := HMS.out
            rw [if_neg he] at hms
            have HO := Lib.hid hms
            clear hX hms he
            go_wp2_with (fail)
            obtain ⟨WF, hWF, hbF, z0, z1, z2⟩ := site_end hZ hbW (Nat.le_refl _) (.string ⟨#[]⟩) (.int .i64 0) (.int .i64 0)
            rw [← hWF]
            clear hWF hZ t0 t1 t2 f0 f1 f2
            refine bodyPost_ret (v := .tuple #[.agg #[.string ⟨#[]⟩, .int .i64 0, .int .i64 0], .bool false]) (by simp [results, Tryd.results12, go_sem, *]) rfl ⟨by rw [HO.out]; rfl, hbF⟩
  · have HO := Lib.hid (HI.out (ms_len h5))
    have h5' : ((ws.length : Int) != 3) = true := by rw [bne_iff_ne]; omega
    obtain ⟨⟨t0, t1, t2⟩, f0, f1, f2⟩ := hZ.zsite
    have hgz := hZ.lt
    rw [hN]
    clear hA hO hN hc3 hc4 hc1
    go_wp2_with (fail)
    obtain ⟨WF, hWF, hbF, z0, z1, z2⟩ := site_end hZ hbW (Nat.le_refl _) (.string ⟨#[]⟩) (.int .i64 0) (.int .i64 0)
    rw [← hWF]
    clear hWF hZ t0 t1 t2 f0 f1 f2
    refine bodyPost_ret (v := .tuple #[.agg #[.string ⟨#[]⟩, .int .i64 0, .int .i64 0], .bool false]) (by simp [results, Tryd.results12, go_sem, *]) rfl ⟨by rw [HO.out]; rfl, hbF⟩
end Go.Proofs.YtpnfhienffekoaaDoor
