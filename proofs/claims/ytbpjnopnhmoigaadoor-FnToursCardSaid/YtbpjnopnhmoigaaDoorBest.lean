/- Contracts of the functions on the shortest tour: the program's. -/
import Derived.Test.YtbpjnopnhmoigaaDoorPlainBest
import Derived.Test.YtbpjnopnhmoigaaDoorPlace
import Derived.Test.YtbpjnopnhmoigaaDoorPartsS
import Derived.BigRegion
import Derived.Deep.DeepCutAuto
namespace Go.Proofs.YtbpjnopnhmoigaaDoor
set_option linter.unusedVariables false
set_option linter.unusedSimpArgs false
open Go.RowKit
attribute [local go_sem ↓] Go.wp_at_zero Go.wp_at_succ
def tourCells (A : Option Addr) (n c : Nat) (vo vb : Value) (s : Srch) : List Value := [.slice A n c, vo, vb, .int .i64 s.least, .int .i64 s.left]
theorem own_set {w : World} {base g : Nat} {v : Value} {l : List Int} (h : OwnI w base v l) (i : Nat) (u : Value) (hne : ∀ q, v.ownBlock = some q → q ≠ g) : OwnI (w.setCell ⟨g, i, none⟩ u) base v l :=
  h.only (only_set (World.grownBy.refl w (some g)) i u) (fun q hq e => hne q hq (by injection e with e; exact e.symm))
/-- a search in memory -/
structure TourSt (w : World) (base g : Nat) (A : Option Addr) (n c : Nat) (vo : Value) (ord : List Int) (vb : Value) (s : Srch) : Prop where
  blk : Blk w g 92 (tourCells A n c vo vb s)
  bg : base ≤ g
  ord : OwnI w base vo ord
  best : OwnI w base vb s.best
  sep : ∀ q, vo.ownBlock = some q → vb.ownBlock = some q → False
  og : ∀ q, vo.ownBlock = some q → q ≠ g
  vg : ∀ q, vb.ownBlock = some q → q ≠ g
section
variable {w w' : World} {base g n c : Nat} {A : Option Addr} {vo vb : Value} {ord : List Int} {s : Srch}
theorem TourSt.keep (h : TourSt w base g A n c vo ord vb s) (hb : Below w.heap.size w w') : TourSt w' base g A n c vo ord vb s :=
  ⟨h.blk.keep hb, h.bg, h.ord.below hb, h.best.below hb, h.sep, h.og, h.vg⟩
theorem TourSt.left_ (h : TourSt w base g A n c vo ord vb s) (x : Int) : TourSt (w.setCell ⟨g, 4, none⟩ (.int .i64 x)) base g A n c vo ord vb ⟨s.best, s.least, x⟩ :=
  ⟨h.blk.set_ 4 _, h.bg, own_set h.ord _ _ h.og, own_set h.best _ _ h.vg, h.sep, h.og, h.vg⟩
theorem TourSt.app {k : Int} {v' : Value} (h : TourSt w base g A n c vo ord vb s) (hO : OwnI w' base v' (ord ++ [k])) (hg : w.grownBy w' vo.ownBlock) (hl : v'.ownBlock = vo.ownBlock ∨ v'.ownBlock = some w.heap.size) :
    TourSt (w'.setCell ⟨g, 1, none⟩ v') base g A n c v' (ord ++ [k]) vb s := by
  have hv : ∀ q, v'.ownBlock = some q → q ≠ g := fun q hq => by
    rcases hl with e | e
    · exact h.og q (e ▸ hq)
    · have := h.blk.lt
      rw [e] at hq; injection hq with hq; omega
  refine ⟨(h.blk.grownP hg (fun q hq => (h.og q hq).symm)).set_ 1 _, h.bg, own_set hO _ _ hv, own_set (h.best.only hg (fun q h1 h2 => h.sep q h2 h1)) _ _ h.vg, fun q h1 h2 => ?_, hv, h.vg⟩
  rcases hl with e | e
  · exact h.sep q (e ▸ h1) h2
  · have := (h.best.lt q h2).2
    rw [e] at h1; injection h1 with h1; omega
theorem TourSt.short {k : Int} {q m cap : Nat} (h : TourSt w base g A n c (.slice (some ⟨q, 0, none⟩) (m + 1) cap) (ord ++ [k]) vb s) (hm : ord.length = m) :
    TourSt (w.setCell ⟨g, 1, none⟩ (.slice (some ⟨q, 0, none⟩) m cap)) base g A n c (.slice (some ⟨q, 0, none⟩) m cap) ord vb s :=
  ⟨h.blk.set_ 1 _, h.bg, own_set (h.ord.short hm) _ _ h.og, own_set h.best _ _ h.vg, h.sep, h.og, h.vg⟩
theorem TourSt.found {len : Int} {v' : Value} (h : TourSt w base g A n c vo ord vb s) (hO : OwnI w' w.heap.size v' ord) (hb : Below w.heap.size w w') :
    TourSt ((w'.setCell ⟨g, 2, none⟩ v').setCell ⟨g, 3, none⟩ (.int .i64 len)) base g A n c vo ord v' ⟨ord, len, s.left⟩ := by
  have hlt := h.blk.lt
  have hv : ∀ q, v'.ownBlock = some q → q ≠ g := fun q hq => by have := (hO.lt q hq).1; omega
  refine ⟨((h.blk.keep hb).set_ 2 _).set_ 3 _, h.bg, own_set (own_set (h.ord.below hb) _ _ h.og) _ _ h.og, own_set (own_set (hO.base_le (Nat.le_trans h.bg (Nat.le_of_lt hlt))) _ _ hv) _ _ hv, fun q h1 h2 => ?_, h.og, hv⟩
  have := (hO.lt q h2).1
  have := (h.ord.lt q h1).2
  omega
theorem TourSt.cells (h : TourSt w base g A n c vo ord vb s) : w.cell? ⟨g, 0, none⟩ = some (.slice A n c) ∧ w.cell? ⟨g, 1, none⟩ = some vo ∧ w.cell? ⟨g, 2, none⟩ = some vb ∧ w.cell? ⟨g, 3, none⟩ = some (.int .i64 s.least) ∧ w.cell? ⟨g, 4, none⟩ = some (.int .i64 s.left) ∧ w.frozen? ⟨g, 1, none⟩ = false ∧ w.frozen? ⟨g, 2, none⟩ = false ∧ w.frozen? ⟨g, 3, none⟩ = false ∧ w.frozen? ⟨g, 4, none⟩ = false ∧ g < w.heap.size :=
  ⟨by rw [h.blk.cell]; rfl, by rw [h.blk.cell]; rfl, by rw [h.blk.cell]; rfl, by rw [h.blk.cell]; rfl, by rw [h.blk.cell]; rfl, h.blk.frozen _, h.blk.frozen _, h.blk.frozen _, h.blk.frozen _, h.blk.lt⟩
end
theorem tour_start (w : World) (base : Nat) (A : Option Addr) (n c : Nat) (s b : Int) (hb : base ≤ w.heap.size) :
    TourSt ((w.alloc (.cells #[.int .i64 s] 2)).alloc (.cells #[.slice A n c, .slice (some ⟨w.heap.size, 0, none⟩) 1 1, .slice none 0 0, .int .i64 (-1), .int .i64 b] 92)) base (w.heap.size + 1) A n c (.slice (some ⟨w.heap.size, 0, none⟩) 1 1) [s] (.slice none 0 0) ⟨[], -1, b⟩ := by
  have hB := Blk.new (w.alloc (.cells #[.int .i64 s] 2)) 92 (tourCells A n c (.slice (some ⟨w.heap.size, 0, none⟩) 1 1) (.slice none 0 0) ⟨[], -1, b⟩)
  have hO := (OwnI.one w base s hb).alloc (.cells #[.slice A n c, .slice (some ⟨w.heap.size, 0, none⟩) 1 1, .slice none 0 0, .int .i64 (-1), .int .i64 b] 92)
  refine ⟨by simpa [tourCells] using hB, by omega, hO, OwnI.nil _ _, fun q h1 h2 => by simp [Value.ownBlock] at h2, fun q hq => ?_, fun q hq => by simp [Value.ownBlock] at hq⟩
  simp only [Value.ownBlock, Option.some.injEq] at hq
  omega
set_option maxRecDepth 100000 in
set_option maxHeartbeats 8000000 in
theorem extend_zero (g : Nat) (A : Option Addr) (n c : Nat) (l : List Sta) (W0 : World) (hl : l.length = n) (hn : n ≤ 24) (ord : List Int) (len : Int) (s : Srch) (vo vb : Value) (w : World)
    (hT : TourSt w W0.heap.size g A n c vo ord vb s) (hb : Below W0.heap.size W0 w) (hpos : 0 < ord.length) (hlen : ord.length = n) :
    Calls Tryd.prog 60 #[.pointer (some ⟨g, 0, none⟩), .int .i64 len] w fun e w' => e = .returned (.bool true) ∧ Below W0.heap.size W0 w' ∧ ∃ vo' vb', TourSt w' W0.heap.size g A n c vo' ord vb' ⟨ord, len, s.left⟩ := by
  obtain ⟨og, oc, rfl, ho1, ho2, ho3, ho4, hI⟩ := hT.ord.form3 hpos
  rw [hlen] at ho3
  have HLEN := Lib.hid hlen
  have hTk : TourSt w W0.heap.size g A n c (.slice (some ⟨og, 0, none⟩) n oc) ord vb s := by rw [hlen] at hT; exact hT
  clear hT
  clear hlen
  obtain ⟨k0, k1, k2, k3, k4, f1, f2, f3, f4, hlt⟩ := hTk.cells
  go_enter Tryd.func60, Tryd.ntmps60
  go_wp2_with (fail)
  (refine later_intro_wp ?_; intro y)
  (refine wp_region_later (by kernel_rfl) (by kernel_rfl) ?_; (repeat (first | go_big_quiet_step ((fail)) | quiet_step ((fail)))); refine wpQuiet_nil ?_; rintro _ ⟨y, rfl⟩)
  have hTy := hTk.keep y.below
  have hby := below_later hb y
  have hIy := hI.below y.below
  obtain ⟨y0, y1, y2, y3, y4, yf1, yf2, yf3, yf4, ylt⟩ := hTy.cells
  clear k0 k1 k2 k3 k4 f1 f2 f3 f4 hlt hTk hI
  generalize y.w = W1 at *
  go_wp2_with (refine (CloneI_any _ n oc ord _ HLEN.out (by omega) hIy (fun h => by cases h)).mono ?_; rintro e w2 ⟨v2, rfl, hO2, hb2⟩; obtain ⟨A2, c2, rfl, _, _, _, _, _⟩ := hO2.form2; obtain ⟨z0, z1, z2, z3, z4, zf1, zf2, zf3, zf4, zlt⟩ := (hTy.keep hb2).cells)
  go_ret
  have hgW : W0.heap.size ≤ g := hTy.bg
  exact ⟨rfl, below_setCell0 (below_setCell0 (below_step hby hb2) hgW _) hgW _, _, _, hTy.found hO2 hb2⟩
theorem wayB_at {l : List Sta} {ord : List Int} {m k a : Nat} {z x : Sta} (hm : ord.length = m + 1) (ha : ord[m]? = some (a : Int)) (hz : l[a]? = some z) (hx : l[k]? = some x) : wayB l ord k = farI z x := by
  rw [wayB, hm, Nat.add_sub_cancel, gt_at ha, Int.toNat_natCast, gapL_at hz hx]
set_option maxRecDepth 100000 in
set_option maxHeartbeats 8000000 in
theorem extend_any (g : Nat) (A : Option Addr) (n c : Nat) (l : List Sta) (W0 : World) (hSin : SinOk W0) (hl : l.length = n) (hn : n ≤ 24) (hS : Stars W0 A l) (hv : vStars l = true) :
    ∀ (d : Nat) (ord : List Int) (len : Int) (s : Srch) (vo vb : Value) (w : World), TourSt w W0.heap.size g A n c vo ord vb s → Below W0.heap.size W0 w → 0 < ord.length → ord.length + d = n → (∀ (j : Nat) i, ord[j]? = some i → 0 ≤ i ∧ i < n) → 0 ≤ len → len + 360000 * d ≤ 360000000 → SrchOk 20000 s →
    Calls Tryd.prog 60 #[.pointer (some ⟨g, 0, none⟩), .int .i64 len] w fun e w' => e = .returned (.bool (extB l d ord len s).isSome) ∧ Below W0.heap.size W0 w' ∧ ∀ s', extB l d ord len s = some s' → ∃ vo' vb', TourSt w' W0.heap.size g A n c vo' ord vb' s' := by
  intro d
  induction d with
  | zero =>
    intro ord len s vo vb w hT hb hpos hlen hord h0 h1 hs
    refine (extend_zero g A n c l W0 hl hn ord len s vo vb w hT hb hpos (by omega)).mono ?_
    rintro e w' ⟨rfl, h1, vo', vb', h2⟩
    refine ⟨rfl, h1, fun s' h => ?_⟩
    simp only [extB, Option.some.injEq] at h
    subst h
    exact ⟨vo', vb', h2⟩
  | succ d ih =>
    intro ord len s vo vb w hT hb hpos hlen hord h0 h1 hs
    have IH := Lib.hid ih
    have HL := Lib.hid hl
    have HORD := Lib.hid hord
    have HVS := Lib.hid hv
    have HEX : Hid (extB l (d + 1) ord len s = loopB l (extB l d) ord len s n) := Lib.hid (by rw [← hl]; rfl)
    have HOKK : Hid (∀ (m : Nat) (t : Srch), loopB l (extB l d) ord len s (m + 1) = some t → ∀ u, loopB l (extB l d) ord len s m = some u → SrchOk 20000 u → SrchOk 20000 t) := Lib.hid (fun m t ht u hu hok => by
      rw [loopB_succ hu] at ht
      have hw := wayB_bd l ord m
      unfold tryB at ht
      split at ht
      · cases ht; exact hok
      · split at ht
        · cases ht; exact hok
        · split at ht
          · cases ht
          · next hl =>
            refine extB_ok l d _ _ _ t 20000 ht (by omega) (by omega) ?_
            unfold SrchOk at *
            dsimp only at *
            omega)
    clear ih hl hord hv
    have hne : ¬ (ord.length : Int) = (n : Int) := by omega
    obtain ⟨m, hm⟩ : ∃ m, ord.length = m + 1 := ⟨ord.length - 1, by omega⟩
    have HM := Lib.hid hm
    obtain ⟨og, oc, rfl, ho1, ho2, ho3, ho4, hI⟩ := hT.ord.form3 hpos
    rw [hm] at hT ho3 hlen hne
    clear hm hpos
    have hneB : (((m : Int) + 1) == (n : Int)) = false := by simpa using hne
    obtain ⟨k0, k1, k2, k3, k4, f1, f2, f3, f4, hlt⟩ := hT.cells
    go_enter Tryd.func60, Tryd.ntmps60
    go_wp2_with (fail)
    (refine later_intro_wp ?_; intro y)
    (refine wp_region_later (by kernel_rfl) (by kernel_rfl) ?_; (repeat (first | go_big_quiet_step ((fail)) | quiet_step ((fail)))); refine wpQuiet_nil ?_; rintro _ ⟨y, rfl⟩)
    have hTy := hT.keep y.below
    have hby := below_later hb y
    obtain ⟨y0, y1, y2, y3, y4, yf1, yf2, yf3, yf4, ylt⟩ := hTy.cells
    clear k0 k1 k2 k3 k4 f1 f2 f3 f4 hlt hT hI
    generalize y.w = W1 at *
    clear hb y
    go_wp2_with (fail)
    go_loopw [5, 6, 35] (fun _ _ s35 wr => ∃ (k : Nat) (st : Srch) (vo vb : Value), k ≤ n ∧ s35 = .int .i64 (k : Int) ∧ loopB l (extB l d) ord len s k = some st ∧ SrchOk 20000 st ∧ TourSt wr W0.heap.size g A n c vo ord vb st ∧ Below W0.heap.size W0 wr) (fun _ _ s35 _ => n - (intOf s35).toNat)
    case atStart => exact ⟨0, s, _, _, by omega, rfl, rfl, hs, hTy, hby⟩
    case round =>
      clear y0 y1 y2 y3 y4 yf1 yf2 yf3 yf4 ylt hTy hby ho1 ho2 ho3 ho4 hs
      obtain ⟨k, st, vo, vb, hk, rfl, hlo, hok, hT, hb⟩ := hrel
      have HLO := Lib.hid hlo
      clear hlo
      have hgW : W0.heap.size ≤ g := hT.bg
      by_cases hlt : k < n
      · obtain ⟨x, hx⟩ := at_lt (l := l) (k := k) (by have := HL.out; omega)
        obtain ⟨e0, he0⟩ := at_lt (l := ord) (k := m) (by have := HM.out; omega)
        obtain ⟨g0, g1⟩ := HORD.out m e0 he0
        obtain ⟨a, rfl⟩ : ∃ j : Nat, e0 = j := ⟨e0.toNat, by omega⟩
        obtain ⟨z, hz⟩ := at_lt (l := l) (k := a) (by have := HL.out; omega)
        have az := ok_ang (vStars_ok HVS.out hz)
        have ax := ok_ang (vStars_ok HVS.out hx)
        have HW := Lib.hid (wayB_at HM.out he0 hz hx)
        obtain ⟨wb0, wb1⟩ := wayB_bd l ord k
        obtain ⟨og, oc, rfl, ho1, ho2, ho3, ho4, hI⟩ := hT.ord.form3 (by have := HM.out; omega)
        rw [HM.out] at hT ho3
        have CC : Hid (∀ W, Ints W (some ⟨og, 0, none⟩) ord → Calls Tryd.prog 96 #[.slice (some ⟨og, 0, none⟩) (m + 1) oc, .int .i64 (k : Int)] W fun e w' => e = .returned (.bool (hasI ord (k : Int))) ∧ W = w') := Lib.hid (fun W hW => containsI_same (some ⟨og, 0, none⟩) (m + 1) oc ord k W HM.out (by omega) hW)
        have HI := Lib.hid hI
        obtain ⟨k0, k1, k2, k3, k4, f1, f2, f3, f4, glt⟩ := hT.cells
        have HHO : Hid (OwnI wr W0.heap.size (.slice (some ⟨og, 0, none⟩) (m + 1) oc) ord) := Lib.hid hT.ord
        cases hh : hasI ord (k : Int) with
        | true =>
          have HY : Hid (loopB l (extB l d) ord len s (k + 1) = some st) := Lib.hid ((loopB_succ HLO.out).trans (try_has hh))
          rw [hh] at CC
          clear hx hz hh HW he0
          go_wp2_with (refine (CC.out _ HI.out).mono ?_; rintro e w4 ⟨rfl, rfl⟩)
          go_roundw
          case rel => exact ⟨k + 1, st, _, _, by omega, by go_num, HY.out, hok, hT, hb⟩
          case measure => simp [intOf]; omega
        | false =>
          have hSr := hSin.of_below hb
          have hSt := hS.below hb
          have CG : Hid (∀ W : Later wr, Calls Tryd.prog 67 #[.slice A n c, .int .i64 (a : Int), .int .i64 (k : Int)] W.w fun e w' => e = .returned (.int .i64 (wayB l ord k)) ∧ Below W.w.heap.size W.w w') := Lib.hid (fun W => by
            have := starGap_any A n c l a k z x W.w (hSr.later W) HL.out (by omega) (hSt.later W) hz hx az ax
            rw [HW.out]; exact this)
          have HFAR : Hid (0 ≤ st.least → st.least ≤ len + wayB l ord k → loopB l (extB l d) ord len s (k + 1) = some st) := Lib.hid (fun h1 h2 => (loopB_succ HLO.out).trans (try_far hh h1 h2))
          have HFULL : Hid ((st.least < 0 ∨ len + wayB l ord k < st.least) → st.left = 0 → loopB l (extB l d) ord len s (k + 1) = none) := Lib.hid (fun h1 h2 => (loopB_succ HLO.out).trans (try_full hh h1 h2))
          have HGO : Hid ((st.least < 0 ∨ len + wayB l ord k < st.least) → st.left ≠ 0 → loopB l (extB l d) ord len s (k + 1) = extB l d (ord ++ [(k : Int)]) (len + wayB l ord k) ⟨st.best, st.least, st.left - 1⟩) := Lib.hid (fun h1 h2 => (loopB_succ HLO.out).trans (try_go hh h1 h2))
          rw [hh] at CC
          have hIc := HI.out
          obtain ⟨ob, oo, oe, hci⟩ := hIc (by have := HM.out; omega)
          injection oe with oe
          injection oe with oe1 oe2
          subst oe1 oe2
          have q0 := hci m _ he0
          rw [Nat.zero_add] at q0
          clear hx hz hh HW he0 hci hIc az ax
          generalize wayB l ord k = way at *
          have hqlt := World.block_lt_of_cell? wr _ q0
          dsimp only at hqlt
          obtain ⟨s1, s2, s3, s4⟩ := hok
          go_wp2_with (refine (CC.out _ HI.out).mono ?_; rintro e w4 ⟨rfl, rfl⟩)
          (refine later_intro_wp ?_; intro y)
          (refine wp_region_later (by kernel_rfl) (by kernel_rfl) ?_; (repeat (first | go_big_quiet_step ((go_at_call 67; exact later_below (CG.out _))) | quiet_step ((go_at_call 67; exact later_below (CG.out _))))); refine wpQuiet_nil ?_; rintro _ ⟨y, rfl⟩)
          have hTy := hT.keep y.below
          have hby := below_later hb y
          clear k0 k1 k2 k3 k4 f1 f2 f3 f4 glt q0 hqlt CG CC hT hSr hSt HI HHO
          obtain ⟨k0, k1, k2, k3, k4, f1, f2, f3, f4, glt⟩ := hTy.cells
          generalize y.w = W1 at *
          clear hb y
          by_cases hfar : 0 ≤ st.least ∧ st.least ≤ len + way
          · have HY := Lib.hid (HFAR.out hfar.1 hfar.2)
            obtain ⟨u1, u2⟩ := hfar
            clear HFAR HFULL HGO IH
            go_wp2_with (fail)
            go_roundw
            case rel => exact ⟨k + 1, st, _, _, by omega, by go_num, HY.out, ⟨s1, s2, s3, s4⟩, hTy, hby⟩
            case measure => simp [intOf]; omega
          · have hor : st.least < 0 ∨ len + way < st.least := by omega
            by_cases hz : st.left = 0
            · have HY := Lib.hid (HFULL.out hor hz)
              have HNO : Hid (extB l (d + 1) ord len s = none) := Lib.hid (HEX.out.trans (loopB_none HY.out n (by omega)))
              clear HFAR HFULL HGO IH HY hfar
              have hord2 : (0 ≤ st.least ∧ len + way < st.least) ∨ st.least < 0 := by omega
              clear hor
              rcases hord2 with ⟨u1, u2⟩ | u1
              all_goals
                go_wp2_with (fail)
                go_ret
                exact ⟨by rw [HNO.out]; rfl, hby, fun s' h => by rw [HNO.out] at h; cases h⟩
            · have HY := Lib.hid (HGO.out hor hz)
              have hTl := hTy.left_ (st.left - 1)
              have hbl : Below W0.heap.size W0 (W1.setCell ⟨g, 4, none⟩ (.int .i64 (st.left - 1))) := below_setCell0 hby hgW _
              have CE : Hid (∀ (v : Value) (W : World), TourSt W W0.heap.size g A n c v (ord ++ [(k : Int)]) vb ⟨st.best, st.least, st.left - 1⟩ → Below W0.heap.size W0 W → Calls Tryd.prog 60 #[.pointer (some ⟨g, 0, none⟩), .int .i64 (len + way)] W fun e w' => e = .returned (.bool (loopB l (extB l d) ord len s (k + 1)).isSome) ∧ Below W0.heap.size W0 w' ∧ ∀ s', loopB l (extB l d) ord len s (k + 1) = some s' → ∃ vo' vb', TourSt w' W0.heap.size g A n c vo' (ord ++ [(k : Int)]) vb' s') := Lib.hid (fun v W h1 h2 => by
                rw [HY.out]
                refine IH.out _ _ _ v vb W h1 h2 (by simp) (by rw [List.length_append, List.length_singleton, HM.out]; omega) (fun j i hj => ?_) (by omega) (by omega) ⟨s1, s2, by dsimp only; omega, by dsimp only; omega⟩
                by_cases hjl : j < ord.length
                · rw [List.getElem?_append_left hjl] at hj; exact HORD.out j i hj
                · rw [List.getElem?_append_right (by omega)] at hj
                  have hj0 : j - ord.length = 0 := by
                    by_cases e : j - ord.length = 0
                    · exact e
                    · rw [List.getElem?_eq_none (by simp; omega)] at hj; cases hj
                  rw [hj0] at hj
                  simp only [List.getElem?_cons_zero, Option.some.injEq] at hj
                  omega)
              have HOKS : Hid (∀ t, loopB l (extB l d) ord len s (k + 1) = some t → SrchOk 20000 t) := Lib.hid (fun t ht => HOKK.out k t ht st HLO.out ⟨s1, s2, s3, s4⟩)
              have HEXN : Hid (loopB l (extB l d) ord len s (k + 1) = none → extB l (d + 1) ord len s = none) := Lib.hid (fun h => HEX.out.trans (loopB_none h n (by omega)))
              clear HFAR HFULL HGO IH HY hfar HOKK
              have hord2 : (0 ≤ st.least ∧ len + way < st.least) ∨ st.least < 0 := by omega
              clear hor
              cases hN : loopB l (extB l d) ord len s (k + 1) with
              | none =>
                rw [hN, Option.isSome_none] at CE
                have HNO := Lib.hid (HEXN.out hN)
                clear hN HEXN HOKS
                rcases hord2 with ⟨u1, u2⟩ | u1
                all_goals
                  go_upto_region 13 with (fail)
                  refine wp_named ?_
                  intro W4 e4
                  have hT4 : TourSt W4 W0.heap.size g A n c (.slice (some ⟨og, 0, none⟩) (m + 1) oc) ord vb ⟨st.best, st.least, st.left - 1⟩ := by rw [e4]; exact hTl
                  have hb4 : Below W0.heap.size W0 W4 := by rw [e4]; exact hbl
                  clear e4 hTl hbl k0 k1 k2 k3 k4 f1 f2 f3 f4 glt hTy hby
                  obtain ⟨k0, k1, k2, k3, k4, f1, f2, f3, f4, glt⟩ := hT4.cells
                  have hba : Below W4.heap.size W4 (W4.alloc (.cells #[.int .i64 (k : Int)] 2)) := below_alloc (Below.refl _ _) _
                  have HLN : Hid (ord.length ≤ 1099511627776) := Lib.hid (by have := HM.out; omega)
                  have hsz := hb4.size
                  go_wp2_with (first
                    | (at_builtin; refine wpList_app_int2 rfl (.tmp 93) (.tmp 95) rfl W0.heap.size (.slice (some ⟨og, 0, none⟩) (m + 1) oc) ord (k : Int) W4.heap.size 1 rfl rfl (hT4.ord.alloc _) (by simp) HLN.out (by simp; omega) ?_; intro v5 w5 hO5 hg5 hl5
                       have hT5 := (hT4.keep hba).app hO5 hg5 hl5
                       have hb5 : Below W0.heap.size W0 (w5.setCell ⟨g, 1, none⟩ v5) := below_setCell0 (below_of_grown (below_step hb4 hba) hg5 (below_step hb4 hba).size (fun q hq => (hT4.ord.lt q hq).1)) hgW _
                       have hB5 : Blk w5 g 92 _ := (hT4.keep hba).blk.grownP hg5 (fun q hq => (hT4.og q hq).symm)
                       have j1 := hB5.cell 1
                       have j2 := hB5.frozen 1
                       have j3 := hB5.lt
                       obtain ⟨qg, qc, rfl, _, _, _, _, _⟩ := hO5.form3 (by simp)
                       simp only [List.length_append, List.length_singleton, HM.out] at hT5 hb5 j1 j2 j3 hO5 hl5 hg5 ⊢)
                    | (go_at_call 60; refine (CE.out _ _ hT5 hb5).mono ?_; rintro e w6 ⟨rfl, hb6, _⟩))
                  go_ret
                  exact ⟨by rw [HNO.out]; rfl, hb6, fun s' h => by rw [HNO.out] at h; cases h⟩
              | some t =>
                rw [hN, Option.isSome_some] at CE
                have HN := Lib.hid hN
                have HOKT := Lib.hid (HOKS.out t hN)
                clear hN HEXN HOKS
                rcases hord2 with ⟨u1, u2⟩ | u1
                all_goals
                  go_upto_region 13 with (fail)
                  refine wp_named ?_
                  intro W4 e4
                  have hT4 : TourSt W4 W0.heap.size g A n c (.slice (some ⟨og, 0, none⟩) (m + 1) oc) ord vb ⟨st.best, st.least, st.left - 1⟩ := by rw [e4]; exact hTl
                  have hb4 : Below W0.heap.size W0 W4 := by rw [e4]; exact hbl
                  clear e4 hTl hbl k0 k1 k2 k3 k4 f1 f2 f3 f4 glt hTy hby
                  obtain ⟨k0, k1, k2, k3, k4, f1, f2, f3, f4, glt⟩ := hT4.cells
                  have hba : Below W4.heap.size W4 (W4.alloc (.cells #[.int .i64 (k : Int)] 2)) := below_alloc (Below.refl _ _) _
                  have HLN : Hid (ord.length ≤ 1099511627776) := Lib.hid (by have := HM.out; omega)
                  have hsz := hb4.size
                  go_wp2_with (first
                    | (at_builtin; refine wpList_app_int2 rfl (.tmp 93) (.tmp 95) rfl W0.heap.size (.slice (some ⟨og, 0, none⟩) (m + 1) oc) ord (k : Int) W4.heap.size 1 rfl rfl (hT4.ord.alloc _) (by simp) HLN.out (by simp; omega) ?_; intro v5 w5 hO5 hg5 hl5
                       have hT5 := (hT4.keep hba).app hO5 hg5 hl5
                       have hb5 : Below W0.heap.size W0 (w5.setCell ⟨g, 1, none⟩ v5) := below_setCell0 (below_of_grown (below_step hb4 hba) hg5 (below_step hb4 hba).size (fun q hq => (hT4.ord.lt q hq).1)) hgW _
                       have hB5 : Blk w5 g 92 _ := (hT4.keep hba).blk.grownP hg5 (fun q hq => (hT4.og q hq).symm)
                       have j1 := hB5.cell 1
                       have j2 := hB5.frozen 1
                       have j3 := hB5.lt
                       obtain ⟨qg, qc, rfl, _, _, _, _, _⟩ := hO5.form3 (by simp)
                       simp only [List.length_append, List.length_singleton, HM.out] at hT5 hb5 j1 j2 j3 hO5 hl5 hg5 ⊢)
                    | (go_at_call 60; refine (CE.out _ _ hT5 hb5).mono ?_; rintro e w6 ⟨rfl, hb6, hS6⟩))
                  obtain ⟨vo6, vb6, hT6⟩ := hS6 t rfl
                  obtain ⟨qg6, qc6, rfl, _, _, hc6, hc7, _⟩ := hT6.ord.form3 (by simp)
                  simp only [List.length_append, List.length_singleton, HM.out] at hT6 hc6
                  clear hS6 hT5 hb5 hO5 hl5 hg5 k0 k1 k2 k3 k4 f1 f2 f3 f4 glt hT4 hb4 hba hB5 j1 j2 j3
                  have hT7 := hT6.short HM.out
                  obtain ⟨k0, k1, k2, k3, k4, f1, f2, f3, f4, glt⟩ := hT6.cells
                  go_region
                  all_goals
                    go_wp2_with (fail)
                    go_roundw
                    case rel => exact ⟨k + 1, t, _, _, by omega, by go_num, HN.out, HOKT.out, hT7.keep (below_drew0 (Below.refl _ _)), below_drew0 (below_setCell0 hb6 hgW _)⟩
                    case measure => simp [intOf]; omega
      · obtain rfl : k = n := by omega
        go_wp2_with (fail)
        go_ret
        exact ⟨by rw [HEX.out, HLO.out]; rfl, hb, fun s' h => by rw [HEX.out, HLO.out] at h; cases h; exact ⟨_, _, hT⟩⟩
theorem SrchOk.start {b : Int} (h : inB b 1 20000 = true) : SrchOk 20000 ⟨[], -1, b⟩ := by
  rw [inB_iff] at h
  exact ⟨by dsimp only; omega, by dsimp only; omega, by dsimp only; omega, by dsimp only; omega⟩
set_option maxRecDepth 100000 in
set_option maxHeartbeats 8000000 in
theorem BestTour_any (A : Option Addr) (n c : Nat) (l : List Sta) (s b : Int) (w : World) (hS : SinOk w) (hl : l.length = n) (hn : n ≤ 9223372036854775807) (hA : Stars w A l) :
    Calls Tryd.prog 14 #[.slice A n c, .int .i64 s, .int .i64 b] w fun e w' => ∃ v : Value, e = .returned (.tuple #[v, .int .i64 (bestO l s b).2.1, .int .i64 (bestO l s b).2.2]) ∧ OwnI w' w.heap.size v (bestO l s b).1 ∧ Below w.heap.size w w' := by
  have HL := Lib.hid hl; clear hl
  have V : Hid (∀ W (A : Option Addr), Stars W A l → Calls Tryd.prog 58 #[.slice A n c] W fun e w' => e = .returned (.bool (vStars l)) ∧ Below W.heap.size W w') := fun W A hW => ValidStars_any A n c l W HL.out hn hW
  cases hv : vStars l with
  | false =>
    have HO := Lib.hid (bestO_no (s := s) (b := b) hv)
    rw [hv] at V
    clear hv
    go_enter Tryd.func14, Tryd.ntmps14
    go_wp2_with (refine (V.out _ _ hA).mono ?_; rintro e w1 ⟨rfl, hb1⟩)
    go_ret3
    exact ⟨.slice none 0 0, by rw [HO.out]; rfl, by rw [HO.out]; exact OwnI.nil _ _, hb1⟩
  | true =>
    have h24 : n ≤ 24 := by have := vStars_len hv; have := HL.out; omega
    rw [hv] at V
    cases hr : inB s 0 ((n : Int) - 1) with
    | false =>
      have HO := Lib.hid (bestO_bad (b := b) hv (.inl (by rw [HL.out]; exact hr)))
      have R : Hid (∀ W, Calls Tryd.prog 59 #[.int .i64 s, .int .i64 0, .int .i64 ((n : Int) - 1)] W fun e w' => e = .returned (.bool false) ∧ W = w') := Lib.hid (fun W => by rw [← hr]; exact within_any _ _ _ _)
      clear hv hr
      go_enter Tryd.func14, Tryd.ntmps14
      go_wp2_with (first | (go_at_call 58; refine (V.out _ _ hA).mono ?_; rintro e w1 ⟨rfl, hb1⟩) | (go_at_call 59; refine (R.out _).mono ?_; rintro e w' ⟨rfl, rfl⟩))
      go_ret3
      exact ⟨.slice none 0 0, by rw [HO.out]; rfl, by rw [HO.out]; exact OwnI.nil _ _, hb1⟩
    | true =>
      cases hb : inB b 1 20000 with
      | false =>
        have HO := Lib.hid (bestO_bad (s := s) hv (.inr hb))
        have R : Hid (∀ W, Calls Tryd.prog 59 #[.int .i64 s, .int .i64 0, .int .i64 ((n : Int) - 1)] W fun e w' => e = .returned (.bool true) ∧ W = w') := Lib.hid (fun W => by rw [← hr]; exact within_any _ _ _ _)
        have R2 : Hid (∀ W, Calls Tryd.prog 59 #[.int .i64 b, .int .i64 1, .int .i64 20000] W fun e w' => e = .returned (.bool false) ∧ W = w') := Lib.hid (fun W => by rw [← hb]; exact within_any _ _ _ _)
        clear hv hr hb
        go_enter Tryd.func14, Tryd.ntmps14
        go_wp2_with (first | (go_at_call 58; refine (V.out _ _ hA).mono ?_; rintro e w1 ⟨rfl, hb1⟩; have hk := R.out w1) | (go_at_call 59; refine hk.mono ?_; rintro e w2 ⟨rfl, rfl⟩; clear hk; have hk := R2.out w1))
        go_ret3
        exact ⟨.slice none 0 0, by rw [HO.out]; rfl, by rw [HO.out]; exact OwnI.nil _ _, hb1⟩
      | true =>
        have R : Hid (∀ W, Calls Tryd.prog 59 #[.int .i64 s, .int .i64 0, .int .i64 ((n : Int) - 1)] W fun e w' => e = .returned (.bool true) ∧ W = w') := Lib.hid (fun W => by rw [← hr]; exact within_any _ _ _ _)
        have R2 : Hid (∀ W, Calls Tryd.prog 59 #[.int .i64 b, .int .i64 1, .int .i64 20000] W fun e w' => e = .returned (.bool true) ∧ W = w') := Lib.hid (fun W => by rw [← hb]; exact within_any _ _ _ _)
        have hs : 0 ≤ s ∧ s < n := by rw [inB_iff] at hr; omega
        have HOK := SrchOk.start hb
        have HFULL : Hid (extB l (n - 1) [s] 0 ⟨[], -1, b⟩ = none → bestO l s b = ([], 0, 5)) := Lib.hid (fun h => bestO_full hv (by rw [HL.out]; exact hr) hb (by rw [HL.out]; exact h))
        have HYES : Hid (∀ t, extB l (n - 1) [s] 0 ⟨[], -1, b⟩ = some t → bestO l s b = (t.best, t.least, 0)) := Lib.hid (fun t h => bestO_yes hv (by rw [HL.out]; exact hr) hb (by rw [HL.out]; exact h))
        have CE : Hid (∀ (vo : Value) (g : Nat) (W : World), TourSt W w.heap.size g A n c vo [s] (.slice none 0 0) ⟨[], -1, b⟩ → Below w.heap.size w W → Calls Tryd.prog 60 #[.pointer (some ⟨g, 0, none⟩), .int .i64 0] W fun e w' => e = .returned (.bool (extB l (n - 1) [s] 0 ⟨[], -1, b⟩).isSome) ∧ Below w.heap.size w w' ∧ ∀ s', extB l (n - 1) [s] 0 ⟨[], -1, b⟩ = some s' → ∃ vo' vb', TourSt w' w.heap.size g A n c vo' [s] vb' s') := Lib.hid (fun vo g W h1 h2 =>
          extend_any g A n c l w hS HL.out h24 hA hv (n - 1) [s] 0 _ vo _ W h1 h2 (by simp) (by simp; omega) (fun j i hj => by
            cases j with
            | zero => simp only [List.getElem?_cons_zero, Option.some.injEq] at hj; omega
            | succ j => simp at hj) (by omega) (by omega) HOK)
        clear hv hr hb HOK
        have hN : ∃ E, E = extB l (n - 1) [s] 0 ⟨[], -1, b⟩ := ⟨_, rfl⟩
        obtain ⟨E, hE⟩ := hN
        rw [← hE] at HFULL HYES CE
        clear hE
        cases E with
        | none =>
          have HO := Lib.hid (HFULL.out rfl)
          rw [Option.isSome_none] at CE
          clear HFULL HYES
          go_enter Tryd.func14, Tryd.ntmps14
          go_wp2_with (first | (go_at_call 58; refine (V.out _ _ hA).mono ?_; rintro e w1 ⟨rfl, hb1⟩; have hk := R.out w1; have hst := tour_start w1 w.heap.size A n c s b hb1.size; have hbs := below_alloc (below_alloc hb1 (.cells #[.int .i64 s] 2)) (.cells #[.slice A n c, .slice (some ⟨w1.heap.size, 0, none⟩) 1 1, .slice none 0 0, .int .i64 (-1), .int .i64 b] 92)) | (go_at_call 59; refine hk.mono ?_; rintro e w2 ⟨rfl, rfl⟩; clear hk; have hk := R2.out w1) | (go_at_call 60; refine (CE.out _ _ _ hst hbs).mono ?_; rintro e w6 ⟨rfl, hb6, _⟩))
          go_ret3
          exact ⟨.slice none 0 0, by rw [HO.out]; rfl, by rw [HO.out]; exact OwnI.nil _ _, hb6⟩
        | some t =>
          have HO := Lib.hid (HYES.out t rfl)
          rw [Option.isSome_some] at CE
          clear HFULL HYES
          go_enter Tryd.func14, Tryd.ntmps14
          go_wp2_with (first | (go_at_call 58; refine (V.out _ _ hA).mono ?_; rintro e w1 ⟨rfl, hb1⟩; have hk := R.out w1; have hst := tour_start w1 w.heap.size A n c s b hb1.size; have hbs := below_alloc (below_alloc hb1 (.cells #[.int .i64 s] 2)) (.cells #[.slice A n c, .slice (some ⟨w1.heap.size, 0, none⟩) 1 1, .slice none 0 0, .int .i64 (-1), .int .i64 b] 92)) | (go_at_call 59; refine hk.mono ?_; rintro e w2 ⟨rfl, rfl⟩; clear hk; have hk := R2.out w1) | (go_at_call 60; refine (CE.out _ _ _ hst hbs).mono ?_; rintro e w6 ⟨rfl, hb6, hS6⟩))
          obtain ⟨vo6, vb6, hT6⟩ := hS6 t rfl
          obtain ⟨k0, k1, k2, k3, k4, f1, f2, f3, f4, glt⟩ := hT6.cells
          (refine later_intro_wp ?_; intro y)
          have hTy := hT6.keep y.below
          obtain ⟨k0, k1, k2, k3, k4, f1, f2, f3, f4, glt⟩ := hT6.cells
          (refine wp_region_later (by kernel_rfl) (by kernel_rfl) ?_; (repeat (first | go_big_quiet_step ((fail)) | quiet_step ((fail)))); refine wpQuiet_nil ?_; rintro _ ⟨y, rfl⟩)
          go_wp2_with (fail)
          go_ret3
          exact ⟨_, by rw [HO.out]; rfl, by rw [HO.out]; exact (hT6.keep y.below).best, below_later hb6 _⟩
end Go.Proofs.YtbpjnopnhmoigaaDoor
