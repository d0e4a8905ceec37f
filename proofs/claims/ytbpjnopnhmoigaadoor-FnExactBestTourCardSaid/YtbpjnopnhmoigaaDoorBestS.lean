/- Contracts of the functions on the shortest tour: the reference's. -/
import Derived.Test.YtbpjnopnhmoigaaDoorTab
namespace Go.Proofs.YtbpjnopnhmoigaaDoor
set_option linter.unusedVariables false
set_option linter.unusedSimpArgs false
open Go.RowKit
attribute [local go_sem ↓] Go.wp_at_zero Go.wp_at_succ
/-- what a run leaves -/
def RunPost (W0 : World) (g lo hi tb n tc : Nat) (l : List Sta) (ord : List Int) (len b : Int) (E : Option Srch) (e : Ending) (w' : World) : Prop :=
  e = .returned (.tuple #[]) ∧ Below W0.heap.size W0 w' ∧ ∃ vo' vb' s' f, RunSt w' W0.heap.size g lo hi tb n tc l vo' ord len vb' s' b f ∧ (f = false → E = some s') ∧ (f = true → E = none)
set_option maxRecDepth 100000 in
set_option maxHeartbeats 8000000 in
theorem run_zero (g lo hi tb tc n : Nat) (l : List Sta) (W0 : World) (hl : l.length = n) (hn : n ≤ 24) (ord : List Int) (len b : Int) (s : Srch) (vo vb : Value) (w : World)
    (hT : RunSt w W0.heap.size g lo hi tb n tc l vo ord len vb s b false) (hb : Below W0.heap.size W0 w) (hpos : 0 < ord.length) (hlen : ord.length = n) :
    Calls Tryd.prog 56 #[.pointer (some ⟨g, 0, none⟩)] w (RunPost W0 g lo hi tb n tc l ord len b (some ⟨ord, len, s.left⟩)) := by
  obtain ⟨og, oc, rfl, ho1, ho2, ho3, ho4, hI⟩ := hT.ord.form3 hpos
  rw [hlen] at ho3
  have HLEN := Lib.hid hlen
  have hTk : RunSt w W0.heap.size g lo hi tb n tc l (.slice (some ⟨og, 0, none⟩) n oc) ord len vb s b false := by rw [hlen] at hT; exact hT
  clear hT
  clear hlen
  have hgW : W0.heap.size ≤ g := hTk.bg
  obtain ⟨k0, k1, k2, k3, k4, k5, k6, k7, hlt⟩ := hTk.cells
  obtain ⟨f1, f2, f3, f4, f5, f7⟩ := hTk.frz
  go_enter Tryd.func56, Tryd.ntmps56
  go_wp2_with (fail)
  refine calls_named ?_
  intro W e
  have hW : RunSt W W0.heap.size g lo hi tb n tc l (.slice (some ⟨og, 0, none⟩) n oc) ord len vb ⟨s.best, len, s.left⟩ b false := by rw [e]; exact hTk.least_ len
  have hbW : Below W0.heap.size W0 W := by rw [e]; exact below_setCell0 hb hgW _
  clear e k0 k1 k2 k3 k4 k5 k6 k7 hlt f1 f2 f3 f4 f5 f7 hI hTk hb
  have hI : Ints W (some ⟨og, 0, none⟩) ord := hW.ord.ints HLEN.out
  refine (l00Own_any (some ⟨og, 0, none⟩) n oc W.heap.size ord W HLEN.out (by omega) (by omega) (by omega) (fun h => by cases h) hI (Nat.le_refl _)).mono ?_
  rintro e w2 ⟨v2, rfl, hO2, hb2⟩
  have hFin := hW.best_ hO2 hb2
  obtain ⟨A2, c2, rfl, _, _, _, _, _⟩ := hO2.form2
  obtain ⟨k0, k1, k2, k3, k4, k5, k6, k7, hlt⟩ := (hW.keep hb2).cells
  obtain ⟨f1, f2, f3, f4, f5, f7⟩ := (hW.keep hb2).frz
  clear hI
  go_wp2_with (fail)
  refine bodyPost_ret (results_none rfl _ _ _) rfl ?_
  exact ⟨rfl, below_setCell0 (below_step hbW hb2) hgW _, _, _, _, _, hFin, fun _ => rfl, fun h => (by cases h)⟩
theorem gap_way {l : List Sta} {ord : List Int} {m k a : Nat} (hm : ord.length = m + 1) (ha : ord[m]? = some (a : Int)) : gapL l a k = wayB l ord k := by
  rw [wayB, hm, Nat.add_sub_cancel, gt_at ha, Int.toNat_natCast]
set_option maxRecDepth 100000 in
set_option maxHeartbeats 8000000 in
theorem run_any (g lo hi tb tc n : Nat) (l : List Sta) (W0 : World) (hl : l.length = n) (hn : n ≤ 24) (b : Int) (hb0 : 0 ≤ b) (hb1 : b ≤ 20000) :
    ∀ (d : Nat) (ord : List Int) (len : Int) (s : Srch) (vo vb : Value) (w : World), RunSt w W0.heap.size g lo hi tb n tc l vo ord len vb s b false → Below W0.heap.size W0 w → 0 < ord.length → ord.length + d = n → (∀ (j : Nat) i, ord[j]? = some i → 0 ≤ i ∧ i < n) → 0 ≤ len → len + 360000 * d ≤ 360000000 → SrchOk 20000 s →
    Calls Tryd.prog 56 #[.pointer (some ⟨g, 0, none⟩)] w (RunPost W0 g lo hi tb n tc l ord len b (extB l d ord len s)) := by
  intro d
  induction d with
  | zero =>
    intro ord len s vo vb w hT hb hpos hlen hord h0 h1 hs
    exact run_zero g lo hi tb tc n l W0 hl hn ord len b s vo vb w hT hb hpos (by omega)
  | succ d ih =>
    intro ord len s vo vb w hT hb hpos hlen hord h0 h1 hs
    have IH := Lib.hid ih
    have HL := Lib.hid hl
    have HORD := Lib.hid hord
    have HEX : Hid (extB l (d + 1) ord len s = loopB l (extB l d) ord len s n) := Lib.hid (by rw [← hl]; rfl)
    have HOKK : Hid (∀ (m : Nat) (t : Srch), loopB l (extB l d) ord len s (m + 1) = some t → ∀ u, loopB l (extB l d) ord len s m = some u → SrchOk 20000 u → SrchOk 20000 t) := Lib.hid (fun m t ht u hu hok => by
      rw [loopB_succ hu] at ht
      have hw := wayB_bd l ord m
      unfold tryB at ht
      split at ht
      · cases ht; exact hok
      · split at ht
        · cases ht; exact hok
        · split at ht
          · cases ht
          · next hl =>
            refine extB_ok l d _ _ _ t 20000 ht (by omega) (by omega) ?_
            unfold SrchOk at *
            dsimp only at *
            omega)
    clear ih hl hord
    have hne : ¬ (ord.length : Int) = (n : Int) := by omega
    obtain ⟨m, hm⟩ : ∃ m, ord.length = m + 1 := ⟨ord.length - 1, by omega⟩
    have HM := Lib.hid hm
    obtain ⟨e0, he0⟩ := at_lt (l := ord) (k := m) (by omega)
    obtain ⟨g0, g1⟩ := HORD.out m e0 he0
    obtain ⟨a, rfl⟩ : ∃ j : Nat, e0 = j := ⟨e0.toNat, by omega⟩
    have HE0 := Lib.hid he0
    obtain ⟨og, oc, rfl, ho1, ho2, ho3, ho4, hI⟩ := hT.ord.form3 hpos
    rw [hm] at hT ho3 hlen hne
    obtain ⟨ob, oo, oe, hci⟩ := hI (by omega)
    injection oe with oe
    injection oe with oe1 oe2
    subst oe1 oe2
    have q0 := hci m _ he0
    rw [Nat.zero_add] at q0
    clear hm hpos hci he0 hI
    have hneB : (((m : Int) + 1) == (n : Int)) = false := by simpa using hne
    have hgW : W0.heap.size ≤ g := hT.bg
    obtain ⟨k0, k1, k2, k3, k4, k5, k6, k7, hlt⟩ := hT.cells
    go_enter Tryd.func56, Tryd.ntmps56
    go_wp2_with (fail)
    go_loopw [4, 5] (fun s4 _ wr => ∃ (k : Nat) (st : Srch) (f : Bool) (vo vb : Value), k ≤ n ∧ s4 = .int .i64 (k : Int) ∧ RunSt wr W0.heap.size g lo hi tb n tc l vo ord len vb st b f ∧ Below W0.heap.size W0 wr ∧ (f = false → loopB l (extB l d) ord len s k = some st ∧ SrchOk 20000 st) ∧ (f = true → extB l (d + 1) ord len s = none)) (fun s4 _ _ => n - (intOf s4).toNat)
    case atStart => exact ⟨0, s, false, _, _, by omega, rfl, hT, hb, fun _ => ⟨rfl, hs⟩, fun h => (by cases h)⟩
    case round =>
      clear k0 k1 k2 k3 k4 k5 k6 k7 hlt hT hb ho1 ho2 ho3 ho4 hs q0
      obtain ⟨k, st, f, vo, vb, hk, rfl, hT, hb, hf, ht⟩ := hrel
      obtain ⟨k0, k1, k2, k3, k4, k5, k6, k7, glt⟩ := hT.cells
      by_cases hlt : k < n
      · cases f with
        | true =>
          have HN := Lib.hid (ht rfl)
          clear hf ht
          go_wp2_with (fail)
          go_end0
          exact ⟨rfl, hb, _, _, _, _, hT, fun h => (by cases h), fun _ => HN.out⟩
        | false =>
          obtain ⟨hlo, hok⟩ := hf rfl
          have HLO := Lib.hid hlo
          clear hf ht hlo
          obtain ⟨q, cq, t0, t1, hq1, hq2⟩ := hT.tab.cells a k (by omega) hlt
          rw [gap_way HM.out HE0.out] at t1
          have htl := World.block_lt_of_cell? wr _ t0
          have hql := World.block_lt_of_cell? wr _ t1
          dsimp only at htl hql
          obtain ⟨wb0, wb1⟩ := wayB_bd l ord k
          obtain ⟨og, oc, rfl, ho1, ho2, ho3, ho4, hI⟩ := hT.ord.form3 (by have := HM.out; omega)
          rw [HM.out] at hT ho3 k1
          have CC : Hid (∀ W : Later wr, Calls Tryd.prog 111 #[.slice (some ⟨og, 0, none⟩) (m + 1) oc, .int .i64 (k : Int)] W.w fun e w' => e = .returned (.bool (hasI ord (k : Int))) ∧ W.w = w') := Lib.hid (fun W => l00Has_same (some ⟨og, 0, none⟩) (m + 1) oc ord k W.w HM.out (by omega) (hI.later W))
          clear hI
          cases hh : hasI ord (k : Int) with
          | true =>
            have HY : Hid (loopB l (extB l d) ord len s (k + 1) = some st) := Lib.hid ((loopB_succ HLO.out).trans (try_has hh))
            rw [hh] at CC
            clear hh
            generalize wayB l ord k = way at *
            go_wp2_with (fail)
            (refine later_intro_wp ?_; intro y)
            (refine wp_region_later (by kernel_rfl) (by kernel_rfl) ?_; (repeat (first | go_big_quiet_step ((go_at_call 111; exact later_same (CC.out _))) | quiet_step ((go_at_call 111; exact later_same (CC.out _))))); refine wpQuiet_nil ?_; rintro _ ⟨y, rfl⟩)
            have hTy := hT.keep y.below
            have hby := below_later hb y
            go_wp2_with (fail)
            go_roundw
            case rel => exact ⟨k + 1, st, false, _, _, by omega, by go_num, hTy, hby, fun _ => ⟨HY.out, hok⟩, fun h => (by cases h)⟩
            case measure => simp [intOf]; omega
          | false =>
            have HFAR : Hid (0 ≤ st.least → st.least ≤ len + wayB l ord k → loopB l (extB l d) ord len s (k + 1) = some st) := Lib.hid (fun h1 h2 => (loopB_succ HLO.out).trans (try_far hh h1 h2))
            have HFULL : Hid ((st.least < 0 ∨ len + wayB l ord k < st.least) → st.left = 0 → loopB l (extB l d) ord len s (k + 1) = none) := Lib.hid (fun h1 h2 => (loopB_succ HLO.out).trans (try_full hh h1 h2))
            have HGO : Hid ((st.least < 0 ∨ len + wayB l ord k < st.least) → st.left ≠ 0 → loopB l (extB l d) ord len s (k + 1) = extB l d (ord ++ [(k : Int)]) (len + wayB l ord k) ⟨st.best, st.least, st.left - 1⟩) := Lib.hid (fun h1 h2 => (loopB_succ HLO.out).trans (try_go hh h1 h2))
            rw [hh] at CC
            clear hh
            generalize wayB l ord k = way at *
            obtain ⟨s1, s2, s3, s4⟩ := hok
            by_cases hfar : 0 ≤ st.least ∧ st.least ≤ len + way
            · have HY := Lib.hid (HFAR.out hfar.1 hfar.2)
              obtain ⟨u1, u2⟩ := hfar
              clear HFAR HFULL HGO IH
              go_wp2_with (fail)
              (refine later_intro_wp ?_; intro y)
              (refine wp_region_later (by kernel_rfl) (by kernel_rfl) ?_; (repeat (first | go_big_quiet_step ((go_at_call 111; exact later_same (CC.out _))) | quiet_step ((go_at_call 111; exact later_same (CC.out _))))); refine wpQuiet_nil ?_; rintro _ ⟨y, rfl⟩)
              have hTy := hT.keep y.below
              have hby := below_later hb y
              go_wp2_with (fail)
              go_roundw
              case rel => exact ⟨k + 1, st, false, _, _, by omega, by go_num, hTy, hby, fun _ => ⟨HY.out, ⟨s1, s2, s3, s4⟩⟩, fun h => (by cases h)⟩
              case measure => simp [intOf]; omega
            · have hor : st.least < 0 ∨ len + way < st.least := by omega
              by_cases hz : st.left = 0
              · have HY := Lib.hid (HFULL.out hor hz)
                have HNO : Hid (extB l (d + 1) ord len s = none) := Lib.hid (HEX.out.trans (loopB_none HY.out n (by omega)))
                clear HFAR HFULL HGO IH HY hfar
                have hord2 : (0 ≤ st.least ∧ ¬ st.least ≤ len + way) ∨ ¬ 0 ≤ st.least := by omega
                clear hor
                rcases hord2 with ⟨u1, u2⟩ | u1
                all_goals
                  go_wp2_with (fail)
                  first | have u9 : ¬ 0 ≤ st.least := by omega | have u8 : ¬ st.least ≤ len + way := by omega
                  (refine later_intro_wp ?_; intro y)
                  (refine wp_region_later (by kernel_rfl) (by kernel_rfl) ?_; (repeat (first | go_big_quiet_step ((go_at_call 111; exact later_same (CC.out _))) | quiet_step ((go_at_call 111; exact later_same (CC.out _))))); refine wpQuiet_nil ?_; rintro _ ⟨y, rfl⟩)
                  have hTy := hT.keep y.below
                  have hby := below_later hb y
                  clear k0 k1 k2 k3 k4 k5 k6 k7 glt hT t0 t1 htl hql CC hb
                  obtain ⟨k0, k1, k2, k3, k4, k5, k6, k7, glt⟩ := hTy.cells
                  generalize y.w = W1 at *
                  clear y
                  go_wp2_with (fail)
                  (refine later_intro_wp ?_; intro y)
                  (refine wp_region_later (by kernel_rfl) (by kernel_rfl) ?_; (repeat (first | go_big_quiet_step ((fail)) | quiet_step ((fail)))); refine wpQuiet_nil ?_; rintro _ ⟨y, rfl⟩)
                  have hTz := hTy.keep y.below
                  have hbz := below_later hby y
                  clear k0 k1 k2 k3 k4 k5 k6 k7 glt hTy hby
                  obtain ⟨k0, k1, k2, k3, k4, k5, k6, k7, glt⟩ := hTz.cells
                  obtain ⟨f1, f2, f3, f4, f5, f7⟩ := hTz.frz
                  generalize y.w = W2 at *
                  clear y
                  go_wp2_with (fail)
                  refine bodyPost_ret (results_none rfl _ _ _) rfl ?_
                  exact ⟨rfl, below_setCell0 hbz hgW _, _, _, _, _, hTz.full_, fun h => (by cases h), fun _ => HNO.out⟩
              · have HY := Lib.hid (HGO.out hor hz)
                have CE : Hid (∀ (v : Value) (W : World), RunSt W W0.heap.size g lo hi tb n tc l v (ord ++ [(k : Int)]) (len + way) vb ⟨st.best, st.least, st.left - 1⟩ b false → Below W0.heap.size W0 W → Calls Tryd.prog 56 #[.pointer (some ⟨g, 0, none⟩)] W fun e w' => e = .returned (.tuple #[]) ∧ Below W0.heap.size W0 w' ∧ ∃ vo' vb' s' f, RunSt w' W0.heap.size g lo hi tb n tc l vo' (ord ++ [(k : Int)]) (len + way) vb' s' b f ∧ (f = false → loopB l (extB l d) ord len s (k + 1) = some s' ∧ SrchOk 20000 s') ∧ (f = true → extB l (d + 1) ord len s = none)) := Lib.hid (fun v W h1 h2 => by
                  refine (IH.out _ _ _ v vb W h1 h2 (by simp) (by rw [List.length_append, List.length_singleton, HM.out]; omega) (fun j i hj => ?_) (by omega) (by omega) ⟨s1, s2, by dsimp only; omega, by dsimp only; omega⟩).mono ?_
                  · by_cases hjl : j < ord.length
                    · rw [List.getElem?_append_left hjl] at hj; exact HORD.out j i hj
                    · rw [List.getElem?_append_right (by omega)] at hj
                      have hj0 : j - ord.length = 0 := by
                        by_cases e : j - ord.length = 0
                        · exact e
                        · rw [List.getElem?_eq_none (by simp; omega)] at hj; cases hj
                      rw [hj0] at hj
                      simp only [List.getElem?_cons_zero, Option.some.injEq] at hj
                      omega
                  · rintro e w' ⟨rfl, h3, vo', vb', s', f, h4, h5, h6⟩
                    refine ⟨rfl, h3, vo', vb', s', f, h4, fun hf => ?_, fun hf => ?_⟩
                    · have hlo := HY.out.trans (h5 hf)
                      exact ⟨hlo, HOKK.out k s' hlo st HLO.out ⟨s1, s2, s3, s4⟩⟩
                    · exact HEX.out.trans (loopB_none (HY.out.trans (h6 hf)) n (by omega)))
                clear HFAR HFULL HGO IH HY hfar HOKK HEX HLO
                have hleftB : (b - st.left == b) = false := by rw [beq_eq_false_iff_ne]; omega
                have hleft : ¬ b - st.left = b := by omega
                have hord2 : (0 ≤ st.least ∧ ¬ st.least ≤ len + way) ∨ ¬ 0 ≤ st.least := by omega
                clear hor
                rcases hord2 with ⟨u1, u2⟩ | u1
                all_goals
                  go_wp2_with (fail)
                  first | have u9 : ¬ 0 ≤ st.least := by omega | have u8 : ¬ st.least ≤ len + way := by omega
                  (refine later_intro_wp ?_; intro y)
                  (refine wp_region_later (by kernel_rfl) (by kernel_rfl) ?_; (repeat (first | go_big_quiet_step ((go_at_call 111; exact later_same (CC.out _))) | quiet_step ((go_at_call 111; exact later_same (CC.out _))))); refine wpQuiet_nil ?_; rintro _ ⟨y, rfl⟩)
                  have hTy := hT.keep y.below
                  have hby := below_later hb y
                  clear k0 k1 k2 k3 k4 k5 k6 k7 glt hT t0 t1 htl hql CC hb
                  obtain ⟨k0, k1, k2, k3, k4, k5, k6, k7, glt⟩ := hTy.cells
                  generalize y.w = W1 at *
                  clear y
                  go_wp2_with (fail)
                  (refine later_intro_wp ?_; intro y)
                  (refine wp_region_later (by kernel_rfl) (by kernel_rfl) ?_; (repeat (first | go_big_quiet_step ((fail)) | quiet_step ((fail)))); refine wpQuiet_nil ?_; rintro _ ⟨y, rfl⟩)
                  have hTz := hTy.keep y.below
                  have hbz := below_later hby y
                  clear k0 k1 k2 k3 k4 k5 k6 k7 glt hTy hby
                  obtain ⟨k0, k1, k2, k3, k4, k5, k6, k7, glt⟩ := hTz.cells
                  obtain ⟨f1, f2, f3, f4, f5, f7⟩ := hTz.frz
                  generalize y.w = W2 at *
                  clear y
                  go_upto_region 13 with (fail)
                  refine wp_named ?_
                  intro W4 e4
                  have hT4 : RunSt W4 W0.heap.size g lo hi tb n tc l (.slice (some ⟨og, 0, none⟩) (m + 1) oc) ord len vb ⟨st.best, st.least, st.left - 1⟩ b false := by rw [e4]; exact hTz.nodes_
                  have hb4 : Below W0.heap.size W0 W4 := by rw [e4]; exact below_setCell0 hbz hgW _
                  clear e4 k0 k1 k2 k3 k4 k5 k6 k7 glt hTz hbz f1 f2 f3 f4 f5 f7
                  obtain ⟨k0, k1, k2, k3, k4, k5, k6, k7, glt⟩ := hT4.cells
                  have hba : Below W4.heap.size W4 (W4.alloc (.cells #[.int .i64 (k : Int)] 2)) := below_alloc (Below.refl _ _) _
                  have HLN : Hid (ord.length ≤ 1099511627776) := Lib.hid (by have := HM.out; omega)
                  have hsz := hb4.size
                  go_upto_region 14 with (at_builtin; refine wpList_app_int2 rfl (.tmp 116) (.tmp 118) rfl W0.heap.size (.slice (some ⟨og, 0, none⟩) (m + 1) oc) ord (k : Int) W4.heap.size 1 rfl rfl (hT4.ord.alloc _) (by simp) HLN.out (by simp; omega) ?_; intro v5 w5 hO5 hg5 hl5
                                          have hT5 := (hT4.keep hba).app hO5 hg5 hl5
                                          have hb5 : Below W0.heap.size W0 (w5.setCell ⟨g, 1, none⟩ v5) := below_setCell0 (below_of_grown (below_step hb4 hba) hg5 (below_step hb4 hba).size (fun q hq => (hT4.ord.lt q hq).1)) hgW _
                                          have hB5 : Blk w5 g 87 _ := (hT4.keep hba).blk.grownP hg5 (fun q hq => (hT4.og q hq).1.symm)
                                          have j1 := hB5.cell 1
                                          have j2 := hB5.frozen 1
                                          have j3 := hB5.lt
                                          obtain ⟨qg, qc, rfl, _, _, _, _, _⟩ := hO5.form3 (by simp)
                                          simp only [List.length_append, List.length_singleton, HM.out] at hT5 hb5 j1 j2 j3 hO5 hl5 hg5 ⊢)
                  refine wp_named ?_
                  intro W5 e5
                  rw [← e5] at hT5 hb5
                  clear e5 hO5 hl5 hg5 k0 k1 k2 k3 k4 k5 k6 k7 glt hT4 hb4 hba hB5 j1 j2 j3 hsz
                  obtain ⟨k0, k1, k2, k3, k4, k5, k6, k7, glt⟩ := hT5.cells
                  obtain ⟨f1, f2, f3, f4, f5, f7⟩ := hT5.frz
                  go_wp2_with (fail)
                  refine calls_named ?_
                  intro W6 e6
                  have hT6 := hT5.len_ (len + way)
                  have hb6 := below_setCell0 (p := ⟨g, 2, none⟩) hb5 hgW (.int .i64 (len + way))
                  rw [← e6] at hT6 hb6
                  clear e6 k0 k1 k2 k3 k4 k5 k6 k7 glt hT5 hb5 f1 f2 f3 f4 f5 f7
                  refine (CE.out _ _ hT6 hb6).mono ?_
                  rintro e w7 ⟨rfl, hb7, vo7, vb7, s7, f7, hT7, hf7, ht7⟩
                  obtain ⟨qg6, qc6, rfl, _, _, hc6, hc7, _⟩ := hT7.ord.form3 (by simp)
                  simp only [List.length_append, List.length_singleton, HM.out] at hT7 hc6
                  clear hT6 hb6 CE
                  obtain ⟨k0, k1, k2, k3, k4, k5, k6, k7, glt⟩ := hT7.cells
                  obtain ⟨j1, j2, j3, j4, j5, j7⟩ := hT7.frz
                  go_upto_region 17 with (fail)
                  refine wp_named ?_
                  intro W8 e8
                  have hT8 := hT7.short HM.out
                  have hb8 := below_setCell0 (p := ⟨g, 1, none⟩) hb7 hgW (.slice (some ⟨qg6, 0, none⟩) (m + 1) qc6)
                  rw [← e8] at hT8 hb8
                  clear e8 k0 k1 k2 k3 k4 k5 k6 k7 glt j1 j2 j3 j4 j5 j7 hT7 hb7
                  obtain ⟨k0, k1, k2, k3, k4, k5, k6, k7, glt⟩ := hT8.cells
                  obtain ⟨j1, j2, j3, j4, j5, j7⟩ := hT8.frz
                  have hl9 : len + way - way = len := by omega
                  go_wp2_with (fail)
                  go_roundw
                  case rel => exact ⟨k + 1, s7, f7, _, _, by omega, by go_num, (by first | exact hT8.len_ len | exact hl9 ▸ hT8.len_ (len + way - way)), below_setCell0 hb8 hgW _, hf7, ht7⟩
                  case measure => simp [intOf]; omega
      · obtain rfl : k = n := by omega
        go_wp2_with (fail)
        go_end0
        refine ⟨rfl, hb, _, _, _, _, hT, fun h => HEX.out.trans (hf h).1, ht⟩
end Go.Proofs.YtbpjnopnhmoigaaDoor
