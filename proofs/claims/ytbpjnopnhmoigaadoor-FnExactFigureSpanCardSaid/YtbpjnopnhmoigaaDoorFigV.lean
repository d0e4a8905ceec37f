/- Contracts of the functions that ask whether a figure is valid, of both; figures sized, copied and held against one another. -/
import Derived.Test.YtbpjnopnhmoigaaDoorFig
namespace Go.Proofs.YtbpjnopnhmoigaaDoor
set_option linter.unusedVariables false
set_option linter.unusedSimpArgs false
open Go.RowKit
theorem vLines_all {n : Int} {L : List (List Int)} (h : lnUpto n L L.length = true) : vLines n L = decide (L.length ≤ 16) := by simp [vLines, h]
theorem lnAt_no {n : Int} {L : List (List Int)} {k : Nat} {x : List Int} (hx : L[k]? = some x) (h : lineOk n x = false) : lnAt n L k = false := by
  rcases k with _ | j
  · rw [lnAt_zero hx, h]
  · have hj : j < L.length := by have := (List.getElem?_eq_some_iff.1 hx).1; omega
    obtain ⟨z, hz⟩ := at_lt (l := L) (k := j) hj
    rw [lnAt_succ hx hz, h]; rfl
set_option maxRecDepth 100000 in
set_option maxHeartbeats 8000000 in
theorem l08Lines_any (A : Option Addr) (n c : Nat) (L : List (List Int)) (m : Int) (w : World) (hl : L.length = n) (hn : n ≤ 9223372036854775807) (hS : Lists w A L) (hm0 : 0 ≤ m) (hm1 : m ≤ 1000000) :
    Calls Tryd.prog 115 #[.slice A n c, .int .i64 m] w fun e w' => e = .returned (.bool (vLines m L)) ∧ Below w.heap.size w w' := by
  have HL := Lib.hid hl; clear hl
  go_enter Tryd.func115, Tryd.ntmps115
  go_wp2
  go_loopw [5, 6] (fun i p wr => ∃ k : Nat, k ≤ n ∧ i = .int .i64 k ∧ lnUpto m L k = true ∧ Below w.heap.size w wr) (fun i _ _ => n - (intOf i).toNat)
  case atStart => exact ⟨0, by omega, rfl, rfl, Below.refl _ _⟩
  case round =>
    obtain ⟨k, hk, rfl, hok, hb⟩ := hrel
    have HOK := Lib.hid hok; clear hok
    by_cases hlt : k < n
    · obtain ⟨x, hx⟩ := at_lt (l := L) (k := k) (by have := HL.out; omega)
      obtain ⟨b, o, rfl, hc⟩ := hS.below hb (by have := HL.out; omega)
      obtain ⟨A1, c1, e0, e1, e2, e3, e4⟩ := hc k x hx
      have l0 := World.block_lt_of_cell? wr _ e0
      by_cases h2 : x.length = 2
      · obtain ⟨u, v, rfl⟩ := len_two h2
        obtain ⟨b1, o1, rfl, q0, q1⟩ := ints_two e4
        have l1 := World.block_lt_of_cell? wr _ q0
        dsimp only at l0 l1
        simp only [List.length_cons, List.length_nil, Nat.zero_add, Nat.reduceAdd] at e0 e1
        have hc2 : (2 : Int) ≤ (c1 : Int) := by omega
        clear h2 e2 e3 e4
        have HB : Hid (¬ (0 ≤ u ∧ u < v ∧ v < m) → vLines m L = false) := Lib.hid (fun h => vLines_no (k := k) (by have := HL.out; omega) (lnAt_no hx (by
          rw [lineOk_mk]; simp only [Bool.and_eq_false_iff, decide_eq_false_iff_not]; omega)))
        by_cases t1 : 0 ≤ u ∧ u ≤ m - 1
        · have C1 : Hid (∀ W, Calls Tryd.prog 54 #[.int .i64 u, .int .i64 0, .int .i64 (m - 1)] W fun e w' => e = .returned (.bool true) ∧ W = w') := Lib.hid (fun W => l00In_is (by simp [inB]; omega) W)
          by_cases t2 : u + 1 ≤ v ∧ v ≤ m - 1
          · have C2 : Hid (∀ W, Calls Tryd.prog 54 #[.int .i64 v, .int .i64 (u + 1), .int .i64 (m - 1)] W fun e w' => e = .returned (.bool true) ∧ W = w') := Lib.hid (fun W => l00In_is (by simp [inB]; omega) W)
            have hok : lineOk m [u, v] = true := by rw [lineOk_mk]; simp only [Bool.and_eq_true, decide_eq_true_eq]; omega
            obtain ⟨u0, u1⟩ := t1
            obtain ⟨v0, v1⟩ := t2
            clear HB
            rcases k with _ | k
            · have HX := Lib.hid (lnAt_zero (n := m) hx)
              have HK := Lib.hid hok
              clear hc hx hok
              simp only [Int.natCast_zero]
              simp only [Nat.add_zero] at e0
              go_wp2_with (fail)
              (refine later_intro_wp ?_; intro y)
              (refine wp_region_later (by kernel_rfl) (by kernel_rfl) ?_; (repeat (first | go_big_quiet_step ((first | (go_at_call 54; with_reducible exact later_same (C1.out _)) | (go_at_call 54; with_reducible exact later_same (C2.out _)))) | quiet_step ((first | (go_at_call 54; with_reducible exact later_same (C1.out _)) | (go_at_call 54; with_reducible exact later_same (C2.out _)))))); refine wpQuiet_nil ?_; rintro _ ⟨y, rfl⟩)
              go_wp2_with (fail)
              (refine wp_region_later (by kernel_rfl) (by kernel_rfl) ?_; (repeat (first | go_big_quiet_step ((fail)) | quiet_step ((fail)))); refine wpQuiet_nil ?_; rintro _ ⟨y, rfl⟩)
              go_wp2_with (fail)
              go_roundw
              case rel => exact ⟨0 + 1, by omega, by go_num, by rw [lnUpto_succ, HOK.out, HX.out, HK.out]; rfl, below_later hb _⟩
              case measure => simp [intOf]; omega
            · obtain ⟨z, hz⟩ := at_lt (l := L) (k := k) (by have := HL.out; omega)
              obtain ⟨u', v', rfl, z0, z1, z2⟩ := lineOk_two (lnUpto_ok HOK.out (Nat.lt_succ_self k) hz)
              obtain ⟨A2, c2, d0, d1, d2, d3, d4⟩ := hc k _ hz
              obtain ⟨b2, o2, rfl, p0, p1⟩ := ints_two d4
              have l2 := World.block_lt_of_cell? wr _ d0
              have l3 := World.block_lt_of_cell? wr _ p0
              dsimp only at l2 l3
              simp only [List.length_cons, List.length_nil, Nat.zero_add, Nat.reduceAdd] at d0 d1
              have hc22 : (2 : Int) ≤ (c2 : Int) := by omega
              have HX : Hid (lnAt m L (k + 1) = lineLt [u', v'] [u, v]) := Lib.hid (by rw [lnAt_succ hx hz, hok]; rfl)
              have hc1 : ((k + 1 : Nat) : Int) = (k : Int) + 1 := by omega
              rw [hc1]
              have hk1 : (0 : Int) < (k : Int) + 1 := by omega
              clear hc hx hz hok d2 d3 d4 hc1
              have hk2 : (k : Int) + 1 - 1 = k := by omega
              by_cases hr : u' < u ∨ u' = u ∧ v' < v
              · have HK : Hid (lineLt [u', v'] [u, v] = true) := Lib.hid (by rw [lineLt_mk]; simp only [Bool.or_eq_true, Bool.and_eq_true, decide_eq_true_eq]; exact hr)
                have g1 : decide (u < u') = false := by simp; omega
                rcases hr with hr | ⟨hr1, hr2⟩
                · have g2 : (u' == u) = false := by simp; omega
                  go_wp2_with (fail)
                  (refine later_intro_wp ?_; intro y)
                  (refine wp_region_later (by kernel_rfl) (by kernel_rfl) ?_; (repeat (first | go_big_quiet_step ((first | (go_at_call 54; with_reducible exact later_same (C1.out _)) | (go_at_call 54; with_reducible exact later_same (C2.out _)))) | quiet_step ((first | (go_at_call 54; with_reducible exact later_same (C1.out _)) | (go_at_call 54; with_reducible exact later_same (C2.out _)))))); refine wpQuiet_nil ?_; rintro _ ⟨y, rfl⟩)
                  go_wp2_with (fail)
                  (refine wp_region_later (by kernel_rfl) (by kernel_rfl) ?_; (repeat (first | go_big_quiet_step ((fail)) | quiet_step ((fail)))); refine wpQuiet_nil ?_; rintro _ ⟨y, rfl⟩)
                  go_wp2_with (fail)
                  go_roundw
                  case rel => exact ⟨k + 1 + 1, by omega, by go_num, by rw [lnUpto_succ, HOK.out, HX.out, HK.out]; rfl, below_later hb _⟩
                  case measure => simp [intOf]; omega
                · have g2 : (u' == u) = true := by simp; omega
                  have g3 : decide (v ≤ v') = false := by simp; omega
                  have HE := Lib.hid hr1
                  clear hr1
                  go_wp2_with (fail)
                  (refine later_intro_wp ?_; intro y)
                  (refine wp_region_later (by kernel_rfl) (by kernel_rfl) ?_; (repeat (first | go_big_quiet_step ((first | (go_at_call 54; with_reducible exact later_same (C1.out _)) | (go_at_call 54; with_reducible exact later_same (C2.out _)))) | quiet_step ((first | (go_at_call 54; with_reducible exact later_same (C1.out _)) | (go_at_call 54; with_reducible exact later_same (C2.out _)))))); refine wpQuiet_nil ?_; rintro _ ⟨y, rfl⟩)
                  go_wp2_with (fail)
                  (refine wp_region_later (by kernel_rfl) (by kernel_rfl) ?_; (repeat (first | go_big_quiet_step ((fail)) | quiet_step ((fail)))); refine wpQuiet_nil ?_; rintro _ ⟨y, rfl⟩)
                  go_wp2_with (fail)
                  go_roundw
                  case rel => exact ⟨k + 1 + 1, by omega, by go_num, by rw [lnUpto_succ, HOK.out, HX.out, HK.out]; rfl, below_later hb _⟩
                  case measure => simp [intOf]; omega
              · have HB : Hid (vLines m L = false) := Lib.hid (vLines_no (k := k + 1) (by have := HL.out; omega) (by
                  rw [HX.out, lineLt_mk]
                  cases hd : (decide (u' < u) || (decide (u' = u) && decide (v' < v))) with
                  | false => rfl
                  | true => simp only [Bool.or_eq_true, Bool.and_eq_true, decide_eq_true_eq] at hd; exact absurd hd hr))
                by_cases hg : u < u'
                · have g1 : decide (u < u') = true := by simp; omega
                  go_wp2_with (fail)
                  (refine later_intro_wp ?_; intro y)
                  (refine wp_region_later (by kernel_rfl) (by kernel_rfl) ?_; (repeat (first | go_big_quiet_step ((first | (go_at_call 54; with_reducible exact later_same (C1.out _)) | (go_at_call 54; with_reducible exact later_same (C2.out _)))) | quiet_step ((first | (go_at_call 54; with_reducible exact later_same (C1.out _)) | (go_at_call 54; with_reducible exact later_same (C2.out _)))))); refine wpQuiet_nil ?_; rintro _ ⟨y, rfl⟩)
                  go_wp2_with (fail)
                  (refine wp_region_later (by kernel_rfl) (by kernel_rfl) ?_; (repeat (first | go_big_quiet_step ((fail)) | quiet_step ((fail)))); refine wpQuiet_nil ?_; rintro _ ⟨y, rfl⟩)
                  go_wp2_with (fail)
                  go_ret
                  exact ⟨ret_bool (by rw [HB.out]), below_later hb _⟩
                · have g1 : decide (u < u') = false := by simp; omega
                  have g2 : (u' == u) = true := by simp; omega
                  have g3 : decide (v ≤ v') = true := by simp; omega
                  clear hr
                  go_wp2_with (fail)
                  (refine later_intro_wp ?_; intro y)
                  (refine wp_region_later (by kernel_rfl) (by kernel_rfl) ?_; (repeat (first | go_big_quiet_step ((first | (go_at_call 54; with_reducible exact later_same (C1.out _)) | (go_at_call 54; with_reducible exact later_same (C2.out _)))) | quiet_step ((first | (go_at_call 54; with_reducible exact later_same (C1.out _)) | (go_at_call 54; with_reducible exact later_same (C2.out _)))))); refine wpQuiet_nil ?_; rintro _ ⟨y, rfl⟩)
                  go_wp2_with (fail)
                  (refine wp_region_later (by kernel_rfl) (by kernel_rfl) ?_; (repeat (first | go_big_quiet_step ((fail)) | quiet_step ((fail)))); refine wpQuiet_nil ?_; rintro _ ⟨y, rfl⟩)
                  go_wp2_with (fail)
                  go_ret
                  exact ⟨ret_bool (by rw [HB.out]), below_later hb _⟩
          · have C2 : Hid (∀ W, Calls Tryd.prog 54 #[.int .i64 v, .int .i64 (u + 1), .int .i64 (m - 1)] W fun e w' => e = .returned (.bool false) ∧ W = w') := Lib.hid (fun W => l00In_is (by
              cases hd : inB v (u + 1) (m - 1) with
              | false => rfl
              | true => rw [inB_iff] at hd; exact absurd hd t2) W)
            have HB2 := Lib.hid (HB.out (by omega))
            obtain ⟨u0, u1⟩ := t1
            clear hc hx HB t2
            go_wp2_with (fail)
            (refine later_intro_wp ?_; intro y)
            (refine wp_region_later (by kernel_rfl) (by kernel_rfl) ?_; (repeat (first | go_big_quiet_step ((first | (go_at_call 54; with_reducible exact later_same (C1.out _)) | (go_at_call 54; with_reducible exact later_same (C2.out _)))) | quiet_step ((first | (go_at_call 54; with_reducible exact later_same (C1.out _)) | (go_at_call 54; with_reducible exact later_same (C2.out _)))))); refine wpQuiet_nil ?_; rintro _ ⟨y, rfl⟩)
            go_wp2_with (fail)
            go_ret
            exact ⟨ret_bool (by rw [HB2.out]), below_later hb _⟩
        · have C1 : Hid (∀ W, Calls Tryd.prog 54 #[.int .i64 u, .int .i64 0, .int .i64 (m - 1)] W fun e w' => e = .returned (.bool false) ∧ W = w') := Lib.hid (fun W => l00In_is (by
              cases hd : inB u 0 (m - 1) with
              | false => rfl
              | true => rw [inB_iff] at hd; exact absurd hd t1) W)
          have HB2 := Lib.hid (HB.out (by omega))
          clear hc hx HB t1
          go_wp2_with (fail)
          (refine later_intro_wp ?_; intro y)
          (refine wp_region_later (by kernel_rfl) (by kernel_rfl) ?_; (repeat (first | go_big_quiet_step ((first | (go_at_call 54; with_reducible exact later_same (C1.out _)))) | quiet_step ((first | (go_at_call 54; with_reducible exact later_same (C1.out _)))))); refine wpQuiet_nil ?_; rintro _ ⟨y, rfl⟩)
          go_wp2_with (fail)
          go_ret
          exact ⟨ret_bool (by rw [HB2.out]), below_later hb _⟩
      · have HB : Hid (vLines m L = false) := Lib.hid (vLines_no (k := k) (by have := HL.out; omega) (lnAt_no hx (lineOk_len h2)))
        have hne : ((x.length : Int) == 2) = false := by simp; omega
        have hne2 : ((x.length : Int) != 2) = true := by simp; omega
        clear hc hx e1 e3 e4 h2
        generalize x.length = q at *
        dsimp only at l0
        go_wp2_with (fail)
        (refine later_intro_wp ?_; intro y)
        (refine wp_region_later (by kernel_rfl) (by kernel_rfl) ?_; (repeat (first | go_big_quiet_step ((fail)) | quiet_step ((fail)))); refine wpQuiet_nil ?_; rintro _ ⟨y, rfl⟩)
        go_wp2_with (fail)
        go_ret
        exact ⟨ret_bool (by rw [HB.out]), below_later hb _⟩
    · obtain rfl : k = n := by omega
      go_wp2
      go_ret
      exact ⟨ret_bool (by rw [vLines_all (by rw [HL.out]; exact HOK.out), HL.out]; first | (simp; done) | (simp; omega)), hb⟩
theorem vFig_no1 {nm : ByteArray} {L : List (List Int)} {l : List Sta} (h : vStars l = false) : vFig nm L l = false := by simp [vFig, h]
theorem vFig_no2 {nm : ByteArray} {L : List (List Int)} {l : List Sta} (h : isName nm.data.toList = false) : vFig nm L l = false := by simp [vFig, h]
theorem vFig_eq {nm : ByteArray} {L : List (List Int)} {l : List Sta} (h : vStars l = true) (h2 : isName nm.data.toList = true) : vFig nm L l = vLines l.length L := by simp [vFig, h, h2]
theorem vFig_stars {nm : ByteArray} {L : List (List Int)} {l : List Sta} (h : vFig nm L l = true) : vStars l = true := by
  simp only [vFig, Bool.and_eq_true] at h; exact h.1
theorem vFig_lines {nm : ByteArray} {L : List (List Int)} {l : List Sta} (h : vFig nm L l = true) : vLines l.length L = true := by
  simp only [vFig, Bool.and_eq_true] at h; exact h.2.2
/-- the cells of a figure -/
def figCells (nm : ByteArray) (B : Option Addr) (p q : Nat) : List Value := [.string nm, .slice B p q]
theorem Blk.fig {w : World} {g : Nat} {t : TypeId} {nm : ByteArray} {B : Option Addr} {p q : Nat} (h : Blk w g t (figCells nm B p q)) : w.cell? ⟨g, 0, none⟩ = some (.string nm) ∧ w.cell? ⟨g, 1, none⟩ = some (.slice B p q) := ⟨by rw [h.cell]; rfl, by rw [h.cell]; rfl⟩
set_option maxHeartbeats 2000000 in
theorem ValidFigure_any (nm : ByteArray) (B : Option Addr) (p q : Nat) (L : List (List Int)) (A : Option Addr) (n c : Nat) (l : List Sta) (w : World) (hp : L.length = p) (hp2 : p ≤ 9223372036854775807) (hB : Lists w B L) (hl : l.length = n) (hn : n ≤ 9223372036854775807) (hS : Stars w A l) :
    Calls Tryd.prog 66 #[.agg #[.string nm, .slice B p q], .slice A n c] w fun e w' => e = .returned (.bool (vFig nm L l)) ∧ Below w.heap.size w w' := by
  have hb0 : Below w.heap.size w (w.alloc (.cells #[.string nm, .slice B p q] 40)) := below_alloc (Below.refl _ _) _
  have hX0 : Blk (w.alloc (.cells #[.string nm, .slice B p q] 40)) w.heap.size 40 (figCells nm B p q) := Blk.new _ _ _
  have hS0 := hS.below hb0
  have V : Hid (∀ W, Stars W A l → Calls Tryd.prog 58 #[.slice A n c] W fun e w' => e = .returned (.bool (vStars l)) ∧ Below W.heap.size W w') := Lib.hid (fun W hW => ValidStars_any A n c l W hl hn hW)
  have N : Hid (∀ W, Calls Tryd.prog 117 #[.string nm] W fun e w' => e = .returned (.bool (isName nm.data.toList)) ∧ W = w') := Lib.hid (fun W => IsName_any nm W)
  cases hv : vStars l with
  | false =>
    have HO := Lib.hid (vFig_no1 (nm := nm) (L := L) hv)
    rw [hv] at V
    clear hv hB
    go_enter Tryd.func66, Tryd.ntmps66
    go_wp2_with (go_at_call 58; refine (V.out _ hS0).mono ?_; rintro e w1 ⟨rfl, hb1⟩)
    go_ret
    exact ⟨ret_bool (by rw [HO.out]), below_step hb0 hb1⟩
  | true =>
    rw [hv] at V
    have hl24 := vStars_len hv
    rw [hl] at hl24
    cases hm : isName nm.data.toList with
    | false =>
      have HO := Lib.hid (vFig_no2 (L := L) (l := l) hm)
      rw [hm] at N
      clear hv hm hB
      go_enter Tryd.func66, Tryd.ntmps66
      go_wp2_with (first | (go_at_call 58; refine (V.out _ hS0).mono ?_; rintro e w1 ⟨rfl, hb1⟩; have hX1 := (hX0.keep hb1).fig; obtain ⟨x0, x1⟩ := hX1) | (go_at_call 117; refine (N.out _).mono ?_; rintro e w2 ⟨rfl, rfl⟩))
      go_ret
      exact ⟨ret_bool (by rw [HO.out]), below_step hb0 hb1⟩
    | true =>
      have HO := Lib.hid (vFig_eq (L := L) hv hm)
      rw [hm] at N
      rw [hl] at HO
      have VL : Hid (∀ W, Lists W B L → Calls Tryd.prog 118 #[.slice B p q, .int .i64 (n : Int)] W fun e w' => e = .returned (.bool (vLines (n : Int) L)) ∧ Below W.heap.size W w') := Lib.hid (fun W hW => validLines_any B p q L (n : Int) W hp hp2 hW)
      clear hv hm
      generalize vLines (n : Int) L = r at *
      go_enter Tryd.func66, Tryd.ntmps66
      go_wp2_with (first | (go_at_call 58; refine (V.out _ hS0).mono ?_; rintro e w1 ⟨rfl, hb1⟩; have hX1 := (hX0.keep hb1).fig; obtain ⟨x0, x1⟩ := hX1; have hB1 := (hB.below hb0).below hb1) | (go_at_call 117; refine (N.out _).mono ?_; rintro e w2 ⟨rfl, rfl⟩) | (go_at_call 118; refine (VL.out _ hB1).mono ?_; rintro e w3 ⟨rfl, hb3⟩))
      all_goals
        go_ret
        exact ⟨ret_bool (by rw [HO.out]), below_step (below_step hb0 hb1) hb3⟩
set_option maxHeartbeats 2000000 in
theorem l08Ok_any (g : Nat) (nm : ByteArray) (B : Option Addr) (p q : Nat) (L : List (List Int)) (A : Option Addr) (n c : Nat) (l : List Sta) (w : World) (x0 : w.cell? ⟨g, 0, none⟩ = some (.string nm)) (x1 : w.cell? ⟨g, 1, none⟩ = some (.slice B p q)) (hp : L.length = p) (hp2 : p ≤ 9223372036854775807) (hB : Lists w B L) (hl : l.length = n) (hn : n ≤ 9223372036854775807) (hS : Stars w A l) :
    Calls Tryd.prog 64 #[.pointer (some ⟨g, 0, none⟩), .slice A n c] w fun e w' => e = .returned (.bool (vFig nm L l)) ∧ Below w.heap.size w w' := by
  have hgl := World.block_lt_of_cell? w _ x0
  dsimp only at hgl
  have V : Hid (∀ W, Stars W A l → Calls Tryd.prog 53 #[.slice A n c] W fun e w' => e = .returned (.bool (vStars l)) ∧ Below W.heap.size W w') := Lib.hid (fun W hW => l05Ok_any A n c l W hl hn hW)
  have N : Hid (∀ W, Calls Tryd.prog 114 #[.string nm] W fun e w' => e = .returned (.bool (isName nm.data.toList)) ∧ W = w') := Lib.hid (fun W => l01Name_any nm W)
  cases hv : vStars l with
  | false =>
    have HO := Lib.hid (vFig_no1 (nm := nm) (L := L) hv)
    rw [hv] at V
    clear hv hB x0 x1
    go_enter Tryd.func64, Tryd.ntmps64
    go_wp2_with (go_at_call 53; refine (V.out _ hS).mono ?_; rintro e w1 ⟨rfl, hb1⟩)
    go_ret
    exact ⟨ret_bool (by rw [HO.out]), hb1⟩
  | true =>
    rw [hv] at V
    have hl24 := vStars_len hv
    rw [hl] at hl24
    cases hm : isName nm.data.toList with
    | false =>
      have HO := Lib.hid (vFig_no2 (L := L) (l := l) hm)
      rw [hm] at N
      clear hv hm hB
      go_enter Tryd.func64, Tryd.ntmps64
      go_wp2_with (first | (go_at_call 53; refine (V.out _ hS).mono ?_; rintro e w1 ⟨rfl, hb1⟩; have y0 := (hb1.cell (p := ⟨g, 0, none⟩) hgl).trans x0; have y1 := (hb1.cell (p := ⟨g, 1, none⟩) hgl).trans x1) | (go_at_call 114; refine (N.out _).mono ?_; rintro e w2 ⟨rfl, rfl⟩))
      go_ret
      exact ⟨ret_bool (by rw [HO.out]), hb1⟩
    | true =>
      have HO := Lib.hid (vFig_eq (L := L) hv hm)
      rw [hm] at N
      rw [hl] at HO
      have VL : Hid (∀ W, Lists W B L → Calls Tryd.prog 115 #[.slice B p q, .int .i64 (n : Int)] W fun e w' => e = .returned (.bool (vLines (n : Int) L)) ∧ Below W.heap.size W w') := Lib.hid (fun W hW => l08Lines_any B p q L (n : Int) W hp hp2 hW (by omega) (by omega))
      clear hv hm
      generalize vLines (n : Int) L = r at *
      go_enter Tryd.func64, Tryd.ntmps64
      go_wp2_with (first | (go_at_call 53; refine (V.out _ hS).mono ?_; rintro e w1 ⟨rfl, hb1⟩; have y0 := (hb1.cell (p := ⟨g, 0, none⟩) hgl).trans x0; have y1 := (hb1.cell (p := ⟨g, 1, none⟩) hgl).trans x1; have hB1 := hB.below hb1) | (go_at_call 114; refine (N.out _).mono ?_; rintro e w2 ⟨rfl, rfl⟩) | (go_at_call 115; refine (VL.out _ hB1).mono ?_; rintro e w3 ⟨rfl, hb3⟩))
      all_goals
        go_ret
        exact ⟨ret_bool (by rw [HO.out]), below_step hb1 hb3⟩
set_option maxHeartbeats 1000000 in
theorem szFigure_any (nm : ByteArray) (B : Option Addr) (p q : Nat) (L : List (List Int)) (left : Int) (w : World) (hs : StrOk nm) (hp : L.length = p) (hp2 : p ≤ 9223372036854775807) (hB : Lists w B L) (h0 : 0 ≤ left) (h1 : left ≤ 1048576) :
    Calls Tryd.prog 20 #[.agg #[.string nm, .slice B p q], .int .i64 left] w (SzPost (nm.size + (p + tot L)) left w) := by
  unfold StrOk at hs
  have hb0 : Below w.heap.size w (w.alloc (.cells #[.string nm, .slice B p q] 36)) := below_alloc (Below.refl _ _) _
  have hB0 := hB.below hb0
  by_cases hneg : left - nm.size < 0
  · go_enter Tryd.func20, Tryd.ntmps20
    go_wp2
    go_ret
    exact ⟨_, rfl, .inl (by omega), hb0⟩
  · have C : Hid (Calls Tryd.prog 63 #[.slice B p q, .int .i64 (left - nm.size)] (w.alloc (.cells #[.string nm, .slice B p q] 36)) (SzPost (p + tot L) (left - nm.size) (w.alloc (.cells #[.string nm, .slice B p q] 36)))) := Lib.hid (szInt64SS_any B p q L (left - nm.size) _ hp hp2 hB0 (by omega) (by omega))
    clear hB hB0
    go_enter Tryd.func20, Tryd.ntmps20
    go_wp2_with (refine C.out.mono ?_; rintro e w1 ⟨r, rfl, hr, hb1⟩; rcases hr with hr | ⟨hr0, hr1, hr2⟩)
    · go_ret
      exact ⟨_, rfl, .inl (by omega), below_step hb0 hb1⟩
    · go_wp2
      go_ret
      exact ⟨_, rfl, .inr ⟨by omega, by omega, by omega⟩, below_step hb0 hb1⟩
set_option maxHeartbeats 1000000 in
theorem eqFigure_same (nm : ByteArray) (B B' : Option Addr) (p q q' : Nat) (L : List (List Int)) (w : World) (hp : L.length = p) (hp2 : p ≤ 9223372036854775807) (hB : Lists w B L) (hB' : Lists w B' L) :
    Calls Tryd.prog 24 #[.agg #[.string nm, .slice B p q], .agg #[.string nm, .slice B' p q']] w fun e w' => e = .returned (.bool true) ∧ Below w.heap.size w w' := by
  have C : Hid (∀ W, Below w.heap.size w W → Calls Tryd.prog 68 #[.slice B p q, .slice B' p q'] W fun e w' => e = .returned (.bool true) ∧ Below W.heap.size W w') := Lib.hid (fun W hW => eqInt64SS_same B B' p q q' L W hp hp2 (hB.below hW) (hB'.below hW))
  clear hB hB'
  go_enter Tryd.func24, Tryd.ntmps24
  go_wp2_with (refine (C.out _ (by repeat (first | exact Below.refl _ _ | refine below_alloc ?_ _ | refine below_drewN0 ?_ _ | refine below_drew0 ?_ | refine below_step ?_ (by assumption) | refine below_later ?_ _ | refine below_setCell0 ?_ (by first | exact Nat.le_refl _ | (simp; done) | omega | (simp; omega)) _))).mono ?_; rintro e w1 ⟨rfl, hb1⟩)
  go_ret
  exact ⟨rfl, (by repeat (first | exact Below.refl _ _ | refine below_alloc ?_ _ | refine below_drewN0 ?_ _ | refine below_drew0 ?_ | refine below_step ?_ (by assumption) | refine below_later ?_ _ | refine below_setCell0 ?_ (by first | exact Nat.le_refl _ | (simp; done) | omega | (simp; omega)) _))⟩
theorem Blk.new_at {w : World} {g : Nat} (h : w.heap.size = g) (t : TypeId) (cs : List Value) : Blk (w.alloc (.cells cs.toArray t)) g t cs := by subst h; exact Blk.new _ _ _
theorem Copied.far_lt {w : World} {g : Nat} {L : List (List Int)} (h : Copied w g L) {p : Addr} (hp : p.block < g) (u : Value) : Copied (w.setCell p u) g L := by
  obtain ⟨cs, h0, h1, h2⟩ := h
  refine ⟨cs, h0, h1.far (by omega) u, fun j x hx => ?_⟩
  obtain ⟨q, a, b, c⟩ := h2 j x hx
  exact ⟨q, a, b, c.far (by omega) u⟩
set_option maxHeartbeats 1000000 in
theorem toFigure_any (nm : ByteArray) (B : Option Addr) (p q : Nat) (L : List (List Int)) (w : World) (hp : L.length = p) (hp2 : p + tot L ≤ 1048576) (hB : Lists w B L) :
    Calls Tryd.prog 22 #[.agg #[.string nm, .slice B p q]] w fun e w' => ∃ g, e = .returned (.agg #[.string nm, .slice (some ⟨g, 0, none⟩) p p]) ∧ Copied w' g L ∧ w.heap.size ≤ g ∧ Below w.heap.size w w' := by
  go_enter Tryd.func22, Tryd.ntmps22
  go_wp2_with (fail)
  refine calls_named ?_
  intro W1 hW1
  have hb1 : Below w.heap.size w W1 := by rw [hW1]; exact (by repeat (first | exact Below.refl _ _ | refine below_alloc ?_ _ | refine below_drewN0 ?_ _ | refine below_drew0 ?_ | refine below_step ?_ (by assumption) | refine below_later ?_ _ | refine below_setCell0 ?_ (by first | exact Nat.le_refl _ | (simp; done) | omega | (simp; omega)) _))
  have hR : Blk W1 (w.heap.size + 1) 40 [.string ⟨#[]⟩, .slice none 0 0] := by rw [hW1]; exact (Blk.new_at (by simp) _ _).alloc _
  have hX : Blk W1 (w.heap.size + 1 + 1) 40 [.string nm, .slice none 0 0] := by rw [hW1]; exact Blk.new_at (by simp) _ _
  have hW1s : w.heap.size ≤ W1.heap.size := hb1.size
  clear hW1
  refine (toInt64SS_any B p q L W1 hp hp2 (hB.below hb1)).mono ?_
  rintro e w2 ⟨rfl, hC, hb2⟩
  have hR2 := hR.keep hb2
  have hX2 := hX.keep hb2
  have r0 : w2.cell? ⟨w.heap.size + 1, 0, none⟩ = some (.string ⟨#[]⟩) := by rw [hR2.cell]; rfl
  have r1 : w2.cell? ⟨w.heap.size + 1, 1, none⟩ = some (.slice none 0 0) := by rw [hR2.cell]; rfl
  have x0 : w2.cell? ⟨w.heap.size + 1 + 1, 0, none⟩ = some (.string nm) := by rw [hX2.cell]; rfl
  have x1 : w2.cell? ⟨w.heap.size + 1 + 1, 1, none⟩ = some (.slice none 0 0) := by rw [hX2.cell]; rfl
  have fr0 := hR2.frozen 0
  have fr1 := hR2.frozen 1
  have fx0 := hX2.frozen 0
  have fx1 := hX2.frozen 1
  have hRl := hR.lt
  have hXl := hX.lt
  clear hR hX hR2 hX2 hB hp hp2
  go_wp2_with (fail)
  refine bodyPost_ret (v := .agg #[.string nm, .slice (some ⟨W1.heap.size, 0, none⟩) p p]) (by simp [results, Tryd.results22, go_sem, *]) rfl ⟨W1.heap.size, rfl, ?_, hW1s, ?_⟩
  · exact (hC.far_lt (by show w.heap.size + 1 + 1 < _; omega) _).far_lt (by show w.heap.size + 1 < _; omega) _ |>.far_lt (by show w.heap.size + 1 < _; omega) _
  · exact below_setCell0 (below_setCell0 (below_setCell0 (below_step hb1 hb2) (by show w.heap.size ≤ w.heap.size + 1 + 1; omega) _) (by show w.heap.size ≤ w.heap.size + 1; omega) _) (by show w.heap.size ≤ w.heap.size + 1; omega) _
end Go.Proofs.YtbpjnopnhmoigaaDoor
