/- Contracts of the functions that ask whether a figure is valid; figures copied and held against one another. -/
import Derived.Test.YtbpjnopnhmoigaaDoorFigs
import Derived.Test.YtbpjnopnhmoigaaDoorSta
import Derived.Deep.RegionHeld3
namespace Go.Proofs.YtbpjnopnhmoigaaDoor
set_option linter.unusedVariables false
set_option linter.unusedSimpArgs false
open Go.RowKit
/-- -1, 0 or 1 -/
def cmpZ (a b : Int) : Int := if a < b then -1 else if b < a then 1 else 0
theorem cmpZ_gt {a b : Int} (h : b < a) : cmpZ a b = 1 := by rw [cmpZ, if_neg (by omega), if_pos h]
theorem cmpZ_eq {a b : Int} (h : b ≤ a) (k : a ≤ b) : cmpZ a b = 0 := by rw [cmpZ, if_neg (by omega), if_neg (by omega)]
theorem ints_two {w : World} {A : Option Addr} {a b : Int} (h : Ints w A [a, b]) : ∃ p o, A = some ⟨p, o, none⟩ ∧ w.cell? ⟨p, o, none⟩ = some (.int .i64 a) ∧ w.cell? ⟨p, o + 1, none⟩ = some (.int .i64 b) := by
  obtain ⟨p, o, e, hc⟩ := h (by simp)
  exact ⟨p, o, e, by simpa using hc 0 a rfl, by simpa using hc 1 b rfl⟩
theorem len_two {x : List Int} (h : x.length = 2) : ∃ a b : Int, x = [a, b] := by
  match x, h with
  | [a, b], _ => exact ⟨a, b, rfl⟩
set_option maxHeartbeats 400000 in
theorem cmpInt_any (a b : Int) (w : World) :
    Calls Tryd.prog 80 #[.int .i64 a, .int .i64 b] w fun e w' => e = .returned (.int .i64 (cmpZ a b)) ∧ w = w' := by
  by_cases h1 : a < b
  · go_enter Tryd.func80, Tryd.ntmps80
    go_wp2
    go_ret
    exact ⟨ret_int (by rw [cmpZ, if_pos h1]), rfl⟩
  · by_cases h2 : b < a
    · go_enter Tryd.func80, Tryd.ntmps80
      go_wp2
      go_ret
      exact ⟨ret_int ((cmpZ_gt (by omega)).symm), rfl⟩
    · go_enter Tryd.func80, Tryd.ntmps80
      go_wp2
      go_ret
      exact ⟨ret_int ((cmpZ_eq (by omega) (by omega)).symm), rfl⟩
/-- how two lists of two numbers compare -/
def cmp2 (a b c d : Int) : Int := if a = c then cmpZ b d else cmpZ a c
theorem cmp2_lt (a b c d : Int) : cmp2 a b c d < 0 ↔ lineLt [a, b] [c, d] = true := by
  rw [lineLt_mk]
  simp only [cmp2, cmpZ, Bool.or_eq_true, Bool.and_eq_true, decide_eq_true_eq]
  repeat' split
  all_goals omega
set_option maxHeartbeats 1000000 in
theorem cmpRows_any (A A' : Option Addr) (c c' : Nat) (a b a' b' : Int) (w : World) (hS : Ints w A [a, b]) (hS' : Ints w A' [a', b']) :
    Calls Tryd.prog 150 #[.slice A 2 c, .slice A' 2 c'] w fun e w' => e = .returned (.int .i64 (cmp2 a b a' b')) ∧ w = w' := by
  obtain ⟨p, o, rfl, c0, c1⟩ := ints_two hS
  obtain ⟨p', o', rfl, d0, d1⟩ := ints_two hS'
  clear hS hS'
  by_cases h : a = a'
  · have hz : cmpZ a a' = 0 := by rw [h]; simp [cmpZ]
    have HC : Hid (cmp2 a b a' b' = cmpZ b b') := Lib.hid (by rw [cmp2, if_pos h])
    have C0 : Hid (∀ W, Calls Tryd.prog 80 #[.int .i64 a, .int .i64 a'] W fun e w' => e = .returned (.int .i64 0) ∧ W = w') := Lib.hid (fun W => by rw [← hz]; exact cmpInt_any a a' W)
    have C1 : Hid (∀ W, Calls Tryd.prog 80 #[.int .i64 b, .int .i64 b'] W fun e w' => e = .returned (.int .i64 (cmpZ b b')) ∧ W = w') := Lib.hid (fun W => cmpInt_any b b' W)
    clear h hz
    generalize cmpZ b b' = r at *
    go_enter Tryd.func150, Tryd.ntmps150
    go_wp2
    go_loop [11] (fun i => ∃ k : Nat, k ≤ 2 ∧ i = .int .i64 k ∧ (k = 2 → r = 0)) (fun i => 2 - (intOf i).toNat)
    case atStart => exact ⟨0, by omega, rfl, fun h => by omega⟩
    case round =>
      obtain ⟨k, hk, rfl, hr⟩ := hrel
      rcases k with _ | _ | _ | k
      · have HR := Lib.hid hr; clear hr
        simp only [Int.natCast_zero]
        go_wp2_with (refine (C0.out _).mono ?_; rintro e w' ⟨rfl, rfl⟩)
        go_round
        case rel => exact ⟨1, by omega, by go_num, fun h => by omega⟩
        case measure => simp [intOf]
      · have HR := Lib.hid hr; clear hr
        simp only [Nat.zero_add, Int.natCast_one]
        by_cases hr0 : r = 0
        · subst hr0
          go_wp2_with (refine (C1.out _).mono ?_; rintro e w' ⟨rfl, rfl⟩)
          go_round
          case rel => exact ⟨2, by omega, by go_num, fun h => by first | rfl | trivial⟩
          case measure => simp [intOf]
        · have hr1 : (r == 0) = false := by simpa using hr0
          go_wp2_with (refine (C1.out _).mono ?_; rintro e w' ⟨rfl, rfl⟩)
          go_ret
          exact ⟨ret_int (by rw [HC.out]), rfl⟩
      · have HR := Lib.hid (hr rfl); clear hr
        simp only [Nat.zero_add, Nat.reduceAdd]
        go_wp2
        go_ret
        exact ⟨ret_int (by rw [HC.out, HR.out]), rfl⟩
      · omega
  · have hz : (cmpZ a a' == 0) = false := by
      simp only [cmpZ, beq_eq_false_iff_ne]; repeat' split
      all_goals omega
    have HC : Hid (cmp2 a b a' b' = cmpZ a a') := Lib.hid (by rw [cmp2, if_neg h])
    have C0 : Hid (∀ W, Calls Tryd.prog 80 #[.int .i64 a, .int .i64 a'] W fun e w' => e = .returned (.int .i64 (cmpZ a a')) ∧ W = w') := Lib.hid (fun W => cmpInt_any a a' W)
    clear h
    generalize cmpZ a a' = r at *
    go_enter Tryd.func150, Tryd.ntmps150
    go_wp2
    go_loop [11] (fun i => i = .int .i64 0) (fun i => 2 - (intOf i).toNat)
    case atStart => rfl
    case round =>
      subst hrel
      go_wp2_with (refine (C0.out _).mono ?_; rintro e w' ⟨rfl, rfl⟩)
      go_ret
      exact ⟨ret_int (by rw [HC.out]), rfl⟩
set_option maxRecDepth 100000 in
set_option maxHeartbeats 4000000 in
theorem validLines_any (A : Option Addr) (n c : Nat) (L : List (List Int)) (m : Int) (w : World) (hl : L.length = n) (hn : n ≤ 9223372036854775807) (hS : Lists w A L) :
    Calls Tryd.prog 118 #[.slice A n c, .int .i64 m] w fun e w' => e = .returned (.bool (vLines m L)) ∧ Below w.heap.size w w' := by
  have HL := Lib.hid hl; clear hl
  by_cases h16 : n ≤ 16
  · go_enter Tryd.func118, Tryd.ntmps118
    go_wp2
    go_loopw [5, 6, 12] (fun a p i wr => ∃ k : Nat, k ≤ n ∧ i = .int .i64 k ∧ lnUpto m L k = true ∧ Below w.heap.size w wr) (fun _ _ i _ => n - (intOf i).toNat)
    case atStart => exact ⟨0, by omega, rfl, rfl, Below.refl _ _⟩
    case round =>
      obtain ⟨k, hk, rfl, hok, hb⟩ := hrel
      have HOK := Lib.hid hok; clear hok
      by_cases hlt : k < n
      · obtain ⟨x, hx⟩ := at_lt (l := L) (k := k) (by have := HL.out; omega)
        obtain ⟨b, o, rfl, hc⟩ := hS.below hb (by have := HL.out; omega)
        obtain ⟨A1, c1, e0, e1, e2, e3, e4⟩ := hc k x hx
        have l0 := World.block_lt_of_cell? wr _ e0
        by_cases h2 : x.length = 2
        · obtain ⟨u, v, rfl⟩ := len_two h2
          obtain ⟨b1, o1, rfl, q0, q1⟩ := ints_two e4
          have l1 := World.block_lt_of_cell? wr _ q0
          dsimp only at l0 l1
          simp only [List.length_cons, List.length_nil, Nat.zero_add, Nat.reduceAdd] at e0 e1
          have hc2 : (2 : Int) ≤ (c1 : Int) := by omega
          have HE4 := Lib.hid e4
          clear h2 e2 e3 e4
          have hbad : ¬ (0 ≤ u ∧ u < v ∧ v < m) → vLines m L = false := fun h => vLines_no (k := k) (by have := HL.out; omega) (by
            have : lineOk m [u, v] = false := by rw [lineOk_mk]; simp only [Bool.and_eq_false_iff, decide_eq_false_iff_not]; omega
            rcases k with _ | j
            · rw [lnAt_zero hx, this]
            · obtain ⟨z, hz⟩ := at_lt (l := L) (k := j) (by have := HL.out; omega)
              rw [lnAt_succ hx hz, this]; rfl)
          have HB := Lib.hid hbad; clear hbad
          by_cases t1 : u < 0
          · have t1' : decide (u < 0) = true := by simpa using t1
            have HB2 := Lib.hid (HB.out (by omega))
            clear hc hx
            go_wp2_with (fail)
            (refine later_intro_wp ?_; intro y)
            (refine wp_region_later (by kernel_rfl) (by kernel_rfl) ?_; (repeat (first | go_big_quiet_step ((fail)) | quiet_step ((fail)))); refine wpQuiet_nil ?_; rintro _ ⟨y, rfl⟩)
            go_wp2_with (fail)
            go_ret
            exact ⟨ret_bool (by rw [HB2.out]), below_later hb _⟩
          · have t1' : decide (u < 0) = false := by simpa using t1
            by_cases t2 : v ≤ u
            · have t2' : decide (v ≤ u) = true := by simpa using t2
              have HB2 := Lib.hid (HB.out (by omega))
              clear hc hx
              go_wp2_with (fail)
              (refine later_intro_wp ?_; intro y)
              (refine wp_region_later (by kernel_rfl) (by kernel_rfl) ?_; (repeat (first | go_big_quiet_step ((fail)) | quiet_step ((fail)))); refine wpQuiet_nil ?_; rintro _ ⟨y, rfl⟩)
              go_wp2_with (fail)
              go_ret
              exact ⟨ret_bool (by rw [HB2.out]), below_later hb _⟩
            · have t2' : decide (v ≤ u) = false := by simpa using t2
              by_cases t3 : m ≤ v
              · have t3' : decide (m ≤ v) = true := by simpa using t3
                have HB2 := Lib.hid (HB.out (by omega))
                clear hc hx
                go_wp2_with (fail)
                (refine later_intro_wp ?_; intro y)
                (refine wp_region_later (by kernel_rfl) (by kernel_rfl) ?_; (repeat (first | go_big_quiet_step ((fail)) | quiet_step ((fail)))); refine wpQuiet_nil ?_; rintro _ ⟨y, rfl⟩)
                go_wp2_with (fail)
                go_ret
                exact ⟨ret_bool (by rw [HB2.out]), below_later hb _⟩
              · have t3' : decide (m ≤ v) = false := by simpa using t3
                have hok : lineOk m [u, v] = true := by rw [lineOk_mk]; simp only [Bool.and_eq_true, decide_eq_true_eq]; omega
                clear HB
                rcases k with _ | k
                · have HX := Lib.hid (lnAt_zero (n := m) hx)
                  have HK := Lib.hid hok
                  clear hc hx hok
                  simp only [Int.natCast_zero]
                  simp only [Nat.add_zero] at e0
                  go_wp2_with (fail)
                  (refine later_intro_wp ?_; intro y)
                  (refine wp_region_later (by kernel_rfl) (by kernel_rfl) ?_; (repeat (first | go_big_quiet_step ((fail)) | quiet_step ((fail)))); refine wpQuiet_nil ?_; rintro _ ⟨y, rfl⟩)
                  go_wp2_with (fail)
                  go_roundw
                  case rel => exact ⟨0 + 1, by omega, by go_num, by rw [lnUpto_succ, HOK.out, HX.out, HK.out]; rfl, below_later hb _⟩
                  case measure => simp [intOf]; omega
                · obtain ⟨z, hz⟩ := at_lt (l := L) (k := k) (by have := HL.out; omega)
                  obtain ⟨u', v', rfl, _, _, _⟩ := lineOk_two (lnUpto_ok HOK.out (Nat.lt_succ_self k) hz)
                  obtain ⟨A2, c2, d0, d1, d2, d3, d4⟩ := hc k _ hz
                  have l2 := World.block_lt_of_cell? wr _ d0
                  dsimp only at l2
                  simp only [List.length_cons, List.length_nil, Nat.zero_add, Nat.reduceAdd] at d0 d1
                  have HX : Hid (lnAt m L (k + 1) = lineLt [u', v'] [u, v]) := Lib.hid (by rw [lnAt_succ hx hz, hok]; rfl)
                  have hc1 : ((k + 1 : Nat) : Int) = (k : Int) + 1 := by omega
                  rw [hc1]
                  have hk1 : (0 : Int) < (k : Int) + 1 := by omega
                  have C1 : Hid (∀ W, Below wr.heap.size wr W → Calls Tryd.prog 150 #[.slice A2 2 c2, .slice (some ⟨b1, o1, none⟩) 2 c1] W fun e w' => e = .returned (.int .i64 (cmp2 u' v' u v)) ∧ W = w') := Lib.hid (fun W hW => cmpRows_any A2 _ c2 c1 u' v' u v W (d4.below hW) (HE4.out.below hW))
                  have HK := Lib.hid (cmp2_lt u' v' u v)
                  generalize cmp2 u' v' u v = r at *
                  generalize lineLt [u', v'] [u, v] = lt at *
                  clear hc hx hz hok d2 d3 d4 hc1
                  by_cases hr : r < 0
                  · have hr0 : ¬ 0 ≤ r := by omega
                    have hr' : decide (0 ≤ r) = false := by simpa using hr0
                    go_wp2_with (fail)
                    (refine later_intro_wp ?_; intro y)
                    (refine wp_region_later (by kernel_rfl) (by kernel_rfl) ?_; (repeat (first | go_big_quiet_step ((fail)) | quiet_step ((fail)))); refine wpQuiet_nil ?_; rintro _ ⟨y, rfl⟩)
                    go_wp2_with (refine (C1.out _ (Later.below _)).mono ?_; rintro e w' ⟨rfl, rfl⟩)
                    go_roundw
                    case rel => exact ⟨k + 1 + 1, by omega, by go_num, by rw [lnUpto_succ, HOK.out, HX.out, HK.out.1 hr]; rfl, below_later hb _⟩
                    case measure => simp [intOf]; omega
                  · have hr0 : 0 ≤ r := by omega
                    have hr' : decide (0 ≤ r) = true := by simpa using hr0
                    go_wp2_with (fail)
                    (refine later_intro_wp ?_; intro y)
                    (refine wp_region_later (by kernel_rfl) (by kernel_rfl) ?_; (repeat (first | go_big_quiet_step ((fail)) | quiet_step ((fail)))); refine wpQuiet_nil ?_; rintro _ ⟨y, rfl⟩)
                    go_wp2_with (refine (C1.out _ (Later.below _)).mono ?_; rintro e w' ⟨rfl, rfl⟩)
                    go_ret
                    exact ⟨ret_bool (by rw [vLines_no (k := k + 1) (by have := HL.out; omega) (by
                      rw [HX.out]
                      cases hh : lt with
                      | false => rfl
                      | true => have := HK.out.2 hh; omega)]), below_later hb _⟩
        · have HB : Hid (vLines m L = false) := Lib.hid (vLines_no (k := k) (by have := HL.out; omega) (by
            have h3 := lineOk_len (n := m) h2
            rcases k with _ | j
            · rw [lnAt_zero hx, h3]
            · obtain ⟨z, hz⟩ := at_lt (l := L) (k := j) (by have := HL.out; omega)
              rw [lnAt_succ hx hz, h3]; rfl))
          have hne : ((x.length : Int) == 2) = false := by simp; omega
          have hne2 : ((x.length : Int) != 2) = true := by simp; omega
          clear hc hx e1 e3 e4 h2
          generalize x.length = q at *
          dsimp only at l0
          go_wp2_with (fail)
          (refine later_intro_wp ?_; intro y)
          (refine wp_region_later (by kernel_rfl) (by kernel_rfl) ?_; (repeat (first | go_big_quiet_step ((fail)) | quiet_step ((fail)))); refine wpQuiet_nil ?_; rintro _ ⟨y, rfl⟩)
          go_wp2_with (fail)
          go_ret
          exact ⟨ret_bool (by rw [HB.out]), below_later hb _⟩
      · obtain rfl : k = n := by omega
        go_wp2
        go_ret
        exact ⟨ret_bool (by rw [vLines_yes (by have := HL.out; omega) (by rw [HL.out]; exact HOK.out)]), hb⟩
  · go_enter Tryd.func118, Tryd.ntmps118
    go_wp2
    go_ret
    exact ⟨ret_bool (by rw [vLines_long (by have := HL.out; omega)]), Below.refl _ _⟩
end Go.Proofs.YtbpjnopnhmoigaaDoor
