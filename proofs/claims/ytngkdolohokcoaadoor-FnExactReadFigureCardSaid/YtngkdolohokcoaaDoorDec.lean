/- The reference's decimal numbers. -/
import Derived.Test.YtngkdolohokcoaaDoorTxt
namespace Go.Proofs.YtngkdolohokcoaaDoor
set_option linter.unusedVariables false
set_option linter.unusedSimpArgs false
open Go.RowKit
set_option maxHeartbeats 4000000 in
theorem l01Dec_any (n : Int) (w : World) (h : I64 n) :
    Calls Tryd.prog 75 #[.int .i64 n] w fun e w' => e = .returned (.string (tx (Lib.itoa n))) ∧ Below w.heap.size w w' := by
  obtain ⟨h1, h2⟩ := id h
  have hE := OwnB.empty w w.heap.size (Nat.le_refl _)
  have hb0 : Below w.heap.size w (w.alloc (.cells #[] 5)) := below_alloc (Below.refl _ _) _
  by_cases hz : n = 0
  · subst hz
    go_enter Tryd.func75, Tryd.ntmps75
    go_wp2_with (fail)
    go_ret
    exact ⟨(ret_str (l := Lib.itoa 0) (by show [48] = Lib.itoa 0; rw [show (0 : Int) = ((0 : Nat) : Int) from rfl, itoa_of_nat, Lib.decDigits_one (by omega)]; rfl)), Below.refl _ _⟩
  have hz' : (n == 0) = false := by rw [beq_eq_false_iff_ne]; exact hz
  by_cases hs : n < 0
  · go_enter Tryd.func75, Tryd.ntmps75
    go_wp2_with (fail)
    go_loopw [3, 4, 5] (fun s3 s4 _ wr => ∃ (q : Nat) (v : Value) (ds : List UInt8), s4 = .int .i64 (-(q : Int)) ∧ v = s3 ∧ OwnB wr w.heap.size v ds ∧ ds ++ revD q = revD n.natAbs ∧ q ≤ n.natAbs ∧ ds.length ≤ 20 ∧ Below w.heap.size w wr) (fun _ s4 _ _ => (intOf s4).natAbs)
    case atStart => exact ⟨n.natAbs, _, [], by congr 1; omega, rfl, hE, rfl, by omega, by simp, hb0⟩
    case round =>
      clear hE hb0
      obtain ⟨q, v, ds, rfl, rfl, hO, hds, hq, hdl, hb⟩ := hrel
      have HDS := Lib.hid hds
      clear hds
      by_cases h0 : q = 0
      · subst h0
        have HD : Hid (ds = revD n.natAbs) := Lib.hid (by have := HDS.out; rwa [revD_zero, List.append_nil] at this)
        have hz : (((-(0 : Int)) != 0) = false) := by decide
        simp only [Int.natCast_zero] at hz ⊢
        have HL1 : Hid (ds.length ≤ 1099511627776) := Lib.hid (by omega)
        have hsz := hb.size
        have hlt := fun k hk => hO.lt k hk
        go_wp2_with (at_builtin; refine wpList_app_byte rfl (.tmp 30) (.tmp 31) rfl w.heap.size v ds 45 wr.heap.size 1 rfl rfl (hO.alloc _) (by simp [go_sem]) HL1.out (by simp; omega) ?_; intro v6 W6 hO6 hg6 _; obtain ⟨g6, cap6, N, rfl, hN, hbg6, hgl6, hlc6, hcm6, hcell6⟩ := hO6.form1 (by simp); have HN := Lib.hid hN; have HC6 := Lib.hid hcell6; clear hN hcell6; have hN1 : 1 ≤ N := (by have := HN.out; rw [List.length_append] at this; simp at this; omega); have hN2 : N ≤ 21 := (by have := HN.out; rw [List.length_append] at this; simp at this; omega); have hbW : Below w.heap.size w W6 := below_of_grown (below_alloc hb _) hg6 (by simp; omega) (fun k hk => (hlt k hk).1); clear hO6 hg6)
        have HREV : Hid ((ds ++ [45]).reverse = Lib.itoa n) := Lib.hid (by
          rw [List.reverse_append, HD.out, revD_dec _ (by omega)]
          conv => rhs; rw [show n = -((n.natAbs : Nat) : Int) by omega]
          rw [Lib.itoa_neg _ (by omega)]; rfl)
        generalize ds ++ [45] = D at *
        have hE := OwnB.empty W6 W6.heap.size (Nat.le_refl _)
        have hb9 : Below W6.heap.size W6 (W6.alloc (.cells #[] 5)) := below_alloc (Below.refl _ _) _
        go_loopw [6, 7] (fun s6 s7 wr => ∃ (p : Nat) (v : Value), p ≤ N ∧ s7 = .int .i64 ((p : Int) - 1) ∧ v = s6 ∧ OwnB wr W6.heap.size v (D.reverse.take (N - p)) ∧ Below W6.heap.size W6 wr) (fun _ s7 _ => (intOf s7 + 1).toNat)
        case atStart => exact ⟨N, _, by omega, rfl, rfl, by rw [Nat.sub_self]; exact hE, hb9⟩
        case round =>
          clear hE hb9
          obtain ⟨p, v, hp, rfl, rfl, hO, hb9⟩ := hrel
          rcases p with _ | p
          · have HF : Hid (D.reverse.take (N - 0) = D.reverse) := Lib.hid (List.take_of_length_le (by rw [List.length_reverse, HN.out]; omega))
            rw [HF.out] at hO
            have hct := hO.text
            have hm1 : ((0 : Nat) : Int) - 1 = -1 := rfl
            rw [hm1]
            go_wp2_with (fail)
            go_ret
            exact ⟨by rw [HREV.out]; rfl, below_step hbW hb9⟩
          · obtain ⟨y, hy⟩ := at_lt (l := D) (k := p) (by have := HN.out; omega)
            have c0 : wr.cell? ⟨g6, p, none⟩ = some (.int .u8 y.toNat) := by rw [hb9.cell (p := ⟨g6, p, none⟩) (by exact hgl6)]; exact HC6.out p y hy
            have hgl9 : g6 < wr.heap.size := Nat.lt_of_lt_of_le hgl6 hb9.size
            have HS : Hid (D.reverse.take (N - (p + 1)) ++ [y] = D.reverse.take (N - p)) := Lib.hid (by
              rw [show N - p = (N - (p + 1)) + 1 by omega, List.take_add_one]
              congr 1
              rw [List.getElem?_reverse (by rw [HN.out]; omega), HN.out, show N - 1 - (N - (p + 1)) = p by omega, hy]; rfl)
            have HL1 : Hid ((D.reverse.take (N - (p + 1))).length ≤ 1099511627776) := Lib.hid (by rw [List.length_take]; omega)
            have hs9 := hb9.size
            have hpN : (p : Int) < (N : Int) := by omega
            have hm1 : ((p + 1 : Nat) : Int) - 1 = (p : Int) := by omega
            rw [hm1]
            clear hy
            go_wp2_with (at_builtin; refine wpList_app_byte rfl (.tmp 41) (.tmp 46) rfl W6.heap.size v (D.reverse.take (N - (p + 1))) y wr.heap.size 1 rfl rfl (hO.alloc _) (by simp [go_sem]) HL1.out (by simp; omega) ?_; intro v8 w8 hO8 hg8 _)
            have hb8 := below_of_grown (below_alloc hb9 _) hg8 (by simp; omega) (fun k hk => (hO.lt k hk).1)
            rw [HS.out] at hO8
            go_roundw
            case rel => exact ⟨p, v8, by omega, rfl, rfl, hO8, hb8⟩
            case measure => simp [intOf]
      · have hz : ((-(q : Int)) != 0) = true := by rw [bne_iff_ne]; omega
        have HSTEP : Hid ((ds ++ [UInt8.ofNat (48 + q % 10)]) ++ revD (q / 10) = revD n.natAbs) := Lib.hid (by rw [← HDS.out, revD_pos h0]; simp)
        have hlen2 : (ds ++ [UInt8.ofNat (48 + q % 10)]).length ≤ 20 := by
          have h1 := congrArg List.length HSTEP.out
          have h2 := revD_len n.natAbs (by have := h.1; have := h.2; omega)
          rw [List.length_append] at h1
          omega
        have HL1 : Hid (ds.length ≤ 1099511627776) := Lib.hid (by omega)
        have hlt := fun k hk => hO.lt k hk
        have HBY : Hid ((UInt8.ofNat (48 + q % 10)).toNat = 48 + q % 10) := Lib.hid (ofNat_toNat (by omega))
        have hsz := hb.size
        have e1 : (-(q : Int)).tmod 10 = -((q % 10 : Nat) : Int) := by rw [Int.neg_tmod, Int.tmod_eq_emod_of_nonneg (by omega)]; omega
        have e2 : (-(q : Int)).tdiv 10 = -((q / 10 : Nat) : Int) := by rw [Int.neg_tdiv, Int.tdiv_eq_ediv_of_nonneg (by omega)]; omega
        have w1 : -9223372036854775808 ≤ -((q % 10 : Nat) : Int) := by omega
        have hq10 : q % 10 < 10 := Nat.mod_lt _ (by omega)
        by_cases hd : q % 10 = 0
        · have hd' : decide (-((q % 10 : Nat) : Int) < 0) = false := by rw [decide_eq_false_iff_not]; omega
          go_wp2_with (at_builtin; refine wpList_app_byte rfl (.tmp 22) (.tmp 26) rfl w.heap.size v ds (UInt8.ofNat (48 + q % 10)) wr.heap.size 1 rfl rfl (hO.alloc _) (by rw [HBY.out]; simp [go_sem]; try omega) HL1.out (by simp; omega) ?_; intro v6 w6 hO6 hg6 _)
          have hb6 := below_of_grown (below_alloc hb _) hg6 (by simp; omega) (fun k hk => (hlt k hk).1)
          go_roundw
          case rel => exact ⟨q / 10, v6, _, by first | rfl | (congr 1; omega), rfl, hO6, HSTEP.out, by omega, hlen2, hb6⟩
          case measure => simp [intOf]; omega
        · have hd' : decide (-((q % 10 : Nat) : Int) < 0) = true := by rw [decide_eq_true_eq]; omega
          go_wp2_with (at_builtin; refine wpList_app_byte rfl (.tmp 22) (.tmp 26) rfl w.heap.size v ds (UInt8.ofNat (48 + q % 10)) wr.heap.size 1 rfl rfl (hO.alloc _) (by rw [HBY.out]; simp [go_sem]; try omega) HL1.out (by simp; omega) ?_; intro v6 w6 hO6 hg6 _)
          have hb6 := below_of_grown (below_alloc hb _) hg6 (by simp; omega) (fun k hk => (hlt k hk).1)
          go_roundw
          case rel => exact ⟨q / 10, v6, _, by first | rfl | (congr 1; omega), rfl, hO6, HSTEP.out, by omega, hlen2, hb6⟩
          case measure => simp [intOf]; omega
  · go_enter Tryd.func75, Tryd.ntmps75
    go_wp2_with (fail)
    go_loopw [3, 4, 5] (fun s3 s4 _ wr => ∃ (q : Nat) (v : Value) (ds : List UInt8), s4 = .int .i64 ((q : Int)) ∧ v = s3 ∧ OwnB wr w.heap.size v ds ∧ ds ++ revD q = revD n.natAbs ∧ q ≤ n.natAbs ∧ ds.length ≤ 20 ∧ Below w.heap.size w wr) (fun _ s4 _ _ => (intOf s4).natAbs)
    case atStart => exact ⟨n.natAbs, _, [], by congr 1; omega, rfl, hE, rfl, by omega, by simp, hb0⟩
    case round =>
      clear hE hb0
      obtain ⟨q, v, ds, rfl, rfl, hO, hds, hq, hdl, hb⟩ := hrel
      have HDS := Lib.hid hds
      clear hds
      by_cases h0 : q = 0
      · subst h0
        have HD : Hid (ds = revD n.natAbs) := Lib.hid (by have := HDS.out; rwa [revD_zero, List.append_nil] at this)
        have hz : (((0 : Int) != 0) = false) := by decide
        simp only [Int.natCast_zero] at hz ⊢
        obtain ⟨g6, cap6, N, rfl, hN, hbg6, hgl6, hlc6, hcm6, hcell6⟩ := hO.form1 (by rw [HD.out, revD_pos (by omega)]; simp)
        have HN := Lib.hid hN
        have HC6 := Lib.hid hcell6
        have hN1 : 1 ≤ N := by have := HD.out; rw [← hN, this, revD_pos (by omega)]; simp
        have hN2 : N ≤ 20 := by omega
        clear hN hcell6
        have HREV : Hid (ds.reverse = Lib.itoa n) := Lib.hid (by
          rw [HD.out, revD_dec _ (by omega)]
          conv => rhs; rw [show n = ((n.natAbs : Nat) : Int) by omega]
          rw [itoa_of_nat])
        have hbW := hb
        clear hb HDS
        generalize ds = D at *
        obtain ⟨W6, rfl⟩ : ∃ W, W = wr := ⟨_, rfl⟩
        go_wp2_with (fail)
        have hE := OwnB.empty W6 W6.heap.size (Nat.le_refl _)
        have hb9 : Below W6.heap.size W6 (W6.alloc (.cells #[] 5)) := below_alloc (Below.refl _ _) _
        go_loopw [6, 7] (fun s6 s7 wr => ∃ (p : Nat) (v : Value), p ≤ N ∧ s7 = .int .i64 ((p : Int) - 1) ∧ v = s6 ∧ OwnB wr W6.heap.size v (D.reverse.take (N - p)) ∧ Below W6.heap.size W6 wr) (fun _ s7 _ => (intOf s7 + 1).toNat)
        case atStart => exact ⟨N, _, by omega, rfl, rfl, by rw [Nat.sub_self]; exact hE, hb9⟩
        case round =>
          clear hE hb9
          obtain ⟨p, v, hp, rfl, rfl, hO, hb9⟩ := hrel
          rcases p with _ | p
          · have HF : Hid (D.reverse.take (N - 0) = D.reverse) := Lib.hid (List.take_of_length_le (by rw [List.length_reverse, HN.out]; omega))
            rw [HF.out] at hO
            have hct := hO.text
            have hm1 : ((0 : Nat) : Int) - 1 = -1 := rfl
            rw [hm1]
            go_wp2_with (fail)
            go_ret
            exact ⟨by rw [HREV.out]; rfl, below_step hbW hb9⟩
          · obtain ⟨y, hy⟩ := at_lt (l := D) (k := p) (by have := HN.out; omega)
            have c0 : wr.cell? ⟨g6, p, none⟩ = some (.int .u8 y.toNat) := by rw [hb9.cell (p := ⟨g6, p, none⟩) (by exact hgl6)]; exact HC6.out p y hy
            have hgl9 : g6 < wr.heap.size := Nat.lt_of_lt_of_le hgl6 hb9.size
            have HS : Hid (D.reverse.take (N - (p + 1)) ++ [y] = D.reverse.take (N - p)) := Lib.hid (by
              rw [show N - p = (N - (p + 1)) + 1 by omega, List.take_add_one]
              congr 1
              rw [List.getElem?_reverse (by rw [HN.out]; omega), HN.out, show N - 1 - (N - (p + 1)) = p by omega, hy]; rfl)
            have HL1 : Hid ((D.reverse.take (N - (p + 1))).length ≤ 1099511627776) := Lib.hid (by rw [List.length_take]; omega)
            have hs9 := hb9.size
            have hpN : (p : Int) < (N : Int) := by omega
            have hm1 : ((p + 1 : Nat) : Int) - 1 = (p : Int) := by omega
            rw [hm1]
            clear hy
            go_wp2_with (at_builtin; refine wpList_app_byte rfl (.tmp 41) (.tmp 46) rfl W6.heap.size v (D.reverse.take (N - (p + 1))) y wr.heap.size 1 rfl rfl (hO.alloc _) (by simp [go_sem]) HL1.out (by simp; omega) ?_; intro v8 w8 hO8 hg8 _)
            have hb8 := below_of_grown (below_alloc hb9 _) hg8 (by simp; omega) (fun k hk => (hO.lt k hk).1)
            rw [HS.out] at hO8
            go_roundw
            case rel => exact ⟨p, v8, by omega, rfl, rfl, hO8, hb8⟩
            case measure => simp [intOf]
      · have hz : (((q : Int)) != 0) = true := by rw [bne_iff_ne]; omega
        have HSTEP : Hid ((ds ++ [UInt8.ofNat (48 + q % 10)]) ++ revD (q / 10) = revD n.natAbs) := Lib.hid (by rw [← HDS.out, revD_pos h0]; simp)
        have hlen2 : (ds ++ [UInt8.ofNat (48 + q % 10)]).length ≤ 20 := by
          have h1 := congrArg List.length HSTEP.out
          have h2 := revD_len n.natAbs (by have := h.1; have := h.2; omega)
          rw [List.length_append] at h1
          omega
        have HL1 : Hid (ds.length ≤ 1099511627776) := Lib.hid (by omega)
        have hlt := fun k hk => hO.lt k hk
        have HBY : Hid ((UInt8.ofNat (48 + q % 10)).toNat = 48 + q % 10) := Lib.hid (ofNat_toNat (by omega))
        have hsz := hb.size
        have hq10 : q % 10 < 10 := Nat.mod_lt _ (by omega)
        go_wp2_with (at_builtin; refine wpList_app_byte rfl (.tmp 22) (.tmp 26) rfl w.heap.size v ds (UInt8.ofNat (48 + q % 10)) wr.heap.size 1 rfl rfl (hO.alloc _) (by rw [HBY.out]; simp [go_sem]; try omega) HL1.out (by simp; omega) ?_; intro v6 w6 hO6 hg6 _)
        have hb6 := below_of_grown (below_alloc hb _) hg6 (by simp; omega) (fun k hk => (hlt k hk).1)
        go_roundw
        case rel => exact ⟨q / 10, v6, _, by first | rfl | (congr 1; omega), rfl, hO6, HSTEP.out, by omega, hlen2, hb6⟩
        case measure => simp [intOf]; omega
end Go.Proofs.YtngkdolohokcoaaDoor
