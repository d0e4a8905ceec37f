/- Contracts of the functions on lists of stars: how they are copied, held against one another, asked whether they are valid. -/
import Derived.Test.YtpnfhienffekoaaGreatDoorGrpNum
import Derived.Test.YtpnfhienffekoaaGreatDoorStars
import Derived.Deep.MidRow
namespace Go.Proofs.YtpnfhienffekoaaGreatDoor
set_option linter.unusedVariables false
set_option linter.unusedSimpArgs false
open Go.RowKit
theorem zeroStas_made (z : Array Value) (hz : z = #[.string ByteArray.empty, .int .i64 0, .int .i64 0, .int .i64 0, .int .i64 0]) (n : Nat) : madeCells z (n * 5) = (staCells (List.replicate n ⟨ByteArray.empty, 0, 0, 0, 0⟩)).toArray := by
  apply Array.ext_getElem?
  intro j
  have hs : z.size = 5 := by rw [hz]; rfl
  by_cases hj : j < n * 5
  · have h1 : (madeCells z (n * 5))[j]? = some z[j % 5]! := by
      simp [madeCells, hs, hj]
    have hx : (List.replicate n (⟨ByteArray.empty, 0, 0, 0, 0⟩ : Sta))[j / 5]? = some ⟨ByteArray.empty, 0, 0, 0, 0⟩ := by
      rw [List.getElem?_replicate, if_pos (by omega)]
    have h2 := staCells_at hx (j % 5) (Nat.mod_lt _ (by omega))
    rw [show j / 5 * 5 + j % 5 = j by omega] at h2
    rw [h1, List.getElem?_toArray, h2, hz]
    have : j % 5 < 5 := Nat.mod_lt _ (by omega)
    rcases h : j % 5 with _ | _ | _ | _ | _ | k
    · rfl
    · rfl
    · rfl
    · rfl
    · rfl
    · omega
  · rw [Array.getElem?_eq_none (by rw [size_madeCells]; omega), List.getElem?_toArray, List.getElem?_eq_none (by rw [staCells_length]; simp; omega)]
theorem take_set {α : Type} {ys l : List α} {k : Nat} {x : α} (h : ys.take k = l.take k) (hx : l[k]? = some x) (hk : k < ys.length) : (ys.set k x).take (k + 1) = l.take (k + 1) := by
  rw [List.take_add_one, List.take_add_one, List.getElem?_set_self hk, hx, List.take_set, List.set_eq_of_length_le (by simp; omega), h]
/-- what szStar answers -/
def szI (s : Nat) (left : Int) : Int := if left - s < 0 then -1 else left - s
theorem szI_bd (s : Nat) (r : Int) : szI s r = -1 ∨ (0 ≤ szI s r ∧ szI s r ≤ r) := by unfold szI; split <;> omega
def SzPost (n : Nat) (left : Int) (w : World) (e : Ending) (w' : World) : Prop := ∃ r : Int, e = .returned (.int .i64 r) ∧ (r < 0 ∨ 0 ≤ r ∧ r ≤ left ∧ (n : Int) ≤ left) ∧ Below w.heap.size w w'
theorem info_star : (Tryz.prog.info? 46).map (fun i => (i.zero, i.size, i.bytes)) = some (some (.agg #[.string ByteArray.empty, .int .i64 0, .int .i64 0, .int .i64 0, .int .i64 0]), 5, 48) := by kernel_rfl
set_option maxHeartbeats 2000000 in
theorem ValidStars_any (A : Option Addr) (n c : Nat) (l : List Sta) (w : World) (hl : l.length = n) (hn : n ≤ 9223372036854775807) (hS : Stars w A l) :
    Calls Tryz.prog 67 #[.slice A n c] w fun e w' => e = .returned (.bool (vStars l)) ∧ Below w.heap.size w w' := by
  have HL := Lib.hid hl; clear hl
  by_cases h24 : n ≤ 24
  · go_enter Tryz.func67, Tryz.ntmps67
    go_wp2
    go_loopw [3, 4, 10] (fun a p i wr => ∃ k : Nat, k ≤ n ∧ i = .int .i64 k ∧ okUpto l k = true ∧ Below w.heap.size w wr) (fun _ _ i _ => n - (intOf i).toNat)
    case atStart => exact ⟨0, by omega, rfl, rfl, Below.refl _ _⟩
    case round =>
      obtain ⟨k, hk, rfl, hok, hb⟩ := hrel
      have HOK := Lib.hid hok; clear hok
      by_cases hlt : k < n
      · obtain ⟨x, hx⟩ := at_lt (l := l) (k := k) (by have := HL.out; omega)
        obtain ⟨b, o, rfl, hc⟩ := hS.below hb (by have := HL.out; omega)
        have l0 := (hc k x hx).lt
        obtain ⟨c0, c1, c2, c3, c4⟩ := hc k x hx
        rcases k with _ | k
        · have HX := Lib.hid (okAt_zero hx)
          clear hx hc hS
          simp only [Int.natCast_zero]
          simp only [Nat.zero_mul, Nat.add_zero] at c0 c1 c2 c3 c4
          go_wp2_with (fail)
          refine wp_named ?_
          intro W1 hW1
          have hbW : Below w.heap.size w W1 := by rw [hW1]; exact below_alloc hb _
          have hz1 : wr.heap.size < W1.heap.size := by rw [hW1]; simp
          have l1 : b < W1.heap.size := by omega
          have p0 : W1.cell? ⟨wr.heap.size, 0, none⟩ = some (.string x.id) := by rw [hW1]; simp
          have p1 : W1.cell? ⟨wr.heap.size, 1, none⟩ = some (.int .i64 x.ri) := by rw [hW1]; simp
          have p2 : W1.cell? ⟨wr.heap.size, 2, none⟩ = some (.int .i64 x.de) := by rw [hW1]; simp
          have p3 : W1.cell? ⟨wr.heap.size, 3, none⟩ = some (.int .i64 x.ma) := by rw [hW1]; simp
          have p4 : W1.cell? ⟨wr.heap.size, 4, none⟩ = some (.int .i64 x.co) := by rw [hW1]; simp
          clear hW1 c0 c1 c2 c3 c4
          cases hv : x.ok with
          | false =>
            rw [hv] at HX
            have C1 : Hid (∀ W, Calls Tryz.prog 68 #[.agg #[.string x.id, .int .i64 x.ri, .int .i64 x.de, .int .i64 x.ma, .int .i64 x.co]] W fun e w' => e = .returned (.bool false) ∧ Below W.heap.size W w') := fun W => by rw [← hv]; exact ValidStar_any _ _ _ _ _ W
            clear hv
            (refine later_intro_wp ?_; intro y)
            (refine wp_region_later (by kernel_rfl) (by kernel_rfl) ?_; (repeat (first | go_big_quiet_step ((go_at_call 68; exact later_below (C1.out _))) | quiet_step ((go_at_call 68; exact later_below (C1.out _))))); refine wpQuiet_nil ?_; rintro _ ⟨y, rfl⟩)
            go_wp2_with (fail)
            go_ret
            exact ⟨ret_bool (by rw [vStars_no (by have := HL.out; omega) HX.out]), below_later hbW _⟩
          | true =>
            rw [hv] at HX
            have C1 : Hid (∀ W, Calls Tryz.prog 68 #[.agg #[.string x.id, .int .i64 x.ri, .int .i64 x.de, .int .i64 x.ma, .int .i64 x.co]] W fun e w' => e = .returned (.bool true) ∧ Below W.heap.size W w') := fun W => by rw [← hv]; exact ValidStar_any _ _ _ _ _ W
            clear hv
            (refine later_intro_wp ?_; intro y)
            (refine wp_region_later (by kernel_rfl) (by kernel_rfl) ?_; (repeat (first | go_big_quiet_step ((go_at_call 68; exact later_below (C1.out _))) | quiet_step ((go_at_call 68; exact later_below (C1.out _))))); refine wpQuiet_nil ?_; rintro _ ⟨y, rfl⟩)
            go_wp2_with (fail)
            go_roundw
            case rel => exact ⟨0 + 1, by omega, by go_num, by rw [okUpto_succ, HOK.out, HX.out]; rfl, below_later hbW _⟩
            case measure => simp [intOf]; omega
        · obtain ⟨y, hy⟩ := at_lt (l := l) (k := k) (by have := HL.out; omega)
          have HX := Lib.hid (okAt_succ hx hy)
          obtain ⟨d0, d1, d2, d3, d4⟩ := hc k y hy
          clear hx hc hS hy
          have hc1 : ((k + 1 : Nat) : Int) = (k : Int) + 1 := by omega
          rw [hc1]
          go_wp2_with (fail)
          refine wp_named ?_
          intro W1 hW1
          have hbW : Below w.heap.size w W1 := by rw [hW1]; exact below_alloc hb _
          have hz1 : wr.heap.size < W1.heap.size := by rw [hW1]; simp
          have l1 : b < W1.heap.size := by omega
          have p0 : W1.cell? ⟨wr.heap.size, 0, none⟩ = some (.string x.id) := by rw [hW1]; simp
          have p1 : W1.cell? ⟨wr.heap.size, 1, none⟩ = some (.int .i64 x.ri) := by rw [hW1]; simp
          have p2 : W1.cell? ⟨wr.heap.size, 2, none⟩ = some (.int .i64 x.de) := by rw [hW1]; simp
          have p3 : W1.cell? ⟨wr.heap.size, 3, none⟩ = some (.int .i64 x.ma) := by rw [hW1]; simp
          have p4 : W1.cell? ⟨wr.heap.size, 4, none⟩ = some (.int .i64 x.co) := by rw [hW1]; simp
          have q0 : W1.cell? ⟨b, o + k * 5, none⟩ = some (.string y.id) := by rw [hW1]; exact (World.cell?_alloc_lt _ _ _ (World.block_lt_of_cell? wr _ d0)).trans d0
          have hk1 : (0 : Int) < (k : Int) + 1 := by omega
          clear hW1 c0 c1 c2 c3 c4 d0 d1 d2 d3 d4 hc1
          cases hv : x.ok with
          | false =>
            rw [hv] at HX
            have C1 : Hid (∀ W, Calls Tryz.prog 68 #[.agg #[.string x.id, .int .i64 x.ri, .int .i64 x.de, .int .i64 x.ma, .int .i64 x.co]] W fun e w' => e = .returned (.bool false) ∧ Below W.heap.size W w') := fun W => by rw [← hv]; exact ValidStar_any _ _ _ _ _ W
            clear hv
            (refine later_intro_wp ?_; intro y)
            (refine wp_region_later (by kernel_rfl) (by kernel_rfl) ?_; (repeat (first | go_big_quiet_step ((go_at_call 68; exact later_below (C1.out _))) | quiet_step ((go_at_call 68; exact later_below (C1.out _))))); refine wpQuiet_nil ?_; rintro _ ⟨y, rfl⟩)
            go_wp2_with (fail)
            go_ret
            exact ⟨ret_bool (by rw [vStars_no (by have := HL.out; omega) HX.out]), below_later hbW _⟩
          | true =>
            rw [hv] at HX
            cases hs : ltS y.id x.id with
            | false =>
              rw [hs] at HX
              have hs' : Op.bytesLess y.id.toList x.id.toList = false := hs
              clear hs
              have C1 : Hid (∀ W, Calls Tryz.prog 68 #[.agg #[.string x.id, .int .i64 x.ri, .int .i64 x.de, .int .i64 x.ma, .int .i64 x.co]] W fun e w' => e = .returned (.bool true) ∧ Below W.heap.size W w') := fun W => by rw [← hv]; exact ValidStar_any _ _ _ _ _ W
              clear hv
              (refine later_intro_wp ?_; intro y)
              (refine wp_region_later (by kernel_rfl) (by kernel_rfl) ?_; (repeat (first | go_big_quiet_step ((go_at_call 68; exact later_below (C1.out _))) | quiet_step ((go_at_call 68; exact later_below (C1.out _))))); refine wpQuiet_nil ?_; rintro _ ⟨y, rfl⟩)
              go_wp2_with (fail)
              go_ret
              exact ⟨ret_bool (by rw [vStars_no (by have := HL.out; omega) HX.out]), below_later hbW _⟩
            | true =>
              rw [hs] at HX
              have hs' : Op.bytesLess y.id.toList x.id.toList = true := hs
              clear hs
              have C1 : Hid (∀ W, Calls Tryz.prog 68 #[.agg #[.string x.id, .int .i64 x.ri, .int .i64 x.de, .int .i64 x.ma, .int .i64 x.co]] W fun e w' => e = .returned (.bool true) ∧ Below W.heap.size W w') := fun W => by rw [← hv]; exact ValidStar_any _ _ _ _ _ W
              clear hv
              (refine later_intro_wp ?_; intro y)
              (refine wp_region_later (by kernel_rfl) (by kernel_rfl) ?_; (repeat (first | go_big_quiet_step ((go_at_call 68; exact later_below (C1.out _))) | quiet_step ((go_at_call 68; exact later_below (C1.out _))))); refine wpQuiet_nil ?_; rintro _ ⟨y, rfl⟩)
              go_wp2_with (fail)
              go_roundw
              case rel => exact ⟨k + 1 + 1, by omega, by go_num, by rw [okUpto_succ, HOK.out, HX.out]; rfl, below_later hbW _⟩
              case measure => simp [intOf]; omega
      · go_wp2
        go_ret
        exact ⟨ret_bool (by rw [vStars_yes (by have := HL.out; omega) (by have := HOK.out; rw [show k = l.length by have := HL.out; omega] at this; exact this)]), hb⟩
  · go_enter Tryz.func67, Tryz.ntmps67
    go_wp2
    go_ret
    exact ⟨ret_bool (by rw [vStars_long (by have := HL.out; omega)]), Below.refl _ _⟩
set_option maxHeartbeats 2000000 in
theorem l05Ok_any (A : Option Addr) (n c : Nat) (l : List Sta) (w : World) (hl : l.length = n) (hn : n ≤ 9223372036854775807) (hS : Stars w A l) :
    Calls Tryz.prog 130 #[.slice A n c] w fun e w' => e = .returned (.bool (vStars l)) ∧ Below w.heap.size w w' := by
  have HL := Lib.hid hl; clear hl
  go_enter Tryz.func130, Tryz.ntmps130
  go_wp2
  go_loopw [3] (fun i wr => ∃ k : Nat, k ≤ n ∧ i = .int .i64 k ∧ okUpto l k = true ∧ Below w.heap.size w wr) (fun i _ => n - (intOf i).toNat)
  case atStart => exact ⟨0, by omega, rfl, rfl, Below.refl _ _⟩
  case round =>
    obtain ⟨k, hk, rfl, hok, hb⟩ := hrel
    have HOK := Lib.hid hok; clear hok
    by_cases hlt : k < n
    · obtain ⟨x, hx⟩ := at_lt (l := l) (k := k) (by have := HL.out; omega)
      obtain ⟨b, o, rfl, hc⟩ := hS.below hb (by have := HL.out; omega)
      have l0 := (hc k x hx).lt
      obtain ⟨c0, c1, c2, c3, c4⟩ := hc k x hx
      rcases k with _ | k
      · have HX := Lib.hid (okAt_zero hx)
        clear hx hc hS
        simp only [Int.natCast_zero]
        simp only [Nat.zero_mul, Nat.add_zero] at c0 c1 c2 c3 c4
        go_wp2_with (fail)
        cases hv : x.ok with
        | false =>
          rw [hv] at HX
          have C1 : Hid (∀ W : Later wr, Calls Tryz.prog 142 #[.pointer (some ⟨b, o, none⟩)] W.w fun e w' => e = .returned (.bool false) ∧ ∃ n, w' = W.w.drewN n) := fun W => by
            rw [← hv]; exact l05One_any b o x.id x.ri x.de x.ma x.co _ ((Later.cell W l0).trans c0) ((Later.cell W l0).trans c1) ((Later.cell W l0).trans c2) ((Later.cell W l0).trans c3) ((Later.cell W l0).trans c4)
          clear hv
          (refine later_intro_wp ?_; intro y)
          (refine wp_region_later (by kernel_rfl) (by kernel_rfl) ?_; (repeat (first | go_big_quiet_step ((go_at_call 142; exact later_drew (C1.out _))) | quiet_step ((go_at_call 142; exact later_drew (C1.out _))))); refine wpQuiet_nil ?_; rintro _ ⟨y, rfl⟩)
          go_wp2_with (fail)
          go_ret
          exact ⟨ret_bool (by rw [vStars_no (by have := HL.out; omega) HX.out]), below_later hb _⟩
        | true =>
          rw [hv] at HX
          have C1 : Hid (∀ W : Later wr, Calls Tryz.prog 142 #[.pointer (some ⟨b, o, none⟩)] W.w fun e w' => e = .returned (.bool true) ∧ ∃ n, w' = W.w.drewN n) := fun W => by
            rw [← hv]; exact l05One_any b o x.id x.ri x.de x.ma x.co _ ((Later.cell W l0).trans c0) ((Later.cell W l0).trans c1) ((Later.cell W l0).trans c2) ((Later.cell W l0).trans c3) ((Later.cell W l0).trans c4)
          clear hv
          (refine later_intro_wp ?_; intro y)
          (refine wp_region_later (by kernel_rfl) (by kernel_rfl) ?_; (repeat (first | go_big_quiet_step ((go_at_call 142; exact later_drew (C1.out _))) | quiet_step ((go_at_call 142; exact later_drew (C1.out _))))); refine wpQuiet_nil ?_; rintro _ ⟨y, rfl⟩)
          go_wp2_with (fail)
          go_roundw
          case rel => exact ⟨0 + 1, by omega, by go_num, by rw [okUpto_succ, HOK.out, HX.out]; rfl, below_later hb _⟩
          case measure => simp [intOf]; omega
      · obtain ⟨y, hy⟩ := at_lt (l := l) (k := k) (by have := HL.out; omega)
        have HX := Lib.hid (okAt_succ hx hy)
        obtain ⟨d0, d1, d2, d3, d4⟩ := hc k y hy
        clear hx hc hS hy d1 d2 d3 d4
        have hc1 : ((k + 1 : Nat) : Int) = (k : Int) + 1 := by omega
        have hk1 : (0 : Int) < (k : Int) + 1 := by omega
        have hk2 : (k : Int) + 1 < n := by omega
        rw [hc1]
        clear hc1
        go_wp2_with (fail)
        cases hv : x.ok with
        | false =>
          rw [hv] at HX
          have C1 : Hid (∀ W : Later wr, Calls Tryz.prog 142 #[.pointer (some ⟨b, o + (k + 1) * 5, none⟩)] W.w fun e w' => e = .returned (.bool false) ∧ ∃ n, w' = W.w.drewN n) := fun W => by
            rw [← hv]; exact l05One_any b (o + (k + 1) * 5) x.id x.ri x.de x.ma x.co _ ((Later.cell W l0).trans c0) ((Later.cell W l0).trans c1) ((Later.cell W l0).trans c2) ((Later.cell W l0).trans c3) ((Later.cell W l0).trans c4)
          clear hv
          (refine later_intro_wp ?_; intro y)
          (refine wp_region_later (by kernel_rfl) (by kernel_rfl) ?_; (repeat (first | go_big_quiet_step ((go_at_call 142; exact later_drew (C1.out _))) | quiet_step ((go_at_call 142; exact later_drew (C1.out _))))); refine wpQuiet_nil ?_; rintro _ ⟨y, rfl⟩)
          go_wp2_with (fail)
          go_ret
          exact ⟨ret_bool (by rw [vStars_no (by have := HL.out; omega) HX.out]), below_later hb _⟩
        | true =>
          rw [hv] at HX
          cases hs : ltS y.id x.id with
          | false =>
            rw [hs] at HX
            have hs' : Op.bytesLess y.id.toList x.id.toList = false := hs
            clear hs
            have C1 : Hid (∀ W : Later wr, Calls Tryz.prog 142 #[.pointer (some ⟨b, o + (k + 1) * 5, none⟩)] W.w fun e w' => e = .returned (.bool true) ∧ ∃ n, w' = W.w.drewN n) := fun W => by
              rw [← hv]; exact l05One_any b (o + (k + 1) * 5) x.id x.ri x.de x.ma x.co _ ((Later.cell W l0).trans c0) ((Later.cell W l0).trans c1) ((Later.cell W l0).trans c2) ((Later.cell W l0).trans c3) ((Later.cell W l0).trans c4)
            clear hv
            (refine later_intro_wp ?_; intro y)
            (refine wp_region_later (by kernel_rfl) (by kernel_rfl) ?_; (repeat (first | go_big_quiet_step ((go_at_call 142; exact later_drew (C1.out _))) | quiet_step ((go_at_call 142; exact later_drew (C1.out _))))); refine wpQuiet_nil ?_; rintro _ ⟨y, rfl⟩)
            go_wp2_with (fail)
            go_ret
            exact ⟨ret_bool (by rw [vStars_no (by have := HL.out; omega) HX.out]), below_later hb _⟩
          | true =>
            rw [hs] at HX
            have hs' : Op.bytesLess y.id.toList x.id.toList = true := hs
            clear hs
            have C1 : Hid (∀ W : Later wr, Calls Tryz.prog 142 #[.pointer (some ⟨b, o + (k + 1) * 5, none⟩)] W.w fun e w' => e = .returned (.bool true) ∧ ∃ n, w' = W.w.drewN n) := fun W => by
              rw [← hv]; exact l05One_any b (o + (k + 1) * 5) x.id x.ri x.de x.ma x.co _ ((Later.cell W l0).trans c0) ((Later.cell W l0).trans c1) ((Later.cell W l0).trans c2) ((Later.cell W l0).trans c3) ((Later.cell W l0).trans c4)
            clear hv
            (refine later_intro_wp ?_; intro y)
            (refine wp_region_later (by kernel_rfl) (by kernel_rfl) ?_; (repeat (first | go_big_quiet_step ((go_at_call 142; exact later_drew (C1.out _))) | quiet_step ((go_at_call 142; exact later_drew (C1.out _))))); refine wpQuiet_nil ?_; rintro _ ⟨y, rfl⟩)
            go_wp2_with (fail)
            go_roundw
            case rel => exact ⟨k + 1 + 1, by omega, by go_num, by rw [okUpto_succ, HOK.out, HX.out]; rfl, below_later hb _⟩
            case measure => simp [intOf]; omega
    · go_wp2
      go_ret
      refine ⟨ret_bool ?_, hb⟩
      by_cases h24 : n ≤ 24
      · rw [vStars_yes (by have := HL.out; omega) (by have := HOK.out; rw [show k = l.length by have := HL.out; omega] at this; exact this)]
        simp; omega
      · rw [vStars_long (by have := HL.out; omega)]
        simp; omega
end Go.Proofs.YtpnfhienffekoaaGreatDoor
