/- Contracts of the functions on lists of stars: how they are copied, held against one another, asked whether they are valid. -/
import Derived.Test.YtbpjnopnhmoigaaDoorGrpNum
import Derived.Test.YtbpjnopnhmoigaaDoorStars
import Derived.Deep.MidRow
namespace Go.Proofs.YtbpjnopnhmoigaaDoor
set_option linter.unusedVariables false
set_option linter.unusedSimpArgs false
open Go.RowKit
theorem zeroStas_made (z : Array Value) (hz : z = #[.string ByteArray.empty, .int .i64 0, .int .i64 0, .int .i64 0, .int .i64 0]) (n : Nat) : madeCells z (n * 5) = (staCells (List.replicate n ⟨ByteArray.empty, 0, 0, 0, 0⟩)).toArray := by
  apply Array.ext_getElem?
  intro j
  have hs : z.size = 5 := by rw [hz]; rfl
  by_cases hj : j < n * 5
  · have h1 : (madeCells z (n * 5))[j]? = some z[j % 5]! := by
      simp [madeCells, hs, hj]
    have hx : (List.replicate n (⟨ByteArray.empty, 0, 0, 0, 0⟩ : Sta))[j / 5]? = some ⟨ByteArray.empty, 0, 0, 0, 0⟩ := by
      rw [List.getElem?_replicate, if_pos (by omega)]
    have h2 := staCells_at hx (j % 5) (Nat.mod_lt _ (by omega))
    rw [show j / 5 * 5 + j % 5 = j by omega] at h2
    rw [h1, List.getElem?_toArray, h2, hz]
    have : j % 5 < 5 := Nat.mod_lt _ (by omega)
    rcases h : j % 5 with _ | _ | _ | _ | _ | k
    · rfl
    · rfl
    · rfl
    · rfl
    · rfl
    · omega
  · rw [Array.getElem?_eq_none (by rw [size_madeCells]; omega), List.getElem?_toArray, List.getElem?_eq_none (by rw [staCells_length]; simp; omega)]
theorem take_set {α : Type} {ys l : List α} {k : Nat} {x : α} (h : ys.take k = l.take k) (hx : l[k]? = some x) (hk : k < ys.length) : (ys.set k x).take (k + 1) = l.take (k + 1) := by
  rw [List.take_add_one, List.take_add_one, List.getElem?_set_self hk, hx, List.take_set, List.set_eq_of_length_le (by simp; omega), h]
/-- what szStar answers -/
def szI (s : Nat) (left : Int) : Int := if left - s < 0 then -1 else left - s
theorem szI_bd (s : Nat) (r : Int) : szI s r = -1 ∨ (0 ≤ szI s r ∧ szI s r ≤ r) := by unfold szI; split <;> omega
set_option maxHeartbeats 400000 in
theorem szSta_any (x : Sta) (left : Int) (w : World) (hx : StrOk x.id) (h0 : 0 ≤ left) (h1 : left ≤ 1048576) :
    Calls Tryd.prog 52 #[.agg #[.string x.id, .int .i64 x.ri, .int .i64 x.de, .int .i64 x.ma, .int .i64 x.co], .int .i64 left] w fun e w' => e = .returned (.int .i64 (szI x.id.size left)) ∧ Below w.heap.size w w' := by
  unfold StrOk at hx
  by_cases h : left - x.id.size < 0
  · go_enter Tryd.func52, Tryd.ntmps52
    go_wp2
    go_ret
    exact ⟨ret_int (by rw [szI, if_pos h]), (by repeat (first | exact Below.refl _ _ | refine below_alloc ?_ _ | refine below_drewN0 ?_ _ | refine below_drew0 ?_ | refine below_step ?_ (by assumption) | refine below_later ?_ _ | refine below_setCell0 ?_ (by first | exact Nat.le_refl _ | (simp; done) | omega | (simp; omega)) _))⟩
  · go_enter Tryd.func52, Tryd.ntmps52
    go_wp2
    go_ret
    exact ⟨ret_int (by rw [szI, if_neg (by omega)]), (by repeat (first | exact Below.refl _ _ | refine below_alloc ?_ _ | refine below_drewN0 ?_ _ | refine below_drew0 ?_ | refine below_step ?_ (by assumption) | refine below_later ?_ _ | refine below_setCell0 ?_ (by first | exact Nat.le_refl _ | (simp; done) | omega | (simp; omega)) _))⟩
def SzPost (n : Nat) (left : Int) (w : World) (e : Ending) (w' : World) : Prop := ∃ r : Int, e = .returned (.int .i64 r) ∧ (r < 0 ∨ 0 ≤ r ∧ r ≤ left ∧ (n : Int) ≤ left) ∧ Below w.heap.size w w'
set_option maxHeartbeats 1000000 in
theorem szStarS_any (A : Option Addr) (n c : Nat) (l : List Sta) (left : Int) (w : World) (hl : l.length = n) (hn : n ≤ 9223372036854775807) (hS : Stars w A l) (hi : ∀ x ∈ l, x.i64) (h0 : 0 ≤ left) (h1 : left ≤ 1048576) :
    Calls Tryd.prog 11 #[.slice A n c, .int .i64 left] w (SzPost n left w) := by
  have HI := Lib.hid hi; clear hi
  have HL := Lib.hid hl; clear hl
  by_cases hneg : left - n < 0
  · go_enter Tryd.func11, Tryd.ntmps11
    go_wp2
    go_ret
    exact ⟨_, rfl, .inl (by omega), Below.refl _ _⟩
  · go_enter Tryd.func11, Tryd.ntmps11
    go_wp2
    go_loopw [1, 5] (fun v i wr => ∃ (k : Nat) (r : Int), k ≤ n ∧ i = .int .i64 k ∧ v = .int .i64 r ∧ 0 ≤ r ∧ r ≤ left ∧ Below w.heap.size w wr) (fun _ i _ => n - (intOf i).toNat)
    case atStart => exact ⟨0, left - n, by omega, rfl, rfl, by omega, by omega, Below.refl _ _⟩
    case round =>
      obtain ⟨k, r, hk, rfl, rfl, hr0, hr1, hb⟩ := hrel
      by_cases hlt : k < n
      · obtain ⟨x, hx⟩ := at_lt (l := l) (k := k) (by have := HL.out; omega)
        obtain ⟨b, o, rfl, hc⟩ := hS.below hb (by have := HL.out; omega)
        obtain ⟨c0, c1, c2, c3, c4⟩ := hc k x hx
        have hx0 := (HI.out x (List.mem_of_getElem? hx)).1
        have HX := Lib.hid hx
        have HC := Lib.hid hc
        clear hx hc hS
        go_wp2_with (refine (szSta_any x r _ hx0 (by omega) (by omega)).mono ?_; rintro e w' ⟨rfl, hb1⟩)
        · go_ret
          exact ⟨_, rfl, .inl (by omega), below_step hb hb1⟩
        · have hz := szI_bd x.id.size r
          go_roundw
          case rel => exact ⟨k + 1, szI x.id.size r, by omega, by go_num, rfl, by omega, by omega, below_step hb hb1⟩
          case measure => simp [intOf]; omega
      · go_wp2
        go_ret
        exact ⟨_, rfl, .inr ⟨by omega, by omega, by omega⟩, hb⟩
set_option maxHeartbeats 400000 in
theorem toSta_any (x : Sta) (w : World) :
    Calls Tryd.prog 57 #[.agg #[.string x.id, .int .i64 x.ri, .int .i64 x.de, .int .i64 x.ma, .int .i64 x.co]] w fun e w' => e = .returned (.agg #[.string x.id, .int .i64 x.ri, .int .i64 x.de, .int .i64 x.ma, .int .i64 x.co]) ∧ Below w.heap.size w w' := by
  go_enter Tryd.func57, Tryd.ntmps57
  go_wp2
  exact bodyPost_ret (v := .agg #[.string x.id, .int .i64 x.ri, .int .i64 x.de, .int .i64 x.ma, .int .i64 x.co]) (by simp [results, Tryd.results57, go_sem]) rfl ⟨rfl, (by repeat (first | exact Below.refl _ _ | refine below_alloc ?_ _ | refine below_drewN0 ?_ _ | refine below_drew0 ?_ | refine below_step ?_ (by assumption) | refine below_later ?_ _ | refine below_setCell0 ?_ (by first | exact Nat.le_refl _ | (simp; done) | omega | (simp; omega)) _))⟩
theorem info_star : (Tryd.prog.info? 78).map (fun i => (i.zero, i.size, i.bytes)) = some (some (.agg #[.string ByteArray.empty, .int .i64 0, .int .i64 0, .int .i64 0, .int .i64 0]), 5, 48) := by kernel_rfl
set_option maxHeartbeats 1000000 in
theorem toStarS_any (A : Option Addr) (n c : Nat) (l : List Sta) (w : World) (hl : l.length = n) (hn : n ≤ 1048576) (hS : Stars w A l) :
    Calls Tryd.prog 13 #[.slice A n c] w fun e w' => e = .returned (.slice (some ⟨w.heap.size, 0, none⟩) n n) ∧ Blk w' w.heap.size 78 (staCells l) ∧ Below w.heap.size w w' := by
  have HL := Lib.hid hl; clear hl
  obtain ⟨i0, hi0, hz0, hz1, hz2⟩ := info_parts info_star
  have hmk := fun W : World => run_make (P := Tryd.prog) W 27 78 i0 _ Tryd.underlying27 hi0 hz0 .i64 .i64 (n : Int) (n : Int) (by omega) (by omega) (by rw [hz2]; omega) (by omega)
  simp only [Int.toNat_natCast, hz1] at hmk
  clear hi0 hz0 hz1 hz2
  go_enter Tryd.func13, Tryd.ntmps13
  go_wp2
  rw [zeroStas_made _ rfl n]
  have hz : Blk (w.alloc (.cells (staCells (List.replicate n ⟨ByteArray.empty, 0, 0, 0, 0⟩)).toArray 78)) w.heap.size 78 (staCells (List.replicate n ⟨ByteArray.empty, 0, 0, 0, 0⟩)) := Blk.new _ _ _
  have hb0 : Below w.heap.size w (w.alloc (.cells (staCells (List.replicate n ⟨ByteArray.empty, 0, 0, 0, 0⟩)).toArray 78)) := (by repeat (first | exact Below.refl _ _ | refine below_alloc ?_ _ | refine below_drewN0 ?_ _ | refine below_drew0 ?_ | refine below_step ?_ (by assumption) | refine below_later ?_ _ | refine below_setCell0 ?_ (by first | exact Nat.le_refl _ | (simp; done) | omega | (simp; omega)) _))
  generalize w.alloc (.cells (staCells (List.replicate n ⟨ByteArray.empty, 0, 0, 0, 0⟩)).toArray 78) = W1 at *
  go_loopw [4] (fun i wr => ∃ (k : Nat) (ys : List Sta), k ≤ n ∧ i = .int .i64 k ∧ ys.length = n ∧ ys.take k = l.take k ∧ Blk wr w.heap.size 78 (staCells ys) ∧ Below w.heap.size w wr) (fun i _ => n - (intOf i).toNat)
  case atStart => exact ⟨0, List.replicate n ⟨ByteArray.empty, 0, 0, 0, 0⟩, by omega, rfl, by simp, rfl, hz, hb0⟩
  case round =>
    obtain ⟨k, ys, hk, rfl, hyl, hyt, hB, hb⟩ := hrel
    have HY := Lib.hid hyl; clear hyl
    have HT := Lib.hid hyt; clear hyt
    by_cases hlt : k < n
    · obtain ⟨x, hx⟩ := at_lt (l := l) (k := k) (by have := HL.out; omega)
      obtain ⟨z, hz⟩ := at_lt (l := ys) (k := k) (by have := HY.out; omega)
      obtain ⟨b, o, rfl, hc⟩ := hS.below hb (by have := HL.out; omega)
      obtain ⟨c0, c1, c2, c3, c4⟩ := hc k x hx
      have HX := Lib.hid hx
      clear hx hc hS
      go_wp2_with (refine (toSta_any x _).mono ?_; rintro e w' ⟨rfl, hb1⟩; have hB1 := hB.keep hb1; obtain ⟨d0, d1, d2, d3, d4⟩ := hB1.stas k z hz; simp only [Nat.zero_add] at d0 d1 d2 d3 d4; have f0 := hB1.frozen (k * 5); have f1 := hB1.frozen (k * 5 + 1); have f2 := hB1.frozen (k * 5 + 2); have f3 := hB1.frozen (k * 5 + 3); have f4 := hB1.frozen (k * 5 + 4); clear hz)
      go_roundw
      case rel => exact ⟨k + 1, ys.set k x, by omega, by go_num, by have := HY.out; simpa using this, take_set HT.out HX.out (by have := HY.out; omega), hB1.sta (by have := HY.out; omega) x, below_setCell0 (below_setCell0 (below_setCell0 (below_setCell0 (below_setCell0 (below_step hb hb1) (Nat.le_refl _) _) (Nat.le_refl _) _) (Nat.le_refl _) _) (Nat.le_refl _) _) (Nat.le_refl _) _⟩
      case measure => simp [intOf]; omega
    · go_wp2
      go_ret
      refine ⟨rfl, ?_, hb⟩
      have e : ys = l := by
        have h1 := HT.out
        rw [List.take_of_length_le (by have := HY.out; omega), List.take_of_length_le (by have := HL.out; omega)] at h1
        exact h1
      rw [e] at hB; exact hB
set_option maxHeartbeats 400000 in
theorem eqStar_same (x : Sta) (w : World) :
    Calls Tryd.prog 61 #[.agg #[.string x.id, .int .i64 x.ri, .int .i64 x.de, .int .i64 x.ma, .int .i64 x.co], .agg #[.string x.id, .int .i64 x.ri, .int .i64 x.de, .int .i64 x.ma, .int .i64 x.co]] w fun e w' => e = .returned (.bool true) ∧ Below w.heap.size w w' := by
  go_enter Tryd.func61, Tryd.ntmps61
  go_wp2
  go_ret
  exact ⟨rfl, (by repeat (first | exact Below.refl _ _ | refine below_alloc ?_ _ | refine below_drewN0 ?_ _ | refine below_drew0 ?_ | refine below_step ?_ (by assumption) | refine below_later ?_ _ | refine below_setCell0 ?_ (by first | exact Nat.le_refl _ | (simp; done) | omega | (simp; omega)) _))⟩
set_option maxHeartbeats 1000000 in
theorem eqStarS_same (A A' : Option Addr) (n c c' : Nat) (l : List Sta) (w : World) (hl : l.length = n) (hn : n ≤ 9223372036854775807) (hS : Stars w A l) (hS' : Stars w A' l) :
    Calls Tryd.prog 16 #[.slice A n c, .slice A' n c'] w fun e w' => e = .returned (.bool true) ∧ Below w.heap.size w w' := by
  have HL := Lib.hid hl; clear hl
  go_enter Tryd.func16, Tryd.ntmps16
  go_wp2_with (fail)
  go_loopw [5] (fun i wr => ∃ k : Nat, k ≤ n ∧ i = .int .i64 k ∧ Below w.heap.size w wr) (fun i _ => n - (intOf i).toNat)
  case atStart => exact ⟨0, by omega, rfl, Below.refl _ _⟩
  case round =>
    obtain ⟨k, hk, rfl, hb⟩ := hrel
    by_cases hlt : k < n
    · obtain ⟨x, hx⟩ := at_lt (l := l) (k := k) (by have := HL.out; omega)
      obtain ⟨b, o, rfl, hc⟩ := hS.below hb (by have := HL.out; omega)
      obtain ⟨b', o', rfl, hc'⟩ := hS'.below hb (by have := HL.out; omega)
      have l0 := (hc k x hx).lt
      have l0' := (hc' k x hx).lt
      obtain ⟨c0, c1, c2, c3, c4⟩ := hc k x hx
      obtain ⟨d0, d1, d2, d3, d4⟩ := hc' k x hx
      clear hx hc hc' hS hS'
      go_wp2_with (fail)
      (refine later_intro_wp ?_; intro y)
      (refine wp_region_later (by kernel_rfl) (by kernel_rfl) ?_; (repeat (first | go_big_quiet_step (((go_at_call 61; exact later_below (eqStar_same x _)))) | quiet_step (((go_at_call 61; exact later_below (eqStar_same x _)))))); refine wpQuiet_nil ?_; rintro _ ⟨y, rfl⟩)
      go_wp2_with (fail)
      go_roundw
      case rel => exact ⟨k + 1, by omega, by go_num, below_later hb _⟩
      case measure => simp [intOf]; omega
    · go_wp2
      go_ret
      exact ⟨rfl, hb⟩
set_option maxHeartbeats 2000000 in
theorem ValidStars_any (A : Option Addr) (n c : Nat) (l : List Sta) (w : World) (hl : l.length = n) (hn : n ≤ 9223372036854775807) (hS : Stars w A l) :
    Calls Tryd.prog 58 #[.slice A n c] w fun e w' => e = .returned (.bool (vStars l)) ∧ Below w.heap.size w w' := by
  have HL := Lib.hid hl; clear hl
  by_cases h24 : n ≤ 24
  · go_enter Tryd.func58, Tryd.ntmps58
    go_wp2
    go_loopw [3, 4, 10] (fun a p i wr => ∃ k : Nat, k ≤ n ∧ i = .int .i64 k ∧ okUpto l k = true ∧ Below w.heap.size w wr) (fun _ _ i _ => n - (intOf i).toNat)
    case atStart => exact ⟨0, by omega, rfl, rfl, Below.refl _ _⟩
    case round =>
      obtain ⟨k, hk, rfl, hok, hb⟩ := hrel
      have HOK := Lib.hid hok; clear hok
      by_cases hlt : k < n
      · obtain ⟨x, hx⟩ := at_lt (l := l) (k := k) (by have := HL.out; omega)
        obtain ⟨b, o, rfl, hc⟩ := hS.below hb (by have := HL.out; omega)
        have l0 := (hc k x hx).lt
        obtain ⟨c0, c1, c2, c3, c4⟩ := hc k x hx
        rcases k with _ | k
        · have HX := Lib.hid (okAt_zero hx)
          clear hx hc hS
          simp only [Int.natCast_zero]
          simp only [Nat.zero_mul, Nat.add_zero] at c0 c1 c2 c3 c4
          go_wp2_with (fail)
          refine wp_named ?_
          intro W1 hW1
          have hbW : Below w.heap.size w W1 := by rw [hW1]; exact below_alloc hb _
          have hz1 : wr.heap.size < W1.heap.size := by rw [hW1]; simp
          have l1 : b < W1.heap.size := by omega
          have p0 : W1.cell? ⟨wr.heap.size, 0, none⟩ = some (.string x.id) := by rw [hW1]; simp
          have p1 : W1.cell? ⟨wr.heap.size, 1, none⟩ = some (.int .i64 x.ri) := by rw [hW1]; simp
          have p2 : W1.cell? ⟨wr.heap.size, 2, none⟩ = some (.int .i64 x.de) := by rw [hW1]; simp
          have p3 : W1.cell? ⟨wr.heap.size, 3, none⟩ = some (.int .i64 x.ma) := by rw [hW1]; simp
          have p4 : W1.cell? ⟨wr.heap.size, 4, none⟩ = some (.int .i64 x.co) := by rw [hW1]; simp
          clear hW1 c0 c1 c2 c3 c4
          cases hv : x.ok with
          | false =>
            rw [hv] at HX
            have C1 : Hid (∀ W, Calls Tryd.prog 77 #[.agg #[.string x.id, .int .i64 x.ri, .int .i64 x.de, .int .i64 x.ma, .int .i64 x.co]] W fun e w' => e = .returned (.bool false) ∧ Below W.heap.size W w') := fun W => by rw [← hv]; exact ValidStar_any _ _ _ _ _ W
            clear hv
            (refine later_intro_wp ?_; intro y)
            (refine wp_region_later (by kernel_rfl) (by kernel_rfl) ?_; (repeat (first | go_big_quiet_step ((go_at_call 77; exact later_below (C1.out _))) | quiet_step ((go_at_call 77; exact later_below (C1.out _))))); refine wpQuiet_nil ?_; rintro _ ⟨y, rfl⟩)
            go_wp2_with (fail)
            go_ret
            exact ⟨ret_bool (by rw [vStars_no (by have := HL.out; omega) HX.out]), below_later hbW _⟩
          | true =>
            rw [hv] at HX
            have C1 : Hid (∀ W, Calls Tryd.prog 77 #[.agg #[.string x.id, .int .i64 x.ri, .int .i64 x.de, .int .i64 x.ma, .int .i64 x.co]] W fun e w' => e = .returned (.bool true) ∧ Below W.heap.size W w') := fun W => by rw [← hv]; exact ValidStar_any _ _ _ _ _ W
            clear hv
            (refine later_intro_wp ?_; intro y)
            (refine wp_region_later (by kernel_rfl) (by kernel_rfl) ?_; (repeat (first | go_big_quiet_step ((go_at_call 77; exact later_below (C1.out _))) | quiet_step ((go_at_call 77; exact later_below (C1.out _))))); refine wpQuiet_nil ?_; rintro _ ⟨y, rfl⟩)
            go_wp2_with (fail)
            go_roundw
            case rel => exact ⟨0 + 1, by omega, by go_num, by rw [okUpto_succ, HOK.out, HX.out]; rfl, below_later hbW _⟩
            case measure => simp [intOf]; omega
        · obtain ⟨y, hy⟩ := at_lt (l := l) (k := k) (by have := HL.out; omega)
          have HX := Lib.hid (okAt_succ hx hy)
          obtain ⟨d0, d1, d2, d3, d4⟩ := hc k y hy
          clear hx hc hS hy
          have hc1 : ((k + 1 : Nat) : Int) = (k : Int) + 1 := by omega
          rw [hc1]
          go_wp2_with (fail)
          refine wp_named ?_
          intro W1 hW1
          have hbW : Below w.heap.size w W1 := by rw [hW1]; exact below_alloc hb _
          have hz1 : wr.heap.size < W1.heap.size := by rw [hW1]; simp
          have l1 : b < W1.heap.size := by omega
          have p0 : W1.cell? ⟨wr.heap.size, 0, none⟩ = some (.string x.id) := by rw [hW1]; simp
          have p1 : W1.cell? ⟨wr.heap.size, 1, none⟩ = some (.int .i64 x.ri) := by rw [hW1]; simp
          have p2 : W1.cell? ⟨wr.heap.size, 2, none⟩ = some (.int .i64 x.de) := by rw [hW1]; simp
          have p3 : W1.cell? ⟨wr.heap.size, 3, none⟩ = some (.int .i64 x.ma) := by rw [hW1]; simp
          have p4 : W1.cell? ⟨wr.heap.size, 4, none⟩ = some (.int .i64 x.co) := by rw [hW1]; simp
          have q0 : W1.cell? ⟨b, o + k * 5, none⟩ = some (.string y.id) := by rw [hW1]; exact (World.cell?_alloc_lt _ _ _ (World.block_lt_of_cell? wr _ d0)).trans d0
          have hk1 : (0 : Int) < (k : Int) + 1 := by omega
          clear hW1 c0 c1 c2 c3 c4 d0 d1 d2 d3 d4 hc1
          cases hv : x.ok with
          | false =>
            rw [hv] at HX
            have C1 : Hid (∀ W, Calls Tryd.prog 77 #[.agg #[.string x.id, .int .i64 x.ri, .int .i64 x.de, .int .i64 x.ma, .int .i64 x.co]] W fun e w' => e = .returned (.bool false) ∧ Below W.heap.size W w') := fun W => by rw [← hv]; exact ValidStar_any _ _ _ _ _ W
            clear hv
            (refine later_intro_wp ?_; intro y)
            (refine wp_region_later (by kernel_rfl) (by kernel_rfl) ?_; (repeat (first | go_big_quiet_step ((go_at_call 77; exact later_below (C1.out _))) | quiet_step ((go_at_call 77; exact later_below (C1.out _))))); refine wpQuiet_nil ?_; rintro _ ⟨y, rfl⟩)
            go_wp2_with (fail)
            go_ret
            exact ⟨ret_bool (by rw [vStars_no (by have := HL.out; omega) HX.out]), below_later hbW _⟩
          | true =>
            rw [hv] at HX
            cases hs : ltS y.id x.id with
            | false =>
              rw [hs] at HX
              have hs' : Op.bytesLess y.id.toList x.id.toList = false := hs
              clear hs
              have C1 : Hid (∀ W, Calls Tryd.prog 77 #[.agg #[.string x.id, .int .i64 x.ri, .int .i64 x.de, .int .i64 x.ma, .int .i64 x.co]] W fun e w' => e = .returned (.bool true) ∧ Below W.heap.size W w') := fun W => by rw [← hv]; exact ValidStar_any _ _ _ _ _ W
              clear hv
              (refine later_intro_wp ?_; intro y)
              (refine wp_region_later (by kernel_rfl) (by kernel_rfl) ?_; (repeat (first | go_big_quiet_step ((go_at_call 77; exact later_below (C1.out _))) | quiet_step ((go_at_call 77; exact later_below (C1.out _))))); refine wpQuiet_nil ?_; rintro _ ⟨y, rfl⟩)
              go_wp2_with (fail)
              go_ret
              exact ⟨ret_bool (by rw [vStars_no (by have := HL.out; omega) HX.out]), below_later hbW _⟩
            | true =>
              rw [hs] at HX
              have hs' : Op.bytesLess y.id.toList x.id.toList = true := hs
              clear hs
              have C1 : Hid (∀ W, Calls Tryd.prog 77 #[.agg #[.string x.id, .int .i64 x.ri, .int .i64 x.de, .int .i64 x.ma, .int .i64 x.co]] W fun e w' => e = .returned (.bool true) ∧ Below W.heap.size W w') := fun W => by rw [← hv]; exact ValidStar_any _ _ _ _ _ W
              clear hv
              (refine later_intro_wp ?_; intro y)
              (refine wp_region_later (by kernel_rfl) (by kernel_rfl) ?_; (repeat (first | go_big_quiet_step ((go_at_call 77; exact later_below (C1.out _))) | quiet_step ((go_at_call 77; exact later_below (C1.out _))))); refine wpQuiet_nil ?_; rintro _ ⟨y, rfl⟩)
              go_wp2_with (fail)
              go_roundw
              case rel => exact ⟨k + 1 + 1, by omega, by go_num, by rw [okUpto_succ, HOK.out, HX.out]; rfl, below_later hbW _⟩
              case measure => simp [intOf]; omega
      · go_wp2
        go_ret
        exact ⟨ret_bool (by rw [vStars_yes (by have := HL.out; omega) (by have := HOK.out; rw [show k = l.length by have := HL.out; omega] at this; exact this)]), hb⟩
  · go_enter Tryd.func58, Tryd.ntmps58
    go_wp2
    go_ret
    exact ⟨ret_bool (by rw [vStars_long (by have := HL.out; omega)]), Below.refl _ _⟩
set_option maxHeartbeats 2000000 in
theorem l05Ok_any (A : Option Addr) (n c : Nat) (l : List Sta) (w : World) (hl : l.length = n) (hn : n ≤ 9223372036854775807) (hS : Stars w A l) :
    Calls Tryd.prog 53 #[.slice A n c] w fun e w' => e = .returned (.bool (vStars l)) ∧ Below w.heap.size w w' := by
  have HL := Lib.hid hl; clear hl
  go_enter Tryd.func53, Tryd.ntmps53
  go_wp2
  go_loopw [3] (fun i wr => ∃ k : Nat, k ≤ n ∧ i = .int .i64 k ∧ okUpto l k = true ∧ Below w.heap.size w wr) (fun i _ => n - (intOf i).toNat)
  case atStart => exact ⟨0, by omega, rfl, rfl, Below.refl _ _⟩
  case round =>
    obtain ⟨k, hk, rfl, hok, hb⟩ := hrel
    have HOK := Lib.hid hok; clear hok
    by_cases hlt : k < n
    · obtain ⟨x, hx⟩ := at_lt (l := l) (k := k) (by have := HL.out; omega)
      obtain ⟨b, o, rfl, hc⟩ := hS.below hb (by have := HL.out; omega)
      have l0 := (hc k x hx).lt
      obtain ⟨c0, c1, c2, c3, c4⟩ := hc k x hx
      rcases k with _ | k
      · have HX := Lib.hid (okAt_zero hx)
        clear hx hc hS
        simp only [Int.natCast_zero]
        simp only [Nat.zero_mul, Nat.add_zero] at c0 c1 c2 c3 c4
        go_wp2_with (fail)
        cases hv : x.ok with
        | false =>
          rw [hv] at HX
          have C1 : Hid (∀ W : Later wr, Calls Tryd.prog 109 #[.pointer (some ⟨b, o, none⟩)] W.w fun e w' => e = .returned (.bool false) ∧ ∃ n, w' = W.w.drewN n) := fun W => by
            rw [← hv]; exact l05One_any b o x.id x.ri x.de x.ma x.co _ ((Later.cell W l0).trans c0) ((Later.cell W l0).trans c1) ((Later.cell W l0).trans c2) ((Later.cell W l0).trans c3) ((Later.cell W l0).trans c4)
          clear hv
          (refine later_intro_wp ?_; intro y)
          (refine wp_region_later (by kernel_rfl) (by kernel_rfl) ?_; (repeat (first | go_big_quiet_step ((go_at_call 109; exact later_drew (C1.out _))) | quiet_step ((go_at_call 109; exact later_drew (C1.out _))))); refine wpQuiet_nil ?_; rintro _ ⟨y, rfl⟩)
          go_wp2_with (fail)
          go_ret
          exact ⟨ret_bool (by rw [vStars_no (by have := HL.out; omega) HX.out]), below_later hb _⟩
        | true =>
          rw [hv] at HX
          have C1 : Hid (∀ W : Later wr, Calls Tryd.prog 109 #[.pointer (some ⟨b, o, none⟩)] W.w fun e w' => e = .returned (.bool true) ∧ ∃ n, w' = W.w.drewN n) := fun W => by
            rw [← hv]; exact l05One_any b o x.id x.ri x.de x.ma x.co _ ((Later.cell W l0).trans c0) ((Later.cell W l0).trans c1) ((Later.cell W l0).trans c2) ((Later.cell W l0).trans c3) ((Later.cell W l0).trans c4)
          clear hv
          (refine later_intro_wp ?_; intro y)
          (refine wp_region_later (by kernel_rfl) (by kernel_rfl) ?_; (repeat (first | go_big_quiet_step ((go_at_call 109; exact later_drew (C1.out _))) | quiet_step ((go_at_call 109; exact later_drew (C1.out _))))); refine wpQuiet_nil ?_; rintro _ ⟨y, rfl⟩)
          go_wp2_with (fail)
          go_roundw
          case rel => exact ⟨0 + 1, by omega, by go_num, by rw [okUpto_succ, HOK.out, HX.out]; rfl, below_later hb _⟩
          case measure => simp [intOf]; omega
      · obtain ⟨y, hy⟩ := at_lt (l := l) (k := k) (by have := HL.out; omega)
        have HX := Lib.hid (okAt_succ hx hy)
        obtain ⟨d0, d1, d2, d3, d4⟩ := hc k y hy
        clear hx hc hS hy d1 d2 d3 d4
        have hc1 : ((k + 1 : Nat) : Int) = (k : Int) + 1 := by omega
        have hk1 : (0 : Int) < (k : Int) + 1 := by omega
        have hk2 : (k : Int) + 1 < n := by omega
        rw [hc1]
        clear hc1
        go_wp2_with (fail)
        cases hv : x.ok with
        | false =>
          rw [hv] at HX
          have C1 : Hid (∀ W : Later wr, Calls Tryd.prog 109 #[.pointer (some ⟨b, o + (k + 1) * 5, none⟩)] W.w fun e w' => e = .returned (.bool false) ∧ ∃ n, w' = W.w.drewN n) := fun W => by
            rw [← hv]; exact l05One_any b (o + (k + 1) * 5) x.id x.ri x.de x.ma x.co _ ((Later.cell W l0).trans c0) ((Later.cell W l0).trans c1) ((Later.cell W l0).trans c2) ((Later.cell W l0).trans c3) ((Later.cell W l0).trans c4)
          clear hv
          (refine later_intro_wp ?_; intro y)
          (refine wp_region_later (by kernel_rfl) (by kernel_rfl) ?_; (repeat (first | go_big_quiet_step ((go_at_call 109; exact later_drew (C1.out _))) | quiet_step ((go_at_call 109; exact later_drew (C1.out _))))); refine wpQuiet_nil ?_; rintro _ ⟨y, rfl⟩)
          go_wp2_with (fail)
          go_ret
          exact ⟨ret_bool (by rw [vStars_no (by have := HL.out; omega) HX.out]), below_later hb _⟩
        | true =>
          rw [hv] at HX
          cases hs : ltS y.id x.id with
          | false =>
            rw [hs] at HX
            have hs' : Op.bytesLess y.id.toList x.id.toList = false := hs
            clear hs
            have C1 : Hid (∀ W : Later wr, Calls Tryd.prog 109 #[.pointer (some ⟨b, o + (k + 1) * 5, none⟩)] W.w fun e w' => e = .returned (.bool true) ∧ ∃ n, w' = W.w.drewN n) := fun W => by
              rw [← hv]; exact l05One_any b (o + (k + 1) * 5) x.id x.ri x.de x.ma x.co _ ((Later.cell W l0).trans c0) ((Later.cell W l0).trans c1) ((Later.cell W l0).trans c2) ((Later.cell W l0).trans c3) ((Later.cell W l0).trans c4)
            clear hv
            (refine later_intro_wp ?_; intro y)
            (refine wp_region_later (by kernel_rfl) (by kernel_rfl) ?_; (repeat (first | go_big_quiet_step ((go_at_call 109; exact later_drew (C1.out _))) | quiet_step ((go_at_call 109; exact later_drew (C1.out _))))); refine wpQuiet_nil ?_; rintro _ ⟨y, rfl⟩)
            go_wp2_with (fail)
            go_ret
            exact ⟨ret_bool (by rw [vStars_no (by have := HL.out; omega) HX.out]), below_later hb _⟩
          | true =>
            rw [hs] at HX
            have hs' : Op.bytesLess y.id.toList x.id.toList = true := hs
            clear hs
            have C1 : Hid (∀ W : Later wr, Calls Tryd.prog 109 #[.pointer (some ⟨b, o + (k + 1) * 5, none⟩)] W.w fun e w' => e = .returned (.bool true) ∧ ∃ n, w' = W.w.drewN n) := fun W => by
              rw [← hv]; exact l05One_any b (o + (k + 1) * 5) x.id x.ri x.de x.ma x.co _ ((Later.cell W l0).trans c0) ((Later.cell W l0).trans c1) ((Later.cell W l0).trans c2) ((Later.cell W l0).trans c3) ((Later.cell W l0).trans c4)
            clear hv
            (refine later_intro_wp ?_; intro y)
            (refine wp_region_later (by kernel_rfl) (by kernel_rfl) ?_; (repeat (first | go_big_quiet_step ((go_at_call 109; exact later_drew (C1.out _))) | quiet_step ((go_at_call 109; exact later_drew (C1.out _))))); refine wpQuiet_nil ?_; rintro _ ⟨y, rfl⟩)
            go_wp2_with (fail)
            go_roundw
            case rel => exact ⟨k + 1 + 1, by omega, by go_num, by rw [okUpto_succ, HOK.out, HX.out]; rfl, below_later hb _⟩
            case measure => simp [intOf]; omega
    · go_wp2
      go_ret
      refine ⟨ret_bool ?_, hb⟩
      by_cases h24 : n ≤ 24
      · rw [vStars_yes (by have := HL.out; omega) (by have := HOK.out; rw [show k = l.length by have := HL.out; omega] at this; exact this)]
        simp; omega
      · rw [vStars_long (by have := HL.out; omega)]
        simp; omega
end Go.Proofs.YtbpjnopnhmoigaaDoor
