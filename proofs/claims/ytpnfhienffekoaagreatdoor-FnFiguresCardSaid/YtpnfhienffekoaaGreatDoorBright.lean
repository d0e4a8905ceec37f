/- Contracts of the program's function that puts the brightest stars first. -/
import Derived.Test.YtpnfhienffekoaaGreatDoorGrpSort
import Derived.Test.YtpnfhienffekoaaGreatDoorGrpList
import Derived.Test.YtpnfhienffekoaaGreatDoorGrpFigs
import Derived.Test.YtpnfhienffekoaaGreatDoorMgM
namespace Go.Proofs.YtpnfhienffekoaaGreatDoor
set_option linter.unusedVariables false
set_option linter.unusedSimpArgs false
open Go.RowKit
/-- the magnitude of the star with that index -/
def magK (l : List Sta) (x : Int) : Int := match l[x.toNat]? with
  | some s => s.ma
  | none => 0
theorem magK_at {l : List Sta} {k : Nat} {x : Sta} (h : l[k]? = some x) : magK l (k : Int) = x.ma := by simp [magK, h]
theorem cmpZ_sign (a b : Int) : cmpZ a b < 0 ↔ a < b := by
  unfold cmpZ
  repeat' split
  all_goals omega
/-- what BrightestFirst answers -/
def brO (l : List Sta) : List Int × Int := if vStars l then (sortL (magK l) (upFrom 0 l.length), 0) else ([], 1)
theorem brO_no {l : List Sta} (h : vStars l = false) : brO l = ([], 1) := by simp [brO, h]
theorem brO_yes {l : List Sta} (h : vStars l = true) : brO l = (sortL (magK l) (upFrom 0 l.length), 0) := by simp [brO, h]
theorem upFrom_rise (j : Int) : ∀ n : Nat, (upFrom j n).Pairwise (· < ·)
  | 0 => .nil
  | n + 1 => by
    rw [upFrom, List.pairwise_append]
    refine ⟨upFrom_rise j n, by simp, fun a ha b hb => ?_⟩
    rw [List.mem_singleton] at hb
    subst hb
    obtain ⟨k, hk, e⟩ := List.getElem_of_mem ha
    rw [upFrom_length] at hk
    have h2 := upFrom_at j n k hk
    rw [List.getElem?_eq_getElem (by rw [upFrom_length]; exact hk), e] at h2
    injection h2 with h2
    omega
theorem gt_upFrom {n k : Nat} (h : k < n) : gt (upFrom 0 n) k = (k : Int) := by rw [gt_at (upFrom_at 0 n k h)]; omega
theorem brO_len (l : List Sta) : (brO l).1.length ≤ 24 := by
  unfold brO
  split
  · next h =>
    have := vStars_len h
    show (sortL _ _).length ≤ 24
    rw [(sortL_all _ _ (upFrom_rise 0 l.length)).1, upFrom_length]; exact this
  · simp
set_option maxHeartbeats 1000000 in
theorem bright1_any (A : Option Addr) (n c : Nat) (l : List Sta) (q i j : Nat) (w : World) (hl : l.length = n) (hn : n ≤ 1000000) (hi : i < n) (hj : j < n) (hq : w.cell? ⟨q, 0, none⟩ = some (.slice A n c)) (hA : Stars w A l) :
    Calls Tryz.prog 81 #[.int .i64 (i : Int), .int .i64 (j : Int), .pointer (some ⟨q, 0, none⟩)] w fun e w' => e = .returned (.int .i64 (cmpZ (magK l i) (magK l j))) ∧ Below w.heap.size w w' := by
  obtain ⟨x, hx⟩ := at_lt (l := l) (k := i) (by omega)
  obtain ⟨y, hy⟩ := at_lt (l := l) (k := j) (by omega)
  obtain ⟨b, o, rfl, hc⟩ := hA (by omega)
  have HX := Lib.hid (magK_at hx)
  have HY := Lib.hid (magK_at hy)
  have l0 := (hc i x hx).lt
  have l1 := World.block_lt_of_cell? w _ hq
  dsimp only at l1
  obtain ⟨_, _, _, c3, _⟩ := hc i x hx
  obtain ⟨_, _, _, d3, _⟩ := hc j y hy
  have hiI : (i : Int) < (n : Int) := by omega
  have hjI : (j : Int) < (n : Int) := by omega
  clear hx hy hc hl
  go_enter Tryz.func81, Tryz.ntmps81
  go_wp2_with (fail)
  (refine later_intro_wp ?_; intro y)
  (refine wp_region_later (by kernel_rfl) (by kernel_rfl) ?_; (repeat (first | go_big_quiet_step (((go_at_call 82; exact later_same (cmpInt_any _ _ _)))) | quiet_step (((go_at_call 82; exact later_same (cmpInt_any _ _ _)))))); refine wpQuiet_nil ?_; rintro _ ⟨y, rfl⟩)
  go_wp2_with (fail)
  go_ret
  exact ⟨ret_int (by rw [HX.out, HY.out]), y.below⟩
theorem bright_enter (args : Array Value) (W : World) : Sem.run Tryz.prog (callFunc 81 args) W = .ok (Next.enter 81 args) W := by kernel_rfl
set_option maxRecDepth 100000 in
set_option maxHeartbeats 4000000 in
theorem BrightestFirst_any (A : Option Addr) (n c : Nat) (l : List Sta) (w : World) (hl : l.length = n) (hn : n ≤ 9223372036854775807) (hA : Stars w A l) :
    Calls Tryz.prog 29 #[.slice A n c] w fun e w' => ∃ v : Value, e = .returned (.tuple #[v, .int .i64 (brO l).2]) ∧ OwnI w' w.heap.size v (brO l).1 ∧ Below w.heap.size w w' := by
  have HL := Lib.hid hl; clear hl
  have V : Hid (∀ W, Stars W A l → Calls Tryz.prog 67 #[.slice A n c] W fun e w' => e = .returned (.bool (vStars l)) ∧ Below W.heap.size W w') := Lib.hid (fun W hW => ValidStars_any A n c l W HL.out hn hW)
  have hb0 : Below w.heap.size w (w.alloc (.cells #[.slice A n c] 42)) := below_alloc (Below.refl _ _) _
  have hX0 : Blk (w.alloc (.cells #[.slice A n c] 42)) w.heap.size 42 [.slice A n c] := Blk.new _ _ _
  have hA0 := hA.below hb0
  cases hv : vStars l with
  | false =>
    have HO := Lib.hid (brO_no hv)
    rw [hv] at V
    clear hv
    go_enter Tryz.func29, Tryz.ntmps29
    go_wp2_with (refine (V.out _ hA0).mono ?_; rintro e w1 ⟨rfl, hb1⟩)
    go_ret2
    exact ⟨.slice none 0 0, by rw [HO.out]; rfl, by rw [HO.out]; exact OwnI.nil _ _, below_step hb0 hb1⟩
  | true =>
    have h24 : n ≤ 24 := by have := vStars_len hv; have := HL.out; omega
    have HO := Lib.hid (brO_yes hv)
    rw [hv] at V
    clear hv
    obtain ⟨i0, hi0, hz0, hz1, hz2⟩ := info_parts info_num
    have hmk := fun W : World => run_make (P := Tryz.prog) W 55 2 i0 _ Tryz.underlying55 hi0 hz0 .i64 .i64 (n : Int) (n : Int) (by omega) (by omega) (by rw [hz2]; omega) (by omega)
    simp only [Int.toNat_natCast, hz1] at hmk
    clear hi0 hz0 hz1 hz2
    go_enter Tryz.func29, Tryz.ntmps29
    go_wp2_with (refine (V.out _ hA0).mono ?_; rintro e w1 ⟨rfl, hb1⟩; have hX1 := hX0.keep hb1; have x0 : w1.cell? ⟨w.heap.size, 0, none⟩ = some (.slice A n c) := (by rw [hX1.cell]; rfl))
    rw [← Nat.mul_one n, zeroNums_made _ rfl n, Nat.mul_one]
    have hz : Blk (w1.alloc (.cells (numCells (List.replicate n 0)).toArray 2)) w1.heap.size 2 (numCells (List.replicate n 0)) := Blk.new _ _ _
    have hb2 : Below w.heap.size w (w1.alloc (.cells (numCells (List.replicate n 0)).toArray 2)) := below_alloc (below_step hb0 hb1) _
    have hX2 := hX1.alloc (.cells (numCells (List.replicate n 0)).toArray 2)
    have hXg : w.heap.size < w1.heap.size := hX1.lt
    clear x0 hX1
    generalize w1.alloc (.cells (numCells (List.replicate n 0)).toArray 2) = W1 at *
    generalize w1.heap.size = g at *
    have hAlt : ∀ a, 0 < l.length → A = some a → a.block ≠ g := fun a h e => by
      have := hA.lt a h e
      omega
    have hneq : w.heap.size ≠ g := Nat.ne_of_lt hXg
    have hgb : w.heap.size ≤ g := Nat.le_of_lt hXg
    have hnB : n ≤ 1000000 := by omega
    have HENV : Hid (CmpEnv 81 w.heap.size g (magK l) (fun x y => cmpZ (magK l x) (magK l y)) (fun x => 0 ≤ x ∧ x < (n : Int)) (fun W => W.cell? ⟨w.heap.size, 0, none⟩ = some (.slice A n c) ∧ Stars W A l)) := Lib.hid ⟨bright_enter, fun x y _ _ => cmpZ_sign _ _, fun W W' h hg => ⟨by
        have hlt := World.block_lt_of_cell? W _ h.1
        exact (World.cell?_of_block (hg.block w.heap.size hlt (fun e => hneq (by injection e)))).trans h.1, h.2.only hg hAlt⟩, fun W x y h hx hy => by
        have h1 : x = ((x.toNat : Nat) : Int) := by omega
        have h2 : y = ((y.toNat : Nat) : Int) := by omega
        rw [h1, h2]
        exact bright1_any A n c l w.heap.size x.toNat y.toNat W HL.out hnB (by omega) (by omega) h.1 h.2⟩
    clear hmk hb0 hX0 hA0 hb1 V
    go_loopw [5, 14] (fun _ s wr => ∃ (k : Nat) (ys : List Int), k ≤ n ∧ s = .int .i64 (k : Int) ∧ ys.length = n ∧ ys.take k = upFrom 0 k ∧ Blk wr g 2 (numCells ys) ∧ Blk wr w.heap.size 42 [.slice A n c] ∧ Below w.heap.size w wr) (fun _ s _ => n - (intOf s).toNat)
    case atStart => exact ⟨0, List.replicate n 0, by omega, rfl, by simp, rfl, hz, hX2, hb2⟩
    case round =>
      clear hz hX2 hb2
      obtain ⟨k, ys, hk, rfl, hyl, hyt, hB, hX, hb⟩ := hrel
      have HY := Lib.hid hyl; clear hyl
      have HT := Lib.hid hyt; clear hyt
      by_cases hlt : k < n
      · obtain ⟨z, hz⟩ := at_lt (l := ys) (k := k) (by have := HY.out; omega)
        have d0 : wr.cell? ⟨g, k, none⟩ = some (.int .i64 z) := by rw [hB.cell]; exact numCells_at hz
        have f0 := hB.frozen k
        clear hz
        go_wp2_with (fail)
        go_roundw
        case rel => exact ⟨k + 1, ys.set k (k : Int), by omega, by go_num, by have := HY.out; simpa using this, by
          rw [take_set_any (l := upFrom 0 (k + 1)) (by rw [HT.out, upFrom_take 0 (k + 1) k (by omega)]) (by rw [upFrom_at 0 (k + 1) k (by omega)]; congr 1; omega) (by have := HY.out; omega), List.take_of_length_le (by rw [upFrom_length]; omega)], by rw [← numCells_set]; exact hB.set_ k _, hX.far (by show w.heap.size ≠ g; exact hneq) _, below_setCell0 hb hgb _⟩
        case measure => simp [intOf]; omega
      · obtain rfl : k = n := by omega
        have he : ys = upFrom 0 k := by
          have := HT.out
          rwa [List.take_of_length_le (by have := HY.out; omega)] at this
        subst he
        have x0 : wr.cell? ⟨w.heap.size, 0, none⟩ = some (.slice A k c) := by rw [hX.cell]; rfl
        have C1 := Lib.hid (sortStable_any HENV.out k k (upFrom 0 k) [] wr (upFrom_length 0 k) h24 (by simpa using hB) (fun i hi => by rw [gt_upFrom hi]; omega) ⟨x0, hA.below hb⟩ (fun i j h1 h2 => by rw [gt_upFrom (by omega), gt_upFrom h2]; omega))
        have hBs : Hid (Blk wr g 2 (numCells (upFrom 0 k))) := Lib.hid hB
        clear hB hX x0 HENV
        go_wp2_with (refine C1.out.mono ?_; rintro ee w2 ⟨l2, rfl, hm, hs, hB2, hg2⟩)
        go_ret2
        have hu : l2 = sortL (magK l) (upFrom 0 k) := sortL_uniq (upFrom_rise 0 k) (by rw [upFrom_length]; exact hs) (by rw [upFrom_length]; exact hm)
        refine ⟨.slice (some ⟨g, 0, none⟩) k k, ?_, ?_, below_of_grown hb hg2 hb.size (fun q hq => by injection hq with hq; omega)⟩
        · rw [HO.out]; rfl
        · rw [HO.out, HL.out]
          show OwnI w2 w.heap.size _ (sortL (magK l) (upFrom 0 k))
          rw [← hu]
          have hl2 : l2.length = k := by rw [hm.len, upFrom_length]
          have := OwnI.of_blk (cap := k) (l := l2) hgb (by simpa using hB2) (by omega) (by unfold maxLen; omega) (by rw [numCells_length, hl2]) (by rw [List.take_of_length_le (by rw [numCells_length]; exact Nat.le_refl _)])
          rw [hl2] at this
          exact this
end Go.Proofs.YtpnfhienffekoaaGreatDoor
