/- Texts that belong together, as one: Figs, Fig, FigV, FigLaw. -/
import Derived.Test.YtpnfhienffekoaaGreatDoorGrpList
import Derived.Test.YtpnfhienffekoaaGreatDoorMgM
import Derived.Deep.Matrix
import Derived.Test.YtpnfhienffekoaaGreatDoorSta
import Derived.Deep.RegionHeld3
section
namespace Go.Proofs.YtpnfhienffekoaaGreatDoor
set_option linter.unusedVariables false
set_option linter.unusedSimpArgs false
open Go.RowKit Go.ChangeShapes Go.WideShapes Go.Deep
/-- a list of numbers lies behind that cell -/
def RowAt (w : World) (b o : Nat) (x : List Int) : Prop := ∃ (A : Option Addr) (c : Nat), w.cell? ⟨b, o, none⟩ = some (.slice A x.length c) ∧ x.length ≤ c ∧ c ≤ 9223372036854775807 ∧ (A = none → c = 0 ∧ x.length = 0) ∧ Ints w A x
def RowsAt (w : World) (b o : Nat) (L : List (List Int)) : Prop := ∀ k x, L[k]? = some x → RowAt w b (o + k) x
/-- the slice that begins there reads as this list of lists -/
def Lists (w : World) (A : Option Addr) (L : List (List Int)) : Prop := 0 < L.length → ∃ b o, A = some ⟨b, o, none⟩ ∧ RowsAt w b o L
theorem RowAt.below {w w' : World} {b o : Nat} {x : List Int} (h : RowAt w b o x) (hb : Below w.heap.size w w') : RowAt w' b o x := by
  obtain ⟨A, c, h0, h1, h2, h3, h4⟩ := h
  have hl := World.block_lt_of_cell? w ⟨b, o, none⟩ h0
  exact ⟨A, c, by rw [hb.cell (by simpa using hl)]; exact h0, h1, h2, h3, h4.below hb⟩
theorem Lists.below {w w' : World} {A : Option Addr} {L : List (List Int)} (h : Lists w A L) (hb : Below w.heap.size w w') : Lists w' A L := fun hl => by
  obtain ⟨b, o, e, h1⟩ := h hl
  exact ⟨b, o, e, fun k x hx => (h1 k x hx).below hb⟩
theorem Lists.later {w : World} {A : Option Addr} {L : List (List Int)} (h : Lists w A L) (y : Later w) : Lists y.w A L := h.below y.below
/-- the world has turned in blocks of that range alone -/
structure Within (lo hi : Nat) (w w' : World) : Prop where
  os : w'.os = w.os
  tape : w'.tape = w.tape
  output : w'.output = w.output
  size : w.heap.size ≤ w'.heap.size
  block : ∀ k, k < w.heap.size → (k < lo ∨ hi ≤ k) → w'.heap[k]? = w.heap[k]?
theorem Within.refl (lo hi : Nat) (w : World) : Within lo hi w w := ⟨rfl, rfl, rfl, Nat.le_refl _, fun _ _ _ => rfl⟩
theorem Within.trans {lo hi : Nat} {a b c : World} (h : Within lo hi a b) (k : Within lo hi b c) : Within lo hi a c :=
  ⟨k.os.trans h.os, k.tape.trans h.tape, k.output.trans h.output, Nat.le_trans h.size k.size, fun q hq hr => (k.block q (Nat.lt_of_lt_of_le hq h.size) hr).trans (h.block q hq hr)⟩
theorem Within.of_below {lo hi : Nat} {w w' : World} (h : Below w.heap.size w w') : Within lo hi w w' := ⟨h.os, h.tape, h.output, h.size, fun k hk _ => h.block k hk⟩
theorem Within.of_grown {lo hi g : Nat} {w w' : World} (h : w.grownBy w' (some g)) (h1 : lo ≤ g) (h2 : g < hi) : Within lo hi w w' :=
  ⟨h.os, h.tape, h.output, h.size, fun k hk hr => h.block k hk (fun e => by injection e with e; omega)⟩
theorem below_of_within {B lo hi : Nat} {a w w' : World} (hb : Below B a w) (hg : Within lo hi w w') (hB : B ≤ w.heap.size) (hr : B ≤ lo) : Below B a w' :=
  ⟨hg.os.trans hb.os, hg.tape.trans hb.tape, hg.output.trans hb.output, Nat.le_trans hb.size hg.size, fun k hk => (hg.block k (Nat.lt_of_lt_of_le hk hB) (.inl (Nat.lt_of_lt_of_le hk hr))).trans (hb.block k hk)⟩
theorem own_within {w w' : World} {base lo hi : Nat} {e : TypeId} {size : Nat} {v : Value} {n : Nat} {xs : List Value} (h : w.ownsRow base e size v n xs) (hg : Within lo hi w w') (hne : ∀ k, v.ownBlock = some k → k < lo ∨ hi ≤ k) : w'.ownsRow base e size v n xs := by
  obtain ⟨h0, hv | ⟨g, cap, cur, hv, hb, hh, h1, h2, h3, h4⟩⟩ := h
  · exact ⟨h0, .inl hv⟩
  · subst hv
    have hl : g < w.heap.size := by
      rcases Nat.lt_or_ge g w.heap.size with hlt | hge
      · exact hlt
      · rw [Array.getElem?_eq_none hge] at hh; cases hh
    exact ⟨h0, .inr ⟨g, cap, cur, rfl, hb, (hg.block g hl (hne g rfl)).trans hh, h1, h2, h3, h4⟩⟩
theorem Blk.within {w w' : World} {g lo hi : Nat} {t : TypeId} {cs : List Value} (h : Blk w g t cs) (hg : Within lo hi w w') (hne : g < lo ∨ hi ≤ g) : Blk w' g t cs := (hg.block g h.lt hne).trans h
section
variable {H : Type} {enc : TypeId × Value → H} {P : Program} {w : World} {base : Nat} {held : Bool}
/-- a list of lists of numbers that came in -/
theorem open_lists {t e q : TypeId} {fuel : Nat} {v : Value} {x : DataW H × List MemPlace} (ht : P.underlying t = some (.slice e)) (he : P.underlying e = some (.slice q)) (hq : P.underlying q = some (.int .i64)) (ce : P.cellsOf e = 1) (cq : P.cellsOf q = 1)
    (h : DataW.trod enc P w base (fun _ => true) held fuel t [v] = some x) :
    ∃ (A : Option Addr) (n c : Nat) (L : List (List Int)), v = .slice A n c ∧ L.length = n ∧ n ≤ 9223372036854775807 ∧ n ≤ c ∧ c ≤ 9223372036854775807 ∧ Lists w A L := by
  rcases open_int_rows ht he hq ce cq h with ⟨hcs, _⟩ | ⟨a, len, cap, A, Ln, C, Z, hcs, _, hl, hm, _, hr⟩
  · simp only [List.cons.injEq, and_true] at hcs
    subst hcs
    exact ⟨none, 0, 0, [], rfl, rfl, by omega, by omega, by omega, fun h => absurd h (by simp)⟩
  · simp only [List.cons.injEq, and_true] at hcs
    subst hcs
    refine ⟨some a, len, cap, (List.range len).map fun r => (Z r).take (Ln r), rfl, by simp, by unfold maxLen at hm; omega, hl, by unfold maxLen at hm; omega, fun hp => ?_⟩
    have hn : 0 < len := by simpa using hp
    have hsp := spot_none (hr 0 (by omega)).1
    have hsp0 : a.spot = none := hsp
    refine ⟨a.block, a.off, congrArg some (addr_of_spot hsp0), fun k x hx => ?_⟩
    rw [List.getElem?_map] at hx
    by_cases hk : k < len
    · rw [List.getElem?_range hk] at hx
      simp only [Option.map_some, Option.some.injEq] at hx
      subst hx
      obtain ⟨r1, r2, r3, r4, r5, r6, r7⟩ := hr k (by omega)
      rw [addr_of_spot hsp0, addr_add] at r1
      have hlen : ((Z k).take (Ln k)).length = Ln k := by rw [List.length_take]; omega
      refine ⟨A k, C k, by rw [hlen]; exact r1, by rw [hlen]; exact r2, by unfold maxLen at r3; omega, fun e => ⟨r6 e, by rw [hlen]; have := r6 e; omega⟩, fun hp2 => ?_⟩
      rw [hlen] at hp2
      cases hA : A k with
      | none => have := r6 hA; omega
      | some a' =>
        have hcell := (r7 a' hA).2
        have hs2 := spot_none (a := a') (hcell 0 (by omega))
        refine ⟨a'.block, a'.off, congrArg some (addr_of_spot hs2), fun j y hy => ?_⟩
        rw [List.getElem?_take] at hy
        split at hy
        · next hj =>
          have := hcell j (by omega)
          rw [addr_of_spot hs2, addr_add, List.getD_eq_getElem?_getD, hy] at this
          exact this
        · cases hy
    · rw [List.getElem?_eq_none (by simp; omega)] at hx; cases hx
end
theorem OwnI.within {w w' : World} {base lo hi : Nat} {v : Value} {l : List Int} (h : OwnI w base v l) (hg : Within lo hi w w') (hne : ∀ k, v.ownBlock = some k → k < lo ∨ hi ≤ k) : OwnI w' base v l := own_within h hg hne
/-- a list of lists that was copied: the rows lie in blocks of their own, behind that of the list -/
def Copied (w : World) (g : Nat) (L : List (List Int)) : Prop := ∃ cs : List Value, cs.length = L.length ∧ Blk w g 55 cs ∧ ∀ (j : Nat) (x : List Int), L[j]? = some x → ∃ q : Nat, cs[j]? = some (Value.slice (some ⟨q, 0, none⟩) x.length x.length) ∧ g < q ∧ Blk w q 2 (numCells x)
theorem Copied.keep {w w' : World} {g : Nat} {L : List (List Int)} (h : Copied w g L) (hb : Below w.heap.size w w') : Copied w' g L := by
  obtain ⟨cs, h0, h1, h2⟩ := h
  refine ⟨cs, h0, h1.keep hb, fun j x hx => ?_⟩
  obtain ⟨q, a, b, c⟩ := h2 j x hx
  exact ⟨q, a, b, c.keep hb⟩
theorem Copied.lt {w : World} {g : Nat} {L : List (List Int)} (h : Copied w g L) : g < w.heap.size := by obtain ⟨cs, _, h1, _⟩ := h; exact h1.lt
theorem Copied.lists {w : World} {g : Nat} {L : List (List Int)} (h : Copied w g L) (hs : ∀ x ∈ L, x.length ≤ 9223372036854775807) : Lists w (some ⟨g, 0, none⟩) L := fun _ => by
  obtain ⟨cs, h0, h1, h2⟩ := h
  refine ⟨g, 0, rfl, fun k x hx => ?_⟩
  obtain ⟨q, a, b, c⟩ := h2 k x hx
  exact ⟨some ⟨q, 0, none⟩, x.length, by rw [h1.cell, Nat.zero_add]; exact a, Nat.le_refl _, hs x (List.mem_of_getElem? hx), fun e => (by cases e), c.nums⟩
theorem info_list : (Tryz.prog.info? 55).map (fun i => (i.zero, i.size, i.bytes)) = some (some (.slice none 0 0), 1, 24) := by kernel_rfl
theorem zeroLists_made (z : Array Value) (hz : z = #[.slice none 0 0]) (n : Nat) : madeCells z (n * 1) = (List.replicate n (Value.slice none 0 0)).toArray := by
  apply Array.ext_getElem?
  intro j
  by_cases hj : j < n
  · simp [madeCells, hz, hj, Nat.mod_one]
  · simp [madeCells, hz, hj]
end Go.Proofs.YtpnfhienffekoaaGreatDoor
end
section
namespace Go.Proofs.YtpnfhienffekoaaGreatDoor
set_option linter.unusedVariables false
set_option linter.unusedSimpArgs false
open Go.RowKit
/-- -1, 0 or 1 -/
def cmpZ (a b : Int) : Int := if a < b then -1 else if b < a then 1 else 0
theorem cmpZ_gt {a b : Int} (h : b < a) : cmpZ a b = 1 := by rw [cmpZ, if_neg (by omega), if_pos h]
theorem cmpZ_eq {a b : Int} (h : b ≤ a) (k : a ≤ b) : cmpZ a b = 0 := by rw [cmpZ, if_neg (by omega), if_neg (by omega)]
theorem ints_two {w : World} {A : Option Addr} {a b : Int} (h : Ints w A [a, b]) : ∃ p o, A = some ⟨p, o, none⟩ ∧ w.cell? ⟨p, o, none⟩ = some (.int .i64 a) ∧ w.cell? ⟨p, o + 1, none⟩ = some (.int .i64 b) := by
  obtain ⟨p, o, e, hc⟩ := h (by simp)
  exact ⟨p, o, e, by simpa using hc 0 a rfl, by simpa using hc 1 b rfl⟩
theorem len_two {x : List Int} (h : x.length = 2) : ∃ a b : Int, x = [a, b] := by
  match x, h with
  | [a, b], _ => exact ⟨a, b, rfl⟩
set_option maxHeartbeats 400000 in
theorem cmpInt_any (a b : Int) (w : World) :
    Calls Tryz.prog 82 #[.int .i64 a, .int .i64 b] w fun e w' => e = .returned (.int .i64 (cmpZ a b)) ∧ w = w' := by
  by_cases h1 : a < b
  · go_enter Tryz.func82, Tryz.ntmps82
    go_wp2
    go_ret
    exact ⟨ret_int (by rw [cmpZ, if_pos h1]), rfl⟩
  · by_cases h2 : b < a
    · go_enter Tryz.func82, Tryz.ntmps82
      go_wp2
      go_ret
      exact ⟨ret_int ((cmpZ_gt (by omega)).symm), rfl⟩
    · go_enter Tryz.func82, Tryz.ntmps82
      go_wp2
      go_ret
      exact ⟨ret_int ((cmpZ_eq (by omega) (by omega)).symm), rfl⟩
/-- how two lists of two numbers compare -/
def cmp2 (a b c d : Int) : Int := if a = c then cmpZ b d else cmpZ a c
theorem cmp2_lt (a b c d : Int) : cmp2 a b c d < 0 ↔ lineLt [a, b] [c, d] = true := by
  rw [lineLt_mk]
  simp only [cmp2, cmpZ, Bool.or_eq_true, Bool.and_eq_true, decide_eq_true_eq]
  repeat' split
  all_goals omega
set_option maxHeartbeats 1000000 in
theorem cmpRows_any (A A' : Option Addr) (c c' : Nat) (a b a' b' : Int) (w : World) (hS : Ints w A [a, b]) (hS' : Ints w A' [a', b']) :
    Calls Tryz.prog 129 #[.slice A 2 c, .slice A' 2 c'] w fun e w' => e = .returned (.int .i64 (cmp2 a b a' b')) ∧ w = w' := by
  obtain ⟨p, o, rfl, c0, c1⟩ := ints_two hS
  obtain ⟨p', o', rfl, d0, d1⟩ := ints_two hS'
  clear hS hS'
  by_cases h : a = a'
  · have hz : cmpZ a a' = 0 := by rw [h]; simp [cmpZ]
    have HC : Hid (cmp2 a b a' b' = cmpZ b b') := Lib.hid (by rw [cmp2, if_pos h])
    have C0 : Hid (∀ W, Calls Tryz.prog 82 #[.int .i64 a, .int .i64 a'] W fun e w' => e = .returned (.int .i64 0) ∧ W = w') := Lib.hid (fun W => by rw [← hz]; exact cmpInt_any a a' W)
    have C1 : Hid (∀ W, Calls Tryz.prog 82 #[.int .i64 b, .int .i64 b'] W fun e w' => e = .returned (.int .i64 (cmpZ b b')) ∧ W = w') := Lib.hid (fun W => cmpInt_any b b' W)
    clear h hz
    generalize cmpZ b b' = r at *
    go_enter Tryz.func129, Tryz.ntmps129
    go_wp2
    go_loop [11] (fun i => ∃ k : Nat, k ≤ 2 ∧ i = .int .i64 k ∧ (k = 2 → r = 0)) (fun i => 2 - (intOf i).toNat)
    case atStart => exact ⟨0, by omega, rfl, fun h => by omega⟩
    case round =>
      obtain ⟨k, hk, rfl, hr⟩ := hrel
      rcases k with _ | _ | _ | k
      · have HR := Lib.hid hr; clear hr
        simp only [Int.natCast_zero]
        go_wp2_with (refine (C0.out _).mono ?_; rintro e w' ⟨rfl, rfl⟩)
        go_round
        case rel => exact ⟨1, by omega, by go_num, fun h => by omega⟩
        case measure => simp [intOf]
      · have HR := Lib.hid hr; clear hr
        simp only [Nat.zero_add, Int.natCast_one]
        by_cases hr0 : r = 0
        · subst hr0
          go_wp2_with (refine (C1.out _).mono ?_; rintro e w' ⟨rfl, rfl⟩)
          go_round
          case rel => exact ⟨2, by omega, by go_num, fun h => by first | rfl | trivial⟩
          case measure => simp [intOf]
        · have hr1 : (r == 0) = false := by simpa using hr0
          go_wp2_with (refine (C1.out _).mono ?_; rintro e w' ⟨rfl, rfl⟩)
          go_ret
          exact ⟨ret_int (by rw [HC.out]), rfl⟩
      · have HR := Lib.hid (hr rfl); clear hr
        simp only [Nat.zero_add, Nat.reduceAdd]
        go_wp2
        go_ret
        exact ⟨ret_int (by rw [HC.out, HR.out]), rfl⟩
      · omega
  · have hz : (cmpZ a a' == 0) = false := by
      simp only [cmpZ, beq_eq_false_iff_ne]; repeat' split
      all_goals omega
    have HC : Hid (cmp2 a b a' b' = cmpZ a a') := Lib.hid (by rw [cmp2, if_neg h])
    have C0 : Hid (∀ W, Calls Tryz.prog 82 #[.int .i64 a, .int .i64 a'] W fun e w' => e = .returned (.int .i64 (cmpZ a a')) ∧ W = w') := Lib.hid (fun W => cmpInt_any a a' W)
    clear h
    generalize cmpZ a a' = r at *
    go_enter Tryz.func129, Tryz.ntmps129
    go_wp2
    go_loop [11] (fun i => i = .int .i64 0) (fun i => 2 - (intOf i).toNat)
    case atStart => rfl
    case round =>
      subst hrel
      go_wp2_with (refine (C0.out _).mono ?_; rintro e w' ⟨rfl, rfl⟩)
      go_ret
      exact ⟨ret_int (by rw [HC.out]), rfl⟩
set_option maxRecDepth 100000 in
set_option maxHeartbeats 4000000 in
theorem validLines_any (A : Option Addr) (n c : Nat) (L : List (List Int)) (m : Int) (w : World) (hl : L.length = n) (hn : n ≤ 9223372036854775807) (hS : Lists w A L) :
    Calls Tryz.prog 96 #[.slice A n c, .int .i64 m] w fun e w' => e = .returned (.bool (vLines m L)) ∧ Below w.heap.size w w' := by
  have HL := Lib.hid hl; clear hl
  by_cases h16 : n ≤ 16
  · go_enter Tryz.func96, Tryz.ntmps96
    go_wp2
    go_loopw [5, 6, 12] (fun a p i wr => ∃ k : Nat, k ≤ n ∧ i = .int .i64 k ∧ lnUpto m L k = true ∧ Below w.heap.size w wr) (fun _ _ i _ => n - (intOf i).toNat)
    case atStart => exact ⟨0, by omega, rfl, rfl, Below.refl _ _⟩
    case round =>
      obtain ⟨k, hk, rfl, hok, hb⟩ := hrel
      have HOK := Lib.hid hok; clear hok
      by_cases hlt : k < n
      · obtain ⟨x, hx⟩ := at_lt (l := L) (k := k) (by have := HL.out; omega)
        obtain ⟨b, o, rfl, hc⟩ := hS.below hb (by have := HL.out; omega)
        obtain ⟨A1, c1, e0, e1, e2, e3, e4⟩ := hc k x hx
        have l0 := World.block_lt_of_cell? wr _ e0
        by_cases h2 : x.length = 2
        · obtain ⟨u, v, rfl⟩ := len_two h2
          obtain ⟨b1, o1, rfl, q0, q1⟩ := ints_two e4
          have l1 := World.block_lt_of_cell? wr _ q0
          dsimp only at l0 l1
          simp only [List.length_cons, List.length_nil, Nat.zero_add, Nat.reduceAdd] at e0 e1
          have hc2 : (2 : Int) ≤ (c1 : Int) := by omega
          have HE4 := Lib.hid e4
          clear h2 e2 e3 e4
          have hbad : ¬ (0 ≤ u ∧ u < v ∧ v < m) → vLines m L = false := fun h => vLines_no (k := k) (by have := HL.out; omega) (by
            have : lineOk m [u, v] = false := by rw [lineOk_mk]; simp only [Bool.and_eq_false_iff, decide_eq_false_iff_not]; omega
            rcases k with _ | j
            · rw [lnAt_zero hx, this]
            · obtain ⟨z, hz⟩ := at_lt (l := L) (k := j) (by have := HL.out; omega)
              rw [lnAt_succ hx hz, this]; rfl)
          have HB := Lib.hid hbad; clear hbad
          by_cases t1 : u < 0
          · have t1' : decide (u < 0) = true := by simpa using t1
            have HB2 := Lib.hid (HB.out (by omega))
            clear hc hx
            go_wp2_with (fail)
            (refine later_intro_wp ?_; intro y)
            (refine wp_region_later (by kernel_rfl) (by kernel_rfl) ?_; (repeat (first | go_big_quiet_step ((fail)) | quiet_step ((fail)))); refine wpQuiet_nil ?_; rintro _ ⟨y, rfl⟩)
            go_wp2_with (fail)
            go_ret
            exact ⟨ret_bool (by rw [HB2.out]), below_later hb _⟩
          · have t1' : decide (u < 0) = false := by simpa using t1
            by_cases t2 : v ≤ u
            · have t2' : decide (v ≤ u) = true := by simpa using t2
              have HB2 := Lib.hid (HB.out (by omega))
              clear hc hx
              go_wp2_with (fail)
              (refine later_intro_wp ?_; intro y)
              (refine wp_region_later (by kernel_rfl) (by kernel_rfl) ?_; (repeat (first | go_big_quiet_step ((fail)) | quiet_step ((fail)))); refine wpQuiet_nil ?_; rintro _ ⟨y, rfl⟩)
              go_wp2_with (fail)
              go_ret
              exact ⟨ret_bool (by rw [HB2.out]), below_later hb _⟩
            · have t2' : decide (v ≤ u) = false := by simpa using t2
              by_cases t3 : m ≤ v
              · have t3' : decide (m ≤ v) = true := by simpa using t3
                have HB2 := Lib.hid (HB.out (by omega))
                clear hc hx
                go_wp2_with (fail)
                (refine later_intro_wp ?_; intro y)
                (refine wp_region_later (by kernel_rfl) (by kernel_rfl) ?_; (repeat (first | go_big_quiet_step ((fail)) | quiet_step ((fail)))); refine wpQuiet_nil ?_; rintro _ ⟨y, rfl⟩)
                go_wp2_with (fail)
                go_ret
                exact ⟨ret_bool (by rw [HB2.out]), below_later hb _⟩
              · have t3' : decide (m ≤ v) = false := by simpa using t3
                have hok : lineOk m [u, v] = true := by rw [lineOk_mk]; simp only [Bool.and_eq_true, decide_eq_true_eq]; omega
                clear HB
                rcases k with _ | k
                · have HX := Lib.hid (lnAt_zero (n := m) hx)
                  have HK := Lib.hid hok
                  clear hc hx hok
                  simp only [Int.natCast_zero]
                  simp only [Nat.add_zero] at e0
                  go_wp2_with (fail)
                  (refine later_intro_wp ?_; intro y)
                  (refine wp_region_later (by kernel_rfl) (by kernel_rfl) ?_; (repeat (first | go_big_quiet_step ((fail)) | quiet_step ((fail)))); refine wpQuiet_nil ?_; rintro _ ⟨y, rfl⟩)
                  go_wp2_with (fail)
                  go_roundw
                  case rel => exact ⟨0 + 1, by omega, by go_num, by rw [lnUpto_succ, HOK.out, HX.out, HK.out]; rfl, below_later hb _⟩
                  case measure => simp [intOf]; omega
                · obtain ⟨z, hz⟩ := at_lt (l := L) (k := k) (by have := HL.out; omega)
                  obtain ⟨u', v', rfl, _, _, _⟩ := lineOk_two (lnUpto_ok HOK.out (Nat.lt_succ_self k) hz)
                  obtain ⟨A2, c2, d0, d1, d2, d3, d4⟩ := hc k _ hz
                  have l2 := World.block_lt_of_cell? wr _ d0
                  dsimp only at l2
                  simp only [List.length_cons, List.length_nil, Nat.zero_add, Nat.reduceAdd] at d0 d1
                  have HX : Hid (lnAt m L (k + 1) = lineLt [u', v'] [u, v]) := Lib.hid (by rw [lnAt_succ hx hz, hok]; rfl)
                  have hc1 : ((k + 1 : Nat) : Int) = (k : Int) + 1 := by omega
                  rw [hc1]
                  have hk1 : (0 : Int) < (k : Int) + 1 := by omega
                  have C1 : Hid (∀ W, Below wr.heap.size wr W → Calls Tryz.prog 129 #[.slice A2 2 c2, .slice (some ⟨b1, o1, none⟩) 2 c1] W fun e w' => e = .returned (.int .i64 (cmp2 u' v' u v)) ∧ W = w') := Lib.hid (fun W hW => cmpRows_any A2 _ c2 c1 u' v' u v W (d4.below hW) (HE4.out.below hW))
                  have HK := Lib.hid (cmp2_lt u' v' u v)
                  generalize cmp2 u' v' u v = r at *
                  generalize lineLt [u', v'] [u, v] = lt at *
                  clear hc hx hz hok d2 d3 d4 hc1
                  by_cases hr : r < 0
                  · have hr0 : ¬ 0 ≤ r := by omega
                    have hr' : decide (0 ≤ r) = false := by simpa using hr0
                    go_wp2_with (fail)
                    (refine later_intro_wp ?_; intro y)
                    (refine wp_region_later (by kernel_rfl) (by kernel_rfl) ?_; (repeat (first | go_big_quiet_step ((fail)) | quiet_step ((fail)))); refine wpQuiet_nil ?_; rintro _ ⟨y, rfl⟩)
                    go_wp2_with (refine (C1.out _ (Later.below _)).mono ?_; rintro e w' ⟨rfl, rfl⟩)
                    go_roundw
                    case rel => exact ⟨k + 1 + 1, by omega, by go_num, by rw [lnUpto_succ, HOK.out, HX.out, HK.out.1 hr]; rfl, below_later hb _⟩
                    case measure => simp [intOf]; omega
                  · have hr0 : 0 ≤ r := by omega
                    have hr' : decide (0 ≤ r) = true := by simpa using hr0
                    go_wp2_with (fail)
                    (refine later_intro_wp ?_; intro y)
                    (refine wp_region_later (by kernel_rfl) (by kernel_rfl) ?_; (repeat (first | go_big_quiet_step ((fail)) | quiet_step ((fail)))); refine wpQuiet_nil ?_; rintro _ ⟨y, rfl⟩)
                    go_wp2_with (refine (C1.out _ (Later.below _)).mono ?_; rintro e w' ⟨rfl, rfl⟩)
                    go_ret
                    exact ⟨ret_bool (by rw [vLines_no (k := k + 1) (by have := HL.out; omega) (by
                      rw [HX.out]
                      cases hh : lt with
                      | false => rfl
                      | true => have := HK.out.2 hh; omega)]), below_later hb _⟩
        · have HB : Hid (vLines m L = false) := Lib.hid (vLines_no (k := k) (by have := HL.out; omega) (by
            have h3 := lineOk_len (n := m) h2
            rcases k with _ | j
            · rw [lnAt_zero hx, h3]
            · obtain ⟨z, hz⟩ := at_lt (l := L) (k := j) (by have := HL.out; omega)
              rw [lnAt_succ hx hz, h3]; rfl))
          have hne : ((x.length : Int) == 2) = false := by simp; omega
          have hne2 : ((x.length : Int) != 2) = true := by simp; omega
          clear hc hx e1 e3 e4 h2
          generalize x.length = q at *
          dsimp only at l0
          go_wp2_with (fail)
          (refine later_intro_wp ?_; intro y)
          (refine wp_region_later (by kernel_rfl) (by kernel_rfl) ?_; (repeat (first | go_big_quiet_step ((fail)) | quiet_step ((fail)))); refine wpQuiet_nil ?_; rintro _ ⟨y, rfl⟩)
          go_wp2_with (fail)
          go_ret
          exact ⟨ret_bool (by rw [HB.out]), below_later hb _⟩
      · obtain rfl : k = n := by omega
        go_wp2
        go_ret
        exact ⟨ret_bool (by rw [vLines_yes (by have := HL.out; omega) (by rw [HL.out]; exact HOK.out)]), hb⟩
  · go_enter Tryz.func96, Tryz.ntmps96
    go_wp2
    go_ret
    exact ⟨ret_bool (by rw [vLines_long (by have := HL.out; omega)]), Below.refl _ _⟩
end Go.Proofs.YtpnfhienffekoaaGreatDoor
end
section
namespace Go.Proofs.YtpnfhienffekoaaGreatDoor
set_option linter.unusedVariables false
set_option linter.unusedSimpArgs false
open Go.RowKit
theorem vLines_all {n : Int} {L : List (List Int)} (h : lnUpto n L L.length = true) : vLines n L = decide (L.length ≤ 16) := by simp [vLines, h]
theorem lnAt_no {n : Int} {L : List (List Int)} {k : Nat} {x : List Int} (hx : L[k]? = some x) (h : lineOk n x = false) : lnAt n L k = false := by
  rcases k with _ | j
  · rw [lnAt_zero hx, h]
  · have hj : j < L.length := by have := (List.getElem?_eq_some_iff.1 hx).1; omega
    obtain ⟨z, hz⟩ := at_lt (l := L) (k := j) hj
    rw [lnAt_succ hx hz, h]; rfl
set_option maxRecDepth 100000 in
set_option maxHeartbeats 8000000 in
theorem l08Lines_any (A : Option Addr) (n c : Nat) (L : List (List Int)) (m : Int) (w : World) (hl : L.length = n) (hn : n ≤ 9223372036854775807) (hS : Lists w A L) (hm0 : 0 ≤ m) (hm1 : m ≤ 1000000) :
    Calls Tryz.prog 132 #[.slice A n c, .int .i64 m] w fun e w' => e = .returned (.bool (vLines m L)) ∧ Below w.heap.size w w' := by
  have HL := Lib.hid hl; clear hl
  go_enter Tryz.func132, Tryz.ntmps132
  go_wp2
  go_loopw [5, 6] (fun i p wr => ∃ k : Nat, k ≤ n ∧ i = .int .i64 k ∧ lnUpto m L k = true ∧ Below w.heap.size w wr) (fun i _ _ => n - (intOf i).toNat)
  case atStart => exact ⟨0, by omega, rfl, rfl, Below.refl _ _⟩
  case round =>
    obtain ⟨k, hk, rfl, hok, hb⟩ := hrel
    have HOK := Lib.hid hok; clear hok
    by_cases hlt : k < n
    · obtain ⟨x, hx⟩ := at_lt (l := L) (k := k) (by have := HL.out; omega)
      obtain ⟨b, o, rfl, hc⟩ := hS.below hb (by have := HL.out; omega)
      obtain ⟨A1, c1, e0, e1, e2, e3, e4⟩ := hc k x hx
      have l0 := World.block_lt_of_cell? wr _ e0
      by_cases h2 : x.length = 2
      · obtain ⟨u, v, rfl⟩ := len_two h2
        obtain ⟨b1, o1, rfl, q0, q1⟩ := ints_two e4
        have l1 := World.block_lt_of_cell? wr _ q0
        dsimp only at l0 l1
        simp only [List.length_cons, List.length_nil, Nat.zero_add, Nat.reduceAdd] at e0 e1
        have hc2 : (2 : Int) ≤ (c1 : Int) := by omega
        clear h2 e2 e3 e4
        have HB : Hid (¬ (0 ≤ u ∧ u < v ∧ v < m) → vLines m L = false) := Lib.hid (fun h => vLines_no (k := k) (by have := HL.out; omega) (lnAt_no hx (by
          rw [lineOk_mk]; simp only [Bool.and_eq_false_iff, decide_eq_false_iff_not]; omega)))
        by_cases t1 : 0 ≤ u ∧ u ≤ m - 1
        · have C1 : Hid (∀ W, Calls Tryz.prog 58 #[.int .i64 u, .int .i64 0, .int .i64 (m - 1)] W fun e w' => e = .returned (.bool true) ∧ W = w') := Lib.hid (fun W => l00In_is (by simp [inB]; omega) W)
          by_cases t2 : u + 1 ≤ v ∧ v ≤ m - 1
          · have C2 : Hid (∀ W, Calls Tryz.prog 58 #[.int .i64 v, .int .i64 (u + 1), .int .i64 (m - 1)] W fun e w' => e = .returned (.bool true) ∧ W = w') := Lib.hid (fun W => l00In_is (by simp [inB]; omega) W)
            have hok : lineOk m [u, v] = true := by rw [lineOk_mk]; simp only [Bool.and_eq_true, decide_eq_true_eq]; omega
            obtain ⟨u0, u1⟩ := t1
            obtain ⟨v0, v1⟩ := t2
            clear HB
            rcases k with _ | k
            · have HX := Lib.hid (lnAt_zero (n := m) hx)
              have HK := Lib.hid hok
              clear hc hx hok
              simp only [Int.natCast_zero]
              simp only [Nat.add_zero] at e0
              go_wp2_with (fail)
              (refine later_intro_wp ?_; intro y)
              (refine wp_region_later (by kernel_rfl) (by kernel_rfl) ?_; (repeat (first | go_big_quiet_step ((first | (go_at_call 58; with_reducible exact later_same (C1.out _)) | (go_at_call 58; with_reducible exact later_same (C2.out _)))) | quiet_step ((first | (go_at_call 58; with_reducible exact later_same (C1.out _)) | (go_at_call 58; with_reducible exact later_same (C2.out _)))))); refine wpQuiet_nil ?_; rintro _ ⟨y, rfl⟩)
              go_wp2_with (fail)
              (refine wp_region_later (by kernel_rfl) (by kernel_rfl) ?_; (repeat (first | go_big_quiet_step ((fail)) | quiet_step ((fail)))); refine wpQuiet_nil ?_; rintro _ ⟨y, rfl⟩)
              go_wp2_with (fail)
              go_roundw
              case rel => exact ⟨0 + 1, by omega, by go_num, by rw [lnUpto_succ, HOK.out, HX.out, HK.out]; rfl, below_later hb _⟩
              case measure => simp [intOf]; omega
            · obtain ⟨z, hz⟩ := at_lt (l := L) (k := k) (by have := HL.out; omega)
              obtain ⟨u', v', rfl, z0, z1, z2⟩ := lineOk_two (lnUpto_ok HOK.out (Nat.lt_succ_self k) hz)
              obtain ⟨A2, c2, d0, d1, d2, d3, d4⟩ := hc k _ hz
              obtain ⟨b2, o2, rfl, p0, p1⟩ := ints_two d4
              have l2 := World.block_lt_of_cell? wr _ d0
              have l3 := World.block_lt_of_cell? wr _ p0
              dsimp only at l2 l3
              simp only [List.length_cons, List.length_nil, Nat.zero_add, Nat.reduceAdd] at d0 d1
              have hc22 : (2 : Int) ≤ (c2 : Int) := by omega
              have HX : Hid (lnAt m L (k + 1) = lineLt [u', v'] [u, v]) := Lib.hid (by rw [lnAt_succ hx hz, hok]; rfl)
              have hc1 : ((k + 1 : Nat) : Int) = (k : Int) + 1 := by omega
              rw [hc1]
              have hk1 : (0 : Int) < (k : Int) + 1 := by omega
              clear hc hx hz hok d2 d3 d4 hc1
              have hk2 : (k : Int) + 1 - 1 = k := by omega
              by_cases hr : u' < u ∨ u' = u ∧ v' < v
              · have HK : Hid (lineLt [u', v'] [u, v] = true) := Lib.hid (by rw [lineLt_mk]; simp only [Bool.or_eq_true, Bool.and_eq_true, decide_eq_true_eq]; exact hr)
                have g1 : decide (u < u') = false := by simp; omega
                rcases hr with hr | ⟨hr1, hr2⟩
                · have g2 : (u' == u) = false := by simp; omega
                  go_wp2_with (fail)
                  (refine later_intro_wp ?_; intro y)
                  (refine wp_region_later (by kernel_rfl) (by kernel_rfl) ?_; (repeat (first | go_big_quiet_step ((first | (go_at_call 58; with_reducible exact later_same (C1.out _)) | (go_at_call 58; with_reducible exact later_same (C2.out _)))) | quiet_step ((first | (go_at_call 58; with_reducible exact later_same (C1.out _)) | (go_at_call 58; with_reducible exact later_same (C2.out _)))))); refine wpQuiet_nil ?_; rintro _ ⟨y, rfl⟩)
                  go_wp2_with (fail)
                  (refine wp_region_later (by kernel_rfl) (by kernel_rfl) ?_; (repeat (first | go_big_quiet_step ((fail)) | quiet_step ((fail)))); refine wpQuiet_nil ?_; rintro _ ⟨y, rfl⟩)
                  go_wp2_with (fail)
                  go_roundw
                  case rel => exact ⟨k + 1 + 1, by omega, by go_num, by rw [lnUpto_succ, HOK.out, HX.out, HK.out]; rfl, below_later hb _⟩
                  case measure => simp [intOf]; omega
                · have g2 : (u' == u) = true := by simp; omega
                  have g3 : decide (v ≤ v') = false := by simp; omega
                  have HE := Lib.hid hr1
                  clear hr1
                  go_wp2_with (fail)
                  (refine later_intro_wp ?_; intro y)
                  (refine wp_region_later (by kernel_rfl) (by kernel_rfl) ?_; (repeat (first | go_big_quiet_step ((first | (go_at_call 58; with_reducible exact later_same (C1.out _)) | (go_at_call 58; with_reducible exact later_same (C2.out _)))) | quiet_step ((first | (go_at_call 58; with_reducible exact later_same (C1.out _)) | (go_at_call 58; with_reducible exact later_same (C2.out _)))))); refine wpQuiet_nil ?_; rintro _ ⟨y, rfl⟩)
                  go_wp2_with (fail)
                  (refine wp_region_later (by kernel_rfl) (by kernel_rfl) ?_; (repeat (first | go_big_quiet_step ((fail)) | quiet_step ((fail)))); refine wpQuiet_nil ?_; rintro _ ⟨y, rfl⟩)
                  go_wp2_with (fail)
                  go_roundw
                  case rel => exact ⟨k + 1 + 1, by omega, by go_num, by rw [lnUpto_succ, HOK.out, HX.out, HK.out]; rfl, below_later hb _⟩
                  case measure => simp [intOf]; omega
              · have HB : Hid (vLines m L = false) := Lib.hid (vLines_no (k := k + 1) (by have := HL.out; omega) (by
                  rw [HX.out, lineLt_mk]
                  cases hd : (decide (u' < u) || (decide (u' = u) && decide (v' < v))) with
                  | false => rfl
                  | true => simp only [Bool.or_eq_true, Bool.and_eq_true, decide_eq_true_eq] at hd; exact absurd hd hr))
                by_cases hg : u < u'
                · have g1 : decide (u < u') = true := by simp; omega
                  go_wp2_with (fail)
                  (refine later_intro_wp ?_; intro y)
                  (refine wp_region_later (by kernel_rfl) (by kernel_rfl) ?_; (repeat (first | go_big_quiet_step ((first | (go_at_call 58; with_reducible exact later_same (C1.out _)) | (go_at_call 58; with_reducible exact later_same (C2.out _)))) | quiet_step ((first | (go_at_call 58; with_reducible exact later_same (C1.out _)) | (go_at_call 58; with_reducible exact later_same (C2.out _)))))); refine wpQuiet_nil ?_; rintro _ ⟨y, rfl⟩)
                  go_wp2_with (fail)
                  (refine wp_region_later (by kernel_rfl) (by kernel_rfl) ?_; (repeat (first | go_big_quiet_step ((fail)) | quiet_step ((fail)))); refine wpQuiet_nil ?_; rintro _ ⟨y, rfl⟩)
                  go_wp2_with (fail)
                  go_ret
                  exact ⟨ret_bool (by rw [HB.out]), below_later hb _⟩
                · have g1 : decide (u < u') = false := by simp; omega
                  have g2 : (u' == u) = true := by simp; omega
                  have g3 : decide (v ≤ v') = true := by simp; omega
                  clear hr
                  go_wp2_with (fail)
                  (refine later_intro_wp ?_; intro y)
                  (refine wp_region_later (by kernel_rfl) (by kernel_rfl) ?_; (repeat (first | go_big_quiet_step ((first | (go_at_call 58; with_reducible exact later_same (C1.out _)) | (go_at_call 58; with_reducible exact later_same (C2.out _)))) | quiet_step ((first | (go_at_call 58; with_reducible exact later_same (C1.out _)) | (go_at_call 58; with_reducible exact later_same (C2.out _)))))); refine wpQuiet_nil ?_; rintro _ ⟨y, rfl⟩)
                  go_wp2_with (fail)
                  (refine wp_region_later (by kernel_rfl) (by kernel_rfl) ?_; (repeat (first | go_big_quiet_step ((fail)) | quiet_step ((fail)))); refine wpQuiet_nil ?_; rintro _ ⟨y, rfl⟩)
                  go_wp2_with (fail)
                  go_ret
                  exact ⟨ret_bool (by rw [HB.out]), below_later hb _⟩
          · have C2 : Hid (∀ W, Calls Tryz.prog 58 #[.int .i64 v, .int .i64 (u + 1), .int .i64 (m - 1)] W fun e w' => e = .returned (.bool false) ∧ W = w') := Lib.hid (fun W => l00In_is (by
              cases hd : inB v (u + 1) (m - 1) with
              | false => rfl
              | true => rw [inB_iff] at hd; exact absurd hd t2) W)
            have HB2 := Lib.hid (HB.out (by omega))
            obtain ⟨u0, u1⟩ := t1
            clear hc hx HB t2
            go_wp2_with (fail)
            (refine later_intro_wp ?_; intro y)
            (refine wp_region_later (by kernel_rfl) (by kernel_rfl) ?_; (repeat (first | go_big_quiet_step ((first | (go_at_call 58; with_reducible exact later_same (C1.out _)) | (go_at_call 58; with_reducible exact later_same (C2.out _)))) | quiet_step ((first | (go_at_call 58; with_reducible exact later_same (C1.out _)) | (go_at_call 58; with_reducible exact later_same (C2.out _)))))); refine wpQuiet_nil ?_; rintro _ ⟨y, rfl⟩)
            go_wp2_with (fail)
            go_ret
            exact ⟨ret_bool (by rw [HB2.out]), below_later hb _⟩
        · have C1 : Hid (∀ W, Calls Tryz.prog 58 #[.int .i64 u, .int .i64 0, .int .i64 (m - 1)] W fun e w' => e = .returned (.bool false) ∧ W = w') := Lib.hid (fun W => l00In_is (by
              cases hd : inB u 0 (m - 1) with
              | false => rfl
              | true => rw [inB_iff] at hd; exact absurd hd t1) W)
          have HB2 := Lib.hid (HB.out (by omega))
          clear hc hx HB t1
          go_wp2_with (fail)
          (refine later_intro_wp ?_; intro y)
          (refine wp_region_later (by kernel_rfl) (by kernel_rfl) ?_; (repeat (first | go_big_quiet_step ((first | (go_at_call 58; with_reducible exact later_same (C1.out _)))) | quiet_step ((first | (go_at_call 58; with_reducible exact later_same (C1.out _)))))); refine wpQuiet_nil ?_; rintro _ ⟨y, rfl⟩)
          go_wp2_with (fail)
          go_ret
          exact ⟨ret_bool (by rw [HB2.out]), below_later hb _⟩
      · have HB : Hid (vLines m L = false) := Lib.hid (vLines_no (k := k) (by have := HL.out; omega) (lnAt_no hx (lineOk_len h2)))
        have hne : ((x.length : Int) == 2) = false := by simp; omega
        have hne2 : ((x.length : Int) != 2) = true := by simp; omega
        clear hc hx e1 e3 e4 h2
        generalize x.length = q at *
        dsimp only at l0
        go_wp2_with (fail)
        (refine later_intro_wp ?_; intro y)
        (refine wp_region_later (by kernel_rfl) (by kernel_rfl) ?_; (repeat (first | go_big_quiet_step ((fail)) | quiet_step ((fail)))); refine wpQuiet_nil ?_; rintro _ ⟨y, rfl⟩)
        go_wp2_with (fail)
        go_ret
        exact ⟨ret_bool (by rw [HB.out]), below_later hb _⟩
    · obtain rfl : k = n := by omega
      go_wp2
      go_ret
      exact ⟨ret_bool (by rw [vLines_all (by rw [HL.out]; exact HOK.out), HL.out]; first | (simp; done) | (simp; omega)), hb⟩
theorem vFig_no1 {nm : ByteArray} {L : List (List Int)} {l : List Sta} (h : vStars l = false) : vFig nm L l = false := by simp [vFig, h]
theorem vFig_no2 {nm : ByteArray} {L : List (List Int)} {l : List Sta} (h : isName nm.data.toList = false) : vFig nm L l = false := by simp [vFig, h]
theorem vFig_eq {nm : ByteArray} {L : List (List Int)} {l : List Sta} (h : vStars l = true) (h2 : isName nm.data.toList = true) : vFig nm L l = vLines l.length L := by simp [vFig, h, h2]
theorem vFig_stars {nm : ByteArray} {L : List (List Int)} {l : List Sta} (h : vFig nm L l = true) : vStars l = true := by
  simp only [vFig, Bool.and_eq_true] at h; exact h.1
theorem vFig_lines {nm : ByteArray} {L : List (List Int)} {l : List Sta} (h : vFig nm L l = true) : vLines l.length L = true := by
  simp only [vFig, Bool.and_eq_true] at h; exact h.2.2
/-- the cells of a figure -/
def figCells (nm : ByteArray) (B : Option Addr) (p q : Nat) : List Value := [.string nm, .slice B p q]
theorem Blk.fig {w : World} {g : Nat} {t : TypeId} {nm : ByteArray} {B : Option Addr} {p q : Nat} (h : Blk w g t (figCells nm B p q)) : w.cell? ⟨g, 0, none⟩ = some (.string nm) ∧ w.cell? ⟨g, 1, none⟩ = some (.slice B p q) := ⟨by rw [h.cell]; rfl, by rw [h.cell]; rfl⟩
set_option maxHeartbeats 2000000 in
theorem ValidFigure_any (nm : ByteArray) (B : Option Addr) (p q : Nat) (L : List (List Int)) (A : Option Addr) (n c : Nat) (l : List Sta) (w : World) (hp : L.length = p) (hp2 : p ≤ 9223372036854775807) (hB : Lists w B L) (hl : l.length = n) (hn : n ≤ 9223372036854775807) (hS : Stars w A l) :
    Calls Tryz.prog 84 #[.agg #[.string nm, .slice B p q], .slice A n c] w fun e w' => e = .returned (.bool (vFig nm L l)) ∧ Below w.heap.size w w' := by
  have hb0 : Below w.heap.size w (w.alloc (.cells #[.string nm, .slice B p q] 63)) := below_alloc (Below.refl _ _) _
  have hX0 : Blk (w.alloc (.cells #[.string nm, .slice B p q] 63)) w.heap.size 63 (figCells nm B p q) := Blk.new _ _ _
  have hS0 := hS.below hb0
  have V : Hid (∀ W, Stars W A l → Calls Tryz.prog 67 #[.slice A n c] W fun e w' => e = .returned (.bool (vStars l)) ∧ Below W.heap.size W w') := Lib.hid (fun W hW => ValidStars_any A n c l W hl hn hW)
  have N : Hid (∀ W, Calls Tryz.prog 95 #[.string nm] W fun e w' => e = .returned (.bool (isName nm.data.toList)) ∧ W = w') := Lib.hid (fun W => IsName_any nm W)
  cases hv : vStars l with
  | false =>
    have HO := Lib.hid (vFig_no1 (nm := nm) (L := L) hv)
    rw [hv] at V
    clear hv hB
    go_enter Tryz.func84, Tryz.ntmps84
    go_wp2_with (go_at_call 67; refine (V.out _ hS0).mono ?_; rintro e w1 ⟨rfl, hb1⟩)
    go_ret
    exact ⟨ret_bool (by rw [HO.out]), below_step hb0 hb1⟩
  | true =>
    rw [hv] at V
    have hl24 := vStars_len hv
    rw [hl] at hl24
    cases hm : isName nm.data.toList with
    | false =>
      have HO := Lib.hid (vFig_no2 (L := L) (l := l) hm)
      rw [hm] at N
      clear hv hm hB
      go_enter Tryz.func84, Tryz.ntmps84
      go_wp2_with (first | (go_at_call 67; refine (V.out _ hS0).mono ?_; rintro e w1 ⟨rfl, hb1⟩; have hX1 := (hX0.keep hb1).fig; obtain ⟨x0, x1⟩ := hX1) | (go_at_call 95; refine (N.out _).mono ?_; rintro e w2 ⟨rfl, rfl⟩))
      go_ret
      exact ⟨ret_bool (by rw [HO.out]), below_step hb0 hb1⟩
    | true =>
      have HO := Lib.hid (vFig_eq (L := L) hv hm)
      rw [hm] at N
      rw [hl] at HO
      have VL : Hid (∀ W, Lists W B L → Calls Tryz.prog 96 #[.slice B p q, .int .i64 (n : Int)] W fun e w' => e = .returned (.bool (vLines (n : Int) L)) ∧ Below W.heap.size W w') := Lib.hid (fun W hW => validLines_any B p q L (n : Int) W hp hp2 hW)
      clear hv hm
      generalize vLines (n : Int) L = r at *
      go_enter Tryz.func84, Tryz.ntmps84
      go_wp2_with (first | (go_at_call 67; refine (V.out _ hS0).mono ?_; rintro e w1 ⟨rfl, hb1⟩; have hX1 := (hX0.keep hb1).fig; obtain ⟨x0, x1⟩ := hX1; have hB1 := (hB.below hb0).below hb1) | (go_at_call 95; refine (N.out _).mono ?_; rintro e w2 ⟨rfl, rfl⟩) | (go_at_call 96; refine (VL.out _ hB1).mono ?_; rintro e w3 ⟨rfl, hb3⟩))
      all_goals
        go_ret
        exact ⟨ret_bool (by rw [HO.out]), below_step (below_step hb0 hb1) hb3⟩
set_option maxHeartbeats 2000000 in
theorem l08Ok_any (g : Nat) (nm : ByteArray) (B : Option Addr) (p q : Nat) (L : List (List Int)) (A : Option Addr) (n c : Nat) (l : List Sta) (w : World) (x0 : w.cell? ⟨g, 0, none⟩ = some (.string nm)) (x1 : w.cell? ⟨g, 1, none⟩ = some (.slice B p q)) (hp : L.length = p) (hp2 : p ≤ 9223372036854775807) (hB : Lists w B L) (hl : l.length = n) (hn : n ≤ 9223372036854775807) (hS : Stars w A l) :
    Calls Tryz.prog 97 #[.pointer (some ⟨g, 0, none⟩), .slice A n c] w fun e w' => e = .returned (.bool (vFig nm L l)) ∧ Below w.heap.size w w' := by
  have hgl := World.block_lt_of_cell? w _ x0
  dsimp only at hgl
  have V : Hid (∀ W, Stars W A l → Calls Tryz.prog 130 #[.slice A n c] W fun e w' => e = .returned (.bool (vStars l)) ∧ Below W.heap.size W w') := Lib.hid (fun W hW => l05Ok_any A n c l W hl hn hW)
  have N : Hid (∀ W, Calls Tryz.prog 131 #[.string nm] W fun e w' => e = .returned (.bool (isName nm.data.toList)) ∧ W = w') := Lib.hid (fun W => l01Name_any nm W)
  cases hv : vStars l with
  | false =>
    have HO := Lib.hid (vFig_no1 (nm := nm) (L := L) hv)
    rw [hv] at V
    clear hv hB x0 x1
    go_enter Tryz.func97, Tryz.ntmps97
    go_wp2_with (go_at_call 130; refine (V.out _ hS).mono ?_; rintro e w1 ⟨rfl, hb1⟩)
    go_ret
    exact ⟨ret_bool (by rw [HO.out]), hb1⟩
  | true =>
    rw [hv] at V
    have hl24 := vStars_len hv
    rw [hl] at hl24
    cases hm : isName nm.data.toList with
    | false =>
      have HO := Lib.hid (vFig_no2 (L := L) (l := l) hm)
      rw [hm] at N
      clear hv hm hB
      go_enter Tryz.func97, Tryz.ntmps97
      go_wp2_with (first | (go_at_call 130; refine (V.out _ hS).mono ?_; rintro e w1 ⟨rfl, hb1⟩; have y0 := (hb1.cell (p := ⟨g, 0, none⟩) hgl).trans x0; have y1 := (hb1.cell (p := ⟨g, 1, none⟩) hgl).trans x1) | (go_at_call 131; refine (N.out _).mono ?_; rintro e w2 ⟨rfl, rfl⟩))
      go_ret
      exact ⟨ret_bool (by rw [HO.out]), hb1⟩
    | true =>
      have HO := Lib.hid (vFig_eq (L := L) hv hm)
      rw [hm] at N
      rw [hl] at HO
      have VL : Hid (∀ W, Lists W B L → Calls Tryz.prog 132 #[.slice B p q, .int .i64 (n : Int)] W fun e w' => e = .returned (.bool (vLines (n : Int) L)) ∧ Below W.heap.size W w') := Lib.hid (fun W hW => l08Lines_any B p q L (n : Int) W hp hp2 hW (by omega) (by omega))
      clear hv hm
      generalize vLines (n : Int) L = r at *
      go_enter Tryz.func97, Tryz.ntmps97
      go_wp2_with (first | (go_at_call 130; refine (V.out _ hS).mono ?_; rintro e w1 ⟨rfl, hb1⟩; have y0 := (hb1.cell (p := ⟨g, 0, none⟩) hgl).trans x0; have y1 := (hb1.cell (p := ⟨g, 1, none⟩) hgl).trans x1; have hB1 := hB.below hb1) | (go_at_call 131; refine (N.out _).mono ?_; rintro e w2 ⟨rfl, rfl⟩) | (go_at_call 132; refine (VL.out _ hB1).mono ?_; rintro e w3 ⟨rfl, hb3⟩))
      all_goals
        go_ret
        exact ⟨ret_bool (by rw [HO.out]), below_step hb1 hb3⟩
set_option maxHeartbeats 1000000 in
theorem sValidFigure_any (nm : ByteArray) (B : Option Addr) (p q : Nat) (L : List (List Int)) (A : Option Addr) (n c : Nat) (l : List Sta) (w : World) (hp : L.length = p) (hp2 : p ≤ 9223372036854775807) (hB : Lists w B L) (hl : l.length = n) (hn : n ≤ 9223372036854775807) (hS : Stars w A l) :
    Calls Tryz.prog 43 #[.agg #[.string nm, .slice B p q], .slice A n c] w fun e w' => e = .returned (.bool (vFig nm L l)) ∧ Below w.heap.size w w' := by
  have hb0 : Below w.heap.size w (w.alloc (.cells #[.string nm, .slice B p q] 63)) := below_alloc (Below.refl _ _) _
  have hX0 : Blk (w.alloc (.cells #[.string nm, .slice B p q] 63)) w.heap.size 63 (figCells nm B p q) := Blk.new _ _ _
  obtain ⟨x0, x1⟩ := hX0.fig
  have C := l08Ok_any w.heap.size nm B p q L A n c l _ x0 x1 hp hp2 (hB.below hb0) hl hn (hS.below hb0)
  have HC := Lib.hid C
  clear C x0 x1
  generalize vFig nm L l = r at *
  go_enter Tryz.func43, Tryz.ntmps43
  go_wp2_with (go_at_call 97; refine HC.out.mono ?_; rintro e w1 ⟨rfl, hb1⟩)
  go_ret
  exact ⟨rfl, below_step hb0 hb1⟩
end Go.Proofs.YtpnfhienffekoaaGreatDoor
end
section
namespace Go.Proofs.YtpnfhienffekoaaGreatDoor
set_option linter.unusedVariables false
set_option linter.unusedSimpArgs false
open Go.RowKit
theorem len_tot {L : List (List Int)} {x : List Int} (h : x ∈ L) : x.length ≤ tot L := by
  obtain ⟨k, hk, e⟩ := List.getElem_of_mem h
  have hx : L[k]? = some x := by rw [List.getElem?_eq_getElem hk, e]
  have h1 := tot_take hx
  have h2 := tot_le L (k + 1)
  omega
theorem Copied.lists2 {w : World} {g : Nat} {L : List (List Int)} (h : Copied w g L) (hs : tot L ≤ 1048576) : Lists w (some ⟨g, 0, none⟩) L := h.lists (fun x hx => by have := len_tot hx; omega)
/-- the rows of a list that may be written -/
def RowsOf (w : World) (g hi : Nat) (L : List (List Int)) : Prop := ∃ cs : List Value, cs.length = L.length ∧ Blk w g 55 cs ∧ ∀ (j : Nat) (x : List Int), L[j]? = some x → ∃ (q : Nat) (ds : List Value), cs[j]? = some (Value.slice (some ⟨q, 0, none⟩) x.length x.length) ∧ g < q ∧ q < hi ∧ Blk w q 2 ds ∧ x.length ≤ ds.length
theorem Copied.rowsOf {w : World} {g : Nat} {L : List (List Int)} (h : Copied w g L) : RowsOf w g w.heap.size L := by
  obtain ⟨cs, h0, h1, h2⟩ := h
  refine ⟨cs, h0, h1, fun j x hx => ?_⟩
  obtain ⟨q, a, b, c⟩ := h2 j x hx
  exact ⟨q, _, a, b, c.lt, c, by rw [numCells_length]; exact Nat.le_refl _⟩
theorem RowsOf.mark {w w' : World} {g hi q : Nat} {L : List (List Int)} {ds ds' : List Value} (h : RowsOf w g hi L) (hq : g < q) (hg : w.grownBy w' (some q)) (hd : Blk w q 2 ds) (hd' : Blk w' q 2 ds') (hl : ds'.length = ds.length) : RowsOf w' g hi L := by
  obtain ⟨cs, h0, h1, h2⟩ := h
  refine ⟨cs, h0, (hg.block g h1.lt (fun e => by injection e with e; omega)).trans h1, fun j x hx => ?_⟩
  obtain ⟨q2, ds2, a, b, c, d, e⟩ := h2 j x hx
  by_cases hqq : q2 = q
  · subst hqq
    have hsame : ds2 = ds := by
      unfold Blk at d hd
      rw [d] at hd
      injection hd with hd; injection hd with hd
      simpa using hd
    exact ⟨q2, ds', a, b, c, hd', by rw [hl, ← hsame]; exact e⟩
  · exact ⟨q2, ds2, a, b, c, (hg.block q2 d.lt (fun e => by injection e with e; omega)).trans d, e⟩
theorem Blk.grown2 {w w' : World} {g : Nat} {t : TypeId} {cs : List Value} {row : Option Nat} (h : Blk w g t cs) (hg : w.grownBy w' row) (hne : ∀ q, row = some q → g ≠ q) : Blk w' g t cs := (hg.block g h.lt (fun e => hne g e.symm rfl)).trans h
theorem RowsOf.keep {w w' : World} {g hi : Nat} {L : List (List Int)} (h : RowsOf w g hi L) (hb : Below w.heap.size w w') : RowsOf w' g hi L := by
  obtain ⟨cs, h0, h1, h2⟩ := h
  refine ⟨cs, h0, h1.keep hb, fun j x hx => ?_⟩
  obtain ⟨q, ds, a, b, c, d, e⟩ := h2 j x hx
  exact ⟨q, ds, a, b, c, d.keep hb, e⟩
theorem RowsOf.lt {w : World} {g hi : Nat} {L : List (List Int)} (h : RowsOf w g hi L) : g < w.heap.size := by
  obtain ⟨cs, _, h1, _⟩ := h; exact h1.lt
end Go.Proofs.YtpnfhienffekoaaGreatDoor
end
