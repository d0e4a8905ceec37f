/- Contracts of the texts of lists of numbers and of planets. -/
import Derived.Test.YtpnfhienffekoaaGreatDoorMgD
import Derived.Deep.RegionHeld3
import Derived.Deep.DrawnRows
import Derived.Lib.Join
namespace Go.Proofs.YtpnfhienffekoaaGreatDoor
set_option linter.unusedVariables false
set_option linter.unusedSimpArgs false
open Go.RowKit
attribute [local go_sem ↓] Go.wp_at_zero Go.wp_at_succ
theorem join_joinC (c : UInt8) (p : List UInt8) (ps : List (List UInt8)) : Lib.join (p :: ps) [c] = joinC c (p :: ps) := by
  rw [Lib.join_cons, joinC_cons]
  congr 1
theorem heldL {a : World} (y : Later a) {b o : Nat} {v : Value} (h : a.cell? ⟨b, o, none⟩ = some v) : y.w.cell? ⟨b, o, none⟩ = some v := (Later.cell y (World.block_lt_of_cell? a _ h)).trans h
theorem held_drewL {a : World} {b o : Nat} {v : Value} (h : a.cell? ⟨b, o, none⟩ = some v) : a.drew.cell? ⟨b, o, none⟩ = some v := h
theorem held_allocL {a : World} (o' : Obj) {b o : Nat} {v : Value} (h : a.cell? ⟨b, o, none⟩ = some v) : (a.alloc o').cell? ⟨b, o, none⟩ = some v := (World.cell?_alloc_lt _ _ _ (World.block_lt_of_cell? a _ h)).trans h
/-- the numbers of a list as texts -/
def itoas (l : List Int) : List ByteArray := l.map fun n => tx (Lib.itoa n)
theorem itoas_length (l : List Int) : (itoas l).length = l.length := by simp [itoas]
theorem itoas_at {l : List Int} {k : Nat} {n : Int} (h : l[k]? = some n) : (itoas l)[k]? = some (tx (Lib.itoa n)) := by simp [itoas, h]
theorem itoas_data (l : List Int) : (itoas l).map (·.data.toList) = l.map Lib.itoa := by
  simp only [itoas, List.map_map]
  congr 1
def listT (l : List Int) : List UInt8 := joinC 44 (l.map Lib.itoa)
theorem joinC_len (c : UInt8) (b : Nat) : ∀ ps : List (List UInt8), (∀ p ∈ ps, p.length ≤ b) → (joinC c ps).length ≤ ps.length * (b + 1)
  | [], _ => by simp [joinC]
  | p :: ps, h => by
    rw [joinC_cons, List.length_append, List.length_cons, Nat.add_mul]
    have h1 := h p (List.mem_cons_self ..)
    have : (ps.flatMap fun q => c :: q).length ≤ ps.length * (b + 1) := by
      have h2 : ∀ q ∈ ps, q.length ≤ b := fun q hq => h q (List.mem_cons_of_mem _ hq)
      clear h h1
      induction ps with
      | nil => simp
      | cons q r ih =>
        rw [List.flatMap_cons, List.length_append, List.length_cons, List.length_cons, Nat.add_mul]
        have := ih fun x hx => h2 x (List.mem_cons_of_mem _ hx)
        have := h2 q (List.mem_cons_self ..)
        omega
    omega
theorem listT_len {l : List Int} (h : ∀ n ∈ l, I64 n) : (listT l).length ≤ l.length * 22 := by
  have := joinC_len 44 21 (l.map Lib.itoa) (fun p hp => by
    obtain ⟨n, hn, rfl⟩ := List.mem_map.1 hp
    exact itoa_len21 n (h n hn))
  rwa [List.length_map] at this
theorem listT_one (a : Int) : listT [a] = Lib.itoa a := rfl
theorem joinC_snoc (c : UInt8) (ps : List (List UInt8)) (q : List UInt8) (h : ps ≠ []) : joinC c (ps ++ [q]) = joinC c ps ++ c :: q := by
  cases ps with
  | nil => exact absurd rfl h
  | cons p r => rw [List.cons_append, joinC_cons, joinC_cons, List.flatMap_append]; simp
theorem zeroStrs_made (z : Array Value) (hz : z = #[.string ByteArray.empty]) (n : Nat) : madeCells z (n * 1) = (strCells (List.replicate n ByteArray.empty)).toArray := by
  apply Array.ext_getElem?
  intro j
  by_cases hj : j < n
  · simp [madeCells, strCells, hz, hj, Nat.mod_one]
  · simp [madeCells, strCells, hz, hj]
theorem strCells_set {ys : List ByteArray} {k : Nat} {x : ByteArray} : (strCells ys).set k (.string x) = strCells (ys.set k x) := by simp [strCells, List.map_set]
def BdI (n : Int) : Prop := -1000000000000 ≤ n ∧ n ≤ 1000000000000
theorem BdI.i64 {n : Int} (h : BdI n) : I64 n := by obtain ⟨h1, h2⟩ := h; exact ⟨by omega, by omega⟩
theorem within_yes {a b c : Int} (h1 : b ≤ a) (h2 : a ≤ c) : inB a b c = true := (inB_iff _ _ _).2 ⟨h1, h2⟩
set_option maxHeartbeats 2000000 in
theorem ListText_any (A : Option Addr) (n c : Nat) (l : List Int) (w : World) (hl : l.length = n) (h0 : 0 < n) (hn : n ≤ 64) (hS : Ints w A l) (hbd : ∀ x ∈ l, BdI x) (hP : PowOk w) :
    Calls Tryz.prog 55 #[.slice A n c] w fun e w' => e = .returned (.string (tx (listT l))) ∧ Below w.heap.size w w' := by
  have HL := Lib.hid hl
  have HBD := Lib.hid hbd
  have hlen : (listT l).length ≤ 64 * 22 := by have := listT_len (l := l) (fun x hx => (hbd x hx).i64); rw [hl] at this; omega
  have HLEN := Lib.hid hlen
  clear hl hbd hlen
  obtain ⟨i0, hi0, hz0, hz1, hz2⟩ := info_parts info_str
  have hmk := fun W : World => run_make (P := Tryz.prog) W 104 9 i0 _ Tryz.underlying104 hi0 hz0 .i64 .i64 (n : Int) (n : Int) (by omega) (by omega) (by rw [hz2]; omega) (by omega)
  simp only [Int.toNat_natCast, hz1] at hmk
  clear hi0 hz0 hz1 hz2
  have hn0 : ((n : Int) == 0) = false := by rw [beq_eq_false_iff_ne]; omega
  go_enter Tryz.func55, Tryz.ntmps55
  go_wp2_with (fail)
  rw [← Nat.mul_one n, zeroStrs_made _ rfl n, Nat.mul_one]
  have hz : Blk (w.alloc (.cells (strCells (List.replicate n ByteArray.empty)).toArray 9)) w.heap.size 9 (strCells (List.replicate n ByteArray.empty)) := Blk.new _ _ _
  have hb0 : Below w.heap.size w (w.alloc (.cells (strCells (List.replicate n ByteArray.empty)).toArray 9)) := (by repeat (first | exact Below.refl _ _ | refine below_alloc ?_ _ | refine below_drewN0 ?_ _ | refine below_drew0 ?_ | refine below_step ?_ (by assumption) | refine below_later ?_ _ | refine below_setCell0 ?_ (by first | exact Nat.le_refl _ | (simp; done) | omega | (simp; omega)) _))
  generalize w.alloc (.cells (strCells (List.replicate n ByteArray.empty)).toArray 9) = W1 at *
  go_loopw [4, 5, 17] (fun _ _ i wr => ∃ (k : Nat) (ys : List ByteArray), k ≤ n ∧ i = .int .i64 (k : Int) ∧ ys.length = n ∧ ys.take k = (itoas l).take k ∧ Blk wr w.heap.size 9 (strCells ys) ∧ Below w.heap.size w wr) (fun _ _ i _ => n - (intOf i).toNat)
  case atStart => exact ⟨0, List.replicate n ByteArray.empty, by omega, rfl, by simp, rfl, hz, hb0⟩
  case round =>
    obtain ⟨k, ys, hk, rfl, hyl, hyt, hB, hb⟩ := hrel
    have HY := Lib.hid hyl; clear hyl
    have HT := Lib.hid hyt; clear hyt
    by_cases hlt : k < n
    · obtain ⟨x, hx⟩ := at_lt (l := l) (k := k) (by have := HL.out; omega)
      obtain ⟨z, hz⟩ := at_lt (l := ys) (k := k) (by have := HY.out; omega)
      obtain ⟨b, o, rfl, hc⟩ := hS.below hb (by have := HL.out; omega)
      have c0 := hc k x hx
      obtain ⟨x1, x2⟩ := HBD.out x (List.mem_of_getElem? hx)
      have HX := Lib.hid (itoas_at hx)
      have CW := Lib.hid (fun W => within_any x (-1000000000000) 1000000000000 W)
      rw [within_yes x1 x2] at CW
      have CD := Lib.hid (Decimal_any x wr ⟨by omega, by omega⟩ (hP.below hb))
      have hgl := hB.lt
      have hsz := hb.size
      clear hx hc hS
      go_wp2_with (first | (go_at_call 79; refine (CW.out _).mono ?_; rintro e w1 ⟨rfl, rfl⟩) | (go_at_call 75; refine CD.out.mono ?_; rintro e w2 ⟨rfl, hb2⟩; have hB2 := hB.keep hb2; have d0 : w2.cell? ⟨w.heap.size, k, none⟩ = some (.string z) := (by rw [hB2.cell]; exact strCells_at hz); have f0 := hB2.frozen k; have hgl2 := hB2.lt))
      go_roundw
      case rel => exact ⟨k + 1, ys.set k (tx (Lib.itoa x)), by omega, by go_num, by have := HY.out; simpa using this, take_set_any HT.out HX.out (by have := HY.out; omega), by rw [← strCells_set]; exact hB2.set_ k _, below_setCell0 (below_step hb hb2) (Nat.le_refl _) _⟩
      case measure => simp [intOf]; omega
    · have e : ys = itoas l := by
        have h1 := HT.out
        rw [List.take_of_length_le (by have := HY.out; omega), List.take_of_length_le (by rw [itoas_length]; have := HL.out; omega)] at h1
        exact h1
      subst e
      have hil : (itoas l).length = n := HY.out
      have HJ : Hid (Lib.join ((itoas l).map (·.data.toList)) [44] = listT l) := Lib.hid (by
        rw [itoas_data]
        have hl1 := HL.out
        cases l with
        | nil => simp at hl1; omega
        | cons a r => exact join_joinC 44 _ _)
      have CJ : Hid (Calls Tryz.prog 107 #[.slice (some ⟨w.heap.size, 0, none⟩) n n, .string ⟨#[44]⟩] wr fun e w' => e = .returned (.string (tx (listT l))) ∧ Below wr.heap.size wr w') := Lib.hid (by
        have := Any.strings_Join Tryz.laysJoin Tryz.builder w.heap.size 0 n (itoas l) ⟨#[44]⟩ wr (fun j x hx => by rw [Nat.zero_add, hB.cell]; exact strCells_at hx) hB.lt (by omega) (by omega) (by
          show (Lib.join _ [44]).length ≤ _
          rw [HJ.out]; have := HLEN.out; omega)
        rw [hil] at this
        refine this.mono ?_
        rintro e w2 ⟨rfl, hb2⟩
        refine ⟨?_, hb2⟩
        show Ending.returned (.string (tx (Lib.join _ [44]))) = _
        rw [HJ.out])
      clear HY hil
      go_wp2_with (refine CJ.out.mono ?_; rintro e w2 ⟨rfl, hb2⟩)
      go_ret
      exact ⟨rfl, below_step hb hb2⟩
def planO (l : List UInt8) (p r u : Int) : List UInt8 := if vPlanet l p r u = true then planT l [p, r, u] else []
theorem planO_yes {l : List UInt8} {p r u : Int} (h : vPlanet l p r u = true) : planO l p r u = l ++ 32 :: listT [p, r, u] := by rw [planO, if_pos h]; rfl
theorem planO_no {l : List UInt8} {p r u : Int} (h : vPlanet l p r u = false) : planO l p r u = [] := by rw [planO, if_neg (by rw [h]; exact Bool.false_ne_true)]
theorem ints_box (V : World) (t : TypeId) (a b c : Int) : Ints (V.alloc (.cells #[.int .i64 a, .int .i64 b, .int .i64 c] t)) (some ⟨V.heap.size, 0, none⟩) [a, b, c] := by
  have h : Blk (V.alloc (.cells #[.int .i64 a, .int .i64 b, .int .i64 c] t)) V.heap.size t (numCells [a, b, c]) := Blk.new _ _ _
  exact h.nums
theorem ListText_box (a b c : Int) (V : World) (y : Later (V.alloc (.cells #[.int .i64 a, .int .i64 b, .int .i64 c] 2)).drew) (ha : BdI a) (hb : BdI b) (hc : BdI c) (hP : PowOk V) :
    Calls Tryz.prog 55 #[.slice (some ⟨V.heap.size, 0, none⟩) 3 3] y.w fun e w' => e = .returned (.string (tx (listT [a, b, c]))) ∧ Below y.w.heap.size y.w w' := by
  have hbl : Below V.heap.size V (V.alloc (.cells #[.int .i64 a, .int .i64 b, .int .i64 c] 2)).drew := below_drew0 (below_alloc (Below.refl _ _) _)
  have hI : Ints (V.alloc (.cells #[.int .i64 a, .int .i64 b, .int .i64 c] 2)).drew (some ⟨V.heap.size, 0, none⟩) [a, b, c] := ints_box V _ a b c
  refine ListText_any _ 3 3 [a, b, c] _ rfl (by omega) (by omega) (hI.later y) (fun x hx => ?_) ((hP.below hbl).below y.below)
  simp only [List.mem_cons, List.not_mem_nil, or_false] at hx
  rcases hx with rfl | rfl | rfl <;> assumption
set_option maxHeartbeats 2000000 in
theorem PlanetText_any (nm : ByteArray) (p r u : Int) (w : World) (hP : PowOk w) :
    Calls Tryz.prog 12 #[.agg #[.string nm, .int .i64 p, .int .i64 r, .int .i64 u]] w fun e w' => e = .returned (.string (tx (planO nm.data.toList p r u))) ∧ Below w.heap.size w w' := by
  have hb0 : Below w.heap.size w (w.alloc (.cells #[.string nm, .int .i64 p, .int .i64 r, .int .i64 u] 25)) := below_alloc (Below.refl _ _) _
  have CV := Lib.hid (ValidPlanet_any nm p r u)
  cases hv : vPlanet nm.data.toList p r u with
  | false =>
    have HO := Lib.hid (planO_no hv)
    rw [hv] at CV
    clear hv
    go_enter Tryz.func12, Tryz.ntmps12
    go_wp2_with (refine (CV.out _).mono ?_; rintro e w1 ⟨rfl, hb1⟩)
    go_ret
    exact ⟨by rw [HO.out]; rfl, below_step hb0 hb1⟩
  | true =>
    have HO := Lib.hid (planO_yes hv)
    obtain ⟨hn, ⟨a1, a2⟩, ⟨a3, a4⟩, a5, a6⟩ := vPlanet_parts hv
    rw [hv] at CV
    have hn := name_len hn
    have bp : BdI p := ⟨by omega, by omega⟩
    have br : BdI r := ⟨by omega, by omega⟩
    have bu : BdI u := ⟨by omega, by omega⟩
    have hll := listT_len (l := [p, r, u]) (fun x hx => by
      simp only [List.mem_cons, List.not_mem_nil, or_false] at hx
      rcases hx with rfl | rfl | rfl
      · exact bp.i64
      · exact br.i64
      · exact bu.i64)
    simp only [List.length_cons, List.length_nil] at hll
    obtain ⟨p1, q1, e1⟩ := add_ex nm ⟨#[32]⟩ (hid_data nm) hid_blank (by simp only [List.length_cons, List.length_nil]; omega)
    obtain ⟨p2, q2, e2⟩ := add_ex p1 (tx (listT [p, r, u])) e1 (hid_tx _) (by simp only [List.length_append, List.length_cons, List.length_nil]; omega)
    have hX : Blk (w.alloc (.cells #[.string nm, .int .i64 p, .int .i64 r, .int .i64 u] 25)) w.heap.size 25 [.string nm, .int .i64 p, .int .i64 r, .int .i64 u] := Blk.new _ _ _
    have BP := Lib.hid bp
    have BR := Lib.hid br
    have BU := Lib.hid bu
    clear hv hn hll bp br bu a1 a2 a3 a4 a5 a6
    go_enter Tryz.func12, Tryz.ntmps12
    go_wp2_with (refine (CV.out _).mono ?_; rintro e w1 ⟨rfl, hb1⟩)
    have hb2 := below_step hb0 hb1
    have hX2 := hX.keep hb1
    clear hX CV hb1 hb0
    have hl := hX2.lt
    have x0 : w1.cell? ⟨w.heap.size, 0, none⟩ = some (.string nm) := by rw [hX2.cell]; rfl
    have x1 : w1.cell? ⟨w.heap.size, 1, none⟩ = some (.int .i64 p) := by rw [hX2.cell]; rfl
    have x2 : w1.cell? ⟨w.heap.size, 2, none⟩ = some (.int .i64 r) := by rw [hX2.cell]; rfl
    have x3 : w1.cell? ⟨w.heap.size, 3, none⟩ = some (.int .i64 u) := by rw [hX2.cell]; rfl
    have HPW := Lib.hid (hP.below hb2)
    go_region_held3 (fun w' => w'.cell? ⟨w.heap.size, 0, none⟩ = some (.string nm) ∧ w'.cell? ⟨w.heap.size, 1, none⟩ = some (.int .i64 p) ∧ w'.cell? ⟨w.heap.size, 2, none⟩ = some (.int .i64 r) ∧ w'.cell? ⟨w.heap.size, 3, none⟩ = some (.int .i64 u) ∧ Below w1.heap.size w1 w')
      ((refine ⟨?_, ?_, ?_, ?_, ?_⟩ <;> (first | (with_reducible (repeat (first | assumption | refine heldL _ ?_ | refine held_allocL _ ?_ | refine held_drewL ?_)); done) | ((repeat (first | assumption | exact Below.refl _ _ | exact (And.right (And.right (And.right (And.right (by assumption))))) | refine below_later ?_ _ | refine below_alloc ?_ _ | refine below_drew0 ?_)); done))))
      ((go_at_call 55; refine later_intro ?_; intro y; refine (later_below (ListText_box p r u _ y BP.out BR.out BU.out (HPW.out.below (by repeat (first | assumption | exact Below.refl _ _ | exact (And.right (And.right (And.right (And.right (by assumption))))) | refine below_later ?_ _ | refine below_alloc ?_ _ | refine below_drew0 ?_))))).mono ?_; rintro e w' ⟨rfl, y, rfl⟩))
    all_goals
      have hb9 := And.right (And.right (And.right (And.right (by assumption : _ ∧ _ ∧ _ ∧ _ ∧ Below w1.heap.size w1 _))))
      go_wp2_with (fail)
      go_ret
      exact ⟨ret_str (by rw [e2.out, HO.out]; simp only [List.append_assoc, List.cons_append, List.nil_append]), below_step hb2 hb9⟩
end Go.Proofs.YtpnfhienffekoaaGreatDoor
