/- Contracts of the functions on the length of a tour. -/
import Derived.Test.YtbpjnopnhmoigaaDoorFar
import Derived.Test.YtbpjnopnhmoigaaDoorNums
namespace Go.Proofs.YtbpjnopnhmoigaaDoor
set_option linter.unusedVariables false
set_option linter.unusedSimpArgs false
open Go.RowKit
attribute [local go_sem ↓] Go.wp_at_zero Go.wp_at_succ
/-- is the number at place k below n and new -/
def goodAt (n : Nat) (ord : List Int) (k : Nat) : Bool := match ord[k]? with
  | none => true
  | some i => inB i 0 ((n : Int) - 1) && !(ord.take k).contains i
def goodUpto (n : Nat) (ord : List Int) (k : Nat) : Bool := (List.range k).all (goodAt n ord)
/-- has it each number below n once -/
def isTour (n : Nat) (ord : List Int) : Bool := decide (ord.length = n) && goodUpto n ord ord.length
theorem goodUpto_succ (n : Nat) (ord : List Int) (k : Nat) : goodUpto n ord (k + 1) = (goodUpto n ord k && goodAt n ord k) := by
  rw [goodUpto, List.range_succ, List.all_append]; simp [goodUpto]
theorem goodAt_eq {n : Nat} {ord : List Int} {k : Nat} {i : Int} (h : ord[k]? = some i) : goodAt n ord k = (inB i 0 ((n : Int) - 1) && !(ord.take k).contains i) := by simp only [goodAt, h]
theorem isTour_bad {n : Nat} {ord : List Int} {k : Nat} (hk : k < ord.length) (h : goodAt n ord k = false) : isTour n ord = false := by
  have : goodUpto n ord ord.length = false := by rw [goodUpto, List.all_eq_false]; exact ⟨k, List.mem_range.2 hk, by simp [h]⟩
  simp [isTour, this]
theorem isTour_len {n : Nat} {ord : List Int} (h : ord.length ≠ n) : isTour n ord = false := by simp [isTour, h]
theorem isTour_yes {n : Nat} {ord : List Int} (h : ord.length = n) (h2 : goodUpto n ord ord.length = true) : isTour n ord = true := by rw [isTour, h2, decide_eq_true h]; rfl
theorem isTour_at {n : Nat} {ord : List Int} (h : isTour n ord = true) {k : Nat} {i : Int} (hi : ord[k]? = some i) : 0 ≤ i ∧ i < n := by
  simp only [isTour, Bool.and_eq_true, goodUpto, List.all_eq_true] at h
  have hk : k < ord.length := (List.getElem?_eq_some_iff.1 hi).1
  have := h.2 k (List.mem_range.2 hk)
  rw [goodAt_eq hi, Bool.and_eq_true, inB_iff] at this
  omega
/-- the marks of the numbers among the first k -/
def seenL (n : Nat) (ord : List Int) (k : Nat) : List Value := (List.range n).map fun j : Nat => Value.bool ((ord.take k).contains ((j : Nat) : Int))
theorem seenL_at {n : Nat} {ord : List Int} {k i : Nat} (h : i < n) : (seenL n ord k)[i]? = some (.bool ((ord.take k).contains (i : Int))) := by simp [seenL, h]
theorem seenL_zero (n : Nat) (ord : List Int) : seenL n ord 0 = List.replicate n (.bool false) := by
  apply List.ext_getElem?; intro i
  by_cases h : i < n
  · rw [seenL_at h, List.getElem?_replicate, if_pos h]; rfl
  · rw [List.getElem?_eq_none (by simp [seenL]; omega), List.getElem?_replicate, if_neg h]
theorem seenL_set {n : Nat} {ord : List Int} {k i : Nat} (h : i < n) (hi : ord[k]? = some (i : Int)) : (seenL n ord k).set i (.bool true) = seenL n ord (k + 1) := by
  apply List.ext_getElem?; intro j
  have ht : ord.take (k + 1) = ord.take k ++ [(i : Int)] := by rw [List.take_add_one, hi]; rfl
  by_cases hj : j < n
  · rw [seenL_at hj, ht]
    by_cases e : i = j
    · subst e
      rw [List.getElem?_set_self (by simp [seenL]; exact h)]
      simp
    · rw [List.getElem?_set_ne e, seenL_at hj]
      have : ¬ (j : Int) = (i : Int) := by omega
      simp [this]
  · rw [List.getElem?_eq_none (by simp [seenL]; omega), List.getElem?_eq_none (by simp [seenL]; omega)]
/-- one way of a tour -/
def legI (l : List Sta) (ord : List Int) (j : Nat) : Int := match ord[j]?, ord[j + 1]? with
  | some a, some b => (match l[a.toNat]?, l[b.toNat]? with
    | some x, some y => farI x y
    | _, _ => 0)
  | _, _ => 0
def tourSum (l : List Sta) (ord : List Int) : Nat → Int
  | 0 => 0
  | m + 1 => tourSum l ord m + legI l ord m
theorem legI_at {l : List Sta} {ord : List Int} {j a b : Nat} {x y : Sta} (h1 : ord[j]? = some (a : Int)) (h2 : ord[j + 1]? = some (b : Int)) (hx : l[a]? = some x) (hy : l[b]? = some y) : legI l ord j = farI x y := by
  simp [legI, h1, h2, hx, hy]
theorem legI_bd (l : List Sta) (ord : List Int) (j : Nat) : 0 ≤ legI l ord j ∧ legI l ord j < 360000 := by
  unfold legI
  split
  · split
    · exact farI_bd _ _
    · omega
  · omega
theorem tourSum_bd (l : List Sta) (ord : List Int) (m : Nat) : 0 ≤ tourSum l ord m ∧ tourSum l ord m ≤ 360000 * m := by
  induction m with
  | zero => simp [tourSum]
  | succ m ih => have := legI_bd l ord m; rw [tourSum]; omega
theorem vStars_mem {l : List Sta} (h : vStars l = true) {x : Sta} (hx : x ∈ l) : x.ok = true := by
  obtain ⟨k, hk, rfl⟩ := List.getElem_of_mem hx
  exact vStars_ok h (List.getElem?_eq_getElem hk)
/-- what TourLength answers -/
def tourO (l : List Sta) (ord : List Int) : Int × Int := if vStars l then (if isTour l.length ord then (tourSum l ord (ord.length - 1), 0) else (0, 2)) else (0, 1)
theorem tourO_no {l : List Sta} {ord : List Int} (h : vStars l = false) : tourO l ord = (0, 1) := by simp [tourO, h]
theorem tourO_bad {l : List Sta} {ord : List Int} (h : vStars l = true) (h2 : isTour l.length ord = false) : tourO l ord = (0, 2) := by simp [tourO, h, h2]
theorem tourO_yes {l : List Sta} {ord : List Int} (h : vStars l = true) (h2 : isTour l.length ord = true) : tourO l ord = (tourSum l ord (ord.length - 1), 0) := by rw [tourO, if_pos h, if_pos h2]
theorem boolMade (z : Array Value) (hz : z = #[.bool false]) (n : Nat) : madeCells z (n * 1) = (List.replicate n (Value.bool false)).toArray := by
  apply Array.ext_getElem?
  intro j
  by_cases hj : j < n
  · simp [madeCells, hz, hj, Nat.mod_one]
  · simp [madeCells, hz, hj]
theorem tourO_len {l : List Sta} {ord : List Int} (h : vStars l = true) (h2 : ord.length ≠ l.length) : tourO l ord = (0, 2) := tourO_bad h (isTour_len h2)
theorem tourO_at {l : List Sta} {ord : List Int} {k : Nat} {i : Int} (h : vStars l = true) (hi : ord[k]? = some i) (h2 : inB i 0 ((l.length : Int) - 1) = false ∨ (ord.take k).contains i = true) : tourO l ord = (0, 2) := by
  refine tourO_bad h (isTour_bad (List.getElem?_eq_some_iff.1 hi).1 ?_)
  rw [goodAt_eq hi]
  rcases h2 with h2 | h2
  · rw [h2]; rfl
  · rw [h2]; simp
theorem info_bool : (Tryd.prog.info? 4).map (fun i => (i.zero, i.size, i.bytes)) = some (some (.bool false), 1, 1) := by kernel_rfl
set_option maxHeartbeats 4000000 in
theorem tourLength_any (A A' : Option Addr) (n c m c' : Nat) (l : List Sta) (ord : List Int) (w : World) (hS : SinOk w) (hl : l.length = n) (hm : ord.length = m) (hn : n ≤ 24) (hm2 : m ≤ 1048576) (hA : Stars w A l) (hA' : Ints w A' ord) (hok : ∀ x ∈ l, x.ok = true) (hord : ∀ (k : Nat) i, ord[k]? = some i → 0 ≤ i ∧ i < n) :
    Calls Tryd.prog 97 #[.slice A n c, .slice A' m c'] w fun e w' => e = .returned (.int .i64 (tourSum l ord (m - 1))) ∧ Below w.heap.size w w' := by
  have HL := Lib.hid hl; clear hl
  have HM := Lib.hid hm; clear hm
  have HOK := Lib.hid hok; clear hok
  have HORD := Lib.hid hord; clear hord
  go_enter Tryd.func97, Tryd.ntmps97
  go_wp2_with (fail)
  go_loopw [5, 6] (fun s i wr => ∃ (k : Nat) (z : Int), (k < m ∨ k = 0) ∧ i = .int .i64 ((k : Int) + 1) ∧ s = .int .i64 z ∧ z = tourSum l ord k ∧ Below w.heap.size w wr) (fun _ i _ => m + 1 - (intOf i).toNat)
  case atStart => exact ⟨0, 0, .inr rfl, rfl, rfl, rfl, Below.refl _ _⟩
  case round =>
    obtain ⟨k, z, hk, rfl, rfl, hz, hb⟩ := hrel
    have HK := Lib.hid hk; clear hk
    have hkb : k ≤ 1048576 := by have := HK.out; omega
    obtain ⟨z0, z1⟩ := tourSum_bd l ord k
    rw [← hz] at z0 z1
    have HZ := Lib.hid hz; clear hz
    by_cases hlt : k + 1 < m
    · obtain ⟨a, ha⟩ := at_lt (l := ord) (k := k) (by have := HM.out; omega)
      obtain ⟨b, hb'⟩ := at_lt (l := ord) (k := k + 1) (by have := HM.out; omega)
      obtain ⟨a0, a1⟩ := HORD.out k a ha
      obtain ⟨b0, b1⟩ := HORD.out (k + 1) b hb'
      obtain ⟨a, rfl⟩ := Int.eq_ofNat_of_zero_le a0
      obtain ⟨b, rfl⟩ := Int.eq_ofNat_of_zero_le b0
      obtain ⟨x, hx⟩ := at_lt (l := l) (k := a) (by have := HL.out; omega)
      obtain ⟨v, hv⟩ := at_lt (l := l) (k := b) (by have := HL.out; omega)
      obtain ⟨g, o, rfl, hc⟩ := hA'.below hb (by have := HM.out; omega)
      have c0 := hc k _ ha
      have c1 := hc (k + 1) _ hb'
      have l0 := World.block_lt_of_cell? wr _ c0
      dsimp only at l0
      have HX : Hid (legI l ord k = farI x v) := legI_at ha hb' hx hv
      have ax := ok_ang (HOK.out x (List.mem_of_getElem? hx))
      have ay := ok_ang (HOK.out v (List.mem_of_getElem? hv))
      have hA2 := hA.below hb
      have hSr := hS.of_below hb
      have C : Hid (∀ W : Later wr, Calls Tryd.prog 67 #[.slice A n c, .int .i64 a, .int .i64 b] W.w fun e w' => e = .returned (.int .i64 (farI x v)) ∧ Below W.w.heap.size W.w w') := fun W => starGap_any A n c l a b x v _ (hSr.later W) HL.out (by omega) (hA2.later W) hx hv ax ay
      clear hSr hA2
      obtain ⟨f0, f1⟩ := farI_bd x v
      have hk1 : (0 : Int) ≤ (k : Int) + 1 := by omega
      have hk2 : (k : Int) + 1 < m := by omega
      have hk3 : (k : Int) < m := by omega
      have ws : IntKind.i64.wrap (z + farI x v) = z + farI x v := IntWalk.i64_in _ (by omega)
      have wk : IntKind.i64.wrap ((k : Int) + 1 - 1) = (k : Int) := by rw [show (k : Int) + 1 - 1 = k by omega]; exact IntWalk.i64_in _ (by omega)
      clear ha hb' hc hx hv ax ay a0 b0 hA hA'
      go_wp2_with (fail)
      (refine later_intro_wp ?_; intro y)
      (refine wp_region_later (by kernel_rfl) (by kernel_rfl) ?_; (repeat (first | go_big_quiet_step ((go_at_call 67; exact later_below (C.out _))) | quiet_step ((go_at_call 67; exact later_below (C.out _))))); refine wpQuiet_nil ?_; rintro _ ⟨y, rfl⟩)
      clear wk ws
      go_wp2_with (fail)
      go_roundw
      case rel => exact ⟨k + 1, z + farI x v, .inl (by omega), by go_num, rfl, by rw [tourSum, ← HZ.out, HX.out], below_later hb _⟩
      case measure => simp [intOf]; omega
    · have HE : Hid (z = tourSum l ord (m - 1)) := by
        show z = _
        rw [HZ.out]; congr 1; have := HK.out; omega
      clear HZ
      go_wp2
      go_ret
      exact ⟨ret_int (by rw [HE.out]), hb⟩
set_option maxHeartbeats 4000000 in
theorem TourLength_any (A A' : Option Addr) (n c m c' : Nat) (l : List Sta) (ord : List Int) (w : World) (hS : SinOk w) (hl : l.length = n) (hm : ord.length = m) (hn : n ≤ 9223372036854775807) (hm2 : m ≤ 1048576) (hA : Stars w A l) (hA' : Ints w A' ord) :
    Calls Tryd.prog 39 #[.slice A n c, .slice A' m c'] w fun e w' => e = .returned (.tuple #[.int .i64 (tourO l ord).1, .int .i64 (tourO l ord).2]) ∧ Below w.heap.size w w' := by
  have HL := Lib.hid hl; clear hl
  have HM := Lib.hid hm; clear hm
  have V : Hid (∀ W (A : Option Addr), Stars W A l → Calls Tryd.prog 58 #[.slice A n c] W fun e w' => e = .returned (.bool (vStars l)) ∧ Below W.heap.size W w') := fun W A hW => ValidStars_any A n c l W HL.out hn hW
  cases hv : vStars l with
  | false =>
    have HO := Lib.hid (tourO_no (ord := ord) hv)
    rw [hv] at V
    clear hv
    go_enter Tryd.func39, Tryd.ntmps39
    go_wp2_with (refine (V.out _ _ hA).mono ?_; rintro e w1 ⟨rfl, hb1⟩)
    go_ret2
    exact ⟨by rw [HO.out]; rfl, hb1⟩
  | true =>
    have h24 : n ≤ 24 := by have := vStars_len hv; have := HL.out; omega
    rw [hv] at V
    have HV := Lib.hid hv; clear hv
    obtain ⟨i0, hi0, hz0, hz1, hz2⟩ := info_parts info_bool
    have hmk := fun W : World => run_make (P := Tryd.prog) W 122 4 i0 _ Tryd.underlying122 hi0 hz0 .i64 .i64 (n : Int) (n : Int) (by omega) (by omega) (by rw [hz2]; omega) (by omega)
    simp only [Int.toNat_natCast, hz1] at hmk
    clear hi0 hz0 hz1 hz2
    go_enter Tryd.func39, Tryd.ntmps39
    go_wp2_with (refine (V.out _ _ hA).mono ?_; rintro e w1 ⟨rfl, hb1⟩)
    rw [← Nat.mul_one n, boolMade _ rfl n, Nat.mul_one, ← seenL_zero n ord]
    have hz : Blk (w1.alloc (.cells (seenL n ord 0).toArray 4)) w1.heap.size 4 (seenL n ord 0) := Blk.new _ _ _
    have hb0 : Below w.heap.size w (w1.alloc (.cells (seenL n ord 0).toArray 4)) := below_alloc hb1 _
    have hg : w.heap.size ≤ w1.heap.size := hb1.size
    generalize w1.alloc (.cells (seenL n ord 0).toArray 4) = W1 at *
    generalize w1.heap.size = g at *
    go_loopw [8, 17] (fun v i wr => ∃ k : Nat, k ≤ m ∧ i = .int .i64 k ∧ goodUpto n ord k = true ∧ Blk wr g 4 (seenL n ord k) ∧ Below w.heap.size w wr) (fun _ i _ => m - (intOf i).toNat)
    case atStart => exact ⟨0, by omega, rfl, rfl, hz, hb0⟩
    case round =>
      obtain ⟨k, hk, rfl, hgood, hB, hb⟩ := hrel
      have HG := Lib.hid hgood; clear hgood
      by_cases hlt : k < m
      · obtain ⟨a, ha⟩ := at_lt (l := ord) (k := k) (by have := HM.out; omega)
        obtain ⟨b, o, rfl, hc⟩ := hA'.below hb (by have := HM.out; omega)
        have c0 := hc k _ ha
        have HAt := Lib.hid ha
        clear hc
        cases hi : inB a 0 ((n : Int) - 1) with
        | false =>
          have HO : Hid (tourO l ord = (0, 2)) := tourO_at HV.out ha (.inl (by rw [HL.out]; exact hi))
          clear ha
          go_wp2_with ((go_at_call 59; refine (within_any _ _ _ _).mono ?_; rintro e w' ⟨rfl, rfl⟩))
          go_ret2
          exact ⟨by rw [HO.out]; rfl, hb⟩
        | true =>
          obtain ⟨a0, a1⟩ := (inB_iff _ _ _).1 hi
          obtain ⟨a, rfl⟩ := Int.eq_ofNat_of_zero_le a0
          have ha1 : (a : Int) < n := by omega
          have han : a < n := by omega
          have d0 : wr.cell? ⟨g, a, none⟩ = some (.bool ((ord.take k).contains (a : Int))) := by rw [hB.cell]; exact seenL_at han
          have f0 := hB.frozen a
          cases hs : (ord.take k).contains (a : Int) with
          | true =>
            have HO : Hid (tourO l ord = (0, 2)) := tourO_at HV.out ha (.inr hs)
            rw [hs] at d0
            clear ha hs a1
            go_wp2_with ((go_at_call 59; refine (within_any _ _ _ _).mono ?_; rintro e w' ⟨rfl, rfl⟩))
            go_ret2
            exact ⟨by rw [HO.out]; rfl, hb⟩
          | false =>
            have HN : Hid (goodUpto n ord (k + 1) = true) := by show _ = _; rw [goodUpto_succ, HG.out, goodAt_eq ha, hi, hs]; rfl
            rw [hs] at d0
            clear ha hs a1
            go_wp2_with ((go_at_call 59; refine (within_any _ _ _ _).mono ?_; rintro e w' ⟨rfl, rfl⟩))
            go_roundw
            case rel => exact ⟨k + 1, by omega, by go_num, HN.out, by rw [← seenL_set han HAt.out]; exact hB.set_ a _, below_setCell0 hb hg _⟩
            case measure => simp [intOf]; omega
      · obtain rfl : k = m := by omega
        by_cases hmn : k = n
        · subst hmn
          have HT : Hid (isTour k ord = true) := isTour_yes HM.out (by rw [HM.out]; exact HG.out)
          have HO : Hid (tourO l ord = (tourSum l ord (k - 1), 0)) := by
            show _ = _
            rw [tourO_yes HV.out (by rw [HL.out]; exact HT.out), HM.out]
          go_wp2_with (refine (tourLength_any A A' k c k c' l ord _ (hS.of_below hb) HL.out HM.out h24 hm2 (hA.below hb) (hA'.below hb) (fun x hx => vStars_mem HV.out hx) (fun j i hi => isTour_at HT.out hi)).mono ?_; rintro e w9 ⟨rfl, hb9⟩)
          go_ret2
          exact ⟨by rw [HO.out]; rfl, below_step hb hb9⟩
        · have HO : Hid (tourO l ord = (0, 2)) := tourO_len HV.out (by rw [HL.out, HM.out]; exact hmn)
          have hne : ((k : Int) == (n : Int)) = false := by simp; omega
          go_wp2
          go_ret2
          exact ⟨by rw [HO.out]; rfl, hb⟩
end Go.Proofs.YtbpjnopnhmoigaaDoor
