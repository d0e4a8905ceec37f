/- Contracts of the functions that add a star to a list. -/
import Derived.Test.YtpnfhienffekoaaGreatDoorIns
namespace Go.Proofs.YtpnfhienffekoaaGreatDoor
set_option linter.unusedVariables false
set_option linter.unusedSimpArgs false
open Go.RowKit
theorem findS_at {id : ByteArray} : ∀ {l : List Sta} {k : Nat}, 0 ≤ findS id l k → ∃ (j : Nat) (x : Sta), l[j]? = some x ∧ isId id x = true
  | [], k, h => by simp [findS] at h
  | y :: l, k, h => by
    rw [findS] at h
    split at h
    · next hy => exact ⟨0, y, rfl, hy⟩
    · obtain ⟨j, x, hx, hi⟩ := findS_at h
      exact ⟨j + 1, x, by simpa using hx, hi⟩
theorem findS_has {id : ByteArray} : ∀ {l : List Sta} {k j : Nat} {x : Sta}, l[j]? = some x → isId id x = true → 0 ≤ findS id l k
  | [], k, j, x, h, _ => by simp at h
  | y :: l, k, j, x, h, hi => by
    rw [findS]
    split
    · omega
    · next hy =>
      cases j with
      | zero => simp only [List.getElem?_cons_zero, Option.some.injEq] at h; subst h; exact absurd hi hy
      | succ j => exact findS_has (by simpa using h) hi
theorem isId_lt {id : ByteArray} {x y : Sta} (h : isId id x = true) : ltS y.id id = ltS y.id x.id := by
  simp only [isId, beq_iff_eq] at h
  rw [ltS, ltS, h]
theorem isAt_of_id {l : List Sta} {id : ByteArray} {j : Nat} {x : Sta} (hv : vStars l = true) (hx : l[j]? = some x) (hi : isId id x = true) : IsAt l id j := by
  have hj : j < l.length := (List.getElem?_eq_some_iff.1 hx).1
  refine ⟨by omega, fun i y hij hy => ?_, fun y hy => ?_⟩
  · rw [isId_lt hi]; exact vStars_lt2 hv hij hy hx
  · rw [hx] at hy; cases hy; rw [isId_lt hi]; exact ltS_irrefl _
/-- what AddStar answers -/
def addO (l : List Sta) (x : Sta) : List Sta × Int :=
  if vStars l && x.ok then (if 0 ≤ findS x.id l 0 then ([], 4) else if l.length = 24 then ([], 5) else (l.take (addK x.id l) ++ ([x] ++ l.drop (addK x.id l)), 0)) else ([], 1)
section
variable {l : List Sta} {x : Sta} {k : Nat}
theorem addO_no (h : vStars l = false) : addO l x = ([], 1) := by simp [addO, h]
theorem addO_no2 (h : x.ok = false) : addO l x = ([], 1) := by simp [addO, h]
theorem addO_has (h : vStars l = true) (h2 : x.ok = true) (h3 : 0 ≤ findS x.id l 0) : addO l x = ([], 4) := by simp [addO, h, h2, h3]
theorem addO_full (h : vStars l = true) (h2 : x.ok = true) (h3 : ¬ 0 ≤ findS x.id l 0) (h4 : l.length = 24) : addO l x = ([], 5) := by simp [addO, h, h2, h3, h4]
theorem addO_yes (h : vStars l = true) (h2 : x.ok = true) (h3 : ¬ 0 ≤ findS x.id l 0) (h4 : ¬ l.length = 24) (h5 : IsAt l x.id k) : addO l x = (l.take k ++ ([x] ++ l.drop k), 0) := by
  rw [h5.uniq (addK_is x.id l)]; simp [addO, h, h2, h3, h4]
theorem addO_len (l : List Sta) (x : Sta) : (addO l x).1.length ≤ 24 := by
  unfold addO
  split
  · next h =>
    rw [Bool.and_eq_true] at h
    have h24 := vStars_len h.1
    split
    · simp
    · split
      · simp
      · have := (addK_is x.id l).1
        show (l.take _ ++ ([x] ++ l.drop _)).length ≤ 24
        simp only [List.length_append, List.length_take, List.length_drop, List.length_singleton]; omega
  · simp
/-- in a valid list the star of that name stands where the name belongs -/
theorem has_at (hv : vStars l = true) (hk : IsAt l x.id k) : (0 ≤ findS x.id l 0) ↔ ∃ y, l[k]? = some y ∧ isId x.id y = true := by
  constructor
  · intro h
    obtain ⟨j, y, hy, hi⟩ := findS_at h
    have := (isAt_of_id hv hy hi).uniq hk
    subst this; exact ⟨y, hy, hi⟩
  · rintro ⟨y, hy, hi⟩; exact findS_has hy hi
end
set_option maxRecDepth 100000 in
set_option maxHeartbeats 8000000 in
theorem AddStar_any (A : Option Addr) (n c : Nat) (l : List Sta) (x : Sta) (w : World) (hl : l.length = n) (hn : n ≤ 9223372036854775807) (hc1 : n ≤ c) (h0 : A = none → c = 0 ∧ n = 0) (hA : Stars w A l) :
    Calls Tryz.prog 22 #[.slice A n c, .agg #[.string x.id, .int .i64 x.ri, .int .i64 x.de, .int .i64 x.ma, .int .i64 x.co]] w fun e w' => ∃ v : Value, e = .returned (.tuple #[v, .int .i64 (addO l x).2]) ∧ OwnS w' w.heap.size v (addO l x).1 ∧ Below w.heap.size w w' := by
  have HL := Lib.hid hl; clear hl
  have V : Hid (∀ W (A : Option Addr), Stars W A l → Calls Tryz.prog 67 #[.slice A n c] W fun e w' => e = .returned (.bool (vStars l)) ∧ Below W.heap.size W w') := fun W A hW => ValidStars_any A n c l W HL.out hn hW
  have VX : Hid (∀ W, Calls Tryz.prog 68 #[.agg #[.string x.id, .int .i64 x.ri, .int .i64 x.de, .int .i64 x.ma, .int .i64 x.co]] W fun e w' => e = .returned (.bool x.ok) ∧ Below W.heap.size W w') := fun W => ValidStar_any _ _ _ _ _ W
  have hb0 : Below w.heap.size w (w.alloc (.cells (staCells [x]).toArray 46)) := Below.alloc (Below.refl _ _) (Nat.le_refl _) _
  have hX0 : Blk (w.alloc (.cells (staCells [x]).toArray 46)) w.heap.size 46 (staCells [x]) := Blk.new _ _ _
  cases hv : vStars l with
  | false =>
    have HO := Lib.hid (addO_no (x := x) hv)
    rw [hv] at V
    have hA0 := hA.below hb0
    clear hv
    go_enter Tryz.func22, Tryz.ntmps22
    go_wp2_with (refine (V.out _ _ hA0).mono ?_; rintro e w1 ⟨rfl, hb1⟩)
    go_ret2
    exact ⟨.slice none 0 0, by rw [HO.out]; rfl, by rw [HO.out]; exact OwnS.nil _ _, below_step hb0 hb1⟩
  | true =>
    have h24 : n ≤ 24 := by have := vStars_len hv; have := HL.out; omega
    rw [hv] at V
    have hA0 := hA.below hb0
    cases hx : x.ok with
    | false =>
      have HO := Lib.hid (addO_no2 (l := l) hx)
      rw [hx] at VX
      clear hv hx
      go_enter Tryz.func22, Tryz.ntmps22
      go_wp2_with (first | (go_at_call 67; refine (V.out _ _ hA0).mono ?_; rintro e w1 ⟨rfl, hb1⟩; have hX1 := (hX0.keep hb1).stas 0 x rfl; obtain ⟨p0, p1, p2, p3, p4⟩ := hX1; simp only [Nat.zero_mul, Nat.zero_add] at p0 p1 p2 p3 p4) | (go_at_call 68; refine (VX.out _).mono ?_; rintro e w2 ⟨rfl, hb2⟩))
      go_ret2
      exact ⟨.slice none 0 0, by rw [HO.out]; rfl, by rw [HO.out]; exact OwnS.nil _ _, below_step (below_step hb0 hb1) hb2⟩
    | true =>
      rw [hx] at VX
      have HV := Lib.hid hv
      have HOK := Lib.hid hx
      clear hv hx
      go_enter Tryz.func22, Tryz.ntmps22
      go_wp2_with (first | (go_at_call 67; refine (V.out _ _ hA0).mono ?_; rintro e w1 ⟨rfl, hb1⟩; have hX1 := (hX0.keep hb1).stas 0 x rfl; obtain ⟨p0, p1, p2, p3, p4⟩ := hX1; simp only [Nat.zero_mul, Nat.zero_add] at p0 p1 p2 p3 p4) | (go_at_call 68; refine (VX.out _).mono ?_; rintro e w2 ⟨rfl, hb2⟩))
      have hbb := below_step (below_step hb0 hb1) hb2
      have hX2 := (hX0.keep hb1).keep hb2
      go_loopw [6] (fun i wr => ∃ k : Nat, k ≤ n ∧ i = .int .i64 k ∧ (∀ j y, j < k → l[j]? = some y → ltS y.id x.id = true) ∧ Blk wr w.heap.size 46 (staCells [x]) ∧ Below w.heap.size w wr) (fun i _ => n - (intOf i).toNat)
      case atStart => exact ⟨0, by omega, rfl, fun j y hj _ => absurd hj (by omega), hX2, hbb⟩
      case round =>
        obtain ⟨k, hk, rfl, hlt, hX, hb⟩ := hrel
        have HLT := Lib.hid hlt; clear hlt
        obtain ⟨q0, _, _, _, _⟩ := hX.stas 0 x rfl
        simp only [Nat.zero_mul, Nat.zero_add] at q0
        have hxl := hX.lt
        by_cases hkn : k < n
        · obtain ⟨y, hy⟩ := at_lt (l := l) (k := k) (by have := HL.out; omega)
          obtain ⟨b, o, rfl, hc⟩ := hA.below hb (by have := HL.out; omega)
          have hyl := (hc k y hy).lt
          obtain ⟨c0, _, _, _, _⟩ := hc k y hy
          have hknI : (k : Int) < n := by omega
          cases hs : Op.bytesLess y.id.toList x.id.toList with
          | true =>
            have HK : Hid (∀ j z, j < k + 1 → l[j]? = some z → ltS z.id x.id = true) := Lib.hid (fun j z hj hz => by
              by_cases e : j = k
              · subst e; rw [hy] at hz; cases hz; exact hs
              · exact HLT.out j z (by omega) hz)
            clear hy hc
            go_wp2_with (fail)
            (refine later_intro_wp ?_; intro y)
            (refine wp_region_later (by kernel_rfl) (by kernel_rfl) ?_; (repeat (first | go_big_quiet_step ((fail)) | quiet_step ((fail)))); refine wpQuiet_nil ?_; rintro _ ⟨y, rfl⟩)
            go_wp2_with (fail)
            go_roundw
            case rel => exact ⟨k + 1, by omega, by go_num, HK.out, hX.keep (Later.below _), below_later hb _⟩
            case measure => simp [intOf]; omega
          | false =>
            have hIS : IsAt l x.id k := ⟨by have := HL.out; omega, HLT.out, fun z hz => by rw [hy] at hz; cases hz; exact hs⟩
            have HAS := Lib.hid (has_at HV.out hIS)
            cases he : (y.id.toList == x.id.toList) with
            | true =>
              have HO := Lib.hid (addO_has HV.out HOK.out (HAS.out.2 ⟨y, hy, he⟩))
              clear hy hc hIS
              go_wp2_with (fail)
              (refine later_intro_wp ?_; intro y)
              (refine wp_region_later (by kernel_rfl) (by kernel_rfl) ?_; (repeat (first | go_big_quiet_step ((fail)) | quiet_step ((fail)))); refine wpQuiet_nil ?_; rintro _ ⟨y, rfl⟩)
              go_wp2_with (fail)
              (refine wp_region_later (by kernel_rfl) (by kernel_rfl) ?_; (repeat (first | go_big_quiet_step ((fail)) | quiet_step ((fail)))); refine wpQuiet_nil ?_; rintro _ ⟨y, rfl⟩)
              go_wp2_with (fail)
              go_ret2
              exact ⟨.slice none 0 0, by rw [HO.out]; rfl, by rw [HO.out]; exact OwnS.nil _ _, below_later hb _⟩
            | false =>
              have hno : ¬ 0 ≤ findS x.id l 0 := fun h => by
                obtain ⟨z, hz, hi⟩ := HAS.out.1 h
                rw [hy] at hz; cases hz
                have hi' : (y.id.toList == x.id.toList) = true := hi
                rw [he] at hi'; cases hi'
              by_cases h24n : n = 24
              · have HO := Lib.hid (addO_full HV.out HOK.out hno (by rw [HL.out]; exact h24n))
                have hn24 : ((n : Int) == 24) = true := by simp; omega
                clear h24n
                clear hy hc hIS hno
                go_wp2_with (fail)
                (refine later_intro_wp ?_; intro y)
                (refine wp_region_later (by kernel_rfl) (by kernel_rfl) ?_; (repeat (first | go_big_quiet_step ((fail)) | quiet_step ((fail)))); refine wpQuiet_nil ?_; rintro _ ⟨y, rfl⟩)
                go_wp2_with (fail)
                (refine wp_region_later (by kernel_rfl) (by kernel_rfl) ?_; (repeat (first | go_big_quiet_step ((fail)) | quiet_step ((fail)))); refine wpQuiet_nil ?_; rintro _ ⟨y, rfl⟩)
                go_wp2_with (fail)
                go_ret2
                exact ⟨.slice none 0 0, by rw [HO.out]; rfl, by rw [HO.out]; exact OwnS.nil _ _, below_later hb _⟩
              · have HO := Lib.hid (addO_yes HV.out HOK.out hno (by rw [HL.out]; exact h24n) hIS)
                have hn24 : ¬ (n : Int) = 24 := by omega
                clear hy hc hIS hno
                go_wp2_with (fail)
                (refine later_intro_wp ?_; intro y)
                (refine wp_region_later (by kernel_rfl) (by kernel_rfl) ?_; (repeat (first | go_big_quiet_step ((fail)) | quiet_step ((fail)))); refine wpQuiet_nil ?_; rintro _ ⟨y, rfl⟩)
                go_wp2_with (fail)
                (refine wp_region_later (by kernel_rfl) (by kernel_rfl) ?_; (repeat (first | go_big_quiet_step ((fail)) | quiet_step ((fail)))); refine wpQuiet_nil ?_; rintro _ ⟨y, rfl⟩)
                go_wp2_with (fail)
                refine wp_named ?_
                intro W5 hW5
                have hb5 : Below w.heap.size w W5 := by rw [hW5]; exact below_later hb _
                have hA5 := hA.below hb5
                have hX5 : Blk W5 w.heap.size 46 (staCells [x]) := by rw [hW5]; exact hX.keep (Later.below _)
                obtain ⟨g0, g1, g2, g3, g4⟩ := hX5.stas 0 x rfl
                simp only [Nat.zero_mul, Nat.zero_add] at g0 g1 g2 g3 g4
                have CL : Hid (∀ W, Below W5.heap.size W5 W → Calls Tryz.prog 70 #[.slice (some ⟨b, o, none⟩) n c] W fun e w' => ∃ v : Value, e = .returned v ∧ OwnS w' W.heap.size v l ∧ Below W.heap.size W w' ∧ w'.cell? ⟨w.heap.size, 0, none⟩ = some (.string x.id) ∧ w'.cell? ⟨w.heap.size, 1, none⟩ = some (.int .i64 x.ri) ∧ w'.cell? ⟨w.heap.size, 2, none⟩ = some (.int .i64 x.de) ∧ w'.cell? ⟨w.heap.size, 3, none⟩ = some (.int .i64 x.ma) ∧ w'.cell? ⟨w.heap.size, 4, none⟩ = some (.int .i64 x.co)) := Lib.hid (fun W hW => (CloneS_any _ n c l W HL.out (by omega) (hA5.below hW) (fun h => by cases h)).mono (fun e w' ⟨v, h1, h2, h3⟩ => by
                  obtain ⟨a0, a1, a2, a3, a4⟩ := ((hX5.keep hW).keep h3).stas 0 x rfl
                  simp only [Nat.zero_mul, Nat.zero_add] at a0 a1 a2 a3 a4
                  exact ⟨v, h1, h2, h3, a0, a1, a2, a3, a4⟩))
                clear hW5 q0 c0 hX hb hA hA0 hA5 hX0 hX2 hb0 hxl hyl
                have hn9 : n ≤ 1000000000 := by omega
                have hw5 := hb5.size
                have BX : Hid (∀ W : World, Blk (W.alloc (.cells #[.string x.id, .int .i64 x.ri, .int .i64 x.de, .int .i64 x.ma, .int .i64 x.co] 46)) W.heap.size 46 (staCells [x])) := Lib.hid (fun W => Blk.new W 46 (staCells [x]))
                have LT : Hid (∀ (W : World) (o : Obj), W.heap.size < (W.alloc o).heap.size) := Lib.hid (fun W o => by simp)
                have IN : Hid (∀ (W : World) (v : Value) (base q : Nat), OwnS W base v l → Blk W q 46 (staCells [x]) → base ≤ W.heap.size → (∀ g, v.ownBlock = some g → q ≠ g) → Calls Tryz.prog 69 #[v, .int .i64 (k : Int), .slice (some ⟨q, 0, none⟩) 1 1] W fun e w' => ∃ v', e = .returned v' ∧ OwnS w' base v' (l.take k ++ ([x] ++ l.drop k)) ∧ Below base W w') := Lib.hid (fun W v base q h1 h2 h3 h4 => InsertS_any base n k q v l x W h1 HL.out hn9 hk h2 h3 h4)
                go_region_with (first
                  | (go_at_call 70; refine (CL.out _ (by repeat (first | exact Below.refl _ _ | refine below_alloc ?_ _ | refine below_drew0 ?_))).mono ?_; rintro e w6 ⟨v, rfl, hO6, hb6, k0, k1, k2, k3, k4⟩)
                  | (go_at_call 69; with_reducible refine (IN.out (World.alloc w6 _) v _ w6.heap.size (hO6.alloc _) (BX.out w6) (Nat.le_trans hb6.size (Nat.le_of_lt (LT.out _ _))) (fun g hg => Nat.ne_of_gt (hO6.lt g hg).2)).mono ?_; rintro e w7 ⟨v7, rfl, hO7, hb7⟩)
                  | (go_at_call 69; have hQ6 : Blk w6 W5.heap.size 46 (staCells [x]) := (BX.out W5.drew).keep hb6; have hq6 : ∀ g, v.ownBlock = some g → W5.heap.size ≠ g := fun g hg => Nat.ne_of_lt (Nat.lt_of_lt_of_le (LT.out W5.drew _) (hO6.lt g hg).1); with_reducible refine (IN.out w6 v _ W5.heap.size hO6 hQ6 hb6.size hq6).mono ?_; rintro e w7 ⟨v7, rfl, hO7, hb7⟩))
                all_goals go_wp2
                all_goals go_ret2
                all_goals first
                  | exact ⟨v7, by rw [HO.out]; rfl, by rw [HO.out]; exact hO7.base_le hw5, (below_alloc (below_step (below_drew0 hb5) hb6) _).trans (hb7.mono hw5)⟩
                  | exact ⟨v7, by rw [HO.out]; rfl, by rw [HO.out]; exact hO7.base_le (Nat.le_trans hw5 (Nat.le_of_lt (LT.out W5 _))), (below_step (below_drew0 (below_alloc hb5 _)) hb6).trans (hb7.mono (Nat.le_trans hw5 (Nat.le_of_lt (LT.out W5 _))))⟩
        · have hkI : ¬ (k : Int) < n := by omega
          have hIS : IsAt l x.id k := ⟨by have := HL.out; omega, HLT.out, fun z hz => by rw [List.getElem?_eq_none (by have := HL.out; omega)] at hz; cases hz⟩
          have HAS := Lib.hid (has_at HV.out hIS)
          have hno : ¬ 0 ≤ findS x.id l 0 := fun h => by
            obtain ⟨z, hz, hi⟩ := HAS.out.1 h
            rw [List.getElem?_eq_none (by have := HL.out; omega)] at hz; cases hz
          by_cases h24n : n = 24
          · have HO := Lib.hid (addO_full HV.out HOK.out hno (by rw [HL.out]; exact h24n))
            have hn24 : ((n : Int) == 24) = true := by simp; omega
            clear h24n
            clear hIS hno HAS
            go_wp2_with (fail)
            (refine later_intro_wp ?_; intro y)
            (refine wp_region_later (by kernel_rfl) (by kernel_rfl) ?_; (repeat (first | go_big_quiet_step ((fail)) | quiet_step ((fail)))); refine wpQuiet_nil ?_; rintro _ ⟨y, rfl⟩)
            go_wp2_with (fail)
            (refine wp_region_later (by kernel_rfl) (by kernel_rfl) ?_; (repeat (first | go_big_quiet_step ((fail)) | quiet_step ((fail)))); refine wpQuiet_nil ?_; rintro _ ⟨y, rfl⟩)
            go_wp2_with (fail)
            go_ret2
            exact ⟨.slice none 0 0, by rw [HO.out]; rfl, by rw [HO.out]; exact OwnS.nil _ _, below_later hb _⟩
          · have HO := Lib.hid (addO_yes HV.out HOK.out hno (by rw [HL.out]; exact h24n) hIS)
            have hn24 : ¬ (n : Int) = 24 := by omega
            clear hIS hno HAS
            go_wp2_with (fail)
            (refine later_intro_wp ?_; intro y)
            (refine wp_region_later (by kernel_rfl) (by kernel_rfl) ?_; (repeat (first | go_big_quiet_step ((fail)) | quiet_step ((fail)))); refine wpQuiet_nil ?_; rintro _ ⟨y, rfl⟩)
            go_wp2_with (fail)
            (refine wp_region_later (by kernel_rfl) (by kernel_rfl) ?_; (repeat (first | go_big_quiet_step ((fail)) | quiet_step ((fail)))); refine wpQuiet_nil ?_; rintro _ ⟨y, rfl⟩)
            go_wp2_with (fail)
            refine wp_named ?_
            intro W5 hW5
            have hb5 : Below w.heap.size w W5 := by rw [hW5]; exact below_later hb _
            have hA5 := hA.below hb5
            have hX5 : Blk W5 w.heap.size 46 (staCells [x]) := by rw [hW5]; exact hX.keep (Later.below _)
            obtain ⟨g0, g1, g2, g3, g4⟩ := hX5.stas 0 x rfl
            simp only [Nat.zero_mul, Nat.zero_add] at g0 g1 g2 g3 g4
            have CL : Hid (∀ W, Below W5.heap.size W5 W → Calls Tryz.prog 70 #[.slice A n c] W fun e w' => ∃ v : Value, e = .returned v ∧ OwnS w' W.heap.size v l ∧ Below W.heap.size W w' ∧ w'.cell? ⟨w.heap.size, 0, none⟩ = some (.string x.id) ∧ w'.cell? ⟨w.heap.size, 1, none⟩ = some (.int .i64 x.ri) ∧ w'.cell? ⟨w.heap.size, 2, none⟩ = some (.int .i64 x.de) ∧ w'.cell? ⟨w.heap.size, 3, none⟩ = some (.int .i64 x.ma) ∧ w'.cell? ⟨w.heap.size, 4, none⟩ = some (.int .i64 x.co)) := Lib.hid (fun W hW => (CloneS_any _ n c l W HL.out (by omega) (hA5.below hW) h0).mono (fun e w' ⟨v, h1, h2, h3⟩ => by
              obtain ⟨a0, a1, a2, a3, a4⟩ := ((hX5.keep hW).keep h3).stas 0 x rfl
              simp only [Nat.zero_mul, Nat.zero_add] at a0 a1 a2 a3 a4
              exact ⟨v, h1, h2, h3, a0, a1, a2, a3, a4⟩))
            clear hW5 q0 hX hb hA hA0 hA5 hX0 hX2 hb0 hxl
            have hn9 : n ≤ 1000000000 := by omega
            have hw5 := hb5.size
            have BX : Hid (∀ W : World, Blk (W.alloc (.cells #[.string x.id, .int .i64 x.ri, .int .i64 x.de, .int .i64 x.ma, .int .i64 x.co] 46)) W.heap.size 46 (staCells [x])) := Lib.hid (fun W => Blk.new W 46 (staCells [x]))
            have LT : Hid (∀ (W : World) (o : Obj), W.heap.size < (W.alloc o).heap.size) := Lib.hid (fun W o => by simp)
            have IN : Hid (∀ (W : World) (v : Value) (base q : Nat), OwnS W base v l → Blk W q 46 (staCells [x]) → base ≤ W.heap.size → (∀ g, v.ownBlock = some g → q ≠ g) → Calls Tryz.prog 69 #[v, .int .i64 (k : Int), .slice (some ⟨q, 0, none⟩) 1 1] W fun e w' => ∃ v', e = .returned v' ∧ OwnS w' base v' (l.take k ++ ([x] ++ l.drop k)) ∧ Below base W w') := Lib.hid (fun W v base q h1 h2 h3 h4 => InsertS_any base n k q v l x W h1 HL.out hn9 hk h2 h3 h4)
            go_region_with (first
              | (go_at_call 70; refine (CL.out _ (by repeat (first | exact Below.refl _ _ | refine below_alloc ?_ _ | refine below_drew0 ?_))).mono ?_; rintro e w6 ⟨v, rfl, hO6, hb6, k0, k1, k2, k3, k4⟩)
              | (go_at_call 69; with_reducible refine (IN.out (World.alloc w6 _) v _ w6.heap.size (hO6.alloc _) (BX.out w6) (Nat.le_trans hb6.size (Nat.le_of_lt (LT.out _ _))) (fun g hg => Nat.ne_of_gt (hO6.lt g hg).2)).mono ?_; rintro e w7 ⟨v7, rfl, hO7, hb7⟩)
              | (go_at_call 69; have hQ6 : Blk w6 W5.heap.size 46 (staCells [x]) := (BX.out W5.drew).keep hb6; have hq6 : ∀ g, v.ownBlock = some g → W5.heap.size ≠ g := fun g hg => Nat.ne_of_lt (Nat.lt_of_lt_of_le (LT.out W5.drew _) (hO6.lt g hg).1); with_reducible refine (IN.out w6 v _ W5.heap.size hO6 hQ6 hb6.size hq6).mono ?_; rintro e w7 ⟨v7, rfl, hO7, hb7⟩))
            all_goals go_wp2
            all_goals go_ret2
            all_goals first
              | exact ⟨v7, by rw [HO.out]; rfl, by rw [HO.out]; exact hO7.base_le hw5, (below_alloc (below_step (below_drew0 hb5) hb6) _).trans (hb7.mono hw5)⟩
              | exact ⟨v7, by rw [HO.out]; rfl, by rw [HO.out]; exact hO7.base_le (Nat.le_trans hw5 (Nat.le_of_lt (LT.out W5 _))), (below_step (below_drew0 (below_alloc hb5 _)) hb6).trans (hb7.mono (Nat.le_trans hw5 (Nat.le_of_lt (LT.out W5 _))))⟩
end Go.Proofs.YtpnfhienffekoaaGreatDoor
