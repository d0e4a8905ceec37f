/- Contracts of the reference's functions that add a star to a list. -/
import Derived.Test.YtpnfhienffekoaaGreatDoorAdd
namespace Go.Proofs.YtpnfhienffekoaaGreatDoor
set_option linter.unusedVariables false
set_option linter.unusedSimpArgs false
open Go.RowKit
theorem Stars.dropNone {w : World} {l : List Sta} (h : Stars w none l) (k : Nat) : Stars w none (l.drop k) := fun hl => by
  rw [List.length_drop] at hl
  obtain ⟨b, o, e, _⟩ := h (by omega)
  cases e
set_option maxRecDepth 100000 in
set_option maxHeartbeats 8000000 in
theorem sAddStar_none (l : List Sta) (x : Sta) (w : World) (n c : Nat) (en : n = 0) (ec : c = 0) (hl : l.length = n) (hA : Stars w none l) :
    Calls Tryz.prog 110 #[.slice none n c, .agg #[.string x.id, .int .i64 x.ri, .int .i64 x.de, .int .i64 x.ma, .int .i64 x.co]] w fun e w' => ∃ v : Value, e = .returned (.tuple #[v, .int .i64 (addO l x).2]) ∧ OwnS w' w.heap.size v (addO l x).1 ∧ Below w.heap.size w w' := by
  subst en ec
  have HL := Lib.hid hl; clear hl
  have V : Hid (∀ W, Stars W none l → Calls Tryz.prog 130 #[.slice none 0 0] W fun e w' => e = .returned (.bool (vStars l)) ∧ Below W.heap.size W w') := fun W hW => l05Ok_any none 0 0 l W HL.out (by omega) hW
  have VX : Hid (∀ W, Blk W w.heap.size 46 (staCells [x]) → Calls Tryz.prog 142 #[.pointer (some ⟨w.heap.size, 0, none⟩)] W fun e w' => e = .returned (.bool x.ok) ∧ Below W.heap.size W w') := Lib.hid (fun W hW => by
    obtain ⟨p0, p1, p2, p3, p4⟩ := hW.stas 0 x rfl
    simp only [Nat.zero_mul, Nat.zero_add] at p0 p1 p2 p3 p4
    exact (l05One_any w.heap.size 0 x.id x.ri x.de x.ma x.co W p0 (by simpa using p1) (by simpa using p2) (by simpa using p3) (by simpa using p4)).mono (fun e w' h => ⟨h.1, by obtain ⟨m, rfl⟩ := h.2; exact below_drewN0 (Below.refl _ _) m⟩))
  have F : Hid (∀ W, Stars W none l → Calls Tryz.prog 143 #[.slice none 0 0, .string x.id] W fun e w' => e = .returned (.int .i64 (findS x.id l 0)) ∧ W = w') := fun W hW => l05Find_same none 0 0 l x.id W HL.out (by omega) hW
  have hb0 : Below w.heap.size w (w.alloc (.cells (staCells [x]).toArray 46)) := Below.alloc (Below.refl _ _) (Nat.le_refl _) _
  have hX0 : Blk (w.alloc (.cells (staCells [x]).toArray 46)) w.heap.size 46 (staCells [x]) := Blk.new _ _ _
  have hA0 := hA.below hb0
  have hwl : w.heap.size < (w.alloc (.cells (staCells [x]).toArray 46)).heap.size := hX0.lt
  cases hv : vStars l with
  | false =>
    have HO := Lib.hid (addO_no (x := x) hv)
    rw [hv] at V
    clear hv
    go_enter Tryz.func110, Tryz.ntmps110
    go_wp2_with (go_at_call 130; refine (V.out _ hA0).mono ?_; rintro e w1 ⟨rfl, hb1⟩; have hX1 := hX0.keep hb1)
    go_ret2
    exact ⟨.slice none 0 0, by rw [HO.out]; rfl, by rw [HO.out]; exact OwnS.nil _ _, below_step hb0 hb1⟩
  | true =>
    have h24 : 0 ≤ 24 := by have := vStars_len hv; have := HL.out; omega
    rw [hv] at V
    cases hx : x.ok with
    | false =>
      have HO := Lib.hid (addO_no2 (l := l) hx)
      rw [hx] at VX
      clear hv hx
      go_enter Tryz.func110, Tryz.ntmps110
      go_wp2_with (first | (go_at_call 130; refine (V.out _ hA0).mono ?_; rintro e w1 ⟨rfl, hb1⟩; have hX1 := hX0.keep hb1) | (go_at_call 142; refine (VX.out _ hX1).mono ?_; rintro e w2 ⟨rfl, hb2⟩; have hA2 := (hA0.below hb1).below hb2; have hX2 := hX1.keep hb2; obtain ⟨p0, p1, p2, p3, p4⟩ := hX2.stas 0 x rfl; simp only [Nat.zero_mul, Nat.zero_add] at p0 p1 p2 p3 p4))
      go_ret2
      exact ⟨.slice none 0 0, by rw [HO.out]; rfl, by rw [HO.out]; exact OwnS.nil _ _, below_step (below_step hb0 hb1) hb2⟩
    | true =>
      rw [hx] at VX
      have HV := Lib.hid hv
      have HOK := Lib.hid hx
      clear hv hx
      by_cases hf : 0 ≤ findS x.id l 0
      · have HO := Lib.hid (addO_has HV.out HOK.out hf)
        generalize findS x.id l 0 = fk at *
        go_enter Tryz.func110, Tryz.ntmps110
        go_wp2_with (first | (go_at_call 130; refine (V.out _ hA0).mono ?_; rintro e w1 ⟨rfl, hb1⟩; have hX1 := hX0.keep hb1) | (go_at_call 142; refine (VX.out _ hX1).mono ?_; rintro e w2 ⟨rfl, hb2⟩; have hA2 := (hA0.below hb1).below hb2; have hX2 := hX1.keep hb2; obtain ⟨p0, p1, p2, p3, p4⟩ := hX2.stas 0 x rfl; simp only [Nat.zero_mul, Nat.zero_add] at p0 p1 p2 p3 p4) | (go_at_call 143; refine (F.out _ hA2).mono ?_; rintro e w3 ⟨rfl, rfl⟩))
        go_ret2
        exact ⟨.slice none 0 0, by rw [HO.out]; rfl, by rw [HO.out]; exact OwnS.nil _ _, below_step (below_step hb0 hb1) hb2⟩
      · by_cases h24n : 0 = 24
        · omega
        · have HO : Hid (∀ k, IsAt l x.id k → addO l x = (l.take k ++ ([x] ++ l.drop k), 0)) := Lib.hid (fun k hk => addO_yes HV.out HOK.out hf (by rw [HL.out]; exact h24n) hk)
          have hn24 : ¬ (0 : Int) = 24 := by omega
          have hfx : ¬ 0 ≤ findS x.id l 0 := hf
          have HNO : Hid (∀ (j : Nat) (y : Sta), l[j]? = some y → isId x.id y = false) := Lib.hid (fun j y hy => by
            cases h : isId x.id y with
            | false => rfl
            | true => exact absurd (findS_has hy h) hf)
          clear hf h24n
          generalize findS x.id l 0 = fk at F hfx
          go_enter Tryz.func110, Tryz.ntmps110
          go_wp2_with (first | (go_at_call 130; refine (V.out _ hA0).mono ?_; rintro e w1 ⟨rfl, hb1⟩; have hX1 := hX0.keep hb1) | (go_at_call 142; refine (VX.out _ hX1).mono ?_; rintro e w2 ⟨rfl, hb2⟩; have hA2 := (hA0.below hb1).below hb2; have hX2 := hX1.keep hb2; obtain ⟨p0, p1, p2, p3, p4⟩ := hX2.stas 0 x rfl; simp only [Nat.zero_mul, Nat.zero_add] at p0 p1 p2 p3 p4) | (go_at_call 143; refine (F.out _ hA2).mono ?_; rintro e w3 ⟨rfl, rfl⟩))
          have hbb := below_step (below_step hb0 hb1) hb2
          clear hb0 hb1 hb2 hA0 hA2 hX0 hX1 p0 p1 p2 p3 p4 V VX F hfx hn24
          go_loopw [6] (fun i wr => ∃ k : Nat, k ≤ 0 ∧ i = .int .i64 k ∧ (∀ j y, k ≤ j → l[j]? = some y → ltS y.id x.id = false) ∧ Blk wr w.heap.size 46 (staCells [x]) ∧ Below w.heap.size w wr) (fun i _ => (intOf i).toNat)
          case atStart => exact ⟨0, by omega, rfl, fun j y hj hy => absurd (List.getElem?_eq_some_iff.1 hy).1 (by have := HL.out; omega), hX2, hbb⟩
          case round =>
            clear hX2 hbb
            obtain ⟨k, hk, rfl, hgt, hX, hb⟩ := hrel
            have HGT := Lib.hid hgt; clear hgt
            obtain ⟨q0, _, _, _, _⟩ := hX.stas 0 x rfl
            simp only [Nat.zero_mul, Nat.zero_add] at q0
            have hxl := hX.lt
            rcases k with _ | k
            · have HIS : Hid (IsAt l x.id 0) := Lib.hid ⟨by omega, fun j z hj _ => absurd hj (by omega), fun z hz => HGT.out 0 z (by omega) hz⟩
              simp only [Int.natCast_zero]
              go_wp2_with (fail)
              (refine later_intro_wp ?_; intro y)
              (refine wp_region_later (by kernel_rfl) (by kernel_rfl) ?_; (repeat (first | go_big_quiet_step ((fail)) | quiet_step ((fail)))); refine wpQuiet_nil ?_; rintro _ ⟨y, rfl⟩)
              have hb5 := below_later hb y
              have hX5 := hX.keep y.below
              clear hb hX hxl q0
              generalize y.w = W5 at *
              clear y
              have hE := OwnS.empty W5 (w.heap.size + 1) hX5.lt
              have hb6 : Below w.heap.size w (W5.alloc (.cells #[] 46)) := below_alloc hb5 _
              have hX6 := hX5.alloc (.cells #[] 46)
              have hs6 : w.heap.size + 1 ≤ (W5.alloc (.cells #[] 46)).heap.size := hX6.lt
              have hS6 : Stars (W5.alloc (.cells #[] 46)) none (l.take (0)) := (hA.below hb6).take (0)
              have HLT : Hid ((l.take (0)).length = 0) := Lib.hid (by rw [List.length_take, HL.out]; omega)
              have HLD : Hid ((l.drop (0)).length = 0 - (0)) := Lib.hid (by rw [List.length_drop, HL.out])
              have hl1 : ([] : List Sta).length + (0) ≤ 1099511627776 := by simp only [List.length_nil]; omega
              have HL2 : Hid (([] ++ l.take (0)).length + 1 ≤ 1099511627776) := Lib.hid (by rw [List.nil_append, HLT.out]; omega)
              have HL3 : Hid (([] ++ l.take (0) ++ [x]).length + (0 - (0)) ≤ 1099511627776) := Lib.hid (by rw [List.nil_append, List.length_append, HLT.out, List.length_singleton]; omega)
              go_wp2_with (first
                | (at_builtin; refine wpList_app_stars rfl (.tmp 40) (.tmp 43) rfl (w.heap.size + 1) _ [] (l.take (0)) none 0 0 rfl rfl hE HLT.out hS6 (fun _ => ⟨rfl, rfl⟩) hl1 hs6 ?_; intro v7 w7 hO7 hg7; have hb7 := below_of_grown hb6 hg7 hb6.size (fun q hq => Nat.le_of_succ_le (hE.lt q hq).1); have hX7 := hX6.grown hg7 (fun q hq => Nat.ne_of_lt (hE.lt q hq).1); obtain ⟨g0, g1, g2, g3, g4⟩ := hX7.stas 0 x rfl; simp only [Nat.zero_mul, Nat.zero_add] at g0 g1 g2 g3 g4; have hl7 := hX7.lt; have hN7 : Blk (w7.alloc (.cells #[.string x.id, .int .i64 x.ri, .int .i64 x.de, .int .i64 x.ma, .int .i64 x.co] 46)) w7.heap.size 46 (staCells [x]) := Blk.new _ _ _; have hs7 : w.heap.size + 1 ≤ (w7.alloc (.cells #[.string x.id, .int .i64 x.ri, .int .i64 x.de, .int .i64 x.ma, .int .i64 x.co] 46)).heap.size := Nat.le_trans hX7.lt (Nat.le_of_lt hN7.lt))
                | (at_builtin; refine wpList_app_stars rfl (.tmp 45) (.tmp 47) rfl (w.heap.size + 1) v7 ([] ++ l.take (0)) [x] (some ⟨w7.heap.size, 0, none⟩) 1 1 rfl rfl (hO7.alloc _) rfl hN7.stars (fun h => by cases h) HL2.out hs7 ?_; intro v8 w8 hO8 hg8; have hb8 := below_of_grown (below_alloc hb7 _) hg8 (below_alloc hb7 _).size (fun q hq => Nat.le_of_succ_le (hO7.lt q hq).1); have hS8 : Stars w8 none (l.drop (0)) := (hA.below hb8).dropNone _; have hs8 : w.heap.size + 1 ≤ w8.heap.size := Nat.le_trans hs7 hg8.size)
                | (at_builtin; refine wpList_app_stars rfl (.tmp 49) (.tmp 52) rfl (w.heap.size + 1) v8 ([] ++ l.take (0) ++ [x]) (l.drop (0)) none 0 0 rfl rfl hO8 HLD.out hS8 (fun _ => ⟨rfl, rfl⟩) HL3.out hs8 ?_; intro v9 w9 hO9 hg9))
              all_goals
                go_ret2
                refine ⟨v9, by rw [HO.out _ HIS.out]; rfl, ?_, below_of_grown hb8 hg9 hb8.size (fun q hq => Nat.le_of_succ_le (hO8.lt q hq).1)⟩
                rw [HO.out _ HIS.out]
                have hz := hO9.base_le (Nat.le_succ w.heap.size)
                simpa using hz
            · omega
set_option maxRecDepth 100000 in
set_option maxHeartbeats 8000000 in
theorem sAddStar_some (b o n c : Nat) (l : List Sta) (x : Sta) (w : World) (hl : l.length = n) (hn : n ≤ 9223372036854775807) (hc1 : n ≤ c) (hc2 : c ≤ 9223372036854775807) (hA : Stars w (some ⟨b, o, none⟩) l) :
    Calls Tryz.prog 110 #[.slice (some ⟨b, o, none⟩) n c, .agg #[.string x.id, .int .i64 x.ri, .int .i64 x.de, .int .i64 x.ma, .int .i64 x.co]] w fun e w' => ∃ v : Value, e = .returned (.tuple #[v, .int .i64 (addO l x).2]) ∧ OwnS w' w.heap.size v (addO l x).1 ∧ Below w.heap.size w w' := by
  have HL := Lib.hid hl; clear hl
  have V : Hid (∀ W, Stars W (some ⟨b, o, none⟩) l → Calls Tryz.prog 130 #[.slice (some ⟨b, o, none⟩) n c] W fun e w' => e = .returned (.bool (vStars l)) ∧ Below W.heap.size W w') := fun W hW => l05Ok_any (some ⟨b, o, none⟩) n c l W HL.out (by omega) hW
  have VX : Hid (∀ W, Blk W w.heap.size 46 (staCells [x]) → Calls Tryz.prog 142 #[.pointer (some ⟨w.heap.size, 0, none⟩)] W fun e w' => e = .returned (.bool x.ok) ∧ Below W.heap.size W w') := Lib.hid (fun W hW => by
    obtain ⟨p0, p1, p2, p3, p4⟩ := hW.stas 0 x rfl
    simp only [Nat.zero_mul, Nat.zero_add] at p0 p1 p2 p3 p4
    exact (l05One_any w.heap.size 0 x.id x.ri x.de x.ma x.co W p0 (by simpa using p1) (by simpa using p2) (by simpa using p3) (by simpa using p4)).mono (fun e w' h => ⟨h.1, by obtain ⟨m, rfl⟩ := h.2; exact below_drewN0 (Below.refl _ _) m⟩))
  have F : Hid (∀ W, Stars W (some ⟨b, o, none⟩) l → Calls Tryz.prog 143 #[.slice (some ⟨b, o, none⟩) n c, .string x.id] W fun e w' => e = .returned (.int .i64 (findS x.id l 0)) ∧ W = w') := fun W hW => l05Find_same (some ⟨b, o, none⟩) n c l x.id W HL.out (by omega) hW
  have hb0 : Below w.heap.size w (w.alloc (.cells (staCells [x]).toArray 46)) := Below.alloc (Below.refl _ _) (Nat.le_refl _) _
  have hX0 : Blk (w.alloc (.cells (staCells [x]).toArray 46)) w.heap.size 46 (staCells [x]) := Blk.new _ _ _
  have hA0 := hA.below hb0
  have hwl : w.heap.size < (w.alloc (.cells (staCells [x]).toArray 46)).heap.size := hX0.lt
  cases hv : vStars l with
  | false =>
    have HO := Lib.hid (addO_no (x := x) hv)
    rw [hv] at V
    clear hv
    go_enter Tryz.func110, Tryz.ntmps110
    go_wp2_with (go_at_call 130; refine (V.out _ hA0).mono ?_; rintro e w1 ⟨rfl, hb1⟩; have hX1 := hX0.keep hb1)
    go_ret2
    exact ⟨.slice none 0 0, by rw [HO.out]; rfl, by rw [HO.out]; exact OwnS.nil _ _, below_step hb0 hb1⟩
  | true =>
    have h24 : n ≤ 24 := by have := vStars_len hv; have := HL.out; omega
    rw [hv] at V
    cases hx : x.ok with
    | false =>
      have HO := Lib.hid (addO_no2 (l := l) hx)
      rw [hx] at VX
      clear hv hx
      go_enter Tryz.func110, Tryz.ntmps110
      go_wp2_with (first | (go_at_call 130; refine (V.out _ hA0).mono ?_; rintro e w1 ⟨rfl, hb1⟩; have hX1 := hX0.keep hb1) | (go_at_call 142; refine (VX.out _ hX1).mono ?_; rintro e w2 ⟨rfl, hb2⟩; have hA2 := (hA0.below hb1).below hb2; have hX2 := hX1.keep hb2; obtain ⟨p0, p1, p2, p3, p4⟩ := hX2.stas 0 x rfl; simp only [Nat.zero_mul, Nat.zero_add] at p0 p1 p2 p3 p4))
      go_ret2
      exact ⟨.slice none 0 0, by rw [HO.out]; rfl, by rw [HO.out]; exact OwnS.nil _ _, below_step (below_step hb0 hb1) hb2⟩
    | true =>
      rw [hx] at VX
      have HV := Lib.hid hv
      have HOK := Lib.hid hx
      clear hv hx
      by_cases hf : 0 ≤ findS x.id l 0
      · have HO := Lib.hid (addO_has HV.out HOK.out hf)
        generalize findS x.id l 0 = fk at *
        go_enter Tryz.func110, Tryz.ntmps110
        go_wp2_with (first | (go_at_call 130; refine (V.out _ hA0).mono ?_; rintro e w1 ⟨rfl, hb1⟩; have hX1 := hX0.keep hb1) | (go_at_call 142; refine (VX.out _ hX1).mono ?_; rintro e w2 ⟨rfl, hb2⟩; have hA2 := (hA0.below hb1).below hb2; have hX2 := hX1.keep hb2; obtain ⟨p0, p1, p2, p3, p4⟩ := hX2.stas 0 x rfl; simp only [Nat.zero_mul, Nat.zero_add] at p0 p1 p2 p3 p4) | (go_at_call 143; refine (F.out _ hA2).mono ?_; rintro e w3 ⟨rfl, rfl⟩))
        go_ret2
        exact ⟨.slice none 0 0, by rw [HO.out]; rfl, by rw [HO.out]; exact OwnS.nil _ _, below_step (below_step hb0 hb1) hb2⟩
      · by_cases h24n : n = 24
        · have HO := Lib.hid (addO_full HV.out HOK.out hf (by rw [HL.out]; exact h24n))
          have hn24 : ((n : Int) == 24) = true := by simp; omega
          clear h24n
          generalize findS x.id l 0 = fk at *
          go_enter Tryz.func110, Tryz.ntmps110
          go_wp2_with (first | (go_at_call 130; refine (V.out _ hA0).mono ?_; rintro e w1 ⟨rfl, hb1⟩; have hX1 := hX0.keep hb1) | (go_at_call 142; refine (VX.out _ hX1).mono ?_; rintro e w2 ⟨rfl, hb2⟩; have hA2 := (hA0.below hb1).below hb2; have hX2 := hX1.keep hb2; obtain ⟨p0, p1, p2, p3, p4⟩ := hX2.stas 0 x rfl; simp only [Nat.zero_mul, Nat.zero_add] at p0 p1 p2 p3 p4) | (go_at_call 143; refine (F.out _ hA2).mono ?_; rintro e w3 ⟨rfl, rfl⟩))
          go_ret2
          exact ⟨.slice none 0 0, by rw [HO.out]; rfl, by rw [HO.out]; exact OwnS.nil _ _, below_step (below_step hb0 hb1) hb2⟩
        · have HO : Hid (∀ k, IsAt l x.id k → addO l x = (l.take k ++ ([x] ++ l.drop k), 0)) := Lib.hid (fun k hk => addO_yes HV.out HOK.out hf (by rw [HL.out]; exact h24n) hk)
          have hn24 : ¬ (n : Int) = 24 := by omega
          have hfx : ¬ 0 ≤ findS x.id l 0 := hf
          have HNO : Hid (∀ (j : Nat) (y : Sta), l[j]? = some y → isId x.id y = false) := Lib.hid (fun j y hy => by
            cases h : isId x.id y with
            | false => rfl
            | true => exact absurd (findS_has hy h) hf)
          clear hf h24n
          generalize findS x.id l 0 = fk at F hfx
          go_enter Tryz.func110, Tryz.ntmps110
          go_wp2_with (first | (go_at_call 130; refine (V.out _ hA0).mono ?_; rintro e w1 ⟨rfl, hb1⟩; have hX1 := hX0.keep hb1) | (go_at_call 142; refine (VX.out _ hX1).mono ?_; rintro e w2 ⟨rfl, hb2⟩; have hA2 := (hA0.below hb1).below hb2; have hX2 := hX1.keep hb2; obtain ⟨p0, p1, p2, p3, p4⟩ := hX2.stas 0 x rfl; simp only [Nat.zero_mul, Nat.zero_add] at p0 p1 p2 p3 p4) | (go_at_call 143; refine (F.out _ hA2).mono ?_; rintro e w3 ⟨rfl, rfl⟩))
          have hbb := below_step (below_step hb0 hb1) hb2
          clear hb0 hb1 hb2 hA0 hA2 hX0 hX1 p0 p1 p2 p3 p4 V VX F hfx hn24
          go_loopw [6] (fun i wr => ∃ k : Nat, k ≤ n ∧ i = .int .i64 k ∧ (∀ j y, k ≤ j → l[j]? = some y → ltS y.id x.id = false) ∧ Blk wr w.heap.size 46 (staCells [x]) ∧ Below w.heap.size w wr) (fun i _ => (intOf i).toNat)
          case atStart => exact ⟨n, by omega, rfl, fun j y hj hy => absurd (List.getElem?_eq_some_iff.1 hy).1 (by have := HL.out; omega), hX2, hbb⟩
          case round =>
            clear hX2 hbb
            obtain ⟨k, hk, rfl, hgt, hX, hb⟩ := hrel
            have HGT := Lib.hid hgt; clear hgt
            obtain ⟨q0, _, _, _, _⟩ := hX.stas 0 x rfl
            simp only [Nat.zero_mul, Nat.zero_add] at q0
            have hxl := hX.lt
            rcases k with _ | k
            · have HIS : Hid (IsAt l x.id 0) := Lib.hid ⟨by omega, fun j z hj _ => absurd hj (by omega), fun z hz => HGT.out 0 z (by omega) hz⟩
              simp only [Int.natCast_zero]
              go_wp2_with (fail)
              (refine later_intro_wp ?_; intro y)
              (refine wp_region_later (by kernel_rfl) (by kernel_rfl) ?_; (repeat (first | go_big_quiet_step ((fail)) | quiet_step ((fail)))); refine wpQuiet_nil ?_; rintro _ ⟨y, rfl⟩)
              have hb5 := below_later hb y
              have hX5 := hX.keep y.below
              clear hb hX hxl q0
              generalize y.w = W5 at *
              clear y
              have hE := OwnS.empty W5 (w.heap.size + 1) hX5.lt
              have hb6 : Below w.heap.size w (W5.alloc (.cells #[] 46)) := below_alloc hb5 _
              have hX6 := hX5.alloc (.cells #[] 46)
              have hs6 : w.heap.size + 1 ≤ (W5.alloc (.cells #[] 46)).heap.size := hX6.lt
              have hS6 : Stars (W5.alloc (.cells #[] 46)) (some ⟨b, o, none⟩) (l.take (0)) := (hA.below hb6).take (0)
              have HLT : Hid ((l.take (0)).length = 0) := Lib.hid (by rw [List.length_take, HL.out]; omega)
              have HLD : Hid ((l.drop (0)).length = n - (0)) := Lib.hid (by rw [List.length_drop, HL.out])
              have hl1 : ([] : List Sta).length + (0) ≤ 1099511627776 := by simp only [List.length_nil]; omega
              have HL2 : Hid (([] ++ l.take (0)).length + 1 ≤ 1099511627776) := Lib.hid (by rw [List.nil_append, HLT.out]; omega)
              have HL3 : Hid (([] ++ l.take (0) ++ [x]).length + (n - (0)) ≤ 1099511627776) := Lib.hid (by rw [List.nil_append, List.length_append, HLT.out, List.length_singleton]; omega)
              go_wp2_with (first
                | (at_builtin; refine wpList_app_stars rfl (.tmp 40) (.tmp 43) rfl (w.heap.size + 1) _ [] (l.take (0)) (some ⟨b, o, none⟩) 0 c rfl rfl hE HLT.out hS6 (fun h => by first | (cases h; done) | (split at h <;> cases h)) hl1 hs6 ?_; intro v7 w7 hO7 hg7; have hb7 := below_of_grown hb6 hg7 hb6.size (fun q hq => Nat.le_of_succ_le (hE.lt q hq).1); have hX7 := hX6.grown hg7 (fun q hq => Nat.ne_of_lt (hE.lt q hq).1); obtain ⟨g0, g1, g2, g3, g4⟩ := hX7.stas 0 x rfl; simp only [Nat.zero_mul, Nat.zero_add] at g0 g1 g2 g3 g4; have hl7 := hX7.lt; have hN7 : Blk (w7.alloc (.cells #[.string x.id, .int .i64 x.ri, .int .i64 x.de, .int .i64 x.ma, .int .i64 x.co] 46)) w7.heap.size 46 (staCells [x]) := Blk.new _ _ _; have hs7 : w.heap.size + 1 ≤ (w7.alloc (.cells #[.string x.id, .int .i64 x.ri, .int .i64 x.de, .int .i64 x.ma, .int .i64 x.co] 46)).heap.size := Nat.le_trans hX7.lt (Nat.le_of_lt hN7.lt))
                | (at_builtin; refine wpList_app_stars rfl (.tmp 45) (.tmp 47) rfl (w.heap.size + 1) v7 ([] ++ l.take (0)) [x] (some ⟨w7.heap.size, 0, none⟩) 1 1 rfl rfl (hO7.alloc _) rfl hN7.stars (fun h => by cases h) HL2.out hs7 ?_; intro v8 w8 hO8 hg8; have hb8 := below_of_grown (below_alloc hb7 _) hg8 (below_alloc hb7 _).size (fun q hq => Nat.le_of_succ_le (hO7.lt q hq).1); have hS8 : Stars w8 (some ⟨b, o, none⟩) (l.drop (0)) := (by rw [List.drop_zero]; exact hA.below hb8); have hs8 : w.heap.size + 1 ≤ w8.heap.size := Nat.le_trans hs7 hg8.size)
                | (at_builtin; refine wpList_app_stars rfl (.tmp 49) (.tmp 52) rfl (w.heap.size + 1) v8 ([] ++ l.take (0) ++ [x]) (l.drop (0)) (some ⟨b, o, none⟩) n c rfl rfl hO8 HLD.out hS8 (fun h => by first | (cases h; done) | (split at h <;> cases h)) HL3.out hs8 ?_; intro v9 w9 hO9 hg9))
              all_goals
                go_ret2
                refine ⟨v9, by rw [HO.out _ HIS.out]; rfl, ?_, below_of_grown hb8 hg9 hb8.size (fun q hq => Nat.le_of_succ_le (hO8.lt q hq).1)⟩
                rw [HO.out _ HIS.out]
                have hz := hO9.base_le (Nat.le_succ w.heap.size)
                simpa using hz
            · have hk1 : ((k + 1 : Nat) : Int) = (k : Int) + 1 := by omega
              obtain ⟨y, hy⟩ := at_lt (l := l) (k := k) (by have := HL.out; omega)
              obtain ⟨b', o', eA, hc⟩ := hA.below hb (by have := HL.out; omega)
              obtain ⟨rfl, rfl⟩ : b = b' ∧ o = o' := by injection eA with e; injection e with e1 e2; exact ⟨e1, e2⟩
              have hyl := (hc k y hy).lt
              obtain ⟨c0, _, _, _, _⟩ := hc k y hy
              clear hc eA
              rw [hk1]
              have hkp : (0 : Int) < (k : Int) + 1 := by omega
              have hkn : (k : Int) < n := by omega
              cases hs : Op.bytesLess y.id.toList x.id.toList with
              | true =>
                have HIS : Hid (IsAt l x.id (k + 1)) := Lib.hid ⟨by have := HL.out; omega, fun j z hj hz => by
                  by_cases e : j = k
                  · subst e; rw [hy] at hz; cases hz; exact hs
                  · exact ltS_trans (vStars_lt2 HV.out (by omega) hz hy) hs, fun z hz => HGT.out (k + 1) z (by omega) hz⟩
                clear hy
                go_wp2_with (fail)
                (refine later_intro_wp ?_; intro y)
                (refine wp_region_later (by kernel_rfl) (by kernel_rfl) ?_; (repeat (first | go_big_quiet_step ((fail)) | quiet_step ((fail)))); refine wpQuiet_nil ?_; rintro _ ⟨y, rfl⟩)
                have hb5 := below_later hb y
                have hX5 := hX.keep y.below
                clear hb hX hxl q0 c0 hyl hs
                generalize y.w = W5 at *
                clear y
                have hE := OwnS.empty W5 (w.heap.size + 1) hX5.lt
                have hb6 : Below w.heap.size w (W5.alloc (.cells #[] 46)) := below_alloc hb5 _
                have hX6 := hX5.alloc (.cells #[] 46)
                have hs6 : w.heap.size + 1 ≤ (W5.alloc (.cells #[] 46)).heap.size := hX6.lt
                have hS6 : Stars (W5.alloc (.cells #[] 46)) (some ⟨b, o, none⟩) (l.take (k + 1)) := (hA.below hb6).take (k + 1)
                have HLT : Hid ((l.take (k + 1)).length = k + 1) := Lib.hid (by rw [List.length_take, HL.out]; omega)
                have HLD : Hid ((l.drop (k + 1)).length = n - (k + 1)) := Lib.hid (by rw [List.length_drop, HL.out])
                have hl1 : ([] : List Sta).length + (k + 1) ≤ 1099511627776 := by simp only [List.length_nil]; omega
                have HL2 : Hid (([] ++ l.take (k + 1)).length + 1 ≤ 1099511627776) := Lib.hid (by rw [List.nil_append, HLT.out]; omega)
                have HL3 : Hid (([] ++ l.take (k + 1) ++ [x]).length + (n - (k + 1)) ≤ 1099511627776) := Lib.hid (by rw [List.nil_append, List.length_append, HLT.out, List.length_singleton]; omega)
                go_wp2_with (first
                  | (at_builtin; refine wpList_app_stars rfl (.tmp 40) (.tmp 43) rfl (w.heap.size + 1) _ [] (l.take (k + 1)) (some ⟨b, o, none⟩) (k + 1) c rfl rfl hE HLT.out hS6 (fun h => by first | (cases h; done) | (split at h <;> cases h)) hl1 hs6 ?_; intro v7 w7 hO7 hg7; have hb7 := below_of_grown hb6 hg7 hb6.size (fun q hq => Nat.le_of_succ_le (hE.lt q hq).1); have hX7 := hX6.grown hg7 (fun q hq => Nat.ne_of_lt (hE.lt q hq).1); obtain ⟨g0, g1, g2, g3, g4⟩ := hX7.stas 0 x rfl; simp only [Nat.zero_mul, Nat.zero_add] at g0 g1 g2 g3 g4; have hl7 := hX7.lt; have hN7 : Blk (w7.alloc (.cells #[.string x.id, .int .i64 x.ri, .int .i64 x.de, .int .i64 x.ma, .int .i64 x.co] 46)) w7.heap.size 46 (staCells [x]) := Blk.new _ _ _; have hs7 : w.heap.size + 1 ≤ (w7.alloc (.cells #[.string x.id, .int .i64 x.ri, .int .i64 x.de, .int .i64 x.ma, .int .i64 x.co] 46)).heap.size := Nat.le_trans hX7.lt (Nat.le_of_lt hN7.lt))
                  | (at_builtin; refine wpList_app_stars rfl (.tmp 45) (.tmp 47) rfl (w.heap.size + 1) v7 ([] ++ l.take (k + 1)) [x] (some ⟨w7.heap.size, 0, none⟩) 1 1 rfl rfl (hO7.alloc _) rfl hN7.stars (fun h => by cases h) HL2.out hs7 ?_; intro v8 w8 hO8 hg8; have hb8 := below_of_grown (below_alloc hb7 _) hg8 (below_alloc hb7 _).size (fun q hq => Nat.le_of_succ_le (hO7.lt q hq).1); have hS8 : Stars w8 (if c = k + 1 then some ⟨b, o, none⟩ else some ⟨b, o + (k + 1) * 5, none⟩) (l.drop (k + 1)) := (hA.below hb8).drop (c := c) (k + 1) (by rw [HL.out]; exact hc1); have hs8 : w.heap.size + 1 ≤ w8.heap.size := Nat.le_trans hs7 hg8.size)
                  | (at_builtin; refine wpList_app_stars rfl (.tmp 49) (.tmp 52) rfl (w.heap.size + 1) v8 ([] ++ l.take (k + 1) ++ [x]) (l.drop (k + 1)) (if c = k + 1 then some ⟨b, o, none⟩ else some ⟨b, o + (k + 1) * 5, none⟩) (n - (k + 1)) (c - (k + 1)) rfl rfl hO8 HLD.out hS8 (fun h => by first | (cases h; done) | (split at h <;> cases h)) HL3.out hs8 ?_; intro v9 w9 hO9 hg9))
                all_goals
                  go_ret2
                  refine ⟨v9, by rw [HO.out _ HIS.out]; rfl, ?_, below_of_grown hb8 hg9 hb8.size (fun q hq => Nat.le_of_succ_le (hO8.lt q hq).1)⟩
                  rw [HO.out _ HIS.out]
                  have hz := hO9.base_le (Nat.le_succ w.heap.size)
                  simpa using hz
              | false =>
                have he : (y.id.toList == x.id.toList) = false := HNO.out k y hy
                have HGT2 : Hid (∀ j z, k ≤ j → l[j]? = some z → ltS z.id x.id = false) := Lib.hid (fun j z hj hz => by
                  by_cases e : j = k
                  · subst e; rw [hy] at hz; cases hz; exact hs
                  · exact HGT.out j z (by omega) hz)
                clear hy
                go_wp2_with (fail)
                (refine later_intro_wp ?_; intro y)
                (refine wp_region_later (by kernel_rfl) (by kernel_rfl) ?_; (repeat (first | go_big_quiet_step ((fail)) | quiet_step ((fail)))); refine wpQuiet_nil ?_; rintro _ ⟨y, rfl⟩)
                go_wp2_with (fail)
                go_roundw
                case rel => exact ⟨k, by omega, by go_num, HGT2.out, hX.keep (Later.below _), below_later hb _⟩
                case measure => simp [intOf]

theorem sAddStar_any (A : Option Addr) (n c : Nat) (l : List Sta) (x : Sta) (w : World) (hl : l.length = n) (hn : n ≤ 9223372036854775807) (hc1 : n ≤ c) (hc2 : c ≤ 9223372036854775807) (h0 : A = none → c = 0 ∧ n = 0) (hf : A = none ∨ ∃ b o, A = some ⟨b, o, none⟩) (hA : Stars w A l) :
    Calls Tryz.prog 110 #[.slice A n c, .agg #[.string x.id, .int .i64 x.ri, .int .i64 x.de, .int .i64 x.ma, .int .i64 x.co]] w fun e w' => ∃ v : Value, e = .returned (.tuple #[v, .int .i64 (addO l x).2]) ∧ OwnS w' w.heap.size v (addO l x).1 ∧ Below w.heap.size w w' := by
  rcases hf with rfl | ⟨b, o, rfl⟩
  · exact sAddStar_none l x w n c (h0 rfl).2 (h0 rfl).1 hl hA
  · exact sAddStar_some b o n c l x w hl hn hc1 hc2 hA
/-- the five cells of a star -/
theorem held_star {W W' : World} {g : Nat} {x : Sta} (h : W.cell? ⟨g, 0, none⟩ = some (.string x.id) ∧ W.cell? ⟨g, 1, none⟩ = some (.int .i64 x.ri) ∧ W.cell? ⟨g, 2, none⟩ = some (.int .i64 x.de) ∧ W.cell? ⟨g, 3, none⟩ = some (.int .i64 x.ma) ∧ W.cell? ⟨g, 4, none⟩ = some (.int .i64 x.co)) (hb : Below W.heap.size W W') :
    W'.cell? ⟨g, 0, none⟩ = some (.string x.id) ∧ W'.cell? ⟨g, 1, none⟩ = some (.int .i64 x.ri) ∧ W'.cell? ⟨g, 2, none⟩ = some (.int .i64 x.de) ∧ W'.cell? ⟨g, 3, none⟩ = some (.int .i64 x.ma) ∧ W'.cell? ⟨g, 4, none⟩ = some (.int .i64 x.co) := by
  obtain ⟨h0, h1, h2, h3, h4⟩ := h
  have hl : g < W.heap.size := World.block_lt_of_cell? W ⟨g, 0, none⟩ h0
  exact ⟨by rw [hb.cell hl]; exact h0, by rw [hb.cell hl]; exact h1, by rw [hb.cell hl]; exact h2, by rw [hb.cell hl]; exact h3, by rw [hb.cell hl]; exact h4⟩
theorem Blk.star {w : World} {g : Nat} {t : TypeId} {x : Sta} (h : Blk w g t (staCells [x])) : w.cell? ⟨g, 0, none⟩ = some (.string x.id) ∧ w.cell? ⟨g, 1, none⟩ = some (.int .i64 x.ri) ∧ w.cell? ⟨g, 2, none⟩ = some (.int .i64 x.de) ∧ w.cell? ⟨g, 3, none⟩ = some (.int .i64 x.ma) ∧ w.cell? ⟨g, 4, none⟩ = some (.int .i64 x.co) := by
  have := h.stas 0 x rfl
  simpa [StaAt] using this
end Go.Proofs.YtpnfhienffekoaaGreatDoor
