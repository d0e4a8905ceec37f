/- Contracts of the functions on the tour by the nearest stars. -/
import Derived.Test.YtbpjnopnhmoigaaDoorTour
import Derived.Test.YtbpjnopnhmoigaaDoorHas
namespace Go.Proofs.YtbpjnopnhmoigaaDoor
set_option linter.unusedVariables false
set_option linter.unusedSimpArgs false
open Go.RowKit
attribute [local go_sem ↓] Go.wp_at_zero Go.wp_at_succ
/-- the nearest one of the first k stars that is not yet in the tour, and how far it is -/
def bstUpto (l : List Sta) (ys : List Int) (z : Sta) : Nat → Int × Int
  | 0 => (-1, 0)
  | k + 1 => match l[k]? with
    | some x => if hasI ys (k : Int) = true then bstUpto l ys z k else if (bstUpto l ys z k).1 < 0 ∨ farI z x < (bstUpto l ys z k).2 then ((k : Int), farI z x) else bstUpto l ys z k
    | none => bstUpto l ys z k
section
variable {l : List Sta} {ys : List Int} {z x : Sta} {k : Nat}
theorem bst_has (h : l[k]? = some x) (h2 : hasI ys (k : Int) = true) : bstUpto l ys z (k + 1) = bstUpto l ys z k := by rw [bstUpto]; simp only [h, if_pos h2]
theorem bst_new (h : l[k]? = some x) (h2 : hasI ys (k : Int) = false) (h3 : (bstUpto l ys z k).1 < 0 ∨ farI z x < (bstUpto l ys z k).2) : bstUpto l ys z (k + 1) = ((k : Int), farI z x) := by
  rw [bstUpto]; simp only [h, h2, if_pos h3]; rfl
theorem bst_old (h : l[k]? = some x) (h2 : hasI ys (k : Int) = false) (h3 : ¬ ((bstUpto l ys z k).1 < 0 ∨ farI z x < (bstUpto l ys z k).2)) : bstUpto l ys z (k + 1) = bstUpto l ys z k := by
  rw [bstUpto]; simp only [h, h2, if_neg h3]; rfl
theorem bst_lt (l : List Sta) (ys : List Int) (z : Sta) (k : Nat) : -1 ≤ (bstUpto l ys z k).1 ∧ (bstUpto l ys z k).1 < k := by
  induction k with
  | zero => simp [bstUpto]
  | succ k ih =>
    rw [bstUpto]
    split
    · split
      · omega
      · split
        · simp; omega
        · omega
    · omega
theorem bst_found (l : List Sta) (ys : List Int) (z : Sta) (k j : Nat) (hk : k ≤ l.length) (hj : j < k) (h : hasI ys (j : Int) = false) : 0 ≤ (bstUpto l ys z k).1 := by
  induction k with
  | zero => omega
  | succ k ih =>
    obtain ⟨x, hx⟩ := at_lt (l := l) (k := k) (by omega)
    by_cases h2 : hasI ys (k : Int) = true
    · rw [bst_has hx h2]
      have : j ≠ k := by rintro rfl; rw [h] at h2; cases h2
      exact ih (by omega) (by omega)
    · have h2' : hasI ys (k : Int) = false := by simpa using h2
      by_cases h3 : (bstUpto l ys z k).1 < 0 ∨ farI z x < (bstUpto l ys z k).2
      · rw [bst_new hx h2' h3]; simp
      · rw [bst_old hx h2' h3]; omega
end
theorem all_in : ∀ (n : Nat) (ys : List Int), (∀ j : Nat, j < n → (j : Int) ∈ ys) → n ≤ ys.length
  | 0, _, _ => Nat.zero_le _
  | n + 1, ys, h => by
    have h1 := h n (by omega)
    have h2 := all_in n (ys.erase (n : Int)) (fun j hj => (List.mem_erase_of_ne (by omega)).2 (h j (by omega)))
    rw [List.length_erase_of_mem h1] at h2
    have : 0 < ys.length := List.length_pos_of_mem h1
    omega
theorem some_free {n : Nat} {ys : List Int} (h : ys.length < n) : ∃ j : Nat, j < n ∧ hasI ys (j : Int) = false := by
  by_cases hc : ∃ j : Nat, j < n ∧ hasI ys (j : Int) = false
  · exact hc
  · exfalso
    have := all_in n ys (fun j hj => by
      by_cases h2 : hasI ys (j : Int) = true
      · simpa [hasI] using h2
      · exact absurd ⟨j, hj, by simpa using h2⟩ hc)
    omega
/-- the tour after some steps -/
def ntL (l : List Sta) (s : Int) : Nat → List Int
  | 0 => [s]
  | m + 1 => ntL l s m ++ [match l[((ntL l s m)[m]?.getD 0).toNat]? with
    | some z => (bstUpto l (ntL l s m) z l.length).1
    | none => -1]
theorem ntL_len (l : List Sta) (s : Int) (m : Nat) : (ntL l s m).length = m + 1 := by
  induction m with
  | zero => rfl
  | succ m ih => rw [ntL, List.length_append, ih]; rfl
theorem ntL_succ {l : List Sta} {s : Int} {m j : Nat} {z : Sta} (h : (ntL l s m)[m]? = some (j : Int)) (hz : l[j]? = some z) : ntL l s (m + 1) = ntL l s m ++ [(bstUpto l (ntL l s m) z l.length).1] := by
  rw [ntL, h]; simp [hz]
theorem ntL_in {l : List Sta} {s : Int} {m : Nat} (h0 : 0 ≤ s ∧ s < l.length) (hm : m < l.length) : ∀ (k : Nat) i, (ntL l s m)[k]? = some i → 0 ≤ i ∧ i < l.length := by
  induction m with
  | zero =>
    intro k i hi
    cases k with
    | zero => simp only [ntL, List.getElem?_cons_zero, Option.some.injEq] at hi; subst hi; exact h0
    | succ k => simp [ntL] at hi
  | succ m ih =>
    intro k i hi
    have ih := ih (by omega)
    obtain ⟨e, he⟩ := at_lt (l := ntL l s m) (k := m) (by rw [ntL_len]; omega)
    have hb := ih m e he
    obtain ⟨j, rfl⟩ : ∃ j : Nat, e = j := ⟨e.toNat, by omega⟩
    obtain ⟨z, hz⟩ := at_lt (l := l) (k := j) (by omega)
    rw [ntL_succ he hz] at hi
    by_cases hk : k < m + 1
    · rw [List.getElem?_append_left (by rw [ntL_len]; exact hk)] at hi; exact ih k i hi
    · rw [List.getElem?_append_right (by rw [ntL_len]; omega), ntL_len] at hi
      have : k - (m + 1) = 0 := by
        by_cases h : k - (m + 1) = 0
        · exact h
        · rw [List.getElem?_eq_none (by simp; omega)] at hi; cases hi
      rw [this] at hi
      simp only [List.getElem?_cons_zero, Option.some.injEq] at hi
      subst hi
      obtain ⟨q, hq, hq2⟩ := some_free (n := l.length) (ys := ntL l s m) (by rw [ntL_len]; omega)
      exact ⟨bst_found l _ z l.length q (Nat.le_refl _) hq hq2, (bst_lt l _ z l.length).2⟩
/-- what NearestTour answers -/
def ntO (l : List Sta) (s : Int) : List Int × Int × Int := if vStars l then (if inB s 0 ((l.length : Int) - 1) then (ntL l s (l.length - 1), tourSum l (ntL l s (l.length - 1)) (l.length - 1), 0) else ([], 0, 2)) else ([], 0, 1)
theorem ntO_no {l : List Sta} {s : Int} (h : vStars l = false) : ntO l s = ([], 0, 1) := by simp [ntO, h]
theorem ntO_bad {l : List Sta} {s : Int} (h : vStars l = true) (h2 : inB s 0 ((l.length : Int) - 1) = false) : ntO l s = ([], 0, 2) := by simp [ntO, h, h2]
theorem ntO_yes {l : List Sta} {s : Int} (h : vStars l = true) (h2 : inB s 0 ((l.length : Int) - 1) = true) : ntO l s = (ntL l s (l.length - 1), tourSum l (ntL l s (l.length - 1)) (l.length - 1), 0) := by simp [ntO, h, h2]
theorem ntO_len (l : List Sta) (s : Int) : (ntO l s).1.length ≤ 24 := by
  cases hv : vStars l with
  | false => rw [ntO_no hv]; simp
  | true =>
    have h24 := vStars_len hv
    cases hr : inB s 0 ((l.length : Int) - 1) with
    | false => rw [ntO_bad hv hr]; simp
    | true =>
      rw [inB_iff] at hr
      rw [ntO_yes hv ((inB_iff _ _ _).2 hr)]
      show (ntL l s (l.length - 1)).length ≤ 24
      rw [ntL_len]; omega
def sliceLen : Value → Nat
  | .slice _ n _ => n
  | _ => 0
theorem OwnI.ints {w : World} {base n c : Nat} {A : Option Addr} {l : List Int} (h : OwnI w base (.slice A n c) l) (hn : l.length = n) : Ints w A l := by
  subst hn; exact Ints.of_own (base := base) (c := c) h
theorem OwnI.one (w : World) (base : Nat) (s : Int) (h : base ≤ w.heap.size) : OwnI (w.alloc (.cells #[.int .i64 s] 2)) base (.slice (some ⟨w.heap.size, 0, none⟩) 1 1) [s] :=
  OwnI.of_blk (l := [s]) (cs := [.int .i64 s]) h (Blk.new w 2 [.int .i64 s]) (Nat.le_refl _) (by simp [maxLen]) rfl rfl
set_option maxRecDepth 100000 in
set_option maxHeartbeats 8000000 in
theorem NearestTour_any (A : Option Addr) (n c : Nat) (l : List Sta) (s : Int) (w : World) (hS : SinOk w) (hl : l.length = n) (hn : n ≤ 9223372036854775807) (hA : Stars w A l) :
    Calls Tryd.prog 38 #[.slice A n c, .int .i64 s] w fun e w' => ∃ v : Value, e = .returned (.tuple #[v, .int .i64 (ntO l s).2.1, .int .i64 (ntO l s).2.2]) ∧ OwnI w' w.heap.size v (ntO l s).1 ∧ Below w.heap.size w w' := by
  have HL := Lib.hid hl; clear hl
  have V : Hid (∀ W (A : Option Addr), Stars W A l → Calls Tryd.prog 58 #[.slice A n c] W fun e w' => e = .returned (.bool (vStars l)) ∧ Below W.heap.size W w') := fun W A hW => ValidStars_any A n c l W HL.out hn hW
  cases hv : vStars l with
  | false =>
    have HO := Lib.hid (ntO_no (s := s) hv)
    rw [hv] at V
    clear hv
    go_enter Tryd.func38, Tryd.ntmps38
    go_wp2_with (refine (V.out _ _ hA).mono ?_; rintro e w1 ⟨rfl, hb1⟩)
    go_ret3
    exact ⟨.slice none 0 0, by rw [HO.out]; rfl, by rw [HO.out]; exact OwnI.nil _ _, hb1⟩
  | true =>
    have h24 : n ≤ 24 := by have := vStars_len hv; have := HL.out; omega
    rw [hv] at V
    have R : Hid (∀ W, Calls Tryd.prog 59 #[.int .i64 s, .int .i64 0, .int .i64 ((n : Int) - 1)] W fun e w' => e = .returned (.bool (inB s 0 ((n : Int) - 1))) ∧ W = w') := fun W => within_any _ _ _ _
    cases hr : inB s 0 ((n : Int) - 1) with
    | false =>
      have HO := Lib.hid (ntO_bad hv (by rw [HL.out]; exact hr))
      rw [hr] at R
      clear hv hr
      go_enter Tryd.func38, Tryd.ntmps38
      go_wp2_with (first | (refine (V.out _ _ hA).mono ?_; rintro e w1 ⟨rfl, hb1⟩) | (go_at_call 59; refine (R.out _).mono ?_; rintro e w' ⟨rfl, rfl⟩))
      go_ret3
      exact ⟨.slice none 0 0, by rw [HO.out]; rfl, by rw [HO.out]; exact OwnI.nil _ _, hb1⟩
    | true =>
      have HO := Lib.hid (ntO_yes hv (by rw [HL.out]; exact hr))
      rw [hr] at R
      have hs : 0 ≤ s ∧ s < n := by rw [inB_iff] at hr; omega
      have HV := Lib.hid hv
      have HIN : Hid (∀ (m : Nat), m < n → ∀ (k : Nat) i, (ntL l s m)[k]? = some i → 0 ≤ i ∧ i < n) := Lib.hid (fun m hm => by have := ntL_in (l := l) (s := s) (m := m) (by rw [HL.out]; exact hs) (by rw [HL.out]; exact hm); rw [HL.out] at this; exact this)
      clear hv hr
      go_enter Tryd.func38, Tryd.ntmps38
      go_wp2_with (first | (refine (V.out _ _ hA).mono ?_; rintro e w1 ⟨rfl, hb1⟩) | (go_at_call 59; refine (R.out _).mono ?_; rintro e w' ⟨rfl, rfl⟩))
      go_loopw [7] (fun f wr => ∃ (m c2 : Nat) (A2 : Option Addr), m < n ∧ f = .slice A2 (m + 1) c2 ∧ OwnI wr w.heap.size f (ntL l s m) ∧ Below w.heap.size w wr) (fun f _ => n - sliceLen f)
      case atStart => exact ⟨0, 1, some ⟨w1.heap.size, 0, none⟩, by omega, rfl, OwnI.one _ _ _ hb1.size, below_alloc hb1 _⟩
      case round =>
        obtain ⟨m, c2, A2, hm, rfl, hO, hb⟩ := hrel
        have HLEN := Lib.hid (ntL_len l s m)
        by_cases hlt : m + 1 < n
        · obtain ⟨e0, he0⟩ := at_lt (l := ntL l s m) (k := m) (by rw [HLEN.out]; omega)
          have hin := HIN.out m hm m e0 he0
          obtain ⟨j, rfl⟩ : ∃ j : Nat, e0 = j := ⟨e0.toNat, by omega⟩
          obtain ⟨z, hz⟩ := at_lt (l := l) (k := j) (by have := HL.out; omega)
          have HSUCC := Lib.hid (ntL_succ he0 hz)
          have HFREE := Lib.hid (some_free (n := n) (ys := ntL l s m) (by rw [HLEN.out]; exact hlt))
          have hI := hO.ints HLEN.out
          have az := ok_ang (vStars_ok HV.out hz)
          have HZ := Lib.hid hz; clear hz
          have hltI : ((m : Int) + 1) < n := by omega
          go_wp2_with (fail)
          go_loopw [8, 9, 30] (fun b t i wi => ∃ (k : Nat) (z1 z2 : Int), k ≤ n ∧ i = .int .i64 k ∧ b = .int .i64 z1 ∧ t = .int .i64 z2 ∧ bstUpto l (ntL l s m) z k = (z1, z2) ∧ Below wr.heap.size wr wi) (fun _ _ i _ => n - (intOf i).toNat)
          case atStart => exact ⟨0, -1, 0, by omega, rfl, rfl, rfl, rfl, Below.refl _ _⟩
          case round =>
            obtain ⟨k, z1, z2, hk, rfl, rfl, rfl, hB, hbi⟩ := hrel
            have HB := Lib.hid hB; clear hB
            by_cases hki : k < n
            · obtain ⟨x, hx⟩ := at_lt (l := l) (k := k) (by have := HL.out; omega)
              have ax := ok_ang (vStars_ok HV.out hx)
              have hIi := hI.below hbi
              have hAi := hA.below (below_trans0 hb hbi)
              have CC : Hid (∀ W, Ints W A2 (ntL l s m) → Calls Tryd.prog 96 #[.slice A2 (m + 1) c2, .int .i64 (k : Int)] W fun e w' => e = .returned (.bool (hasI (ntL l s m) (k : Int))) ∧ W = w') := fun W hW => containsI_same A2 (m + 1) c2 (ntL l s m) k W HLEN.out (by omega) hW
              cases hh : hasI (ntL l s m) (k : Int) with
              | true =>
                have HY : Hid (bstUpto l (ntL l s m) z (k + 1) = (z1, z2)) := Lib.hid ((bst_has hx hh).trans HB.out)
                rw [hh] at CC
                clear hx hh
                go_wp2_with (refine (CC.out _ hIi).mono ?_; rintro e w4 ⟨rfl, rfl⟩)
                go_roundw
                case rel => exact ⟨k + 1, z1, z2, by omega, by go_num, rfl, rfl, HY.out, hbi⟩
                case measure => simp [intOf]; omega
              | false =>
                have CG : Hid (∀ W, SinOk W → Stars W A l → Calls Tryd.prog 67 #[.slice A n c, .int .i64 (j : Int), .int .i64 (k : Int)] W fun e w' => e = .returned (.int .i64 (farI z x)) ∧ Below W.heap.size W w') := fun W h1 h2 => starGap_any A n c l j k z x W h1 HL.out hn h2 HZ.out hx az ax
                rw [hh] at CC
                obtain ⟨b2, o2, rfl, hc2⟩ := hIi (by rw [HLEN.out]; omega)
                have q0 := hc2 m _ he0
                have hSi := hS.of_below (below_trans0 hb hbi)
                by_cases h1 : z1 < 0
                · have HY : Hid (bstUpto l (ntL l s m) z (k + 1) = ((k : Int), farI z x)) := Lib.hid (bst_new hx hh (by rw [HB.out]; exact .inl h1))
                  clear hx hh hc2
                  generalize farI z x = g at *
                  go_wp2_with (first | (go_at_call 96; refine (CC.out _ hIi).mono ?_; rintro e w' ⟨rfl, rfl⟩) | (refine (CG.out _ hSi hAi).mono ?_; rintro e w4 ⟨rfl, hb4⟩))
                  go_roundw
                  case rel => exact ⟨k + 1, _, _, by omega, by go_num, rfl, rfl, HY.out, below_trans0 hbi hb4⟩
                  case measure => simp [intOf]; omega
                · by_cases h2 : farI z x < z2
                  · have HY : Hid (bstUpto l (ntL l s m) z (k + 1) = ((k : Int), farI z x)) := Lib.hid (bst_new hx hh (by rw [HB.out]; exact .inr h2))
                    clear hx hh hc2
                    generalize farI z x = g at *
                    go_wp2_with (first | (go_at_call 96; refine (CC.out _ hIi).mono ?_; rintro e w' ⟨rfl, rfl⟩) | (refine (CG.out _ hSi hAi).mono ?_; rintro e w4 ⟨rfl, hb4⟩))
                    go_roundw
                    case rel => exact ⟨k + 1, _, _, by omega, by go_num, rfl, rfl, HY.out, below_trans0 hbi hb4⟩
                    case measure => simp [intOf]; omega
                  · have HY : Hid (bstUpto l (ntL l s m) z (k + 1) = (z1, z2)) := Lib.hid ((bst_old hx hh (by rw [HB.out]; rintro (h | h); exact h1 h; exact h2 h)).trans HB.out)
                    clear hx hh hc2
                    generalize farI z x = g at *
                    go_wp2_with (first | (go_at_call 96; refine (CC.out _ hIi).mono ?_; rintro e w' ⟨rfl, rfl⟩) | (refine (CG.out _ hSi hAi).mono ?_; rintro e w4 ⟨rfl, hb4⟩))
                    go_roundw
                    case rel => exact ⟨k + 1, z1, z2, by omega, by go_num, rfl, rfl, HY.out, below_trans0 hbi hb4⟩
                    case measure => simp [intOf]; omega
            · obtain rfl : k = n := by omega
              have hOi := hO.below hbi
              have hbb := below_trans0 hb hbi
              have HS2 : Hid (ntL l s (m + 1) = ntL l s m ++ [z1]) := Lib.hid (by rw [HSUCC.out, HL.out, HB.out])
              have hl0 : (ntL l s m).length ≤ 1099511627776 := by rw [HLEN.out]; omega
              go_wp2_with (at_builtin; refine wpList_app_int rfl _ _ rfl w.heap.size _ _ z1 wr.heap.size 1 rfl rfl (hOi.alloc _) (by simp) hl0 (Nat.le_trans hbb.size (by simp)) ?_; intro v' w6 hO6 hg6)
              have hb6 : Below w.heap.size w w6 := below_of_grown (below_alloc hbb _) hg6 (Nat.le_trans hbb.size (by simp)) (fun q hq => (hOi.lt q hq).1)
              rw [← HS2.out] at hO6
              obtain ⟨A3, c3, rfl, hi3⟩ := hO6.form
              rw [ntL_len] at hO6 ⊢
              go_wp2_with (fail)
              go_roundw
              case rel => exact ⟨m + 1, c3, A3, by omega, rfl, hO6, hb6⟩
              case measure => simp [sliceLen]; omega
        · obtain rfl : n = m + 1 := by omega
          have hI := hO.ints HLEN.out
          have HOK : Hid (∀ x ∈ l, x.ok = true) := Lib.hid (fun x hx => vStars_mem HV.out hx)
          have hSi := hS.of_below hb
          have hAi := hA.below hb
          have HIN2 := Lib.hid (HIN.out m hm)
          have hn1 : ¬ ((m : Int) + 1) < ((m : Int) + 1) := by omega
          go_wp2_with (refine (tourLength_any A A2 (m + 1) c (m + 1) c2 l (ntL l s m) _ hSi HL.out HLEN.out h24 (by omega) hAi hI HOK.out HIN2.out).mono ?_; rintro e w4 ⟨rfl, hb4⟩)
          go_ret3
          rw [HL.out] at HO
          refine ⟨_, ?_, by rw [HO.out]; exact hO.below hb4, below_step hb hb4⟩
          rw [HO.out]; rfl
end Go.Proofs.YtbpjnopnhmoigaaDoor
