/- Contracts of the reference's functions that put the brightest stars first. -/
import Derived.Test.YtoklogldehikeaaBright
namespace Go.Proofs.Ytoklogldehikeaa
set_option linter.unusedVariables false
set_option linter.unusedSimpArgs false
open Go.RowKit
theorem sortUp_length (ky : Int → Int) (k : Nat) : (sortL ky (upFrom 0 k)).length = k := by rw [(sortL_all ky _ (upFrom_rise 0 k)).1, upFrom_length]
theorem sortUp_srt (ky : Int → Int) (k : Nat) : Srt ky (sortL ky (upFrom 0 k)) 0 k := by
  have := (sortL_all ky _ (upFrom_rise 0 k)).2.2
  rwa [sortUp_length] at this
theorem sortUp_bd (ky : Int → Int) {k j : Nat} (h : j < k) : ∃ e : Nat, e < k ∧ gt (sortL ky (upFrom 0 k)) j = (e : Int) := by
  have hm : gt (sortL ky (upFrom 0 k)) j ∈ upFrom 0 k := ((sortL_all ky _ (upFrom_rise 0 k)).2.1 _).1 (List.mem_of_getElem? (at_gt (by rw [sortUp_length]; exact h)))
  obtain ⟨i, hi, e⟩ := List.getElem_of_mem hm
  rw [upFrom_length] at hi
  have h2 := upFrom_at 0 k i hi
  rw [List.getElem?_eq_getElem (by rw [upFrom_length]; exact hi), e] at h2
  injection h2 with h2
  exact ⟨i, hi, by omega⟩
theorem sortUp_succ (ky : Int → Int) (k : Nat) : sortL ky (upFrom 0 (k + 1)) = insK ky (k : Int) (sortL ky (upFrom 0 k)) := by
  rw [upFrom, sortL_snoc]; congr 1; omega
/-- what l05Sorted leaves -/
def SortedPost (l : List Sta) (w : World) (e : Ending) (w' : World) : Prop := ∃ v : Value, e = .returned v ∧ OwnI w' w.heap.size v (sortL (magK l) (upFrom 0 l.length)) ∧ Below w.heap.size w w'
set_option maxRecDepth 100000 in
set_option maxHeartbeats 4000000 in
theorem l05Sorted_any (A : Option Addr) (n c : Nat) (l : List Sta) (w : World) (hl : l.length = n) (hn : n ≤ 24) (hA : Stars w A l) :
    Calls Try.prog 60 #[.slice A n c] w (SortedPost l w) := by
  have HL := Lib.hid hl; clear hl
  have hE := OwnI.empty w w.heap.size (Nat.le_refl _)
  have hb0 : Below w.heap.size w (w.alloc (.cells #[] 2)) := below_alloc (Below.refl _ _) _
  go_enter Try.func60, Try.ntmps60
  go_wp2_with (fail)
  go_loopw [3, 4, 5, 6] (fun s3 s4 _ _ wr => ∃ (k gv cv : Nat), k ≤ n ∧ s3 = .slice (some ⟨gv, 0, none⟩) k cv ∧ s4 = .int .i64 (k : Int) ∧ k ≤ cv ∧ cv ≤ 9223372036854775807 ∧ OwnI wr w.heap.size (.slice (some ⟨gv, 0, none⟩) k cv) (sortL (magK l) (upFrom 0 k)) ∧ Below w.heap.size w wr) (fun _ s4 _ _ _ => n - (intOf s4).toNat)
  case atStart => exact ⟨0, w.heap.size, 0, by omega, rfl, rfl, by omega, by omega, hE, hb0⟩
  case round =>
    clear hE hb0
    obtain ⟨k, gv, cv, hk, rfl, rfl, hkc, hcv, hO, hb⟩ := hrel
    by_cases hlt : k < n
    · obtain ⟨x, hx⟩ := at_lt (l := l) (k := k) (by have := HL.out; omega)
      have HX := Lib.hid (magK_at hx)
      have HXX := Lib.hid hx
      clear hx
      go_wp2_with (fail)
      have hr0 : Below wr.heap.size wr wr := Below.refl _ _
      obtain ⟨wo, rfl⟩ : ∃ wo : World, wo = wr := ⟨_, rfl⟩
      go_loopw [5] (fun s5 wq => ∃ p : Nat, p ≤ k ∧ s5 = .int .i64 (p : Int) ∧ (∀ j, p ≤ j → j < k → magK l (k : Int) < magK l (gt (sortL (magK l) (upFrom 0 k)) j)) ∧ Below wo.heap.size wo wq) (fun s5 _ => (intOf s5).toNat)
      case atStart => exact ⟨k, by omega, rfl, fun j h1 h2 => by omega, hr0⟩
      case round =>
        clear hr0
        obtain ⟨p, hp, rfl, hgt, hq⟩ := hrel
        have HGT := Lib.hid hgt; clear hgt
        have hbq := below_step hb hq
        have hO2 := hO.below hq
        obtain ⟨A2, c2, eA, hI, _, _, _, _⟩ := hO2.form2
        rw [sortUp_length] at eA
        obtain ⟨rfl, rfl⟩ : some ⟨gv, 0, none⟩ = A2 ∧ cv = c2 := by injection eA with e1 _ e3; exact ⟨e1, e3⟩
        clear eA
        obtain ⟨b, o, rfl, hc⟩ := hA.below hbq (by have := HL.out; omega)
        obtain ⟨_, _, _, c3, _⟩ := hc k x HXX.out
        have l0 := (hc k x HXX.out).lt
        have hkn : (k : Int) < (n : Int) := by omega
        have hexit : (p = 0 ∨ magK l (gt (sortL (magK l) (upFrom 0 k)) (p - 1)) ≤ magK l (k : Int)) → Hid (p = posK (magK l) (k : Int) (sortL (magK l) (upFrom 0 k))) := fun h => Lib.hid (posK_uniq (by rw [sortUp_length]; exact sortUp_srt _ _) (by rw [sortUp_length]; exact hp) (by rw [sortUp_length]; exact HGT.out) h)
        rcases p with _ | p
        · have HP := hexit (.inl rfl)
          clear hexit hc c3 l0
          simp only [Int.natCast_zero]
          go_wp2_with (fail)
          (refine later_intro_wp ?_; intro y)
          (refine wp_region_later (by kernel_rfl) (by kernel_rfl) ?_; (repeat (first | go_big_quiet_step ((fail)) | quiet_step ((fail)))); refine wpQuiet_nil ?_; rintro _ ⟨y, rfl⟩)
          have hb5 := below_later hbq y
          have hI5 := hI.later y
          have HLEN : Hid ((sortL (magK l) (upFrom 0 k)).length = k) := Lib.hid (sortUp_length _ _)
          have HSUC : Hid (sortL (magK l) (upFrom 0 (k + 1)) = insK (magK l) (k : Int) (sortL (magK l) (upFrom 0 k))) := Lib.hid (sortUp_succ _ _)
          clear hI hbq hO2 HGT
          generalize sortL (magK l) (upFrom 0 k) = L at HP hI5 HLEN HSUC
          generalize y.w = W5 at *
          clear y
          have HLT : Hid ((L.take (0)).length = 0) := Lib.hid (by rw [List.length_take, HLEN.out]; omega)
          have HLD : Hid ((L.drop (0)).length = k - (0)) := Lib.hid (by rw [List.length_drop, HLEN.out])
          have HL1 : Hid ((L.take (0)).length ≤ 1099511627776) := Lib.hid (by rw [HLT.out]; omega)
          have HL3 : Hid ((L.take (0) ++ [(k : Int)]).length + (k - (0)) ≤ 1099511627776) := Lib.hid (by rw [List.length_append, HLT.out, List.length_singleton]; omega)
          have hPc : 0 ≤ cv := by omega
          have hPk : 0 ≤ k := by omega
          go_wp2_with (first
            | (go_at_call 83; refine (l00Own_any (some ⟨gv, 0, none⟩) (0) cv W5.heap.size (L.take (0)) _ HLT.out (by omega) hPc hcv (fun h => by cases h) (hI5.take (0)) (Nat.le_refl _)).mono ?_; rintro e3 w3 ⟨v3, rfl, hO3, hb3⟩; have hs3 : W5.heap.size ≤ (w3.alloc (.cells #[.int .i64 (k : Int)] 2)).heap.size := Nat.le_trans hb3.size (below_size (below_alloc (Below.refl _ _) _)))
            | (at_builtin; refine wpList_app_int rfl (.tmp 41) (.tmp 43) rfl W5.heap.size v3 (L.take (0)) (k : Int) w3.heap.size 1 rfl rfl (hO3.alloc _) (by simp) HL1.out hs3 ?_; intro v4 w4 hO4 hg4; have hb4 : Below W5.heap.size W5 w4 := below_of_grown (below_alloc hb3 _) hg4 (below_alloc hb3 _).size (fun q hq => (hO3.lt q hq).1); have hI4 : Ints w4 (some ⟨gv, 0, none⟩) (L.drop (0)) := (by rw [List.drop_zero]; exact hI5.below hb4))
            | (at_builtin; refine wpList_app_ints rfl (.tmp 45) (.tmp 48) rfl W5.heap.size v4 (L.take (0) ++ [(k : Int)]) (L.drop (0)) (some ⟨gv, 0, none⟩) k cv rfl rfl hO4 HLD.out hI4 (fun h => by first | (cases h; done) | (split at h <;> cases h)) HL3.out hb4.size ?_; intro v5 w5 hO5 hg5))
          all_goals
            have hb6 := below_of_grown hb4 hg5 hb4.size (fun q hq => (hO4.lt q hq).1)
            have hO6 : OwnI w5 w.heap.size v5 (sortL (magK l) (upFrom 0 (k + 1))) := by
              rw [HSUC.out, insK, ← HP.out]
              have := hO5.base_le hb5.size
              simpa using this
            have hl6 : (sortL (magK l) (upFrom 0 (k + 1))).length = k + 1 := sortUp_length _ _
            obtain ⟨g6, c6, rfl, h6a, h6b⟩ : ∃ g6 c6, v5 = .slice (some ⟨g6, 0, none⟩) (k + 1) c6 ∧ k + 1 ≤ c6 ∧ c6 ≤ 9223372036854775807 := by
              rcases hO6.blk with ⟨_, h⟩ | ⟨g6, c6, cs, e6, _, _, _, h2, h3, _⟩
              · rw [h] at hl6; simp at hl6
              · rw [hl6] at e6 h3
                exact ⟨g6, c6, e6, h3, by unfold maxLen at h2; omega⟩
            clear hl6 hO5 hg5
            have HO6 := Lib.hid hO6
            clear hO6
            go_roundw
            case rel => exact ⟨k + 1, g6, c6, by omega, rfl, by go_num, h6a, h6b, HO6.out, hb5.trans (hb6.mono hb5.size)⟩
            case measure => simp [intOf]; omega
        · obtain ⟨ee, hee, hge⟩ := sortUp_bd (magK l) (show p < k by omega)
          obtain ⟨z, hz⟩ := at_lt (l := l) (k := ee) (by have := HL.out; omega)
          obtain ⟨_, _, _, d3, _⟩ := hc ee z hz
          have HZ : Hid (magK l (gt (sortL (magK l) (upFrom 0 k)) p) = z.ma) := Lib.hid (by rw [hge]; exact magK_at hz)
          obtain ⟨b2, o2, e2, hcI⟩ := hI (by rw [sortUp_length]; omega)
          obtain ⟨rfl, rfl⟩ : gv = b2 ∧ 0 = o2 := by injection e2 with e2; injection e2 with e3 e4; exact ⟨e3, e4⟩
          have i0 : wr.cell? ⟨gv, p, none⟩ = some (.int .i64 (ee : Int)) := by
            have := hcI p _ (at_gt (by rw [sortUp_length]; omega))
            rw [hge] at this; simpa using this
          have l1 := World.block_lt_of_cell? wr _ i0
          dsimp only at l1
          have hen : (ee : Int) < (n : Int) := by omega
          have hc1 : ((p + 1 : Nat) : Int) = (p : Int) + 1 := by omega
          have hpk : (p : Int) < (k : Int) := by omega
          clear hcI e2 hc hz hge
          rw [hc1]
          by_cases hm : x.ma < z.ma
          · have hm' : decide (x.ma < z.ma) = true := by simpa using hm
            clear hexit
            have HG2 : Hid (∀ j, p ≤ j → j < k → magK l (k : Int) < magK l (gt (sortL (magK l) (upFrom 0 k)) j)) := Lib.hid (fun j h1 h2 => by
              by_cases e : j = p
              · rw [e, HZ.out, HX.out]; exact hm
              · exact HGT.out j (by omega) h2)
            go_wp2_with (fail)
            (refine later_intro_wp ?_; intro y)
            (refine wp_region_later (by kernel_rfl) (by kernel_rfl) ?_; (repeat (first | go_big_quiet_step ((fail)) | quiet_step ((fail)))); refine wpQuiet_nil ?_; rintro _ ⟨y, rfl⟩)
            go_wp2_with (fail)
            go_roundw
            case rel => exact ⟨p, by omega, by go_num, HG2.out, below_later hq _⟩
            case measure => simp [intOf]
          · have HP := hexit (.inr (by rw [Nat.add_sub_cancel, HZ.out, HX.out]; omega))
            have hm' : decide (x.ma < z.ma) = false := by simpa using hm
            clear hexit
            go_wp2_with (fail)
            (refine later_intro_wp ?_; intro y)
            (refine wp_region_later (by kernel_rfl) (by kernel_rfl) ?_; (repeat (first | go_big_quiet_step ((fail)) | quiet_step ((fail)))); refine wpQuiet_nil ?_; rintro _ ⟨y, rfl⟩)
            have hb5 := below_later hbq y
            have hI5 := hI.later y
            have HLEN : Hid ((sortL (magK l) (upFrom 0 k)).length = k) := Lib.hid (sortUp_length _ _)
            have HSUC : Hid (sortL (magK l) (upFrom 0 (k + 1)) = insK (magK l) (k : Int) (sortL (magK l) (upFrom 0 k))) := Lib.hid (sortUp_succ _ _)
            clear hI hbq hO2 HGT
            generalize sortL (magK l) (upFrom 0 k) = L at HP hI5 HLEN HSUC
            generalize y.w = W5 at *
            clear y
            have HLT : Hid ((L.take (p + 1)).length = p + 1) := Lib.hid (by rw [List.length_take, HLEN.out]; omega)
            have HLD : Hid ((L.drop (p + 1)).length = k - (p + 1)) := Lib.hid (by rw [List.length_drop, HLEN.out])
            have HL1 : Hid ((L.take (p + 1)).length ≤ 1099511627776) := Lib.hid (by rw [HLT.out]; omega)
            have HL3 : Hid ((L.take (p + 1) ++ [(k : Int)]).length + (k - (p + 1)) ≤ 1099511627776) := Lib.hid (by rw [List.length_append, HLT.out, List.length_singleton]; omega)
            have hPc : p + 1 ≤ cv := by omega
            have hPk : p + 1 ≤ k := by omega
            go_wp2_with (first
              | (go_at_call 83; refine (l00Own_any (some ⟨gv, 0, none⟩) (p + 1) cv W5.heap.size (L.take (p + 1)) _ HLT.out (by omega) hPc hcv (fun h => by cases h) (hI5.take (p + 1)) (Nat.le_refl _)).mono ?_; rintro e3 w3 ⟨v3, rfl, hO3, hb3⟩; have hs3 : W5.heap.size ≤ (w3.alloc (.cells #[.int .i64 (k : Int)] 2)).heap.size := Nat.le_trans hb3.size (below_size (below_alloc (Below.refl _ _) _)))
              | (at_builtin; refine wpList_app_int rfl (.tmp 41) (.tmp 43) rfl W5.heap.size v3 (L.take (p + 1)) (k : Int) w3.heap.size 1 rfl rfl (hO3.alloc _) (by simp) HL1.out hs3 ?_; intro v4 w4 hO4 hg4; have hb4 : Below W5.heap.size W5 w4 := below_of_grown (below_alloc hb3 _) hg4 (below_alloc hb3 _).size (fun q hq => (hO3.lt q hq).1); have hI4 : Ints w4 (if cv = p + 1 then some ⟨gv, 0, none⟩ else some ⟨gv, p + 1, none⟩) (L.drop (p + 1)) := (by have := (hI5.below hb4).drop (c := cv) (p + 1) (by rw [HLEN.out]; exact hkc); simpa using this))
              | (at_builtin; refine wpList_app_ints rfl (.tmp 45) (.tmp 48) rfl W5.heap.size v4 (L.take (p + 1) ++ [(k : Int)]) (L.drop (p + 1)) (if cv = p + 1 then some ⟨gv, 0, none⟩ else some ⟨gv, p + 1, none⟩) (k - (p + 1)) (cv - (p + 1)) rfl rfl hO4 HLD.out hI4 (fun h => by first | (cases h; done) | (split at h <;> cases h)) HL3.out hb4.size ?_; intro v5 w5 hO5 hg5))
            all_goals
              have hb6 := below_of_grown hb4 hg5 hb4.size (fun q hq => (hO4.lt q hq).1)
              have hO6 : OwnI w5 w.heap.size v5 (sortL (magK l) (upFrom 0 (k + 1))) := by
                rw [HSUC.out, insK, ← HP.out]
                have := hO5.base_le hb5.size
                simpa using this
              have hl6 : (sortL (magK l) (upFrom 0 (k + 1))).length = k + 1 := sortUp_length _ _
              obtain ⟨g6, c6, rfl, h6a, h6b⟩ : ∃ g6 c6, v5 = .slice (some ⟨g6, 0, none⟩) (k + 1) c6 ∧ k + 1 ≤ c6 ∧ c6 ≤ 9223372036854775807 := by
                rcases hO6.blk with ⟨_, h⟩ | ⟨g6, c6, cs, e6, _, _, _, h2, h3, _⟩
                · rw [h] at hl6; simp at hl6
                · rw [hl6] at e6 h3
                  exact ⟨g6, c6, e6, h3, by unfold maxLen at h2; omega⟩
              clear hl6 hO5 hg5
              have HO6 := Lib.hid hO6
              clear hO6
              go_roundw
              case rel => exact ⟨k + 1, g6, c6, by omega, rfl, by go_num, h6a, h6b, HO6.out, hb5.trans (hb6.mono hb5.size)⟩
              case measure => simp [intOf]; omega
    · obtain rfl : k = n := by omega
      go_wp2
      go_ret
      exact ⟨_, rfl, by rw [HL.out]; exact hO, hb⟩
set_option maxHeartbeats 1000000 in
theorem sBrightestFirst_any (A : Option Addr) (n c : Nat) (l : List Sta) (w : World) (hl : l.length = n) (hn : n ≤ 9223372036854775807) (hA : Stars w A l) :
    Calls Try.prog 31 #[.slice A n c] w fun e w' => ∃ v : Value, e = .returned (.tuple #[v, .int .i64 (brO l).2]) ∧ OwnI w' w.heap.size v (brO l).1 ∧ Below w.heap.size w w' := by
  have HL := Lib.hid hl; clear hl
  have V : Hid (∀ W, Stars W A l → Calls Try.prog 40 #[.slice A n c] W fun e w' => e = .returned (.bool (vStars l)) ∧ Below W.heap.size W w') := Lib.hid (fun W hW => l05Ok_any A n c l W HL.out hn hW)
  cases hv : vStars l with
  | false =>
    have HO := Lib.hid (brO_no hv)
    rw [hv] at V
    clear hv
    go_enter Try.func31, Try.ntmps31
    go_wp2_with (refine (V.out _ hA).mono ?_; rintro e w1 ⟨rfl, hb1⟩)
    go_ret2
    exact ⟨.slice none 0 0, by rw [HO.out]; rfl, by rw [HO.out]; exact OwnI.nil _ _, hb1⟩
  | true =>
    have h24 : n ≤ 24 := by have := vStars_len hv; have := HL.out; omega
    have HO := Lib.hid (brO_yes hv)
    rw [hv] at V
    clear hv
    go_enter Try.func31, Try.ntmps31
    go_wp2_with (first | (go_at_call 40; refine (V.out _ hA).mono ?_; rintro e w1 ⟨rfl, hb1⟩; have hA1 := hA.below hb1) | (go_at_call 60; refine (l05Sorted_any A n c l _ HL.out h24 hA1).mono ?_; rintro e w2 ⟨v, rfl, hO2, hb2⟩))
    go_ret2
    exact ⟨v, by rw [HO.out]; rfl, by rw [HO.out]; exact hO2.base_le hb1.size, below_step hb1 hb2⟩
end Go.Proofs.Ytoklogldehikeaa
