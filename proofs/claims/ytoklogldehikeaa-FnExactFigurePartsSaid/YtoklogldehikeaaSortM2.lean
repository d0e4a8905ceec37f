/- The library's merging in place at rows of numbers, where the second part is one number. -/
import Derived.Test.YtoklogldehikeaaSortM
namespace Go.Proofs.Ytoklogldehikeaa
set_option linter.unusedVariables false
set_option linter.unusedSimpArgs false
open Go.RowKit
set_option maxRecDepth 100000 in
set_option maxHeartbeats 1600000 in
theorem symm2_any {fid q g : Nat} {ky : Int → Int} {cf : Int → Int → Int} {S : Int → Prop} {Good : World → Prop} (E : CmpEnv fid q g ky cf S Good) (n cap a m b : Nat) (l : List Int) (rest : List Value) (w : World) (hl : l.length = n) (hn : n ≤ 1000000) (hma : a + 1 < m) (hmb : b = m + 1) (hbn : b ≤ n) (hB : Blk w g 2 (numCells l ++ rest)) (hS : ∀ i, i < n → S (gt l i)) (hG : Good w) (hs1 : Srt ky l a m) (hls : Lss l a m b) :
    Calls Try.prog 96 #[.slice (some ⟨g, 0, none⟩) n cap, .int .i64 (a : Int), .int .i64 (m : Int), .int .i64 (b : Int), .func (.func fid) #[] #[.pointer (some ⟨q, 0, none⟩)]] w (SortPost g a b ky l rest w) := by
  have HL := Lib.hid hl; clear hl
  have HS := Lib.hid hS; clear hS
  have HLS := Lib.hid hls; clear hls
  have HE := Lib.hid E; clear E
  have HS1 := Lib.hid hs1; clear hs1
  have HMB := Lib.hid hmb
  have hd1 : ((m : Int) - (a : Int) == 1) = false := by simp; omega
  have hd1' : ¬ (m : Int) - (a : Int) = 1 := by omega
  have hd2 : ((b : Int) - (m : Int) == 1) = true := by simp; omega
  have hd2' : (b : Int) - (m : Int) = 1 := by omega
  have hmb2 : m < b := by omega
  clear hmb
  go_enter Try.func96, Try.ntmps96
  go_wp2_with (fail)
  clear hd1 hd1' hd2 hd2'
  go_loopw [14, 15, 16] (fun s1 s2 _ wr => ∃ (i j : Nat), a ≤ i ∧ i ≤ j ∧ j ≤ m ∧ s1 = .int .i64 (i : Int) ∧ s2 = .int .i64 (j : Int) ∧ (∀ p, a ≤ p → p < i → lx ky (gt l p) (gt l m)) ∧ (∀ p, j ≤ p → p < m → lx ky (gt l m) (gt l p)) ∧ Blk wr g 2 (numCells l ++ rest) ∧ w.grownBy wr (some g)) (fun s1 s2 _ _ => (intOf s2).toNat - (intOf s1).toNat)
  case atStart => exact ⟨a, m, by omega, by omega, by omega, rfl, rfl, fun p h1 h2 => by omega, fun p h1 h2 => by omega, hB, grown_of_below (Below.refl _ _) _⟩
  case round =>
    obtain ⟨i, j, hi, hij, hj, rfl, rfl, h1, h2, hB1, hg⟩ := hrel
    have H1 := Lib.hid h1; clear h1
    have H2 := Lib.hid h2; clear h2
    by_cases hlt : i < j
    · obtain ⟨c, hc, hic, hcj⟩ := half_nat i j hlt
      go_wp2_with (fail)
      clear hc
      have d0 : wr.cell? ⟨g, m, none⟩ = some (.int .i64 (gt l (m))) := by rw [hB1.cell]; exact numCells_gt (by have := HL.out; omega)
      have d1 : wr.cell? ⟨g, c, none⟩ = some (.int .i64 (gt l (c))) := by rw [hB1.cell]; exact numCells_gt (by have := HL.out; omega)
      have hGw : Good wr := HE.out.keep _ _ hG hg
      have hlg := hB1.lt
      have hcall : Hid (∀ W, Good W → Calls Try.prog fid #[.int .i64 (gt l (m)), .int .i64 (gt l (c)), .pointer (some ⟨q, 0, none⟩)] W fun e w' => e = .returned (.int .i64 (cf (gt l (m)) (gt l (c)))) ∧ Below W.heap.size W w') := Lib.hid (fun W hW => HE.out.call W _ _ hW (HS.out _ (by omega)) (HS.out _ (by omega)))
      have HSG := Lib.hid (HE.out.sign (gt l (m)) (gt l (c)) (HS.out _ (by omega)) (HS.out _ (by omega)))
      have hent := HE.out.enter
      generalize hx : gt l (m) = x at d0 d1 hcall HSG
      generalize hz : gt l (c) = z at d0 d1 hcall HSG
      have HX := Lib.hid hx
      have HZ := Lib.hid hz
      clear hx hz
      by_cases hr : cf x z < 0
      · have hr' : decide (cf x z < 0) = true := by simpa using hr
        have HK : Hid (lx ky (gt l m) (gt l c)) := Lib.hid (by rw [HX.out, HZ.out]; exact lx_lt (HSG.out.1 hr))
        generalize cf x z = r at *
        (refine later_intro_wp ?_; intro y)
        (refine wp_region_later (by kernel_rfl) (by kernel_rfl) ?_; (repeat (first | go_big_quiet_step ((exact later_below (hcall.out _ (HE.out.keep _ _ hGw (grown_of_below (Later.below _) _))))) | quiet_step ((exact later_below (hcall.out _ (HE.out.keep _ _ hGw (grown_of_below (Later.below _) _))))))); refine wpQuiet_nil ?_; rintro _ ⟨y, rfl⟩)
        go_wp2_with (fail)
        go_roundw
        case rel => exact ⟨i, c, by omega, by omega, by omega, rfl, by go_num, H1.out, fun p h3 h4 => by
          by_cases e : p = c
          · rw [e]; exact HK.out
          · exact lx_trans HK.out (HS1.out c p (by omega) (by omega) h4), hB1.keep (Later.below _), grown_trans hg (grown_of_below (Later.below _) _)⟩
        case measure => simp [intOf]; omega
      · have hr' : decide (cf x z < 0) = false := by simpa using hr
        have HK : Hid (lx ky (gt l c) (gt l m)) := Lib.hid (lx_ge (by rw [HX.out, HZ.out]; exact fun h => hr (HSG.out.2 h)) (HLS.out c m (by omega) (by omega) (Nat.le_refl _) (by omega)))
        generalize cf x z = r at *
        (refine later_intro_wp ?_; intro y)
        (refine wp_region_later (by kernel_rfl) (by kernel_rfl) ?_; (repeat (first | go_big_quiet_step ((exact later_below (hcall.out _ (HE.out.keep _ _ hGw (grown_of_below (Later.below _) _))))) | quiet_step ((exact later_below (hcall.out _ (HE.out.keep _ _ hGw (grown_of_below (Later.below _) _))))))); refine wpQuiet_nil ?_; rintro _ ⟨y, rfl⟩)
        go_wp2_with (fail)
        go_roundw
        case rel => exact ⟨c + 1, j, by omega, by omega, by omega, by go_num, rfl, fun p h3 h4 => by
          by_cases e : p = c
          · rw [e]; exact HK.out
          · exact lx_trans (HS1.out p c h3 (by omega) (by omega)) HK.out, H2.out, hB1.keep (Later.below _), grown_trans hg (grown_of_below (Later.below _) _)⟩
        case measure => simp [intOf]; omega
    · obtain rfl : i = j := by omega
      go_wp2_with (fail)
      have HF : Hid (Rot l l m m (m + 1)) := Lib.hid (Rot.triv (by omega) (by omega) (by omega))
      go_loopw [17] (fun s wq => ∃ (k : Nat) (l' : List Int), i ≤ k ∧ k ≤ m ∧ s = .int .i64 (k : Int) ∧ Rot l l' k m (m + 1) ∧ Blk wq g 2 (numCells l' ++ rest) ∧ w.grownBy wq (some g)) (fun s _ => (intOf s).toNat)
      case atStart => exact ⟨m, l, by omega, by omega, rfl, HF.out, hB1, hg⟩
      case round =>
        clear hB1 hg HF
        obtain ⟨k, l1, hk1, hk2, rfl, hrot, hB1, hg⟩ := hrel
        have HR := Lib.hid hrot; clear hrot
        have HL1 : Hid (l1.length = n) := Lib.hid (by rw [HR.out.len]; exact HL.out)
        rcases Nat.lt_or_ge i k with hki | hki
        · obtain ⟨k, rfl⟩ : ∃ k', k = k' + 1 := ⟨k - 1, by omega⟩
          have hc1 : ((k + 1 : Nat) : Int) = (k : Int) + 1 := by omega
          have d0 : wr.cell? ⟨g, k + 1, none⟩ = some (.int .i64 (gt l1 (k + 1))) := by rw [hB1.cell]; exact numCells_gt (by have := HL1.out; omega)
          have d1 : wr.cell? ⟨g, k, none⟩ = some (.int .i64 (gt l1 k)) := by rw [hB1.cell]; exact numCells_gt (by have := HL1.out; omega)
          have f0 := hB1.frozen (k + 1)
          have f1 := hB1.frozen k
          have hki' : (i : Int) < (k : Int) + 1 := by omega
          have hkn : (k : Int) + 1 < (n : Int) := by omega
          have hB4 := hB1.swap (i := k + 1) (j := k) (by have := HL1.out; omega) (by have := HL1.out; omega)
          rw [hc1]
          clear hc1
          generalize hx0 : gt l1 (k + 1) = x at *
          generalize hx1 : gt l1 k = z at *
          clear hx0 hx1
          go_wp2_with (fail)
          go_region
          go_wp2_with (fail)
          go_roundw
          case rel => exact ⟨k, _, by omega, by omega, by go_num, HR.out.down hk2 (by have := HL.out; omega), hB4, grown_trans hg grown_swapd⟩
          case measure => simp [intOf]
        · have hki' : ¬ (i : Int) < (k : Int) := by omega
          go_wp2_with (fail)
          refine bodyPost_ret (results_none rfl _ _ _) rfl ?_
          have hki2 : i = k := by omega
          have hR2 : Rot l l1 i m (m + 1) := by rw [hki2]; exact HR.out
          refine ⟨l1, rfl, (hR2.sme (by omega) (by omega)).mono (by omega) (by have := HMB.out; omega), ?_, hB1, hg⟩
          rw [HMB.out]
          exact one_last HS1.out (by omega) (by omega) H1.out H2.out hR2
end Go.Proofs.Ytoklogldehikeaa
