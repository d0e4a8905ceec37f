/- The library's merging in place at rows of numbers. -/
import Derived.Test.YtoklogldehikeaaSortR
namespace Go.Proofs.Ytoklogldehikeaa
set_option linter.unusedVariables false
set_option linter.unusedSimpArgs false
open Go.RowKit
set_option maxRecDepth 100000 in
set_option maxHeartbeats 800000 in
/-- what a sort or a merge of a window leaves -/
def SortPost (g a b : Nat) (ky : Int → Int) (l : List Int) (rest : List Value) (w : World) (e : Ending) (w' : World) : Prop := ∃ l', e = .returned (.tuple #[]) ∧ Sme l l' a b ∧ Srt ky l' a b ∧ Blk w' g 2 (numCells l' ++ rest) ∧ w.grownBy w' (some g)
theorem half_nat (i j : Nat) (h : i < j) : ∃ c : Nat, ((i : Int) + (j : Int)) / 2 = (c : Int) ∧ i ≤ c ∧ c < j := ⟨(i + j) / 2, by omega, by omega, by omega⟩
set_option maxRecDepth 100000 in
set_option maxHeartbeats 1600000 in
theorem symm1_any {fid q g : Nat} {ky : Int → Int} {cf : Int → Int → Int} {S : Int → Prop} {Good : World → Prop} (E : CmpEnv fid q g ky cf S Good) (n cap a m b : Nat) (l : List Int) (rest : List Value) (w : World) (hl : l.length = n) (hn : n ≤ 1000000) (hma : m = a + 1) (hmb : m < b) (hbn : b ≤ n) (hB : Blk w g 2 (numCells l ++ rest)) (hS : ∀ i, i < n → S (gt l i)) (hG : Good w) (hs2 : Srt ky l m b) (hls : Lss l a m b) :
    Calls Try.prog 96 #[.slice (some ⟨g, 0, none⟩) n cap, .int .i64 (a : Int), .int .i64 (m : Int), .int .i64 (b : Int), .func (.func fid) #[] #[.pointer (some ⟨q, 0, none⟩)]] w (SortPost g a b ky l rest w) := by
  have HL := Lib.hid hl; clear hl
  have HS := Lib.hid hS; clear hS
  have HLS := Lib.hid hls; clear hls
  have HE := Lib.hid E; clear E
  have HS2 := Lib.hid hs2; clear hs2
  have HMA := Lib.hid hma
  have hd1 : ((m : Int) - (a : Int) == 1) = true := by simp; omega
  have hd1' : (m : Int) - (a : Int) = 1 := by omega
  have ham : a < m := by omega
  clear hma
  go_enter Try.func96, Try.ntmps96
  go_wp2_with (fail)
  clear hd1 hd1'
  go_loopw [10, 11, 12] (fun s1 s2 _ wr => ∃ (i j : Nat), m ≤ i ∧ i ≤ j ∧ j ≤ b ∧ s1 = .int .i64 (i : Int) ∧ s2 = .int .i64 (j : Int) ∧ (∀ p, m ≤ p → p < i → lx ky (gt l p) (gt l a)) ∧ (∀ p, j ≤ p → p < b → lx ky (gt l a) (gt l p)) ∧ Blk wr g 2 (numCells l ++ rest) ∧ w.grownBy wr (some g)) (fun s1 s2 _ _ => (intOf s2).toNat - (intOf s1).toNat)
  case atStart => exact ⟨m, b, by omega, by omega, by omega, rfl, rfl, fun p h1 h2 => by omega, fun p h1 h2 => by omega, hB, grown_of_below (Below.refl _ _) _⟩
  case round =>
    obtain ⟨i, j, hi, hij, hj, rfl, rfl, h1, h2, hB1, hg⟩ := hrel
    have H1 := Lib.hid h1; clear h1
    have H2 := Lib.hid h2; clear h2
    by_cases hlt : i < j
    · obtain ⟨c, hc, hic, hcj⟩ := half_nat i j hlt
      go_wp2_with (fail)
      clear hc
      have d0 : wr.cell? ⟨g, c, none⟩ = some (.int .i64 (gt l (c))) := by rw [hB1.cell]; exact numCells_gt (by have := HL.out; omega)
      have d1 : wr.cell? ⟨g, a, none⟩ = some (.int .i64 (gt l (a))) := by rw [hB1.cell]; exact numCells_gt (by have := HL.out; omega)
      have hGw : Good wr := HE.out.keep _ _ hG hg
      have hlg := hB1.lt
      have hcall : Hid (∀ W, Good W → Calls Try.prog fid #[.int .i64 (gt l (c)), .int .i64 (gt l (a)), .pointer (some ⟨q, 0, none⟩)] W fun e w' => e = .returned (.int .i64 (cf (gt l (c)) (gt l (a)))) ∧ Below W.heap.size W w') := Lib.hid (fun W hW => HE.out.call W _ _ hW (HS.out _ (by omega)) (HS.out _ (by omega)))
      have HSG := Lib.hid (HE.out.sign (gt l (c)) (gt l (a)) (HS.out _ (by omega)) (HS.out _ (by omega)))
      have hent := HE.out.enter
      generalize hx : gt l (c) = x at d0 d1 hcall HSG
      generalize hz : gt l (a) = z at d0 d1 hcall HSG
      have HX := Lib.hid hx
      have HZ := Lib.hid hz
      clear hx hz
      by_cases hr : cf x z < 0
      · have hr' : decide (cf x z < 0) = true := by simpa using hr
        have HK : Hid (lx ky (gt l c) (gt l a)) := Lib.hid (by rw [HX.out, HZ.out]; exact lx_lt (HSG.out.1 hr))
        generalize cf x z = r at *
        (refine later_intro_wp ?_; intro y)
        (refine wp_region_later (by kernel_rfl) (by kernel_rfl) ?_; (repeat (first | go_big_quiet_step ((exact later_below (hcall.out _ (HE.out.keep _ _ hGw (grown_of_below (Later.below _) _))))) | quiet_step ((exact later_below (hcall.out _ (HE.out.keep _ _ hGw (grown_of_below (Later.below _) _))))))); refine wpQuiet_nil ?_; rintro _ ⟨y, rfl⟩)
        go_wp2_with (fail)
        go_roundw
        case rel => exact ⟨c + 1, j, by omega, by omega, by omega, by go_num, rfl, fun p h3 h4 => by
          by_cases e : p = c
          · rw [e]; exact HK.out
          · exact lx_trans (HS2.out p c h3 (by omega) (by omega)) HK.out, H2.out, hB1.keep (Later.below _), grown_trans hg (grown_of_below (Later.below _) _)⟩
        case measure => simp [intOf]; omega
      · have hr' : decide (cf x z < 0) = false := by simpa using hr
        have HK : Hid (lx ky (gt l a) (gt l c)) := Lib.hid (lx_ge (by rw [HX.out, HZ.out]; exact fun h => hr (HSG.out.2 h)) (HLS.out a c (Nat.le_refl _) (by omega) (by omega) (by omega)))
        generalize cf x z = r at *
        (refine later_intro_wp ?_; intro y)
        (refine wp_region_later (by kernel_rfl) (by kernel_rfl) ?_; (repeat (first | go_big_quiet_step ((exact later_below (hcall.out _ (HE.out.keep _ _ hGw (grown_of_below (Later.below _) _))))) | quiet_step ((exact later_below (hcall.out _ (HE.out.keep _ _ hGw (grown_of_below (Later.below _) _))))))); refine wpQuiet_nil ?_; rintro _ ⟨y, rfl⟩)
        go_wp2_with (fail)
        go_roundw
        case rel => exact ⟨i, c, by omega, by omega, by omega, rfl, by go_num, H1.out, fun p h3 h4 => by
          by_cases e : p = c
          · rw [e]; exact HK.out
          · exact lx_trans HK.out (HS2.out c p (by omega) (by omega) h4), hB1.keep (Later.below _), grown_trans hg (grown_of_below (Later.below _) _)⟩
        case measure => simp [intOf]; omega
    · obtain rfl : i = j := by omega
      go_wp2_with (fail)
      have HF : Hid (Rot l l a (a + 1) (a + 1)) := Lib.hid (Rot.triv (by omega) (by omega) (by omega))
      go_loopw [13] (fun s wq => ∃ (k : Nat) (l' : List Int), a ≤ k ∧ k + 1 ≤ i ∧ s = .int .i64 (k : Int) ∧ Rot l l' a (a + 1) (k + 1) ∧ Blk wq g 2 (numCells l' ++ rest) ∧ w.grownBy wq (some g)) (fun s _ => i - (intOf s).toNat)
      case atStart => exact ⟨a, l, by omega, by omega, rfl, HF.out, hB1, hg⟩
      case round =>
        clear hB1 hg HF
        obtain ⟨k, l1, hk1, hk2, rfl, hrot, hB1, hg⟩ := hrel
        have HR := Lib.hid hrot; clear hrot
        have HL1 : Hid (l1.length = n) := Lib.hid (by rw [HR.out.len]; exact HL.out)
        by_cases hki : k + 1 < i
        · have d0 : wr.cell? ⟨g, k, none⟩ = some (.int .i64 (gt l1 k)) := by rw [hB1.cell]; exact numCells_gt (by have := HL1.out; omega)
          have d1 : wr.cell? ⟨g, k + 1, none⟩ = some (.int .i64 (gt l1 (k + 1))) := by rw [hB1.cell]; exact numCells_gt (by have := HL1.out; omega)
          have f0 := hB1.frozen k
          have f1 := hB1.frozen (k + 1)
          have hki' : (k : Int) < (i : Int) - 1 := by omega
          have hkn : (k : Int) + 1 < (n : Int) := by omega
          have hB4 := hB1.swap (i := k) (j := k + 1) (by have := HL1.out; omega) (by have := HL1.out; omega)
          generalize hx0 : gt l1 k = x at *
          generalize hx1 : gt l1 (k + 1) = z at *
          clear hx0 hx1
          go_wp2_with (fail)
          go_region
          go_wp2_with (fail)
          go_roundw
          case rel => exact ⟨k + 1, _, by omega, by omega, by go_num, HR.out.up hk1 (by have := HL.out; omega), hB4, grown_trans hg grown_swapd⟩
          case measure => simp [intOf]; omega
        · have hki' : ¬ (k : Int) < (i : Int) - 1 := by omega
          go_wp2_with (fail)
          refine bodyPost_ret (results_none rfl _ _ _) rfl ?_
          have hki2 : k + 1 = i := by omega
          have hR2 : Rot l l1 a (a + 1) i := by rw [← hki2]; exact HR.out
          refine ⟨l1, rfl, (hR2.sme (by omega) (by omega)).mono (Nat.le_refl _) (by omega), ?_, hB1, hg⟩
          exact one_first (by rw [← HMA.out]; exact HS2.out) (by omega) (by omega) (fun p h3 h4 => H1.out p (by have := HMA.out; omega) h4) H2.out hR2
end Go.Proofs.Ytoklogldehikeaa
