/- The library's merging in place at rows of numbers, whole. -/
import Derived.Test.YtoklogldehikeaaSortM2
import Derived.Deep.DeepCutAuto
import Derived.Deep.CutRange
namespace Go.Proofs.Ytoklogldehikeaa
set_option linter.unusedVariables false
set_option linter.unusedSimpArgs false
open Go.RowKit
set_option maxRecDepth 100000 in
set_option maxHeartbeats 3200000 in
theorem symm3_any {fid q g : Nat} {ky : Int → Int} {cf : Int → Int → Int} {S : Int → Prop} {Good : World → Prop} (E : CmpEnv fid q g ky cf S Good) (n cap a m b : Nat) (l : List Int) (rest : List Value) (w : World) (hl : l.length = n) (hn : n ≤ 1000000) (hma : a + 1 < m) (hmb : m + 1 < b) (hbn : b ≤ n) (hB : Blk w g 2 (numCells l ++ rest)) (hS : ∀ i, i < n → S (gt l i)) (hG : Good w) (hs1 : Srt ky l a m) (hs2 : Srt ky l m b) (hls : Lss l a m b)
    (REC : ∀ (a' m' b' : Nat) (l' : List Int) (W : World), b' - a' < b - a → a' < m' → m' < b' → b' ≤ n → l'.length = n → Blk W g 2 (numCells l' ++ rest) → (∀ i, i < n → S (gt l' i)) → Good W → Srt ky l' a' m' → Srt ky l' m' b' → Lss l' a' m' b' → Calls Try.prog 96 #[.slice (some ⟨g, 0, none⟩) n cap, .int .i64 (a' : Int), .int .i64 (m' : Int), .int .i64 (b' : Int), .func (.func fid) #[] #[.pointer (some ⟨q, 0, none⟩)]] W (SortPost g a' b' ky l' rest W)) :
    Calls Try.prog 96 #[.slice (some ⟨g, 0, none⟩) n cap, .int .i64 (a : Int), .int .i64 (m : Int), .int .i64 (b : Int), .func (.func fid) #[] #[.pointer (some ⟨q, 0, none⟩)]] w (SortPost g a b ky l rest w) := by
  have HL := Lib.hid hl; clear hl
  have HS := Lib.hid hS; clear hS
  have HLS := Lib.hid hls; clear hls
  have HE := Lib.hid E; clear E
  have HS1 := Lib.hid hs1; clear hs1
  have HS2 := Lib.hid hs2; clear hs2
  have HREC := Lib.hid REC; clear REC
  have hd1 : ((m : Int) - (a : Int) == 1) = false := by simp; omega
  have hd1' : ¬ (m : Int) - (a : Int) = 1 := by omega
  have hd2 : ((b : Int) - (m : Int) == 1) = false := by simp; omega
  have hd2' : ¬ (b : Int) - (m : Int) = 1 := by omega
  obtain ⟨d, hd, had, hdb⟩ := half_nat a b (by omega)
  have hdA : 2 * d ≤ a + b ∧ a + b ≤ 2 * d + 1 := by omega
  go_enter Try.func96, Try.ntmps96
  have hb0 : Hid (w.grownBy w (some g)) := Lib.hid (grown_of_below (Below.refl _ _) _)
  go_upto_if 140 with (fail)
  clear hd1 hd1' hd2 hd2'
  go_cut [20, 21] (fun s1 s2 wc => ∃ lo hi : Nat, s1 = .int .i64 (lo : Int) ∧ s2 = .int .i64 (hi : Int) ∧ Bnd a m b (d + m) lo hi ∧ (lo = a ∨ lo + b = d + m) ∧ (hi = m ∨ hi = d) ∧ w = wc)
  case first => as_aux_lemma =>
    by_cases hmd : d < m
    · have hmdI : (d : Int) < (m : Int) := by omega
      go_wp2_with (fail)
      go_meet
      case rel => exact ⟨d + m - b, d, by congr 1; omega, rfl, ⟨by omega, by omega, by omega, by omega, by omega⟩, .inr (by omega), .inr rfl, rfl⟩
    · have hmdI : ¬ (d : Int) < (m : Int) := by omega
      go_wp2_with (fail)
      go_meet
      case rel => exact ⟨a, m, rfl, rfl, ⟨by omega, by omega, by omega, by omega, by omega⟩, .inl rfl, .inl rfl, rfl⟩
  case rest =>
    obtain ⟨lo, hi, rfl, rfl, hbd, hlo, hhi, rfl⟩ := hcut
    have HBD := Lib.hid hbd
    have HLO := Lib.hid hlo
    have HHI := Lib.hid hhi
    obtain ⟨b1, b2, b3, b4, b5⟩ := hbd
    have hsd : hi ≤ d := by omega
    clear hlo hhi hd
    have HF0 : Hid (Fnd ky l (d + m) lo hi lo hi) := Lib.hid ⟨by omega, by omega, by omega, fun c h1 h2 => by omega, fun c h1 h2 => by omega⟩
    go_wp2_with (fail)
    go_loopw [20, 21, 23] (fun s1 s2 _ wr => ∃ (s r : Nat), s1 = .int .i64 (s : Int) ∧ s2 = .int .i64 (r : Int) ∧ Fnd ky l (d + m) lo hi s r ∧ Blk wr g 2 (numCells l ++ rest) ∧ w.grownBy wr (some g)) (fun s1 s2 _ _ => (intOf s2).toNat - (intOf s1).toNat)
    case atStart => exact ⟨lo, hi, rfl, rfl, HF0.out, hB, grown_of_below (Below.refl _ _) _⟩
    case round =>
      obtain ⟨s, r, rfl, rfl, hf, hB1, hg⟩ := hrel
      have o1 := hf.o1
      have o2 := hf.o2
      have o3 := hf.o3
      have HF := Lib.hid hf; clear hf HF0
      by_cases hlt : s < r
      · obtain ⟨c, hc, hic, hcj⟩ := half_nat s r hlt
        obtain ⟨ee, he⟩ : ∃ ee, ee = d + m - 1 - c := ⟨_, rfl⟩
        have heI : (d : Int) + (m : Int) - 1 - (c : Int) = (ee : Int) := by omega
        have heb : m ≤ ee ∧ ee < b := by omega
        have hen : (ee : Int) < (n : Int) := by omega
        have hcn : (c : Int) < (n : Int) := by omega
        have HEE := Lib.hid he
        clear he
        go_wp2_with (fail)
        clear hc
        have d0 : wr.cell? ⟨g, ee, none⟩ = some (.int .i64 (gt l (ee))) := by rw [hB1.cell]; exact numCells_gt (by have := HL.out; omega)
        have d1 : wr.cell? ⟨g, c, none⟩ = some (.int .i64 (gt l (c))) := by rw [hB1.cell]; exact numCells_gt (by have := HL.out; omega)
        have hGw : Good wr := HE.out.keep _ _ hG hg
        have hlg := hB1.lt
        have hcall : Hid (∀ W, Good W → Calls Try.prog fid #[.int .i64 (gt l (ee)), .int .i64 (gt l (c)), .pointer (some ⟨q, 0, none⟩)] W fun e w' => e = .returned (.int .i64 (cf (gt l (ee)) (gt l (c)))) ∧ Below W.heap.size W w') := Lib.hid (fun W hW => HE.out.call W _ _ hW (HS.out _ (by omega)) (HS.out _ (by omega)))
        have HSG := Lib.hid (HE.out.sign (gt l (ee)) (gt l (c)) (HS.out _ (by omega)) (HS.out _ (by omega)))
        have hent := HE.out.enter
        generalize hx : gt l (ee) = x at d0 d1 hcall HSG
        generalize hz : gt l (c) = z at d0 d1 hcall HSG
        have HX := Lib.hid hx
        have HZ := Lib.hid hz
        clear hx hz
        by_cases hr : cf x z < 0
        · as_aux_lemma =>
          have hr' : decide (cf x z < 0) = true := by simpa using hr
          have HK : Hid (ky (gt l (d + m - 1 - c)) < ky (gt l c)) := Lib.hid (by rw [← HEE.out, HX.out, HZ.out]; exact HSG.out.1 hr)
          generalize cf x z = r2 at *
          (refine later_intro_wp ?_; intro y)
          (refine wp_region_later (by kernel_rfl) (by kernel_rfl) ?_; (repeat (first | go_big_quiet_step ((exact later_below (hcall.out _ (HE.out.keep _ _ hGw (grown_of_below (Later.below _) _))))) | quiet_step ((exact later_below (hcall.out _ (HE.out.keep _ _ hGw (grown_of_below (Later.below _) _))))))); refine wpQuiet_nil ?_; rintro _ ⟨y, rfl⟩)
          go_wp2_with (fail)
          go_roundw
          case rel => exact ⟨s, c, rfl, by go_num, HF.out.down HBD.out HS1.out HS2.out hic hcj HK.out, hB1.keep (Later.below _), grown_trans hg (grown_of_below (Later.below _) _)⟩
          case measure => simp [intOf]; omega
        · as_aux_lemma =>
          have hr' : decide (cf x z < 0) = false := by simpa using hr
          have HK : Hid (¬ ky (gt l (d + m - 1 - c)) < ky (gt l c)) := Lib.hid (by rw [← HEE.out, HX.out, HZ.out]; exact fun h => hr (HSG.out.2 h))
          generalize cf x z = r2 at *
          (refine later_intro_wp ?_; intro y)
          (refine wp_region_later (by kernel_rfl) (by kernel_rfl) ?_; (repeat (first | go_big_quiet_step ((exact later_below (hcall.out _ (HE.out.keep _ _ hGw (grown_of_below (Later.below _) _))))) | quiet_step ((exact later_below (hcall.out _ (HE.out.keep _ _ hGw (grown_of_below (Later.below _) _))))))); refine wpQuiet_nil ?_; rintro _ ⟨y, rfl⟩)
          go_wp2_with (fail)
          go_roundw
          case rel => exact ⟨c + 1, r, by go_num, rfl, HF.out.up HBD.out HS1.out HS2.out HLS.out hic hcj HK.out, hB1.keep (Later.below _), grown_trans hg (grown_of_below (Later.below _) _)⟩
          case measure => simp [intOf]; omega
      · obtain rfl : s = r := by omega
        obtain ⟨t, ht⟩ : ∃ t, t = d + m - s := ⟨_, rfl⟩
        have htI : (d : Int) + (m : Int) - (s : Int) = (t : Int) := by omega
        have htb : d ≤ t ∧ t ≤ b ∧ m ≤ t ∧ s ≤ d ∧ a ≤ s ∧ s ≤ m := by omega
        have HTT := Lib.hid ht
        clear ht
        obtain ⟨ht1, ht2, ht3, ht4, ht5, ht6⟩ := htb
        obtain ⟨G185, hG185⟩ : ∃ G : Bool, G = (decide ((s : Nat) < m) && decide ((m : Nat) < t)) := ⟨_, rfl⟩
        have HG185 := Lib.hid hG185; clear hG185
        go_upto_region 39 with (fail)
        go_cut [185] (fun v wc => v = .bool G185 ∧ wr = wc)
        case first => as_aux_lemma =>
          by_cases h1 : s < m
          · have h1I : (s : Int) < (m : Int) := by omega
            by_cases h2 : m < t
            · have h2I : (m : Int) < (t : Int) := by omega
              go_wp2_with (fail)
              go_meet
              case rel => exact ⟨by rw [HG185.out]; simp [h1, h2], rfl⟩
            · have h2I : ¬ (m : Int) < (t : Int) := by omega
              go_wp2_with (fail)
              go_meet
              case rel => exact ⟨by rw [HG185.out]; simp [h1, h2], rfl⟩
          · have h1I : ¬ (s : Int) < (m : Int) := by omega
            go_wp2_with (fail)
            go_meet
            case rel => exact ⟨by rw [HG185.out]; simp [h1], rfl⟩
        case rest =>
        obtain ⟨rfl, rfl⟩ := hcut
        go_upto_if 185 with (fail)
        clear htI
        go_cut [] (fun wc => ∃ l1, Rot l l1 s m t ∧ Blk wc g 2 (numCells l1 ++ rest) ∧ w.grownBy wc (some g))
        case first => as_aux_lemma =>
          cases hg1 : G185 with
          | true =>
            have hst := HG185.out
            rw [hg1] at hst
            have hst2 : s < m ∧ m < t := by simpa using hst.symm
            clear hst
            go_wp2_with (go_at_call 112; refine (rotate_any g n cap s m t _ l rest _ HL.out hn hst2.1 hst2.2 (by omega) hB1).mono ?_; rintro ee w2 ⟨l2, rfl, hr, hB2, hg2⟩)
            go_meet
            case rel => exact ⟨l2, hr, hB2, grown_trans hg hg2⟩
          | false =>
            have hst := HG185.out
            rw [hg1] at hst
            have hst2 : ¬ (s < m ∧ m < t) := by simpa using hst.symm
            clear hst
            go_wp2_with (fail)
            go_meet
            case rel => exact ⟨l, Rot.triv hst2 ht6 ht3, hB1, hg⟩
        case rest =>
        clear hB1 hg
        obtain ⟨wA, rfl⟩ : ∃ wA : World, wA = wc := ⟨_, rfl⟩
        obtain ⟨l1, hrot, hB1, hg⟩ := hcut
        have HROT := Lib.hid hrot; clear hrot
        have hCD : Hid (s ≤ d ∧ d ≤ d + m - s ∧ d + m - s ≤ b ∧ a ≤ s ∧ Srt ky l1 a s ∧ Srt ky l1 s d ∧ Srt ky l1 d (d + m - s) ∧ Srt ky l1 (d + m - s) b ∧ Lss l1 a s d ∧ Lss l1 d (d + m - s) b ∧ (∀ p q, a ≤ p → p < d → d ≤ q → q < b → lx ky (gt l1 p) (gt l1 q))) :=
          Lib.hid (cut_done (mid := d) HBD.out rfl (by omega) (by omega) (by omega) HLO.out HHI.out HS1.out HS2.out HLS.out HF.out (by rw [← HTT.out]; exact HROT.out))
        rw [← HTT.out] at hCD
        have HSR : Hid (Sme l l1 a b) := Lib.hid ((HROT.out.sme ht6 ht3).mono ht5 ht2)
        have HL1 : Hid (l1.length = n) := Lib.hid (by rw [HROT.out.len]; exact HL.out)
        have HS11 : Hid (∀ i, i < n → S (gt l1 i)) := Lib.hid (HSR.out.mem hbn HS.out)
        have hGw : Good wA := HE.out.keep _ _ hG hg
        obtain ⟨G199, hG199⟩ : ∃ G : Bool, G = (decide ((a : Nat) < s) && decide ((s : Nat) < d)) := ⟨_, rfl⟩
        have HG199 := Lib.hid hG199; clear hG199
        go_upto_region 41 with (fail)
        go_cut [199] (fun v wc => v = .bool G199 ∧ wA = wc)
        case first => as_aux_lemma =>
          by_cases h1 : a < s
          · have h1I : (a : Int) < (s : Int) := by omega
            by_cases h2 : s < d
            · have h2I : (s : Int) < (d : Int) := by omega
              go_wp2_with (fail)
              go_meet
              case rel => exact ⟨by rw [HG199.out]; simp [h1, h2], rfl⟩
            · have h2I : ¬ (s : Int) < (d : Int) := by omega
              go_wp2_with (fail)
              go_meet
              case rel => exact ⟨by rw [HG199.out]; simp [h1, h2], rfl⟩
          · have h1I : ¬ (a : Int) < (s : Int) := by omega
            go_wp2_with (fail)
            go_meet
            case rel => exact ⟨by rw [HG199.out]; simp [h1], rfl⟩
        case rest =>
        obtain ⟨rfl, rfl⟩ := hcut
        go_upto_if 199 with (fail)
        go_cut [] (fun wq => ∃ l2, Sme l1 l2 a d ∧ Srt ky l2 a d ∧ Blk wq g 2 (numCells l2 ++ rest) ∧ w.grownBy wq (some g))
        case first => as_aux_lemma =>
          cases hg1 : G199 with
          | true =>
            have hst := HG199.out
            rw [hg1] at hst
            have hst2 : a < s ∧ s < d := by simpa using hst.symm
            clear hst
            have C1 := Lib.hid (HREC.out a s d l1 _ (by omega) hst2.1 hst2.2 (by omega) HL1.out hB1 HS11.out hGw hCD.out.2.2.2.2.1 hCD.out.2.2.2.2.2.1 hCD.out.2.2.2.2.2.2.2.2.1)
            go_wp2_with (go_at_call 96; refine C1.out.mono ?_; rintro ee w2 ⟨l2, rfl, hr, hr2, hB2, hg2⟩)
            go_meet
            case rel => exact ⟨l2, hr, hr2, hB2, grown_trans hg hg2⟩
          | false =>
            have hst := HG199.out
            rw [hg1] at hst
            have hst2 : ¬ (a < s ∧ s < d) := by simpa using hst.symm
            clear hst
            have hsrt : Srt ky l1 a d := by
              rcases Nat.eq_or_lt_of_le ht5 with e | h
              · rw [e]; exact hCD.out.2.2.2.2.2.1
              · have e : s = d := by omega
                have := hCD.out.2.2.2.2.1
                rwa [e] at this
            have HSRT := Lib.hid hsrt; clear hsrt
            go_wp2_with (fail)
            go_meet
            case rel => exact ⟨l1, Sme.refl _ _ _, HSRT.out, hB1, hg⟩
        case rest =>
        clear hB1 hg hGw
        obtain ⟨wB, rfl⟩ : ∃ wB : World, wB = wc := ⟨_, rfl⟩
        obtain ⟨l2, hm2, hs2, hB1, hg⟩ := hcut
        have HM2 := Lib.hid hm2; clear hm2
        have HSS2 := Lib.hid hs2; clear hs2
        have HL2 : Hid (l2.length = n) := Lib.hid (by rw [HM2.out.len]; exact HL1.out)
        have HS22 : Hid (∀ i, i < n → S (gt l2 i)) := Lib.hid (HM2.out.mem (by omega) HS11.out)
        have hGw : Good wB := HE.out.keep _ _ hG hg
        obtain ⟨G213, hG213⟩ : ∃ G : Bool, G = (decide ((d : Nat) < t) && decide ((t : Nat) < b)) := ⟨_, rfl⟩
        have HG213 := Lib.hid hG213; clear hG213
        go_upto_region 43 with (fail)
        go_cut [213] (fun v wc => v = .bool G213 ∧ wB = wc)
        case first => as_aux_lemma =>
          by_cases h1 : d < t
          · have h1I : (d : Int) < (t : Int) := by omega
            by_cases h2 : t < b
            · have h2I : (t : Int) < (b : Int) := by omega
              go_wp2_with (fail)
              go_meet
              case rel => exact ⟨by rw [HG213.out]; simp [h1, h2], rfl⟩
            · have h2I : ¬ (t : Int) < (b : Int) := by omega
              go_wp2_with (fail)
              go_meet
              case rel => exact ⟨by rw [HG213.out]; simp [h1, h2], rfl⟩
          · have h1I : ¬ (d : Int) < (t : Int) := by omega
            go_wp2_with (fail)
            go_meet
            case rel => exact ⟨by rw [HG213.out]; simp [h1], rfl⟩
        case rest =>
        obtain ⟨rfl, rfl⟩ := hcut
        go_upto_if 213 with (fail)
        cases hg1 : G213 with
        | true => as_aux_lemma =>
          have hst := HG213.out
          rw [hg1] at hst
          have hst2 : d < t ∧ t < b := by simpa using hst.symm
          clear hst
          have C1 := Lib.hid (HREC.out d t b l2 _ (by omega) hst2.1 hst2.2 (by omega) HL2.out hB1 HS22.out hGw (hCD.out.2.2.2.2.2.2.1.keep HM2.out (.inr (Nat.le_refl _))) (hCD.out.2.2.2.2.2.2.2.1.keep HM2.out (.inr ht1)) (hCD.out.2.2.2.2.2.2.2.2.2.1.keep HM2.out (.inr (Nat.le_refl _))))
          go_wp2_with (go_at_call 96; refine C1.out.mono ?_; rintro ee w2 ⟨l3, rfl, hr, hr2, hB2, hg2⟩)
          go_end0
          exact ⟨l3, rfl, (HSR.out.trans (HM2.out.mono (Nat.le_refl _) (by omega))).trans (hr.mono (by omega) (Nat.le_refl _)), halves (by omega) (by omega) hCD.out.2.2.2.2.2.2.2.2.2.2 HM2.out HSS2.out hr hr2, hB2, grown_trans hg hg2⟩
        | false => as_aux_lemma =>
          have hst := HG213.out
          rw [hg1] at hst
          have hst2 : ¬ (d < t ∧ t < b) := by simpa using hst.symm
          clear hst
          have hsrt : Srt ky l1 d b := by
            rcases Nat.eq_or_lt_of_le ht1 with e | h
            · rw [e]; exact hCD.out.2.2.2.2.2.2.2.1
            · have e : t = b := by omega
              have := hCD.out.2.2.2.2.2.2.1
              rwa [e] at this
          have HSRT : Hid (Srt ky l2 d b) := Lib.hid (hsrt.keep HM2.out (.inr (Nat.le_refl _)))
          clear hsrt
          go_wp2_with (fail)
          go_end0
          exact ⟨l2, rfl, HSR.out.trans (HM2.out.mono (Nat.le_refl _) (by omega)), halves (by omega) (by omega) hCD.out.2.2.2.2.2.2.2.2.2.2 HM2.out HSS2.out (Sme.refl _ _ _) HSRT.out, hB1, hg⟩
end Go.Proofs.Ytoklogldehikeaa
