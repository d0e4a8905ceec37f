/- The library's stable sort at rows of at most 24 rising numbers: the row that is sorted by a key, equals in their order. -/
import Derived.Test.YtoklogldehikeaaSortM3
namespace Go.Proofs.Ytoklogldehikeaa
set_option linter.unusedVariables false
set_option linter.unusedSimpArgs false
open Go.RowKit
theorem symm_any {fid q g : Nat} {ky : Int → Int} {cf : Int → Int → Int} {S : Int → Prop} {Good : World → Prop} (E : CmpEnv fid q g ky cf S Good) (n cap : Nat) (rest : List Value) (hn : n ≤ 1000000) :
    ∀ (fuel a m b : Nat) (l : List Int) (w : World), b - a ≤ fuel → a < m → m < b → b ≤ n → l.length = n → Blk w g 2 (numCells l ++ rest) → (∀ i, i < n → S (gt l i)) → Good w → Srt ky l a m → Srt ky l m b → Lss l a m b →
      Calls Try.prog 96 #[.slice (some ⟨g, 0, none⟩) n cap, .int .i64 (a : Int), .int .i64 (m : Int), .int .i64 (b : Int), .func (.func fid) #[] #[.pointer (some ⟨q, 0, none⟩)]] w (SortPost g a b ky l rest w) := by
  intro fuel
  induction fuel with
  | zero => intro a m b l w h1 h2 h3; omega
  | succ fuel ih =>
    intro a m b l w h1 ham hmb hbn hl hB hS hG hs1 hs2 hls
    by_cases e1 : m = a + 1
    · exact symm1_any E n cap a m b l rest w hl hn e1 hmb hbn hB hS hG hs2 hls
    · by_cases e2 : b = m + 1
      · exact symm2_any E n cap a m b l rest w hl hn (by omega) e2 hbn hB hS hG hs1 hls
      · exact symm3_any E n cap a m b l rest w hl hn (by omega) (by omega) hbn hB hS hG hs1 hs2 hls (fun a' m' b' l' W h2 h3 h4 h5 h6 h7 h8 h9 h10 h11 h12 => ih a' m' b' l' W (by omega) h3 h4 h5 h6 h7 h8 h9 h10 h11 h12)
set_option maxRecDepth 100000 in
set_option maxHeartbeats 3200000 in
theorem stable_any {fid q g : Nat} {ky : Int → Int} {cf : Int → Int → Int} {S : Int → Prop} {Good : World → Prop} (E : CmpEnv fid q g ky cf S Good) (n cap : Nat) (l : List Int) (rest : List Value) (w : World) (hl : l.length = n) (hn : n ≤ 24) (hB : Blk w g 2 (numCells l ++ rest)) (hS : ∀ i, i < n → S (gt l i)) (hG : Good w) (hinc : ∀ i j, i < j → j < n → gt l i < gt l j) :
    Calls Try.prog 84 #[.slice (some ⟨g, 0, none⟩) n cap, .int .i64 (n : Int), .func (.func fid) #[] #[.pointer (some ⟨q, 0, none⟩)]] w (SortPost g 0 n ky l rest w) := by
  have HL := Lib.hid hl; clear hl
  have HI := Lib.hid hinc; clear hinc
  have HS := Lib.hid hS; clear hS
  have HE := Lib.hid E; clear E
  have hb0 : w.grownBy w (some g) := grown_of_below (Below.refl _ _) _
  go_enter Try.func84, Try.ntmps84
  go_wp2_with (fail)
  go_loopw [7, 8] (fun s1 s2 wr => ∃ (a : Nat) (l' : List Int), s1 = .int .i64 (a : Int) ∧ s2 = .int .i64 ((a : Int) + 20) ∧ (a = 0 ∨ (a = 20 ∧ 20 ≤ n)) ∧ Sme l l' 0 a ∧ Srt ky l' 0 a ∧ Blk wr g 2 (numCells l' ++ rest) ∧ w.grownBy wr (some g)) (fun s1 _ _ => 40 - (intOf s1).toNat)
  case atStart => exact ⟨0, l, rfl, rfl, .inl rfl, Sme.refl _ _ _, fun i j h1 h2 h3 => by omega, hB, hb0⟩
  case round =>
    obtain ⟨a, l1, rfl, rfl, ha, hm, hs, hB1, hg⟩ := hrel
    have HM := Lib.hid hm; clear hm
    have HSR := Lib.hid hs; clear hs
    have HL1 : Hid (l1.length = n) := Lib.hid (by rw [HM.out.len]; exact HL.out)
    have HS1 : Hid (∀ i, i < n → S (gt l1 i)) := Lib.hid (HM.out.mem (by omega) HS.out)
    have hGw : Good wr := HE.out.keep _ _ hG hg
    by_cases hlt : a + 20 ≤ n
    · obtain rfl : a = 0 := by omega
      have C1 := Lib.hid (isort_any HE.out n cap 0 20 l1 rest wr HL1.out (by omega) (by omega) (by omega) hB1 HS1.out hGw (fun i j h1 h2 h3 => by
        rw [HM.out.out i (.inr (by omega)), HM.out.out j (.inr (by omega))]; exact HI.out i j h2 (by omega)))
      have hlt' : (20 : Int) ≤ (n : Int) := by omega
      clear ha hlt
      simp only [Int.natCast_zero, Int.zero_add]
      simp only [Int.natCast_zero, show ((20 : Nat) : Int) = 20 from rfl] at C1
      go_wp2_with (refine C1.out.mono ?_; rintro ee w2 ⟨l2, rfl, hr, hr2, hB2, hg2⟩)
      have HR := Lib.hid hr; clear hr
      have HR2 := Lib.hid hr2; clear hr2
      go_roundw
      case rel => exact ⟨20, l2, rfl, rfl, .inr ⟨rfl, by omega⟩, (HM.out.mono (Nat.le_refl _) (by omega)).trans HR.out, HR2.out, hB2, grown_trans hg hg2⟩
      case measure => simp [intOf]
    · have hlt' : ¬ (a : Int) + 20 ≤ (n : Int) := by omega
      have han : a ≤ n := by omega
      have C1 := Lib.hid (isort_any HE.out n cap a n l1 rest wr HL1.out (by omega) (Nat.le_refl _) (by omega) hB1 HS1.out hGw (fun i j h1 h2 h3 => by
        rw [HM.out.out i (.inr h1), HM.out.out j (.inr (by omega))]; exact HI.out i j h2 h3))
      go_wp2_with (refine C1.out.mono ?_; rintro ee w2 ⟨l2, rfl, hr, hr2, hB2, hg2⟩)
      have HR := Lib.hid hr; clear hr
      have HR2 := Lib.hid hr2; clear hr2
      have hg3 := grown_trans hg hg2
      have HSM : Hid (Sme l l2 0 n) := Lib.hid ((HM.out.mono (Nat.le_refl _) han).trans (HR.out.mono (by omega) (Nat.le_refl _)))
      have HLT : Hid (20 < n → Srt ky l2 0 20 ∧ Srt ky l2 20 n ∧ Lss l2 0 20 n) := Lib.hid (fun h => by
        obtain rfl : a = 20 := by omega
        exact ⟨HSR.out.keep HR.out (.inl (Nat.le_refl _)), HR2.out, Lss.sme (l1 := l) (fun i j h1 h2 h3 h4 => HI.out i j (by omega) h4) HM.out HR.out⟩)
      have HLE : Hid (n ≤ 20 → Srt ky l2 0 n) := Lib.hid (fun h => by
        rcases ha with rfl | ⟨rfl, h20⟩
        · exact HR2.out
        · obtain rfl : n = 20 := by omega
          exact HSR.out.keep HR.out (.inl (Nat.le_refl _)))
      clear HM HSR HL1 HS1 hGw hB1 hg hg2 C1 hlt hlt' ha han HR HR2
      go_loopw [6, 7, 8, 9] (fun s1 s2 s3 s4 wr => ∃ (l' : List Int), ((s1 = .int .i64 20 ∧ l' = l2) ∨ (s1 = .int .i64 40 ∧ Srt ky l' 0 n)) ∧ Sme l l' 0 n ∧ Blk wr g 2 (numCells l' ++ rest) ∧ w.grownBy wr (some g)) (fun s1 _ _ _ _ => 40 - (intOf s1).toNat)
      case atStart => exact ⟨l2, .inl ⟨rfl, rfl⟩, HSM.out, hB2, hg3⟩
      case round =>
        clear hB2 hg3
        obtain ⟨l3, hcase, hm, hB3, hg⟩ := hrel
        have HM := Lib.hid hm; clear hm
        rcases hcase with ⟨rfl, rfl⟩ | ⟨rfl, hs⟩
        · by_cases h20 : 20 < n
          · have h20' : (20 : Int) < (n : Int) := by omega
            have h40 : ¬ (40 : Int) ≤ (n : Int) := by omega
            have hl3 : l3.length = n := by rw [HM.out.len]; exact HL.out
            have C1 := Lib.hid (symm_any HE.out n cap rest (by omega) n 0 20 n l3 wr (by omega) (by omega) h20 (Nat.le_refl _) hl3 hB3 (HM.out.mem (Nat.le_refl _) HS.out) (HE.out.keep _ _ hG hg) (HLT.out h20).1 (HLT.out h20).2.1 (HLT.out h20).2.2)
            clear hl3
            simp only [Int.natCast_zero, show ((20 : Nat) : Int) = 20 from rfl] at C1
            go_wp2_with (fail)
            obtain ⟨wo, rfl⟩ : ∃ wo : World, wo = wr := ⟨_, rfl⟩
            go_loopw [7, 8] (fun s1 s2 wr => s1 = .int .i64 0 ∧ s2 = .int .i64 40 ∧ wo = wr) (fun _ _ _ => 0)
            case atStart => exact ⟨rfl, rfl, rfl⟩
            case round =>
              obtain ⟨rfl, rfl, rfl⟩ := hrel
              go_wp2_with (refine C1.out.mono ?_; rintro ee w4 ⟨l4, rfl, hr, hr2, hB4, hg4⟩)
              have HR := Lib.hid hr; clear hr
              have HR2 := Lib.hid hr2; clear hr2
              go_roundw
              case rel => exact ⟨l4, .inr ⟨rfl, HR2.out⟩, HM.out.trans HR.out, hB4, grown_trans hg hg4⟩
              case measure => simp [intOf]
          · have h20' : ¬ (20 : Int) < (n : Int) := by omega
            have HZ := Lib.hid (HLE.out (by omega))
            go_wp2_with (fail)
            go_end0
            exact ⟨l3, rfl, HM.out, HZ.out, hB3, hg⟩
        · have h40 : ¬ (40 : Int) < (n : Int) := by omega
          have HZ := Lib.hid hs; clear hs
          go_wp2_with (fail)
          go_end0
          exact ⟨l3, rfl, HM.out, HZ.out, hB3, hg⟩
set_option maxHeartbeats 1000000 in
theorem sortStable_any {fid q g : Nat} {ky : Int → Int} {cf : Int → Int → Int} {S : Int → Prop} {Good : World → Prop} (E : CmpEnv fid q g ky cf S Good) (n cap : Nat) (l : List Int) (rest : List Value) (w : World) (hl : l.length = n) (hn : n ≤ 24) (hB : Blk w g 2 (numCells l ++ rest)) (hS : ∀ i, i < n → S (gt l i)) (hG : Good w) (hinc : ∀ i j, i < j → j < n → gt l i < gt l j) :
    Calls Try.prog 61 #[.slice (some ⟨g, 0, none⟩) n cap, .func (.func fid) #[] #[.pointer (some ⟨q, 0, none⟩)]] w (SortPost g 0 n ky l rest w) := by
  have C := Lib.hid (stable_any E n cap l rest w hl hn hB hS hG hinc)
  clear E hl hS hG hinc hB
  go_enter Try.func61, Try.ntmps61
  go_wp2_with (refine C.out.mono ?_; rintro ee w2 ⟨l2, rfl, h1, h2, h3, h4⟩)
  go_end0
  exact ⟨l2, rfl, h1, h2, h3, h4⟩
end Go.Proofs.Ytoklogldehikeaa
