/- Contracts of the functions that divide a line and read a number. -/
import Derived.Test.YtngkdolohokcoaaDoorPlainWord
import Derived.Test.YtngkdolohokcoaaDoorStrs
import Derived.Test.YtngkdolohokcoaaDoorDec
namespace Go.Proofs.YtngkdolohokcoaaDoor
set_option linter.unusedVariables false
set_option linter.unusedSimpArgs false
open Go.RowKit
theorem extract_tx (s : ByteArray) (f k : Nat) : s.extract f k = tx ((s.data.toList.drop f).take (k - f)) := tx_eq (Lib.extract_data s f k)
theorem extract_tx_end (s : ByteArray) (f : Nat) : s.extract f s.size = tx (s.data.toList.drop f) := by
  rw [extract_tx]
  congr 1
  exact List.take_of_length_le (by rw [List.length_drop, len_data]; omega)
theorem byte_at (s : ByteArray) (k : Nat) (h : k < s.size) : s.data.toList[k]? = some s[k] := by
  rw [List.getElem?_eq_getElem (by rw [len_data]; exact h)]
  rfl
theorem digB_isD (c : UInt8) : digB c = isD c := by
  rw [Bool.eq_iff_iff]; simp [digB, isD]; omega
theorem map_snoc_tx (P : List (List UInt8)) (x : List UInt8) : (P ++ [x]).map tx = P.map tx ++ [tx x] := by simp
theorem hid_map (P : List (List UInt8)) {y : ByteArray} {x : List UInt8} (h : y = tx x) : P.map tx ++ [y] = (P ++ [x]).map tx := by rw [h, map_snoc_tx]
set_option maxHeartbeats 2000000 in
theorem l01Split_any (s : ByteArray) (c : UInt8) (w : World) (hs : s.size ≤ 1048576) :
    Calls Tryd.prog 66 #[.string s, .int .u8 (c.toNat : Int)] w fun e w' => ∃ v : Value, e = .returned v ∧ OwnT w' w.heap.size v ((partsL c s.data.toList).map tx) ∧ Below w.heap.size w w' := by
  have hE := OwnT.empty w w.heap.size (Nat.le_refl _)
  have hb0 : Below w.heap.size w (w.alloc (.cells #[] 9)) := below_alloc (Below.refl _ _) _
  go_enter Tryd.func66, Tryd.ntmps66
  go_wp2_with (fail)
  go_loopw [5, 6, 7] (fun s5 s6 s7 wr => ∃ (f k : Nat) (v : Value) (P : List (List UInt8)), k ≤ s.size ∧ s6 = .int .i64 (f : Int) ∧ s7 = .int .i64 (k : Int) ∧ v = s5 ∧ OwnT wr w.heap.size v (P.map tx) ∧ SplitAt c s.data.toList P f k ∧ Below w.heap.size w wr) (fun _ _ s7 _ => s.size - (intOf s7).toNat)
  case atStart => exact ⟨0, 0, _, [], by omega, rfl, rfl, rfl, hE, SplitAt.start _ _, hb0⟩
  case round =>
    clear hE hb0
    obtain ⟨f, k, v, P, hk, rfl, rfl, rfl, hO, hP, hb⟩ := hrel
    have hfk := hP.le
    have hPl : P.length ≤ 1048576 := by have := hP.len; rw [len_data] at this; omega
    have HP := Lib.hid hP
    have HL1 : Hid ((P.map tx).length ≤ 1099511627776) := Lib.hid (by rw [List.length_map]; omega)
    have hsz := hb.size
    have hlt2 := fun q hq => hO.lt q hq
    clear hP
    by_cases hlt : k < s.size
    · by_cases hc : s[k] = c
      · have hc' : (((s[k].toNat : Nat) : Int) == ((c.toNat : Nat) : Int)) = true := by rw [hc, beq_iff_eq]
        have HS := Lib.hid (hid_map P (extract_tx s f k))
        have HN := Lib.hid (HP.out.hit (by rw [byte_at s k hlt, hc]))
        clear hc
        go_wp2_with (at_builtin; refine wpList_app_str rfl (.tmp 20) (.tmp 25) rfl w.heap.size v (P.map tx) (s.extract f k) wr.heap.size 1 rfl rfl (hO.alloc _) (by simp [go_sem]) HL1.out (by simp; omega) ?_; intro v6 w6 hO6 hg6 _)
        rw [HS.out] at hO6
        have hb6 := below_of_grown (below_alloc hb _) hg6 (by simp; omega) (fun k hk => (hlt2 k hk).1)
        go_roundw
        case rel => exact ⟨k + 1, k + 1, v6, _, by omega, by go_num, by go_num, rfl, hO6, HN.out, hb6⟩
        case measure => simp [intOf]; omega
      · have hc' : (((s[k].toNat : Nat) : Int) == ((c.toNat : Nat) : Int)) = false := by
          rw [beq_eq_false_iff_ne]; intro e; exact hc (UInt8.toNat_inj.1 (by omega))
        have HN := Lib.hid (HP.out.miss (byte_at s k hlt) hc)
        clear hc
        go_wp2_with (fail)
        go_roundw
        case rel => exact ⟨f, k + 1, v, P, by omega, rfl, by go_num, rfl, hO, HN.out, hb⟩
        case measure => simp [intOf]; omega
    · have HS := Lib.hid (hid_map P (extract_tx_end s f))
      have HN := Lib.hid (HP.out.last (by rw [len_data]; omega))
      have hfs : f ≤ s.size := by omega
      go_wp2_with (at_builtin; refine wpList_app_str rfl (.tmp 29) (.tmp 33) rfl w.heap.size v (P.map tx) (s.extract f s.size) wr.heap.size 1 rfl rfl (hO.alloc _) (by simp [go_sem]) HL1.out (by simp; omega) ?_; intro v6 w6 hO6 hg6 _)
      rw [HS.out, HN.out] at hO6
      have hb6 := below_of_grown (below_alloc hb _) hg6 (by simp; omega) (fun k hk => (hlt2 k hk).1)
      go_ret
      exact ⟨v6, rfl, hO6, hb6⟩
set_option maxHeartbeats 4000000 in
theorem l01Number_minus (s : ByteArray) (w : World) (hs : s.size ≤ 1048576) (h0 : 1 ≤ s.size) (hp : 0 < s.size) (h45 : s[0].toNat = 45) :
    Calls Tryd.prog 70 #[.string s] w fun e w' => e = .returned (.tuple #[.int .i64 (numV s.data.toList), .bool (numB s.data.toList)]) ∧ w = w' := by
  have HF := Lib.hid (byte_at s 0 hp)
  have HE : Hid (s.data.toList = 45 :: s.data.toList.drop 1) := Lib.hid (by
    have := drop_cons_at HF.out
    rw [List.drop_zero, show s[0] = 45 from UInt8.toNat_inj.1 (by rw [h45]; rfl)] at this
    exact this)
  have h45' : ((s[0].toNat : Int) == 45) = true := by rw [beq_iff_eq]; omega
  clear h45
  by_cases h1 : s.size = 1
  · have HO := Lib.hid (numV_none (numL_m0 HE.out (List.eq_nil_of_length_eq_zero (by rw [List.length_drop, len_data]; omega))))
    have h1' : ((s.size : Int) == 1) = true := by rw [beq_iff_eq]; omega
    clear h1
    go_enter Tryd.func70, Tryd.ntmps70
    go_wp2_with (fail)
    go_ret2
    exact ⟨by rw [HO.out.1, HO.out.2]; rfl, rfl⟩
  have h1 : s.size ≠ 1 := by exact h1
  have h1' : ((s.size : Int) == 1) = false := by rw [beq_eq_false_iff_ne]; omega
  have h1a : 1 < s.size := by omega
  clear h1
  by_cases h18 : 18 < s.size - 1
  · have HO := Lib.hid (numV_none (numL_m18 HE.out (by rw [List.length_drop, len_data]; omega)))
    have h18' : decide ((18 : Int) < (s.size : Int) - 1) = true := by rw [decide_eq_true_eq]; omega
    have h18a : (18 : Int) < (s.size : Int) - 1 := by omega
    go_enter Tryd.func70, Tryd.ntmps70
    go_wp2_with (fail)
    go_ret2
    exact ⟨by rw [HO.out.1, HO.out.2]; rfl, rfl⟩
  have h18a : ¬ (18 : Int) < (s.size : Int) - 1 := by omega
  have h18' : decide ((18 : Int) < (s.size : Int) - 1) = false := by rw [decide_eq_false_iff_not]; omega
  have HA := Lib.hid (byte_at s 1 h1a)
  by_cases h48 : s[1].toNat = 48 ∧ 1 < s.size
  · have HO := Lib.hid (numV_none (numL_m48 HE.out (by rw [List.head?_drop, HA.out]; congr 1; exact UInt8.toNat_inj.1 (by rw [h48.1]; rfl))))
    have h48' : ((s[1].toNat : Int) == 48) = true := by rw [beq_iff_eq]; omega
    have hs1 : 1 < s.size := h48.2
    have hs1a : (1 : Int) < (s.size : Int) := by omega
    clear h48
    go_enter Tryd.func70, Tryd.ntmps70
    go_wp2_with (fail)
    go_ret2
    exact ⟨by rw [HO.out.1, HO.out.2]; rfl, rfl⟩
  have H48 := Lib.hid h48
  have h48' : ((s[1].toNat : Int) == 48) = false := by rw [beq_eq_false_iff_ne]; intro e; exact h48 ⟨by omega, h1a⟩
  clear h48
  all_goals
    go_enter Tryd.func70, Tryd.ntmps70
    go_wp2_with (fail)
    go_loop [5, 6] (fun s5 s6 => ∃ (k n : Nat), k ≤ s.size ∧ s6 = .int .i64 (k : Int) ∧ s5 = .int .i64 (n : Int) ∧ DigAt s.data.toList 1 k n) (fun _ s6 => s.size - (intOf s6).toNat)
    case atStart => exact ⟨1, 0, by omega, rfl, rfl, DigAt.start _ _⟩
    case round =>
      obtain ⟨k, n, hk, rfl, rfl, hD⟩ := hrel
      have hak := hD.le
      have HD := Lib.hid hD
      clear hD
      by_cases hlt : k < s.size
      · have hn := HD.out.lt (by rw [len_data]; omega) (by omega)
        cases hdg : digB s[k] with
        | true =>
          have hbd : 48 ≤ (s[k].toNat : Int) ∧ (s[k].toNat : Int) ≤ 57 := by simpa [digB] using hdg
          have HN := Lib.hid (HD.out.step (byte_at s k hlt) (by rw [← digB_isD]; exact hdg))
          have CD := Lib.hid (fun W => l01Digit_any s[k] W)
          rw [hdg] at CD
          clear hdg
          obtain ⟨hb1, hb2⟩ := hbd
          obtain ⟨d, hd⟩ : ∃ d : Nat, d = s[k].toNat := ⟨_, rfl⟩
          have HDD := Lib.hid hd
          go_wp2_with (refine (CD.out _).mono ?_; rintro e w1 ⟨rfl, rfl⟩)
          go_round
          case rel => exact ⟨k + 1, n * 10 + (s[k].toNat - 48), by omega, by go_num, by congr 1; omega, HN.out⟩
          case measure => simp [intOf]; omega
        | false =>
          have HO := Lib.hid (numV_none (numL_mbad HE.out (digs_bad hak (byte_at s k hlt) (by rw [← digB_isD]; exact hdg))))
          have CD := Lib.hid (fun W => l01Digit_any s[k] W)
          rw [hdg] at CD
          clear hdg
          go_wp2_with (refine (CD.out _).mono ?_; rintro e w1 ⟨rfl, rfl⟩)
          go_ret2
          exact ⟨by rw [HO.out.1, HO.out.2]; rfl, rfl⟩
      · obtain ⟨hall, hval⟩ := HD.out.last (by rw [len_data]; omega)
        have HO := Lib.hid (numV_some (numL_mok HE.out (by intro e; have := congrArg List.length e; rw [List.length_drop, len_data, List.length_nil] at this; omega) (by rw [List.length_drop, len_data]; omega) (by rw [List.head?_drop, HA.out]; intro e; exact H48.out ⟨by rw [show s[1] = 48 by simpa using e]; rfl, h1a⟩) hall))
        have hn2 : n < 1000000000000000000 := by
          have h1 := valD_lt _ 0 hall
          rw [hval, List.length_drop, len_data, Nat.zero_add, Nat.one_mul] at h1
          have h3 : (10 : Nat) ^ (s.size - 1) ≤ 10 ^ 18 := Nat.pow_le_pow_right (by omega) (by omega)
          have h4 : (10 : Nat) ^ 18 = 1000000000000000000 := by decide
          omega
        rw [hval] at HO
        clear hall hval
        go_wp2_with (fail)
        go_ret2
        exact ⟨by rw [HO.out.1, HO.out.2]; rfl, rfl⟩
set_option maxHeartbeats 4000000 in
theorem l01Number_plain (s : ByteArray) (w : World) (hs : s.size ≤ 1048576) (h0 : 0 ≤ s.size) (hp : 0 < s.size) (h45 : s[0].toNat ≠ 45) :
    Calls Tryd.prog 70 #[.string s] w fun e w' => e = .returned (.tuple #[.int .i64 (numV s.data.toList), .bool (numB s.data.toList)]) ∧ w = w' := by
  have HF := Lib.hid (byte_at s 0 hp)
  have HE : Hid (s.data.toList.head? ≠ some 45) := Lib.hid (by
    rw [List.head?_eq_getElem?, HF.out]; intro e
    exact h45 (by rw [show s[0] = 45 by simpa using e]; rfl))
  have h45' : ((s[0].toNat : Int) == 45) = false := by rw [beq_eq_false_iff_ne]; omega
  clear h45
  have h1 : s.size ≠ 0 := by omega
  have h1' : ((s.size : Int) == 0) = false := by rw [beq_eq_false_iff_ne]; omega
  have h1a : 0 < s.size := by omega
  clear h1
  by_cases h18 : 18 < s.size - 0
  · have HO := Lib.hid (numV_none (numL_p18 HE.out (by rw [len_data]; omega)))
    have h18' : decide ((18 : Int) < (s.size : Int)) = true := by rw [decide_eq_true_eq]; omega
    have h18a : (18 : Int) < (s.size : Int) := by omega
    go_enter Tryd.func70, Tryd.ntmps70
    go_wp2_with (fail)
    go_ret2
    exact ⟨by rw [HO.out.1, HO.out.2]; rfl, rfl⟩
  have h18a : ¬ (18 : Int) < (s.size : Int) := by omega
  have h18' : decide ((18 : Int) < (s.size : Int)) = false := by rw [decide_eq_false_iff_not]; omega
  have HA := Lib.hid (byte_at s 0 h1a)
  by_cases h48 : s[0].toNat = 48 ∧ 1 < s.size
  · have HO := Lib.hid (numV_none (numL_p48 HE.out (by rw [List.head?_eq_getElem?, HA.out]; congr 1; exact UInt8.toNat_inj.1 (by rw [h48.1]; rfl)) (by rw [len_data]; exact h48.2)))
    have h48' : ((s[0].toNat : Int) == 48) = true := by rw [beq_iff_eq]; omega
    have hs1 : 1 < s.size := h48.2
    have hs1a : (1 : Int) < (s.size : Int) := by omega
    clear h48
    go_enter Tryd.func70, Tryd.ntmps70
    go_wp2_with (fail)
    go_ret2
    exact ⟨by rw [HO.out.1, HO.out.2]; rfl, rfl⟩
  have H48 := Lib.hid h48
  have hcase : (((s[0].toNat : Int) == 48) = false) ∨ (((s[0].toNat : Int) == 48) = true ∧ ¬ (1 : Int) < (s.size : Int)) := by
    by_cases h : s[0].toNat = 48
    · exact .inr ⟨by rw [beq_iff_eq]; omega, fun h2 => h48 ⟨h, by omega⟩⟩
    · exact .inl (by rw [beq_eq_false_iff_ne]; omega)
  clear h48
  rcases hcase with h48' | ⟨h48', hs1⟩
  all_goals
    go_enter Tryd.func70, Tryd.ntmps70
    go_wp2_with (fail)
    go_loop [5, 6] (fun s5 s6 => ∃ (k n : Nat), k ≤ s.size ∧ s6 = .int .i64 (k : Int) ∧ s5 = .int .i64 (n : Int) ∧ DigAt s.data.toList 0 k n) (fun _ s6 => s.size - (intOf s6).toNat)
    case atStart => exact ⟨0, 0, by omega, rfl, rfl, DigAt.start _ _⟩
    case round =>
      obtain ⟨k, n, hk, rfl, rfl, hD⟩ := hrel
      have hak := hD.le
      have HD := Lib.hid hD
      clear hD
      by_cases hlt : k < s.size
      · have hn := HD.out.lt (by rw [len_data]; omega) (by omega)
        cases hdg : digB s[k] with
        | true =>
          have hbd : 48 ≤ (s[k].toNat : Int) ∧ (s[k].toNat : Int) ≤ 57 := by simpa [digB] using hdg
          have HN := Lib.hid (HD.out.step (byte_at s k hlt) (by rw [← digB_isD]; exact hdg))
          have CD := Lib.hid (fun W => l01Digit_any s[k] W)
          rw [hdg] at CD
          clear hdg
          obtain ⟨hb1, hb2⟩ := hbd
          obtain ⟨d, hd⟩ : ∃ d : Nat, d = s[k].toNat := ⟨_, rfl⟩
          have HDD := Lib.hid hd
          go_wp2_with (refine (CD.out _).mono ?_; rintro e w1 ⟨rfl, rfl⟩)
          go_round
          case rel => exact ⟨k + 1, n * 10 + (s[k].toNat - 48), by omega, by go_num, by congr 1; omega, HN.out⟩
          case measure => simp [intOf]; omega
        | false =>
          have HO := Lib.hid (numV_none (numL_pbad HE.out (by have := digs_bad hak (byte_at s k hlt) (by rw [← digB_isD]; exact hdg); rwa [List.drop_zero] at this)))
          have CD := Lib.hid (fun W => l01Digit_any s[k] W)
          rw [hdg] at CD
          clear hdg
          go_wp2_with (refine (CD.out _).mono ?_; rintro e w1 ⟨rfl, rfl⟩)
          go_ret2
          exact ⟨by rw [HO.out.1, HO.out.2]; rfl, rfl⟩
      · obtain ⟨hall, hval⟩ := HD.out.last (by rw [len_data]; omega)
        have HO := Lib.hid (numV_some (numL_pok HE.out (by intro e; have := congrArg List.length e; rw [len_data, List.length_nil] at this; omega) (by rw [len_data]; omega) (by rw [List.head?_eq_getElem?, HA.out, len_data]; intro e; have := H48.out; have h9 : s[0].toNat = 48 := (by rw [show s[0] = 48 by simpa using e]; rfl); omega) (by rwa [List.drop_zero] at hall)))
        have hn2 : n < 1000000000000000000 := by
          have h1 := valD_lt _ 0 hall
          rw [hval, List.length_drop, len_data, Nat.zero_add, Nat.one_mul] at h1
          have h3 : (10 : Nat) ^ (s.size - 0) ≤ 10 ^ 18 := Nat.pow_le_pow_right (by omega) (by omega)
          have h4 : (10 : Nat) ^ 18 = 1000000000000000000 := by decide
          omega
        rw [show valD 0 s.data.toList = n by rw [← hval, List.drop_zero]] at HO
        clear hall hval
        go_wp2_with (fail)
        go_ret2
        exact ⟨by rw [HO.out.1, HO.out.2]; rfl, rfl⟩
theorem l01Number_any (s : ByteArray) (w : World) (hs : s.size ≤ 1048576) :
    Calls Tryd.prog 70 #[.string s] w fun e w' => e = .returned (.tuple #[.int .i64 (numV s.data.toList), .bool (numB s.data.toList)]) ∧ w = w' := by
  by_cases h0 : s.size = 0
  · obtain rfl : s = ⟨#[]⟩ := ba_ext (List.eq_nil_of_length_eq_zero (by rw [len_data]; exact h0))
    have HO := Lib.hid (numV_none numL_nil)
    clear h0 hs
    go_enter Tryd.func70, Tryd.ntmps70
    go_wp2_with (fail)
    go_ret2
    exact ⟨by show _ = Ending.returned (.tuple #[.int .i64 (numV []), .bool (numB [])]); rw [HO.out.1, HO.out.2]; rfl, rfl⟩
  · by_cases h45 : s[0].toNat = 45
    · exact l01Number_minus s w hs (by omega) (by omega) h45
    · exact l01Number_plain s w hs (by omega) (by omega) h45
end Go.Proofs.YtngkdolohokcoaaDoor
