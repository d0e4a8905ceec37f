/- Contracts of the functions that read angles. -/
import Derived.Test.YtngkdolohokcoaaDoorRead
import Derived.Test.YtngkdolohokcoaaDoorAngT
import Derived.Deep.DeepCutAuto
import Derived.IntWalk
namespace Go.Proofs.YtngkdolohokcoaaDoor
set_option linter.unusedVariables false
set_option linter.unusedSimpArgs false
open Go.RowKit
attribute [local go_sem ↓] Go.wp_at_zero Go.wp_at_succ
def angV (l : List UInt8) : Int := (angR l).getD 0
def angB (l : List UInt8) : Bool := (angR l).isSome
theorem angV_none {l : List UInt8} (h : angR l = none) : angV l = 0 ∧ angB l = false := by simp [angV, angB, h]
theorem angV_some {l : List UInt8} {n : Int} (h : angR l = some n) : angV l = n ∧ angB l = true := by simp [angV, angB, h]
theorem ang_no1 {l : List UInt8} (h : Lib.indexByte l 46 < 0) : angR l = none := by rw [← ang_eq]; unfold angI; rw [if_pos (.inl h)]
theorem ang_no2 {l : List UInt8} (h : (l.length : Int) ≠ Lib.indexByte l 46 + 4) : angR l = none := by rw [← ang_eq]; unfold angI; rw [if_pos (.inr h)]
theorem ang_ok {l : List UInt8} {k : Nat} {n : Int} (h : Lib.indexByte l 46 = k) (h2 : (l.length : Int) = Lib.indexByte l 46 + 4) (hp : Lib.parseIntB 64 (l.take k ++ l.drop (k + 1)) = .ok n) : angR l = if angText n = l then some n else none := by
  rw [← ang_eq]; unfold angI; rw [if_neg (by rintro (h3 | h3); omega; exact h3 h2), h, Int.toNat_natCast, hp]
theorem ang_fail {l : List UInt8} {k : Nat} (h : Lib.indexByte l 46 = k) (hp : ∀ n, Lib.parseIntB 64 (l.take k ++ l.drop (k + 1)) ≠ .ok n) : angR l = none := by
  rw [← ang_eq]; unfold angI
  split
  · rfl
  · rw [h, Int.toNat_natCast]
    split
    · rename_i n hn; exact absurd hn (hp n)
    · rfl
theorem indexByte_le (c : UInt8) : ∀ l : List UInt8, Lib.indexByte l c ≤ l.length ∧ -1 ≤ Lib.indexByte l c
  | [] => by simp [Lib.indexByte]
  | b :: r => by
    have ih := indexByte_le c r
    unfold Lib.indexByte
    simp only [List.length_cons]
    split
    · omega
    · split <;> omega
/-- the digits of an angle so far -/
def angPre (t : List UInt8) (m k : Nat) : List UInt8 := t.take (min k m) ++ (t.take k).drop (m + 1)
theorem angPre_short {t : List UInt8} {m k : Nat} (h : k ≤ m + 1) : (t.take k).drop (m + 1) = [] := List.drop_eq_nil_of_le (by rw [List.length_take]; omega)
theorem angPre_zero (t : List UInt8) (m : Nat) : angPre t m 0 = [] := by simp [angPre]
theorem angPre_low {t : List UInt8} {m k : Nat} {b : UInt8} (h : k < m) (hb : t[k]? = some b) : angPre t m (k + 1) = angPre t m k ++ [b] := by
  unfold angPre
  rw [angPre_short (by omega), angPre_short (by omega), show min (k + 1) m = k + 1 by omega, show min k m = k by omega, List.take_add_one, hb]
  simp
theorem angPre_dot (t : List UInt8) (m : Nat) : angPre t m (m + 1) = angPre t m m := by
  unfold angPre
  rw [angPre_short (by omega), angPre_short (by omega), show min (m + 1) m = m by omega, show min m m = m by omega]
theorem angPre_high {t : List UInt8} {m k : Nat} {b : UInt8} (h : m < k) (hb : t[k]? = some b) : angPre t m (k + 1) = angPre t m k ++ [b] := by
  have hk : k < t.length := (List.getElem?_eq_some_iff.1 hb).1
  unfold angPre
  rw [show min (k + 1) m = m by omega, show min k m = m by omega, List.take_add_one, hb]
  simp only [Option.toList]
  rw [List.drop_append_of_le_length (by rw [List.length_take]; omega), List.append_assoc]
theorem angPre_end {t : List UInt8} {m : Nat} (h : t.length = m + 4) : angPre t m (m + 4) = angDs t := by
  unfold angPre angDs
  rw [h, show min (m + 4) m = m by omega, List.take_of_length_le (by omega : t.length ≤ m + 4)]
  rfl
structure AngAt (t : List UInt8) (m k n : Nat) : Prop where
  all : (angPre t m k).all isD = true
  val : valD 0 (angPre t m k) = n
theorem AngAt.start (t : List UInt8) (m : Nat) : AngAt t m 0 0 := ⟨by rw [angPre_zero]; rfl, by rw [angPre_zero]; rfl⟩
theorem AngAt.step {t : List UInt8} {m k n : Nat} {b : UInt8} (h : AngAt t m k n) (hk : k ≠ m) (hb : t[k]? = some b) (hd : isD b = true) : AngAt t m (k + 1) (n * 10 + (b.toNat - 48)) := by
  have e : angPre t m (k + 1) = angPre t m k ++ [b] := by
    by_cases h1 : k < m
    · exact angPre_low h1 hb
    · exact angPre_high (by omega) hb
  exact ⟨by rw [e, List.all_append, h.all]; simp [hd], by rw [e, valD_snoc, h.val]⟩
theorem AngAt.dot {t : List UInt8} {m n : Nat} (h : AngAt t m m n) : AngAt t m (m + 1) n := ⟨by rw [angPre_dot]; exact h.all, by rw [angPre_dot]; exact h.val⟩
theorem AngAt.lt {t : List UInt8} {m k n : Nat} (h : AngAt t m k n) (hk : k ≤ 7) : n < 100000000 := by
  have h2 := valD_lt _ 0 h.all
  have h5 : (angPre t m k).length ≤ 8 := by
    unfold angPre
    rw [List.length_append, List.length_take, List.length_drop, List.length_take]; omega
  rw [h.val, Nat.zero_add, Nat.one_mul] at h2
  have h3 : (10 : Nat) ^ (angPre t m k).length ≤ 10 ^ 8 := Nat.pow_le_pow_right (by omega) h5
  have h4 : (10 : Nat) ^ 8 = 100000000 := by decide
  omega
theorem ang_bad {t : List UInt8} {m k : Nat} {b : UInt8} (h : t.length = m + 4) (hk : k ≠ m) (hb : t[k]? = some b) (hd : isD b = false) : (angDs t).all isD = false := by
  rw [Bool.eq_false_iff]
  intro hall
  have hl : k < t.length := (List.getElem?_eq_some_iff.1 hb).1
  have hmem : b ∈ angDs t := by
    unfold angDs
    rw [h]
    by_cases h1 : k < m
    · exact List.mem_append_left _ (List.mem_of_getElem? (i := k) (by rw [List.getElem?_take, if_pos (by omega)]; exact hb))
    · exact List.mem_append_right _ (List.mem_of_getElem? (i := k - (m + 1)) (by rw [List.getElem?_drop, show m + 4 - 3 + (k - (m + 1)) = k by omega]; exact hb))
  have := List.all_eq_true.1 hall b hmem
  rw [hd] at this; cases this
theorem angR_sh {l t : List UInt8} (e : angTl l = t) (h : t.length < 5) : angR l = none := by unfold angR; rw [e, if_pos (.inl h)]
theorem angR_lo {l t : List UInt8} (e : angTl l = t) (h : 7 < t.length) : angR l = none := by unfold angR; rw [e, if_pos (.inr (.inl h))]
theorem angR_dt {l t : List UInt8} (e : angTl l = t) (h : t[t.length - 4]? ≠ some 46) : angR l = none := by unfold angR; rw [e, if_pos (.inr (.inr h))]
theorem angR_bd {l t : List UInt8} (e : angTl l = t) (h : (angDs t).all isD = false) : angR l = none := by
  unfold angR; rw [e]; split
  · rfl
  · rw [if_neg (by rw [h]; exact Bool.false_ne_true)]
theorem angR_end {l t : List UInt8} {m : Nat} (e : angTl l = t) (hl : t.length = m + 4) (h1 : 1 ≤ m) (h2 : m ≤ 3) (h46 : t[m]? = some 46) (hall : (angDs t).all isD = true) : angR l = if inB (angVal l) (-359999) 359999 = true ∧ angT (angVal l) = l then some (angVal l) else none := by
  unfold angR
  rw [e, if_neg, if_pos hall]
  rw [hl]
  rintro (h | h | h)
  · omega
  · omega
  · exact h (by rw [show m + 4 - 4 = m by omega]; exact h46)
set_option maxHeartbeats 2000000 in
theorem ReadAngle_any (s : ByteArray) (w : World) (hs : s.size ≤ 1048576) (hT : TxtOk w) :
    Calls Tryd.prog 65 #[.string s] w fun e w' => e = .returned (.tuple #[.int .i64 (angV s.data.toList), .bool (angB s.data.toList)]) ∧ Below w.heap.size w w' := by
  obtain ⟨ix, hix⟩ : ∃ ix, ix = Lib.indexByte s.data.toList 46 := ⟨_, rfl⟩
  have CX : Hid (∀ W, Calls Tryd.prog 96 #[.string s, .int .u8 46] W fun e w' => e = .returned (.int .i64 ix) ∧ W = w') := Lib.hid (fun W => (Any.strings_IndexByte Tryd.laysIdx s 46 W).mono fun e w' ⟨he, hw⟩ => ⟨by rw [he, hix]; rfl, hw.symm⟩)
  have hle := indexByte_le 46 s.data.toList
  rw [← hix, len_data] at hle
  obtain ⟨hle1, hle2⟩ := hle
  by_cases c1 : ix < 0
  · have HO := Lib.hid (angV_none (ang_no1 (l := s.data.toList) (by rw [← hix]; exact c1)))
    clear hix
    go_enter Tryd.func65, Tryd.ntmps65
    go_wp2_with (refine (CX.out _).mono ?_; rintro e w1 ⟨rfl, rfl⟩)
    go_ret2
    exact ⟨by rw [HO.out.1, HO.out.2]; rfl, Below.refl _ _⟩
  by_cases c2 : (s.size : Int) = ix + 4
  · obtain ⟨k, hk⟩ : ∃ k : Nat, ix = k := ⟨ix.toNat, by omega⟩
    have hkl := hix.symm.trans hk
    subst hk
    have hl2 : ((s.data.toList.length : Nat) : Int) = Lib.indexByte s.data.toList 46 + 4 := by rw [len_data, ← hix]; exact c2
    have c2' : ((s.size : Int) != (k : Int) + 4) = false := by rw [bne_eq_false_iff_eq]; exact c2
    have c2b : ((s.size : Int) == (k : Int) + 4) = true := by rw [beq_iff_eq]; exact c2
    have hks : k + 1 ≤ s.size := by omega
    have b1 : (0 : Int) ≤ (k : Int) := by omega
    have b2 : (k : Int) ≤ (s.size : Int) := by omega
    have b3 : (k : Int) + 1 ≤ (s.size : Int) := by omega
    have b4 : (0 : Int) ≤ (k : Int) + 1 := by omega
    have b5 : IntKind.i64.wrap ((k : Int) + 1) = (k : Int) + 1 := IntWalk.i64_in _ (by omega)
    have b6 : ((k : Int) + 1).toNat = k + 1 := by omega
    obtain ⟨p1, q1, e1⟩ := add_ex (s.extract 0 k) (s.extract (k + 1) s.size) (Lib.hid (Lib.extract_from_zero s k)) (Lib.hid (Lib.extract_to_end s (k + 1))) (by rw [List.length_take, List.length_drop, len_data]; omega)
    have hp1 : p1.size ≤ 1048576 := by rw [← len_data, e1.out, List.length_append, List.length_take, List.length_drop, len_data]; omega
    rcases hp : Lib.parseIntB 64 p1.data.toList with n | _ | _
    · skip
      have hi := parse_i64 hp
      have CP := Lib.hid (fun W => ParseInt_ok p1 n W hp1 hp)
      rw [e1.out] at hp
      have hn := ang_ok hkl hl2 hp
      obtain ⟨T, hTx⟩ : ∃ T, T = tx (angText n) := ⟨_, rfl⟩
      have CA : Hid (∀ W, Below w.heap.size w W → Calls Tryd.prog 48 #[.int .i64 n] W fun e w' => e = .returned (.string T) ∧ Below W.heap.size W w') := Lib.hid (fun W hb => by rw [hTx]; exact AngleText_any n W hi (hT.pow.below hb))
      have hq : ∃ b, (T.toList == s.toList) = b ∧ (angV s.data.toList = if b then n else 0) ∧ angB s.data.toList = b := by
        by_cases he : angText n = s.data.toList
        · rw [if_pos he] at hn
          exact ⟨true, eqs_yes (hTx.trans (tx_eq2 he)), (angV_some hn).1, (angV_some hn).2⟩
        · rw [if_neg he] at hn
          exact ⟨false, eqs_no (by rw [hTx]; exact tx_ne he), (angV_none hn).1, (angV_none hn).2⟩
      obtain ⟨b, hq1, hq2, hq3⟩ := hq
      have HQ2 := Lib.hid hq2
      have HQ3 := Lib.hid hq3
      clear hix hkl hl2 hp hn hTx hq2 hq3 c1 c2 hle1 hle2 hi
      cases b with
      | true =>
        go_enter Tryd.func65, Tryd.ntmps65
        go_wp2_with (refine (CX.out _).mono ?_; rintro e w1 ⟨rfl, rfl⟩)
        (refine later_intro_wp ?_; intro y)
        (refine wp_region_later (by kernel_rfl) (by kernel_rfl) ?_; (repeat (first | go_big_quiet_step ((go_at_call 97; exact later_below (CP.out _))) | quiet_step ((go_at_call 97; exact later_below (CP.out _))))); refine wpQuiet_nil ?_; rintro _ ⟨y, rfl⟩)
        go_wp2_with (refine (CA.out _ (Later.below _)).mono ?_; rintro e w3 ⟨rfl, hb3⟩)
        go_ret2
        exact ⟨by rw [HQ2.out, HQ3.out]; rfl, below_step (Later.below _) hb3⟩
      | false =>
        go_enter Tryd.func65, Tryd.ntmps65
        go_wp2_with (refine (CX.out _).mono ?_; rintro e w1 ⟨rfl, rfl⟩)
        (refine later_intro_wp ?_; intro y)
        (refine wp_region_later (by kernel_rfl) (by kernel_rfl) ?_; (repeat (first | go_big_quiet_step ((go_at_call 97; exact later_below (CP.out _))) | quiet_step ((go_at_call 97; exact later_below (CP.out _))))); refine wpQuiet_nil ?_; rintro _ ⟨y, rfl⟩)
        go_wp2_with (refine (CA.out _ (Later.below _)).mono ?_; rintro e w3 ⟨rfl, hb3⟩)
        go_ret2
        exact ⟨by rw [HQ2.out, HQ3.out]; rfl, below_step (Later.below _) hb3⟩
    · skip
      have hno : ∀ v, Lib.parseIntB 64 p1.data.toList ≠ .ok v := fun v e => by rw [hp] at e; cases e
      have CP := Lib.hid (fun W hb => ParseInt_bad p1 W hp1 hno (hT.below (w' := W) hb))
      rw [e1.out] at hno
      have HO := Lib.hid (angV_none (ang_fail hkl hno))
      clear hix hkl hl2 hp hno c1 c2 hle1 hle2
      go_enter Tryd.func65, Tryd.ntmps65
      go_wp2_with (refine (CX.out _).mono ?_; rintro e w1 ⟨rfl, rfl⟩)
      go_region_held3 (fun w' => Below w.heap.size w w') ((first | assumption | exact Below.refl _ _ | exact below_drew0 (Below.refl _ _) | exact below_step (by first | assumption | exact Below.refl _ _ | exact below_drew0 (Below.refl _ _)) (by assumption)))
        ((go_at_call 97; refine (CP.out _ (by first | assumption | exact Below.refl _ _ | exact below_drew0 (Below.refl _ _))).mono ?_; rintro e w2 ⟨x, N, rfl, hb2⟩))
      all_goals
        go_wp2_with (fail)
        go_ret2
        exact ⟨by rw [HO.out.1, HO.out.2]; rfl, by first | assumption | exact below_step (below_drew0 (Below.refl _ _)) (by assumption)⟩
    · skip
      have hno : ∀ v, Lib.parseIntB 64 p1.data.toList ≠ .ok v := fun v e => by rw [hp] at e; cases e
      have CP := Lib.hid (fun W hb => ParseInt_bad p1 W hp1 hno (hT.below (w' := W) hb))
      rw [e1.out] at hno
      have HO := Lib.hid (angV_none (ang_fail hkl hno))
      clear hix hkl hl2 hp hno c1 c2 hle1 hle2
      go_enter Tryd.func65, Tryd.ntmps65
      go_wp2_with (refine (CX.out _).mono ?_; rintro e w1 ⟨rfl, rfl⟩)
      go_region_held3 (fun w' => Below w.heap.size w w') ((first | assumption | exact Below.refl _ _ | exact below_drew0 (Below.refl _ _) | exact below_step (by first | assumption | exact Below.refl _ _ | exact below_drew0 (Below.refl _ _)) (by assumption)))
        ((go_at_call 97; refine (CP.out _ (by first | assumption | exact Below.refl _ _ | exact below_drew0 (Below.refl _ _))).mono ?_; rintro e w2 ⟨x, N, rfl, hb2⟩))
      all_goals
        go_wp2_with (fail)
        go_ret2
        exact ⟨by rw [HO.out.1, HO.out.2]; rfl, by first | assumption | exact below_step (below_drew0 (Below.refl _ _)) (by assumption)⟩
  · have HO := Lib.hid (angV_none (ang_no2 (l := s.data.toList) (by rw [len_data, ← hix]; exact c2)))
    have c2' : ((s.size : Int) != ix + 4) = true := by rw [bne_iff_ne]; exact c2
    have c1' : 0 ≤ ix := by omega
    clear hix
    go_enter Tryd.func65, Tryd.ntmps65
    go_wp2_with (refine (CX.out _).mono ?_; rintro e w1 ⟨rfl, rfl⟩)
    go_ret2
    exact ⟨by rw [HO.out.1, HO.out.2]; rfl, Below.refl _ _⟩
set_option maxHeartbeats 4000000 in
theorem l02Read_minus (s : ByteArray) (w : World) (hs : s.size ≤ 1048576) (hp : 0 < s.size) (h45 : s[0].toNat = 45) :
    Calls Tryd.prog 95 #[.string s] w fun e w' => e = .returned (.tuple #[.int .i64 (angV s.data.toList), .bool (angB s.data.toList)]) ∧ Below w.heap.size w w' := by
  have HF := Lib.hid (byte_at s 0 hp)
  have HH : Hid (s.data.toList.head? = some 45) := Lib.hid (by rw [List.head?_eq_getElem?, HF.out, show s[0] = 45 from UInt8.toNat_inj.1 (by rw [h45]; rfl)])
  have h45' : ((s[0].toNat : Int) == 45) = true := by rw [beq_iff_eq]; omega
  clear h45
  go_enter Tryd.func95, Tryd.ntmps95
  go_upto_region 6 with (fail)
  generalize hTs : s.extract 1 s.size = T at *
  have HTL : Hid (angTl s.data.toList = T.data.toList) := Lib.hid (by
    unfold angTl
    rw [if_pos HH.out, ← hTs, Lib.extract_to_end, List.drop_one])
  have HTS := Lib.hid hTs
  clear hTs
  by_cases c1 : T.size < 5
  · have HO := Lib.hid (angV_none (angR_sh HTL.out (by rw [len_data]; exact c1)))
    go_wp2_with (fail)
    go_ret2
    exact ⟨by rw [HO.out.1, HO.out.2]; rfl, Below.refl _ _⟩
  by_cases c2 : 7 < T.size
  · have HO := Lib.hid (angV_none (angR_lo HTL.out (by rw [len_data]; exact c2)))
    go_wp2_with (fail)
    go_ret2
    exact ⟨by rw [HO.out.1, HO.out.2]; rfl, Below.refl _ _⟩
  obtain ⟨m, hm⟩ : ∃ m, T.size = m + 4 := ⟨T.size - 4, by omega⟩
  have hm1 : 1 ≤ m := by omega
  have hm3 : m ≤ 3 := by omega
  have hmT : m < T.size := by omega
  have hmi : (T.size : Int) - 4 = (m : Int) := by omega
  have HM := Lib.hid hm
  have d5 : decide ((m : Int) + 4 < 5) = false := decide_eq_false (by omega)
  have d7 : decide ((7 : Int) < (m : Int) + 4) = false := decide_eq_false (by omega)
  have HMI := Lib.hid hmi
  have hT5 : 5 ≤ T.size := by omega
  have hT7 : T.size ≤ 7 := by omega
  clear c1 c2
  by_cases h46 : T[m].toNat = 46
  · have h46' : ((T[m].toNat : Int) == 46) = true := by rw [beq_iff_eq]; omega
    have H46 : Hid (T.data.toList[m]? = some 46) := Lib.hid (by rw [byte_at T m hmT, show T[m] = 46 from UInt8.toNat_inj.1 (by rw [h46]; rfl)])
    clear h46
    go_wp2_with (fail)
    go_loop [6, 7] (fun s6 s7 => ∃ (k n : Nat), k ≤ m + 4 ∧ s7 = .int .i64 (k : Int) ∧ s6 = .int .i64 (n : Int) ∧ AngAt T.data.toList m k n) (fun _ s7 => m + 4 - (intOf s7).toNat)
    case atStart => exact ⟨0, 0, by omega, rfl, rfl, AngAt.start _ _⟩
    case round =>
      obtain ⟨k, n, hk, rfl, rfl, hD⟩ := hrel
      have hn := hD.lt (by omega)
      have HD := Lib.hid hD
      clear hD
      by_cases hlt : k < m + 4
      · have hlt2 : k < T.size := by omega
        by_cases hkm : k = m
        · subst hkm
          have HN := Lib.hid HD.out.dot
          go_wp2_with (fail)
          go_round
          case rel => exact ⟨k + 1, n, by omega, by go_num, rfl, HN.out⟩
          case measure => first | (simp [intOf]; done) | (simp [intOf]; omega)
        · have hkm' : ((k : Int) == (m : Int)) = false := by rw [beq_eq_false_iff_ne]; omega
          have HKM := Lib.hid hkm
          clear hkm
          by_cases hd1 : (T[k].toNat : Int) < 48
          · have HO := Lib.hid (angV_none (angR_bd HTL.out (ang_bad (by rw [len_data]; exact HM.out) HKM.out (byte_at T k hlt2) (by rw [← digB_isD]; simp [digB]; omega))))
            go_wp2_with (fail)
            go_ret2
            exact ⟨by rw [HO.out.1, HO.out.2]; rfl, Below.refl _ _⟩
          · by_cases hd2 : 57 < (T[k].toNat : Int)
            · have HO := Lib.hid (angV_none (angR_bd HTL.out (ang_bad (by rw [len_data]; exact HM.out) HKM.out (byte_at T k hlt2) (by rw [← digB_isD]; simp [digB]; omega))))
              go_wp2_with (fail)
              go_ret2
              exact ⟨by rw [HO.out.1, HO.out.2]; rfl, Below.refl _ _⟩
            · have HN := Lib.hid (HD.out.step HKM.out (byte_at T k hlt2) (by rw [← digB_isD]; simp [digB]; omega))
              have hb1 : 48 ≤ (T[k].toNat : Int) := by omega
              have hb2 : (T[k].toNat : Int) ≤ 57 := by omega
              have g1 : decide ((T[k].toNat : Int) < 48) = false := decide_eq_false hd1
              have g2 : decide ((57 : Int) < (T[k].toNat : Int)) = false := decide_eq_false hd2
              clear hd1 hd2
              go_wp2_with (fail)
              go_round
              case rel => exact ⟨k + 1, n * 10 + (T[k].toNat - 48), by omega, by go_num, by congr 1; omega, HN.out⟩
              case measure => simp [intOf]; omega
      · obtain rfl : k = m + 4 := by omega
        have hall := HD.out.all
        have hval := HD.out.val
        rw [angPre_end (by rw [len_data]; exact HM.out)] at hall hval
        have hend := angR_end HTL.out (by rw [len_data]; exact HM.out) hm1 hm3 H46.out hall
        have hav : angVal s.data.toList = -(n : Int) := by
          unfold angVal; rw [if_pos HH.out, HTL.out, hval]
        rw [hav] at hend
        have HEND := Lib.hid hend
        clear hall hval hend hav hlt
        by_cases hin : -359999 ≤ (-(n : Int) : Int) ∧ (-(n : Int) : Int) ≤ 359999
        · have CW := Lib.hid (fun W => l00In_any (-(n : Int)) (-359999) 359999 W)
          rw [within_yes hin.1 hin.2] at CW
          have CT := Lib.hid (fun W => l02Text_any (-(n : Int)) W hin.1 hin.2)
          obtain ⟨X, hX⟩ : ∃ X, X = tx (angT (-(n : Int))) := ⟨_, rfl⟩
          rw [← hX] at CT
          by_cases he : angT (-(n : Int)) = s.data.toList
          · have hq := eqs_yes (a := X) (b := s) (by rw [hX]; exact tx_eq2 he)
            have HO : Hid (angV s.data.toList = -(n : Int) ∧ angB s.data.toList = true) := Lib.hid (angV_some (by rw [HEND.out, if_pos ⟨within_yes hin.1 hin.2, he⟩]))
            obtain ⟨hin1, hin2⟩ := hin
            clear hX he
            go_wp2_with (first | (go_at_call 74; refine (CW.out _).mono ?_; rintro e w1 ⟨rfl, rfl⟩) | (go_at_call 81; refine (CT.out _).mono ?_; rintro e w2 ⟨rfl, hb2⟩))
            go_ret2
            exact ⟨by rw [HO.out.1, HO.out.2]; rfl, hb2⟩
          · have hq := eqs_no (a := X) (b := s) (by rw [hX]; exact tx_ne he)
            have HO := Lib.hid (angV_none (l := s.data.toList) (by rw [HEND.out, if_neg (fun h => he h.2)]))
            obtain ⟨hin1, hin2⟩ := hin
            clear hX he
            go_wp2_with (first | (go_at_call 74; refine (CW.out _).mono ?_; rintro e w1 ⟨rfl, rfl⟩) | (go_at_call 81; refine (CT.out _).mono ?_; rintro e w2 ⟨rfl, hb2⟩))
            go_ret2
            exact ⟨by rw [HO.out.1, HO.out.2]; rfl, hb2⟩
        · have CW := Lib.hid (fun W => l00In_any (-(n : Int)) (-359999) 359999 W)
          have hno : inB (-(n : Int)) (-359999) 359999 = false := by rw [Bool.eq_false_iff]; intro h; exact hin ((inB_iff _ _ _).1 h)
          rw [hno] at CW
          have HO := Lib.hid (angV_none (l := s.data.toList) (by rw [HEND.out, if_neg (fun h => by rw [hno] at h; cases h.1)]))
          clear hin hno
          go_wp2_with (refine (CW.out _).mono ?_; rintro e w1 ⟨rfl, rfl⟩)
          go_ret2
          exact ⟨by rw [HO.out.1, HO.out.2]; rfl, Below.refl _ _⟩
  · have h46' : ((T[m].toNat : Int) == 46) = false := by rw [beq_eq_false_iff_ne]; omega
    have h46n : ((T[m].toNat : Int) != 46) = true := by rw [bne_iff_ne]; omega
    have HO := Lib.hid (angV_none (angR_dt HTL.out (by
      rw [len_data, HM.out, show m + 4 - 4 = m by omega, byte_at T m hmT]
      intro e
      exact h46 (by rw [show T[m] = 46 by simpa using e]; rfl))))
    clear h46
    go_wp2_with (fail)
    go_ret2
    exact ⟨by rw [HO.out.1, HO.out.2]; rfl, Below.refl _ _⟩
set_option maxHeartbeats 4000000 in
theorem l02Read_plain (s : ByteArray) (w : World) (hs : s.size ≤ 1048576) (hp : 0 < s.size) (h45 : s[0].toNat ≠ 45) :
    Calls Tryd.prog 95 #[.string s] w fun e w' => e = .returned (.tuple #[.int .i64 (angV s.data.toList), .bool (angB s.data.toList)]) ∧ Below w.heap.size w w' := by
  have HF := Lib.hid (byte_at s 0 hp)
  have HH : Hid (s.data.toList.head? ≠ some 45) := Lib.hid (by
    rw [List.head?_eq_getElem?, HF.out]; intro e
    exact h45 (by rw [show s[0] = 45 by simpa using e]; rfl))
  have h45' : ((s[0].toNat : Int) == 45) = false := by rw [beq_eq_false_iff_ne]; omega
  clear h45
  go_enter Tryd.func95, Tryd.ntmps95
  go_upto_region 6 with (fail)
  have HTL : Hid (angTl s.data.toList = s.data.toList) := Lib.hid (by unfold angTl; rw [if_neg HH.out])
  by_cases c1 : s.size < 5
  · have HO := Lib.hid (angV_none (angR_sh HTL.out (by rw [len_data]; exact c1)))
    go_wp2_with (fail)
    go_ret2
    exact ⟨by rw [HO.out.1, HO.out.2]; rfl, Below.refl _ _⟩
  by_cases c2 : 7 < s.size
  · have HO := Lib.hid (angV_none (angR_lo HTL.out (by rw [len_data]; exact c2)))
    go_wp2_with (fail)
    go_ret2
    exact ⟨by rw [HO.out.1, HO.out.2]; rfl, Below.refl _ _⟩
  obtain ⟨m, hm⟩ : ∃ m, s.size = m + 4 := ⟨s.size - 4, by omega⟩
  have hm1 : 1 ≤ m := by omega
  have hm3 : m ≤ 3 := by omega
  have hmT : m < s.size := by omega
  have hmi : (s.size : Int) - 4 = (m : Int) := by omega
  have HM := Lib.hid hm
  have d5 : decide ((m : Int) + 4 < 5) = false := decide_eq_false (by omega)
  have d7 : decide ((7 : Int) < (m : Int) + 4) = false := decide_eq_false (by omega)
  have HMI := Lib.hid hmi
  have hT5 : 5 ≤ s.size := by omega
  have hT7 : s.size ≤ 7 := by omega
  clear c1 c2
  by_cases h46 : s[m].toNat = 46
  · have h46' : ((s[m].toNat : Int) == 46) = true := by rw [beq_iff_eq]; omega
    have H46 : Hid (s.data.toList[m]? = some 46) := Lib.hid (by rw [byte_at s m hmT, show s[m] = 46 from UInt8.toNat_inj.1 (by rw [h46]; rfl)])
    clear h46
    go_wp2_with (fail)
    go_loop [6, 7] (fun s6 s7 => ∃ (k n : Nat), k ≤ m + 4 ∧ s7 = .int .i64 (k : Int) ∧ s6 = .int .i64 (n : Int) ∧ AngAt s.data.toList m k n) (fun _ s7 => m + 4 - (intOf s7).toNat)
    case atStart => exact ⟨0, 0, by omega, rfl, rfl, AngAt.start _ _⟩
    case round =>
      obtain ⟨k, n, hk, rfl, rfl, hD⟩ := hrel
      have hn := hD.lt (by omega)
      have HD := Lib.hid hD
      clear hD
      by_cases hlt : k < m + 4
      · have hlt2 : k < s.size := by omega
        by_cases hkm : k = m
        · subst hkm
          have HN := Lib.hid HD.out.dot
          go_wp2_with (fail)
          go_round
          case rel => exact ⟨k + 1, n, by omega, by go_num, rfl, HN.out⟩
          case measure => first | (simp [intOf]; done) | (simp [intOf]; omega)
        · have hkm' : ((k : Int) == (m : Int)) = false := by rw [beq_eq_false_iff_ne]; omega
          have HKM := Lib.hid hkm
          clear hkm
          by_cases hd1 : (s[k].toNat : Int) < 48
          · have HO := Lib.hid (angV_none (angR_bd HTL.out (ang_bad (by rw [len_data]; exact HM.out) HKM.out (byte_at s k hlt2) (by rw [← digB_isD]; simp [digB]; omega))))
            go_wp2_with (fail)
            go_ret2
            exact ⟨by rw [HO.out.1, HO.out.2]; rfl, Below.refl _ _⟩
          · by_cases hd2 : 57 < (s[k].toNat : Int)
            · have HO := Lib.hid (angV_none (angR_bd HTL.out (ang_bad (by rw [len_data]; exact HM.out) HKM.out (byte_at s k hlt2) (by rw [← digB_isD]; simp [digB]; omega))))
              go_wp2_with (fail)
              go_ret2
              exact ⟨by rw [HO.out.1, HO.out.2]; rfl, Below.refl _ _⟩
            · have HN := Lib.hid (HD.out.step HKM.out (byte_at s k hlt2) (by rw [← digB_isD]; simp [digB]; omega))
              have hb1 : 48 ≤ (s[k].toNat : Int) := by omega
              have hb2 : (s[k].toNat : Int) ≤ 57 := by omega
              have g1 : decide ((s[k].toNat : Int) < 48) = false := decide_eq_false hd1
              have g2 : decide ((57 : Int) < (s[k].toNat : Int)) = false := decide_eq_false hd2
              clear hd1 hd2
              go_wp2_with (fail)
              go_round
              case rel => exact ⟨k + 1, n * 10 + (s[k].toNat - 48), by omega, by go_num, by congr 1; omega, HN.out⟩
              case measure => simp [intOf]; omega
      · obtain rfl : k = m + 4 := by omega
        have hall := HD.out.all
        have hval := HD.out.val
        rw [angPre_end (by rw [len_data]; exact HM.out)] at hall hval
        have hend := angR_end HTL.out (by rw [len_data]; exact HM.out) hm1 hm3 H46.out hall
        have hav : angVal s.data.toList = (n : Int) := by
          unfold angVal; rw [if_neg HH.out, HTL.out, hval]
        rw [hav] at hend
        have HEND := Lib.hid hend
        clear hall hval hend hav hlt
        by_cases hin : -359999 ≤ ((n : Int) : Int) ∧ ((n : Int) : Int) ≤ 359999
        · have CW := Lib.hid (fun W => l00In_any ((n : Int)) (-359999) 359999 W)
          rw [within_yes hin.1 hin.2] at CW
          have CT := Lib.hid (fun W => l02Text_any ((n : Int)) W hin.1 hin.2)
          obtain ⟨X, hX⟩ : ∃ X, X = tx (angT ((n : Int))) := ⟨_, rfl⟩
          rw [← hX] at CT
          by_cases he : angT ((n : Int)) = s.data.toList
          · have hq := eqs_yes (a := X) (b := s) (by rw [hX]; exact tx_eq2 he)
            have HO : Hid (angV s.data.toList = (n : Int) ∧ angB s.data.toList = true) := Lib.hid (angV_some (by rw [HEND.out, if_pos ⟨within_yes hin.1 hin.2, he⟩]))
            obtain ⟨hin1, hin2⟩ := hin
            clear hX he
            go_wp2_with (first | (go_at_call 74; refine (CW.out _).mono ?_; rintro e w1 ⟨rfl, rfl⟩) | (go_at_call 81; refine (CT.out _).mono ?_; rintro e w2 ⟨rfl, hb2⟩))
            go_ret2
            exact ⟨by rw [HO.out.1, HO.out.2]; rfl, hb2⟩
          · have hq := eqs_no (a := X) (b := s) (by rw [hX]; exact tx_ne he)
            have HO := Lib.hid (angV_none (l := s.data.toList) (by rw [HEND.out, if_neg (fun h => he h.2)]))
            obtain ⟨hin1, hin2⟩ := hin
            clear hX he
            go_wp2_with (first | (go_at_call 74; refine (CW.out _).mono ?_; rintro e w1 ⟨rfl, rfl⟩) | (go_at_call 81; refine (CT.out _).mono ?_; rintro e w2 ⟨rfl, hb2⟩))
            go_ret2
            exact ⟨by rw [HO.out.1, HO.out.2]; rfl, hb2⟩
        · have CW := Lib.hid (fun W => l00In_any ((n : Int)) (-359999) 359999 W)
          have hno : inB ((n : Int)) (-359999) 359999 = false := by rw [Bool.eq_false_iff]; intro h; exact hin ((inB_iff _ _ _).1 h)
          rw [hno] at CW
          have HO := Lib.hid (angV_none (l := s.data.toList) (by rw [HEND.out, if_neg (fun h => by rw [hno] at h; cases h.1)]))
          clear hin hno
          go_wp2_with (refine (CW.out _).mono ?_; rintro e w1 ⟨rfl, rfl⟩)
          go_ret2
          exact ⟨by rw [HO.out.1, HO.out.2]; rfl, Below.refl _ _⟩
  · have h46' : ((s[m].toNat : Int) == 46) = false := by rw [beq_eq_false_iff_ne]; omega
    have h46n : ((s[m].toNat : Int) != 46) = true := by rw [bne_iff_ne]; omega
    have HO := Lib.hid (angV_none (angR_dt HTL.out (by
      rw [len_data, HM.out, show m + 4 - 4 = m by omega, byte_at s m hmT]
      intro e
      exact h46 (by rw [show s[m] = 46 by simpa using e]; rfl))))
    clear h46
    go_wp2_with (fail)
    go_ret2
    exact ⟨by rw [HO.out.1, HO.out.2]; rfl, Below.refl _ _⟩
theorem l02Read_any (s : ByteArray) (w : World) (hs : s.size ≤ 1048576) :
    Calls Tryd.prog 95 #[.string s] w fun e w' => e = .returned (.tuple #[.int .i64 (angV s.data.toList), .bool (angB s.data.toList)]) ∧ Below w.heap.size w w' := by
  by_cases h0 : s.size = 0
  · obtain rfl : s = ⟨#[]⟩ := ba_ext (List.eq_nil_of_length_eq_zero (by rw [len_data]; exact h0))
    have HO := Lib.hid (angV_none (l := []) (angR_sh rfl (by show 0 < 5; omega)))
    clear h0 hs
    go_enter Tryd.func95, Tryd.ntmps95
    go_wp2_with (fail)
    go_ret2
    exact ⟨by show _ = Ending.returned (.tuple #[.int .i64 (angV []), .bool (angB [])]); rw [HO.out.1, HO.out.2]; rfl, Below.refl _ _⟩
  · by_cases h45 : s[0].toNat = 45
    · exact l02Read_minus s w hs (by omega) h45
    · exact l02Read_plain s w hs (by omega) h45
end Go.Proofs.YtngkdolohokcoaaDoor
