/- Contracts of the functions on the length of one line. -/
import Derived.Test.YtoddkojbeoifkaaDoorFar
namespace Go.Proofs.YtoddkojbeoifkaaDoor
set_option linter.unusedVariables false
set_option linter.unusedSimpArgs false
open Go.RowKit
/-- what LineLength answers -/
def lineO (l : List Sta) (i k : Int) : Int × Int := if vStars l then (if inB i 0 ((l.length : Int) - 1) && inB k 0 ((l.length : Int) - 1) then (match l[i.toNat]?, l[k.toNat]? with
  | some x, some y => (farI x y, 0)
  | _, _ => (0, 0)) else (0, 2)) else (0, 1)
theorem lineO_no {l : List Sta} {i k : Int} (h : vStars l = false) : lineO l i k = (0, 1) := by simp [lineO, h]
theorem lineO_range {l : List Sta} {i k : Int} (h : vStars l = true) (h2 : inB i 0 ((l.length : Int) - 1) = false ∨ inB k 0 ((l.length : Int) - 1) = false) : lineO l i k = (0, 2) := by
  have : (inB i 0 ((l.length : Int) - 1) && inB k 0 ((l.length : Int) - 1)) = false := by
    rcases h2 with h2 | h2
    · rw [h2]; rfl
    · rw [h2, Bool.and_false]
  rw [lineO, if_pos h, this]; rfl
theorem lineO_yes {l : List Sta} {i k : Nat} {x y : Sta} (h : vStars l = true) (h1 : inB i 0 ((l.length : Int) - 1) = true) (h2 : inB k 0 ((l.length : Int) - 1) = true) (hx : l[i]? = some x) (hy : l[k]? = some y) : lineO l i k = (farI x y, 0) := by
  rw [lineO, if_pos h, h1, h2]; simp [hx, hy]
set_option maxHeartbeats 2000000 in
theorem LineLength_any (A : Option Addr) (n c : Nat) (l : List Sta) (i k : Int) (w : World) (hS : SinOk w) (hl : l.length = n) (hn : n ≤ 9223372036854775807) (hA : Stars w A l) :
    Calls Tryd.prog 24 #[.slice A n c, .int .i64 i, .int .i64 k] w fun e w' => e = .returned (.tuple #[.int .i64 (lineO l i k).1, .int .i64 (lineO l i k).2]) ∧ Below w.heap.size w w' := by
  have HL := Lib.hid hl; clear hl
  have V : Hid (∀ W (A : Option Addr), Stars W A l → Calls Tryd.prog 74 #[.slice A n c] W fun e w' => e = .returned (.bool (vStars l)) ∧ Below W.heap.size W w') := fun W A hW => ValidStars_any A n c l W HL.out hn hW
  cases hv : vStars l with
  | false =>
    have HO := Lib.hid (lineO_no (i := i) (k := k) hv)
    rw [hv] at V
    clear hv
    go_enter Tryd.func24, Tryd.ntmps24
    go_wp2_with (refine (V.out _ _ hA).mono ?_; rintro e w1 ⟨rfl, hb1⟩)
    go_ret2
    exact ⟨by rw [HO.out]; rfl, hb1⟩
  | true =>
    have h24 : n ≤ 24 := by have := vStars_len hv; have := HL.out; omega
    rw [hv] at V
    cases hi : inB i 0 ((n : Int) - 1) with
    | false =>
      have HO : Hid (lineO l i k = (0, 2)) := lineO_range hv (.inl (by rw [HL.out]; exact hi))
      clear hv
      go_enter Tryd.func24, Tryd.ntmps24
      go_wp2_with (first | (refine (V.out _ _ hA).mono ?_; rintro e w1 ⟨rfl, hb1⟩) | (go_at_call 60; refine (within_any _ _ _ _).mono ?_; rintro e w' ⟨rfl, rfl⟩))
      go_ret2
      exact ⟨by rw [HO.out]; rfl, hb1⟩
    | true =>
      cases hk : inB k 0 ((n : Int) - 1) with
      | false =>
        have HO : Hid (lineO l i k = (0, 2)) := lineO_range hv (.inr (by rw [HL.out]; exact hk))
        clear hv
        go_enter Tryd.func24, Tryd.ntmps24
        go_wp2_with (first | (refine (V.out _ _ hA).mono ?_; rintro e w1 ⟨rfl, hb1⟩) | (go_at_call 60; refine (within_any _ _ _ _).mono ?_; rintro e w' ⟨rfl, rfl⟩))
        go_ret2
        exact ⟨by rw [HO.out]; rfl, hb1⟩
      | true =>
        obtain ⟨i0, i1⟩ := (inB_iff _ _ _).1 hi
        obtain ⟨k0, k1⟩ := (inB_iff _ _ _).1 hk
        obtain ⟨i, rfl⟩ := Int.eq_ofNat_of_zero_le i0
        obtain ⟨k, rfl⟩ := Int.eq_ofNat_of_zero_le k0
        obtain ⟨x, hx⟩ := at_lt (l := l) (k := i) (by have := HL.out; omega)
        obtain ⟨y, hy⟩ := at_lt (l := l) (k := k) (by have := HL.out; omega)
        have HO : Hid (lineO l i k = (farI x y, 0)) := lineO_yes hv (by rw [HL.out]; exact hi) (by rw [HL.out]; exact hk) hx hy
        have a1 := ok_ang (vStars_ok hv hx)
        have a2 := ok_ang (vStars_ok hv hy)
        have HX := Lib.hid hx; clear hx
        have HY := Lib.hid hy; clear hy
        have hii : (i : Int) < n := by omega
        have hkk : (k : Int) < n := by omega
        clear hv i1 k1
        go_enter Tryd.func24, Tryd.ntmps24
        go_wp2_with (first | (refine (V.out _ _ hA).mono ?_; rintro e w1 ⟨rfl, hb1⟩) | (go_at_call 60; refine (within_any _ _ _ _).mono ?_; rintro e w' ⟨rfl, rfl⟩))
        clear hi hk
        refine (starGap_any A n c l i k x y _ (hS.of_below hb1) HL.out hn (hA.below hb1) HX.out HY.out a1 a2).mono ?_
        rintro e w2 ⟨rfl, hb2⟩
        go_wp2
        go_ret2
        exact ⟨by rw [HO.out]; rfl, (by repeat (first | exact Below.refl _ _ | refine below_alloc ?_ _ | refine below_drewN0 ?_ _ | refine below_drew0 ?_ | refine below_step ?_ (by assumption) | refine below_later ?_ _ | refine below_setCell0 ?_ (by first | exact Nat.le_refl _ | (simp; done) | omega | (simp; omega)) _))⟩
set_option maxHeartbeats 2000000 in
theorem sLineLength_any (A : Option Addr) (n c : Nat) (l : List Sta) (i k : Int) (w : World) (hl : l.length = n) (hn : n ≤ 9223372036854775807) (hA : Stars w A l) :
    Calls Tryd.prog 22 #[.slice A n c, .int .i64 i, .int .i64 k] w fun e w' => e = .returned (.tuple #[.int .i64 (lineO l i k).1, .int .i64 (lineO l i k).2]) ∧ Below w.heap.size w w' := by
  have HL := Lib.hid hl; clear hl
  have V : Hid (∀ W (A : Option Addr), Stars W A l → Calls Tryd.prog 70 #[.slice A n c] W fun e w' => e = .returned (.bool (vStars l)) ∧ Below W.heap.size W w') := fun W A hW => l05Ok_any A n c l W HL.out hn hW
  cases hv : vStars l with
  | false =>
    have HO := Lib.hid (lineO_no (i := i) (k := k) hv)
    rw [hv] at V
    clear hv
    go_enter Tryd.func22, Tryd.ntmps22
    go_wp2_with (refine (V.out _ _ hA).mono ?_; rintro e w1 ⟨rfl, hb1⟩)
    go_ret2
    exact ⟨by rw [HO.out]; rfl, hb1⟩
  | true =>
    have h24 : n ≤ 24 := by have := vStars_len hv; have := HL.out; omega
    rw [hv] at V
    cases hi : inB i 0 ((n : Int) - 1) with
    | false =>
      have HO : Hid (lineO l i k = (0, 2)) := lineO_range hv (.inl (by rw [HL.out]; exact hi))
      clear hv
      go_enter Tryd.func22, Tryd.ntmps22
      go_wp2_with (first | (refine (V.out _ _ hA).mono ?_; rintro e w1 ⟨rfl, hb1⟩) | (go_at_call 71; refine (l00In_any _ _ _ _).mono ?_; rintro e w' ⟨rfl, rfl⟩))
      go_ret2
      exact ⟨by rw [HO.out]; rfl, hb1⟩
    | true =>
      cases hk : inB k 0 ((n : Int) - 1) with
      | false =>
        have HO : Hid (lineO l i k = (0, 2)) := lineO_range hv (.inr (by rw [HL.out]; exact hk))
        clear hv
        go_enter Tryd.func22, Tryd.ntmps22
        go_wp2_with (first | (refine (V.out _ _ hA).mono ?_; rintro e w1 ⟨rfl, hb1⟩) | (go_at_call 71; refine (l00In_any _ _ _ _).mono ?_; rintro e w' ⟨rfl, rfl⟩))
        go_ret2
        exact ⟨by rw [HO.out]; rfl, hb1⟩
      | true =>
        obtain ⟨i0, i1⟩ := (inB_iff _ _ _).1 hi
        obtain ⟨k0, k1⟩ := (inB_iff _ _ _).1 hk
        obtain ⟨i, rfl⟩ := Int.eq_ofNat_of_zero_le i0
        obtain ⟨k, rfl⟩ := Int.eq_ofNat_of_zero_le k0
        obtain ⟨x, hx⟩ := at_lt (l := l) (k := i) (by have := HL.out; omega)
        obtain ⟨y, hy⟩ := at_lt (l := l) (k := k) (by have := HL.out; omega)
        have HO : Hid (lineO l i k = (farI x y, 0)) := lineO_yes hv (by rw [HL.out]; exact hi) (by rw [HL.out]; exact hk) hx hy
        have a1 := ok_ang (vStars_ok hv hx)
        have a2 := ok_ang (vStars_ok hv hy)
        have HX := Lib.hid hx; clear hx
        have HY := Lib.hid hy; clear hy
        have hii : (i : Int) < n := by omega
        have hkk : (k : Int) < n := by omega
        clear hv i1 k1
        go_enter Tryd.func22, Tryd.ntmps22
        go_wp2_with (first | (refine (V.out _ _ hA).mono ?_; rintro e w1 ⟨rfl, hb1⟩) | (go_at_call 71; refine (l00In_any _ _ _ _).mono ?_; rintro e w' ⟨rfl, rfl⟩))
        clear hi hk
        obtain ⟨b, o, rfl, hc⟩ := hA.below hb1 (by have := HL.out; omega)
        have s1 := hc i x HX.out
        have s2 := hc k y HY.out
        have l0 := s1.lt
        clear hc hA
        have C : Hid (∀ W : Later w1, Calls Tryd.prog 72 #[.pointer (some ⟨b, o + i * 5, none⟩), .pointer (some ⟨b, o + k * 5, none⟩)] W.w fun e w' => e = .returned (.int .i64 (farI x y)) ∧ Below W.w.heap.size W.w w') := fun W => l08Far_any b _ b _ x y _ (s1.below W.below) (s2.below W.below) a1 a2
        (refine later_intro_wp ?_; intro y)
        (refine wp_region_later (by kernel_rfl) (by kernel_rfl) ?_; (repeat (first | go_big_quiet_step ((go_at_call 72; exact later_below (C.out _))) | quiet_step ((go_at_call 72; exact later_below (C.out _))))); refine wpQuiet_nil ?_; rintro _ ⟨y, rfl⟩)
        go_wp2
        go_ret2
        exact ⟨by rw [HO.out]; rfl, (by repeat (first | exact Below.refl _ _ | refine below_alloc ?_ _ | refine below_drewN0 ?_ _ | refine below_drew0 ?_ | refine below_step ?_ (by assumption) | refine below_later ?_ _ | refine below_setCell0 ?_ (by first | exact Nat.le_refl _ | (simp; done) | omega | (simp; omega)) _))⟩
end Go.Proofs.YtoddkojbeoifkaaDoor
