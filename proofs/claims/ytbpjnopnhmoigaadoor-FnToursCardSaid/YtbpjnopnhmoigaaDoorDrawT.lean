/- Contracts of the functions that draw a tour's stars, start and budget. -/
import Derived.Test.YtbpjnopnhmoigaaDoorDrawB
namespace Go.Proofs.YtbpjnopnhmoigaaDoor
set_option linter.unusedVariables false
set_option linter.unusedSimpArgs false
open Go.RowKit
theorem maxS_any (n : Int) (w : World) :
    Calls Tryd.prog 82 #[.int .i64 1, .int .i64 n] w fun e w' => ∃ m : Int, e = .returned (.int .i64 m) ∧ (m = 1 ∨ m = n) ∧ w = w' := by
  by_cases h : n < 1
  · go_enter Tryd.func82, Tryd.ntmps82
    go_wp2_with (fail)
    go_ret
    exact ⟨1, rfl, .inl rfl, rfl⟩
  · by_cases h1 : n = 1
    · subst h1
      go_enter Tryd.func82, Tryd.ntmps82
      go_wp2_with (fail)
      go_ret
      exact ⟨1, rfl, rfl, rfl⟩
    · have h2 : 1 < n := by omega
      go_enter Tryd.func82, Tryd.ntmps82
      go_wp2_with (fail)
      go_ret
      exact ⟨n, rfl, .inr rfl, rfl⟩
set_option maxHeartbeats 1000000 in
theorem l08DrawStart_any (g a B : Nat) (n : Int) (w : World) (h : Src w g a B) (ha : a ≤ 999999900) (hn : n ≤ 1000000000) :
    Calls Tryd.prog 94 #[.pointer (some ⟨g, 0, none⟩), .int .i64 n] w fun e w' => ∃ y : Int, e = .returned (.int .i64 y) ∧ Src w' g (a + 4) B ∧ w.grownBy w' (some g) := by
  go_enter Tryd.func94, Tryd.ntmps94
  go_wp2_with (fail)
  refine (one_any g a B 9 w h (by omega) (by omega)).mono ?_
  rintro e w2 ⟨b, rfl, hS2, hg2⟩
  have hgl := hS2.lt
  cases b with
  | true =>
    go_wp2_with (fail)
    refine calls_named ?_
    intro W3 e3
    have hb3 : Below w2.heap.size w2 W3 := by rw [e3]; exact below_alloc (Below.refl _ _) _
    have hN : Blk W3 w2.heap.size 2 (numCells [-1, n]) := by rw [e3]; exact Blk.new w2 _ _
    have hG3 := grown_trans0 hg2 (grown_of_below hb3 (some g))
    clear e3
    refine (among_any g (a + 2) B w2.heap.size 2 2 [-1, n] W3 (hS2.keep hb3) (by omega) rfl (by omega) (by omega) (by omega) hN).mono ?_
    rintro e w4 ⟨y, rfl, _, hS4, hg4⟩
    go_wp2_with (fail)
    go_ret
    exact ⟨y, rfl, hS4, grown_trans0 hG3 hg4⟩
  | false =>
    go_wp2_with (fail)
    refine (maxS_any n w2).mono ?_
    rintro e w3 ⟨m, rfl, hm, rfl⟩
    go_wp2_with (fail)
    refine (pick_any g (a + 2) B m w2 hS2 (by omega) (by omega)).mono ?_
    rintro e w4 ⟨x, rfl, _, hS4, hg4⟩
    go_wp2_with (fail)
    go_ret
    exact ⟨_, rfl, hS4, grown_trans0 hg2 hg4⟩
set_option maxHeartbeats 1000000 in
theorem l08DrawBudget_any (g a B : Nat) (w : World) (h : Src w g a B) (ha : a ≤ 999999900) :
    Calls Tryd.prog 95 #[.pointer (some ⟨g, 0, none⟩)] w fun e w' => ∃ y : Int, e = .returned (.int .i64 y) ∧ Src w' g (a + 4) B ∧ w.grownBy w' (some g) := by
  go_enter Tryd.func95, Tryd.ntmps95
  go_wp2_with (fail)
  refine (one_any g a B 6 w h (by omega) (by omega)).mono ?_
  rintro e w2 ⟨b, rfl, hS2, hg2⟩
  have hgl := hS2.lt
  cases b with
  | true =>
    go_wp2_with (fail)
    refine calls_named ?_
    intro W3 e3
    have hb3 : Below w2.heap.size w2 W3 := by rw [e3]; exact below_alloc (Below.refl _ _) _
    have hN : Blk W3 w2.heap.size 2 (numCells [0, 1, 5, 20000, 20001]) := by rw [e3]; exact Blk.new w2 _ _
    have hG3 := grown_trans0 hg2 (grown_of_below hb3 (some g))
    clear e3
    refine (among_any g (a + 2) B w2.heap.size 5 5 [0, 1, 5, 20000, 20001] W3 (hS2.keep hb3) (by omega) rfl (by omega) (by omega) (by omega) hN).mono ?_
    rintro e w4 ⟨y, rfl, _, hS4, hg4⟩
    go_wp2_with (fail)
    go_ret
    exact ⟨y, rfl, hS4, grown_trans0 hG3 hg4⟩
  | false =>
    go_wp2_with (fail)
    refine (pick_any g (a + 2) B 400 w2 hS2 (by omega) (by omega)).mono ?_
    rintro e w4 ⟨x, rfl, hx, hS4, hg4⟩
    go_wp2_with (fail)
    go_ret
    exact ⟨_, rfl, hS4, grown_trans0 hg2 hg4⟩
/-- what drawing a tour leaves -/
def TourDrawn (w : World) (e : Ending) (w' : World) : Prop := ∃ (v : Value) (l : List Sta) (st bu : Int), e = .returned (.tuple #[v, .int .i64 st, .int .i64 bu]) ∧ OwnS w' w.heap.size v l ∧ l.length ≤ 30 ∧ Below w.heap.size w w'
set_option maxHeartbeats 2000000 in
theorem DrawBestTour_any (A : Option Addr) (n c : Nat) (bs : List Int) (w : World) (hl : bs.length = n) (hn : n ≤ 1048576) (hA : Bytes w A bs) (hok : ∀ x ∈ bs, ByteOk x) :
    Calls Tryd.prog 37 #[.slice A n c] w (TourDrawn w) := by
  go_enter Tryd.func37, Tryd.ntmps37
  go_wp2_with (fail)
  refine (l00From_any A n c bs w hl hn hA hok).mono ?_
  rintro e w1 ⟨rfl, hS1, hb1⟩
  have hlt := hS1.lt
  go_wp2_with (fail)
  refine (l05Draw_any w.heap.size 0 (w.heap.size + 1) w1 hS1 (by omega) hlt).mono ?_
  rintro e w2 ⟨v, l, rfl, hO2, _, hl6, hS2, hg2⟩
  go_wp2_with (fail)
  refine (one_any w.heap.size 100 (w.heap.size + 1) 4 w2 hS2 (by omega) (by omega)).mono ?_
  rintro e w3 ⟨b, rfl, hS3, hg3⟩
  have hO3 := hO2.only hg3 (fun p hp hq => by have := hO2.lt p hp; injection hq with hq; omega)
  have hg13 := grown_trans0 hg2 hg3
  have hs3 := hg13.size
  cases b with
  | true =>
    go_wp2_with (fail)
    refine (l05Bent_any w.heap.size 102 (w.heap.size + 1) w3 hS3 (by omega) (by omega)).mono ?_
    rintro e w4 ⟨v4, l4, rfl, hO4, hl4, hS4, hg4⟩
    have hg14 := grown_trans0 hg13 hg4
    have hs4 := hg14.size
    obtain ⟨A4, c4, rfl, hA4⟩ := hO4.form
    clear hO2 hO3 hS1 hS2 hS3 hg2 hg3 hg4 hg13
    go_wp2_with (fail)
    refine (l08DrawStart_any w.heap.size 302 (w.heap.size + 1) (l4.length : Int) w4 hS4 (by omega) (by omega)).mono ?_
    rintro e w5 ⟨st, rfl, hS5, hg5⟩
    have hO5 := hO4.only hg5 (fun p hp hq => by have := hO4.lt p hp; injection hq with hq; omega)
    go_wp2_with (fail)
    refine (l08DrawBudget_any w.heap.size 306 (w.heap.size + 1) w5 hS5 (by omega)).mono ?_
    rintro e w6 ⟨bu, rfl, hS6, hg6⟩
    have hO6 := hO5.only hg6 (fun p hp hq => by have := hO5.lt p hp; injection hq with hq; omega)
    go_wp2_with (fail)
    go_ret3
    exact ⟨_, l4, st, bu, rfl, hO6.base_le (by omega), hl4, below_of_grown hb1 (grown_trans0 (grown_trans0 hg14 hg5) hg6) hb1.size (fun q hq => by injection hq with hq; omega)⟩
  | false =>
    obtain ⟨A4, c4, rfl, hA4⟩ := hO3.form
    clear hO2 hS1 hS2 hg2 hg3
    go_wp2_with (fail)
    refine (l08DrawStart_any w.heap.size 102 (w.heap.size + 1) (l.length : Int) w3 hS3 (by omega) (by omega)).mono ?_
    rintro e w5 ⟨st, rfl, hS5, hg5⟩
    have hO5 := hO3.only hg5 (fun p hp hq => by have := hO3.lt p hp; injection hq with hq; omega)
    go_wp2_with (fail)
    refine (l08DrawBudget_any w.heap.size 106 (w.heap.size + 1) w5 hS5 (by omega)).mono ?_
    rintro e w6 ⟨bu, rfl, hS6, hg6⟩
    have hO6 := hO5.only hg6 (fun p hp hq => by have := hO5.lt p hp; injection hq with hq; omega)
    go_wp2_with (fail)
    go_ret3
    exact ⟨_, l, st, bu, rfl, hO6.base_le (by omega), by omega, below_of_grown hb1 (grown_trans0 (grown_trans0 hg13 hg5) hg6) hb1.size (fun q hq => by injection hq with hq; omega)⟩
end Go.Proofs.YtbpjnopnhmoigaaDoor
