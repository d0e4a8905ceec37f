/- Contracts of the functions on the stars of a figure. -/
import Derived.Test.YtbpjnopnhmoigaaDoorEnds
namespace Go.Proofs.YtbpjnopnhmoigaaDoor
set_option linter.unusedVariables false
set_option linter.unusedSimpArgs false
open Go.RowKit
theorem drop_at2 {l : List Int} {k : Nat} {x : Int} (h : l[k]? = some x) : l.drop k = x :: l.drop (k + 1) := by
  obtain ⟨hk, e⟩ := List.getElem?_eq_some_iff.1 h
  rw [List.drop_eq_getElem_cons hk, e]
/-- on the way of l00Put -/
def PutRel (x : Int) (l : List Int) (k : Nat) (d : Bool) (lo : List Int) : Prop := lo.length ≤ k + 1 ∧ ((d = false ∧ lo = l.take k ∧ ∀ y ∈ l.take k, y < x) ∨ (d = true ∧ lo ++ l.drop k = putI x l))
theorem PutRel.start (x : Int) (l : List Int) : PutRel x l 0 false [] := ⟨by simp, .inl ⟨rfl, by simp, by simp⟩⟩
theorem PutRel.on {x : Int} {l : List Int} {k : Nat} {lo : List Int} {y : Int} (h : PutRel x l k true lo) (hy : l[k]? = some y) : PutRel x l (k + 1) true (lo ++ [y]) := by
  rcases h with ⟨h0, ⟨h, _⟩ | ⟨_, h⟩⟩
  · cases h
  · exact ⟨by simp; omega, .inr ⟨rfl, by rw [drop_at2 hy] at h; rw [← h]; simp⟩⟩
theorem PutRel.less {x : Int} {l : List Int} {k : Nat} {lo : List Int} {y : Int} (h : PutRel x l k false lo) (hy : l[k]? = some y) (hl : y < x) : PutRel x l (k + 1) false (lo ++ [y]) := by
  rcases h with ⟨h0, ⟨_, h1, h2⟩ | ⟨h, _⟩⟩
  · refine ⟨by simp; omega, .inl ⟨rfl, by rw [List.take_add_one, hy, h1]; rfl, fun z hz => ?_⟩⟩
    rw [List.take_add_one, hy] at hz
    rcases List.mem_append.1 hz with hz | hz
    · exact h2 z hz
    · simp at hz; omega
  · cases h
theorem PutRel.same {x : Int} {l : List Int} {k : Nat} {lo : List Int} {y : Int} (h : PutRel x l k false lo) (hy : l[k]? = some y) (hl : y = x) : PutRel x l (k + 1) true (lo ++ [y]) := by
  rcases h with ⟨h0, ⟨_, h1, h2⟩ | ⟨h, _⟩⟩
  · refine ⟨by simp; omega, .inr ⟨rfl, ?_⟩⟩
    rw [putI_less h2 hy (by omega), if_neg (by omega), h1, drop_at2 hy]; simp
  · cases h
theorem PutRel.more {x : Int} {l : List Int} {k : Nat} {lo : List Int} {y : Int} (h : PutRel x l k false lo) (hy : l[k]? = some y) (hl : x < y) : PutRel x l (k + 1) true (lo ++ [x] ++ [y]) := by
  rcases h with ⟨h0, ⟨_, h1, h2⟩ | ⟨h, _⟩⟩
  · have hk : k < l.length := (List.getElem?_eq_some_iff.1 hy).1
    refine ⟨?_, .inr ⟨rfl, ?_⟩⟩
    · rw [h1]; simp; omega
    · rw [putI_less h2 hy (by omega), if_pos hl, h1, drop_at2 hy]; simp
  · cases h
theorem PutRel.fin {x : Int} {l : List Int} {k : Nat} {lo : List Int} (h : PutRel x l k false lo) (hk : l.length ≤ k) : lo ++ [x] = putI x l := by
  rcases h with ⟨h0, ⟨_, h1, h2⟩ | ⟨h, _⟩⟩
  · rw [List.take_of_length_le hk] at h1 h2
    rw [h1, putI_end h2]
  · cases h
theorem PutRel.fin2 {x : Int} {l : List Int} {k : Nat} {lo : List Int} (h : PutRel x l k true lo) (hk : l.length ≤ k) : lo = putI x l := by
  rcases h with ⟨h0, ⟨h, _⟩ | ⟨_, h⟩⟩
  · cases h
  · rw [List.drop_eq_nil_of_le hk, List.append_nil] at h; exact h
/-- what l00Put leaves -/
def PutPost (x : Int) (l : List Int) (w : World) (e : Ending) (w' : World) : Prop := ∃ v : Value, e = .returned v ∧ OwnI w' w.heap.size v (putI x l) ∧ Below w.heap.size w w'
theorem app_cell (W : World) (x : Int) : (W.alloc (.cells #[.int .i64 x] 2)).cell? ⟨W.heap.size, 0, none⟩ = some (.int .i64 x) := by simp
theorem base_alloc {W w : World} (h : Below w.heap.size w W) (o : Obj) : w.heap.size ≤ (W.alloc o).heap.size := (below_alloc h o).size
set_option maxRecDepth 100000 in
set_option maxHeartbeats 4000000 in
theorem l00Put_any (A : Option Addr) (n c : Nat) (l : List Int) (x : Int) (w : World) (hl : l.length = n) (hn : n ≤ 1000000) (hA : Ints w A l) :
    Calls Tryd.prog 123 #[.slice A n c, .int .i64 x] w (PutPost x l w) := by
  have HL := Lib.hid hl; clear hl
  have hE := OwnI.empty w w.heap.size (Nat.le_refl _)
  have hb0 : Below w.heap.size w (w.alloc (.cells #[] 2)) := below_alloc (Below.refl _ _) _
  go_enter Tryd.func123, Tryd.ntmps123
  go_wp2_with (fail)
  go_loopw [5, 6, 7] (fun s5 s6 s7 wr => ∃ (k : Nat) (d : Bool) (v : Value) (lo : List Int), k ≤ n ∧ s7 = .int .i64 (k : Int) ∧ s6 = .bool d ∧ v = s5 ∧ OwnI wr w.heap.size v lo ∧ PutRel x l k d lo ∧ Below w.heap.size w wr) (fun _ _ s7 _ => n - (intOf s7).toNat)
  case atStart => exact ⟨0, false, _, [], by omega, rfl, rfl, rfl, hE, PutRel.start _ _, hb0⟩
  case round =>
    clear hE hb0
    obtain ⟨k, d, v, lo, hk, rfl, rfl, rfl, hO, hr, hb⟩ := hrel
    have HR := Lib.hid hr; clear hr
    have HN : Hid (lo.length ≤ 1099511627776) := Lib.hid (by have := HR.out.1; omega)
    by_cases hlt : k < n
    · obtain ⟨y, hy⟩ := at_lt (l := l) (k := k) (by have := HL.out; omega)
      obtain ⟨b, o, rfl, hc⟩ := hA.below hb (by have := HL.out; omega)
      have c0 := hc k y hy
      have HY := Lib.hid hy
      clear hy hc
      cases d with
      | true =>
        go_wp2_with (at_builtin; refine wpList_app_int rfl (.tmp 35) (.tmp 40) rfl w.heap.size v lo y wr.heap.size 1 rfl rfl (hO.alloc _) (app_cell wr y) HN.out (base_alloc hb _) ?_; intro v2 w2 hO2 hg2)
        go_roundw
        case rel => exact ⟨k + 1, true, v2, _, by omega, by go_num, rfl, rfl, hO2, HR.out.on HY.out, below_of_grown (below_alloc hb _) hg2 (base_alloc hb _) (fun q hq => (hO.lt q hq).1)⟩
        case measure => simp [intOf]; omega
      | false =>
        rcases Int.lt_trichotomy y x with h | h | h
        · have h1 : ¬ x ≤ y := by omega
          have h1' : decide (x ≤ y) = false := by simpa using h1
          go_wp2_with (at_builtin; refine wpList_app_int rfl (.tmp 35) (.tmp 40) rfl w.heap.size v lo y wr.heap.size 1 rfl rfl (hO.alloc _) (app_cell wr y) HN.out (base_alloc hb _) ?_; intro v2 w2 hO2 hg2)
          go_roundw
          case rel => exact ⟨k + 1, false, v2, _, by omega, by go_num, rfl, rfl, hO2, HR.out.less HY.out h, below_of_grown (below_alloc hb _) hg2 (base_alloc hb _) (fun q hq => (hO.lt q hq).1)⟩
          case measure => simp [intOf]; omega
        · have h1 : x ≤ y := by omega
          have h2 : ¬ x < y := by omega
          have h1' : decide (x ≤ y) = true := by simpa using h1
          have h2' : decide (x < y) = false := by simpa using h2
          have HE := Lib.hid h
          clear h
          go_wp2_with (at_builtin; refine wpList_app_int rfl (.tmp 35) (.tmp 40) rfl w.heap.size v lo y wr.heap.size 1 rfl rfl (hO.alloc _) (app_cell wr y) HN.out (base_alloc hb _) ?_; intro v2 w2 hO2 hg2)
          go_roundw
          case rel => exact ⟨k + 1, true, v2, _, by omega, by go_num, rfl, rfl, hO2, HR.out.same HY.out HE.out, below_of_grown (below_alloc hb _) hg2 (base_alloc hb _) (fun q hq => (hO.lt q hq).1)⟩
          case measure => simp [intOf]; omega
        · have h1 : x ≤ y := by omega
          have h1' : decide (x ≤ y) = true := by simpa using h1
          have h2' : decide (x < y) = true := by simpa using h
          have HN2 : Hid ((lo ++ [x]).length ≤ 1099511627776) := Lib.hid (by have := HR.out.1; simp; omega)
          have l0 := World.block_lt_of_cell? wr _ c0
          dsimp only at l0
          have c1 : ∀ w2, wr.grownBy w2 v.ownBlock → Below wr.heap.size wr w2 ∨ True := fun _ _ => .inr trivial
          clear c1
          go_wp2_with (first
            | (at_builtin; refine wpList_app_int rfl (.tmp 31) (.tmp 33) rfl w.heap.size v lo x wr.heap.size 1 rfl rfl (hO.alloc _) (app_cell wr x) HN.out (base_alloc hb _) ?_; intro v2 w2 hO2 hg2; have hb2 := below_of_grown (below_alloc hb _) hg2 (base_alloc hb _) (fun q hq => (hO.lt q hq).1); obtain ⟨b2, o2, e2, hc2⟩ := hA.below hb2 (by have := HL.out; omega); obtain ⟨rfl, rfl⟩ : b = b2 ∧ o = o2 := (by injection e2 with e2; injection e2 with e3 e4; exact ⟨e3, e4⟩); have c2 := hc2 k y HY.out)
            | (at_builtin; refine wpList_app_int rfl (.tmp 35) (.tmp 40) rfl w.heap.size v2 (lo ++ [x]) y w2.heap.size 1 rfl rfl (hO2.alloc _) (app_cell w2 y) HN2.out (base_alloc hb2 _) ?_; intro v3 w3 hO3 hg3))
          go_roundw
          case rel => exact ⟨k + 1, true, v3, _, by omega, by go_num, rfl, rfl, hO3, HR.out.more HY.out h, below_of_grown (below_alloc hb2 _) hg3 (base_alloc hb2 _) (fun q hq => (hO2.lt q hq).1)⟩
          case measure => simp [intOf]; omega
    · obtain rfl : k = n := by omega
      cases d with
      | true =>
        go_wp2_with (fail)
        go_ret
        exact ⟨v, rfl, by rw [← HR.out.fin2 (by have := HL.out; omega)]; exact hO, hb⟩
      | false =>
        go_wp2_with (at_builtin; refine wpList_app_int rfl (.tmp 44) (.tmp 46) rfl w.heap.size v lo x wr.heap.size 1 rfl rfl (hO.alloc _) (app_cell wr x) HN.out (base_alloc hb _) ?_; intro v2 w2 hO2 hg2)
        go_ret
        exact ⟨v2, rfl, by rw [← HR.out.fin (by have := HL.out; omega)]; exact hO2, below_of_grown (below_alloc hb _) hg2 (base_alloc hb _) (fun q hq => (hO.lt q hq).1)⟩
end Go.Proofs.YtbpjnopnhmoigaaDoor
