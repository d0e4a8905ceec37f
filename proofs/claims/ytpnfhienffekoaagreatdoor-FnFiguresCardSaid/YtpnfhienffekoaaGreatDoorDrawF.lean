/- Contracts of the functions that draw lines and figures. -/
import Derived.Test.YtpnfhienffekoaaGreatDoorMgN
import Derived.Test.YtpnfhienffekoaaGreatDoorDrawB
import Derived.Test.YtpnfhienffekoaaGreatDoorDrawL
import Derived.Deep.RegionHeld3
import Derived.Deep.DeepCutAuto
namespace Go.Proofs.YtpnfhienffekoaaGreatDoor
set_option linter.unusedVariables false
set_option linter.unusedSimpArgs false
open Go.RowKit
theorem LinesIn.grown {w w' : World} {base : Nat} {v : Value} {L : List (List Int)} {qs : List Nat} {row : Option Nat} (h : LinesIn w base v L qs) (hg : w.grownBy w' row) (hr : ∀ k, row = some k → k < base) : LinesIn w' base v L qs :=
  ⟨h.len, own_only h.row hg (fun k hk e => by have := (h.vlt k hk).1; have := hr k e; omega), fun j q x h1 h2 => ⟨(h.blk j q x h1 h2).1, (h.blk j q x h1 h2).2.grown hg (fun k hk => by have := (h.blk j q x h1 h2).1; have := hr k hk; omega)⟩, h.two, h.up, h.off⟩
set_option maxRecDepth 100000 in
set_option maxHeartbeats 4000000 in
theorem l08DrawLines_any (g a B n : Nat) (w : World) (h : Src w g a B) (ha : a ≤ 999990000) (hB : B ≤ w.heap.size) (hn : n ≤ 30) :
    Calls Tryz.prog 121 #[.pointer (some ⟨g, 0, none⟩), .int .i64 (n : Int)] w fun e w' => ∃ (v : Value) (L : List (List Int)) (qs : List Nat), e = .returned v ∧ LinesIn w' w.heap.size v L qs ∧ L.length ≤ 16 ∧ Src w' g (a + 1800) B ∧ w.grownBy w' (some g) := by
  have hgl := h.lt
  have hb1 : Below w.heap.size w (w.alloc (.cells #[] 55)) := below_alloc (Below.refl _ _) _
  have hE : LinesIn (w.alloc (.cells #[] 55)) w.heap.size (.slice (some ⟨w.heap.size, 0, none⟩) 0 0) [] [] :=
    ⟨rfl, ⟨rfl, .inr ⟨w.heap.size, 0, #[], rfl, Nat.le_refl _, Blk.new w _ [], Nat.le_refl _, by simp [maxLen], rfl, rfl⟩⟩, fun j q x h => (by simp at h), fun x h => (by cases h), fun j k p q _ h => (by simp at h), fun q h => (by cases h)⟩
  have hS1 := h.keep hb1
  have hG1 := grown_of_below hb1 (some g)
  clear hb1
  go_enter Tryz.func121, Tryz.ntmps121
  go_wp2_with (fail)
  generalize w.alloc (.cells #[] 55) = W1 at *
  go_loopw [5, 6, 7] (fun s5 s6 _ wr => ∃ (i : Nat) (L : List (List Int)) (qs : List Nat), i ≤ n ∧ s6 = .int .i64 (i : Int) ∧ LinesIn wr w.heap.size s5 L qs ∧ L.length ≤ 16 ∧ Src wr g (a + 60 * i) B ∧ w.grownBy wr (some g)) (fun _ s6 _ _ => n - (intOf s6).toNat)
  case atStart => exact ⟨0, [], [], by omega, rfl, hE, by simp, hS1, hG1⟩
  case round =>
    clear hE hS1 hG1
    obtain ⟨i, L, qs, hi, rfl, hQ, hL16, hS, hG⟩ := hrel
    by_cases hin : i < n
    · have HQ0 := Lib.hid hQ
      have HS0 := Lib.hid hS
      have HG0 := Lib.hid hG
      have HL0 := Lib.hid hL16
      clear hQ hS hG hL16
      go_wp2_with (fail)
      go_loopw [5, 7] (fun s5 s7 wq => ∃ (k : Nat) (L : List (List Int)) (qs : List Nat), k ≤ n ∧ s7 = .int .i64 (k : Int) ∧ LinesIn wq w.heap.size s5 L qs ∧ L.length ≤ 16 ∧ Src wq g (a + 60 * i + 2 * k) B ∧ w.grownBy wq (some g)) (fun _ s7 _ => n - (intOf s7).toNat)
      case atStart => exact ⟨i + 1, L, qs, by omega, by go_num, HQ0.out, HL0.out, HS0.out.mono (by omega), HG0.out⟩
      case round =>
        clear HQ0 HS0 HG0 HL0
        obtain ⟨k, L2, qs2, hk, rfl, hQ, hL16, hS, hG⟩ := hrel
        obtain ⟨A, c, e, _, _, _, _⟩ := hQ.cells
        subst e
        have HQ := Lib.hid hQ
        have HG := Lib.hid hG
        have HS := Lib.hid hS
        by_cases hkn : k < n ∧ L2.length < 16
        · obtain ⟨hk1, hl1⟩ := hkn
          have hl1' : (L2.length : Int) < 16 := by omega
          clear hQ hG
          go_wp2_with (fail)
          refine (one_any g (a + 60 * i + 2 * k) B 3 _ hS (by omega) (by omega)).mono ?_
          rintro e w3 ⟨b, rfl, hS3, hg3⟩
          have hQ3 := HQ.out.grown hg3 (fun p hp => by injection hp with hp; omega)
          have hG3 := grown_trans0 HG.out hg3
          clear hS HS HQ HG hg3
          cases b with
          | true =>
            have hgl3 := hS3.lt
            have hs3 := hG3.size
            have hqs := fun q hq => (hQ3.qlt (q := q) hq)
            have hvo := fun q hq => (hQ3.vlt q hq)
            have HB := Lib.hid (Blk.new w3 2 (numCells [(i : Int), (k : Int)]))
            have hbA : Below w3.heap.size w3 ((w3.alloc (.cells #[.int .i64 (i : Int), .int .i64 (k : Int)] 2)).alloc (.cells #[.slice (some ⟨w3.heap.size, 0, none⟩) 2 2] 55)) := below_alloc (below_alloc (Below.refl _ _) _) _
            have HBA := Lib.hid hbA
            have HQ3 := Lib.hid hQ3
            have HS3 := Lib.hid hS3
            have HG3 := Lib.hid hG3
            clear hbA hQ3 hS3 hG3
            go_wp2_with (at_builtin; refine wpList_app_line rfl (.tmp 28) (.tmp 32) rfl w.heap.size (.slice A L2.length c) L2 qs2 [(i : Int), (k : Int)] w3.heap.size (w3.heap.size + 1) 1 rfl rfl (HQ3.out.below HBA.out) (by simp [go_sem, rowVal]) (HB.out.alloc _) rfl (by omega) (fun p hp => (hqs p hp).2) (fun e => by have := (hvo _ e).2; omega) (by omega) (by simp; omega) ?_; intro v6 w6 hQ6 hg6)
            have hg36 := grown_of_below HBA.out (A.map (·.block))
            have hGa := grown_trans0 HG3.out (grown_of_below HBA.out (some g))
            have hS6 := (HS3.out.keep HBA.out).grown hg6 (fun p hp => by have := (hvo p hp).1; omega)
            have hG6 := grown_own hGa hg6 (fun p hp => (hvo p hp).1)
            go_roundw
            case rel => exact ⟨k + 1, L2 ++ [[(i : Int), (k : Int)]], qs2 ++ [w3.heap.size], by omega, by go_num, hQ6, by simp; omega, hS6.mono (by omega), hG6⟩
            case measure => simp [intOf]; omega
          | false =>
            go_wp2_with (fail)
            go_roundw
            case rel => exact ⟨k + 1, L2, qs2, by omega, by go_num, hQ3, hL16, hS3.mono (by omega), hG3⟩
            case measure => simp [intOf]; omega
        · clear hS hQ hG
          by_cases hk1 : k < n
          · have hl1 : ¬ (L2.length : Int) < 16 := by omega
            clear hkn
            go_wp2_with (fail)
            go_roundw
            case rel => exact ⟨i + 1, L2, qs2, by omega, by go_num, HQ.out, hL16, HS.out.mono (by omega), HG.out⟩
            case measure => simp [intOf]; omega
          · have hk2 : ¬ (k : Int) < (n : Int) := by omega
            clear hkn
            go_wp2_with (fail)
            go_roundw
            case rel => exact ⟨i + 1, L2, qs2, by omega, by go_num, HQ.out, hL16, HS.out.mono (by omega), HG.out⟩
            case measure => simp [intOf]; omega
    · obtain rfl : i = n := by omega
      go_wp2_with (fail)
      go_ret
      exact ⟨_, L, qs, rfl, hQ, hL16, hS.mono (by omega), hG⟩
/-- rows of numbers in blocks that were made after base -/
def RowsIn (w : World) (base : Nat) (A : Option Addr) (L : List (List Int)) : Prop :=
  (A = none ∧ L = []) ∨ ∃ g : Nat, A = some ⟨g, 0, none⟩ ∧ base ≤ g ∧ g < w.heap.size ∧ ∀ (k : Nat) (x : List Int), L[k]? = some x → ∃ (q m : Nat), w.cell? ⟨g, k, none⟩ = some (.slice (some ⟨q, 0, none⟩) x.length m) ∧ x.length ≤ m ∧ m ≤ 9223372036854775807 ∧ base ≤ q ∧ Blk w q 2 (numCells x)
theorem RowsIn.lists {w : World} {base : Nat} {A : Option Addr} {L : List (List Int)} (h : RowsIn w base A L) : Lists w A L := fun hl => by
  rcases h with ⟨_, rfl⟩ | ⟨g, rfl, _, _, hc⟩
  · simp at hl
  · refine ⟨g, 0, rfl, fun k x hx => ?_⟩
    obtain ⟨q, m, h1, h2, h3, _, h5⟩ := hc k x hx
    exact ⟨some ⟨q, 0, none⟩, m, by rw [Nat.zero_add]; exact h1, h2, h3, fun e => (by cases e), h5.nums⟩
theorem RowsIn.grown {w w' : World} {base : Nat} {A : Option Addr} {L : List (List Int)} {row : Option Nat} (h : RowsIn w base A L) (hg : w.grownBy w' row) (hr : ∀ k, row = some k → k < base) : RowsIn w' base A L := by
  rcases h with h | ⟨g, e, hb, hlt, hc⟩
  · exact .inl h
  · refine .inr ⟨g, e, hb, Nat.lt_of_lt_of_le hlt hg.size, fun k x hx => ?_⟩
    obtain ⟨q, m, h1, h2, h3, h4, h5⟩ := hc k x hx
    refine ⟨q, m, ?_, h2, h3, h4, h5.grown hg (fun p hp => by have := hr p hp; omega)⟩
    rw [← h1]
    simp only [World.cell?]
    rw [hg.block g hlt (fun e => by have := hr g e.symm; omega)]
theorem RowsIn.below {w w' : World} {base : Nat} {A : Option Addr} {L : List (List Int)} (h : RowsIn w base A L) (hb : Below w.heap.size w w') : RowsIn w' base A L := h.grown (grown_of_below hb none) (fun k e => by cases e)
theorem RowsIn.far {w : World} {base : Nat} {A : Option Addr} {L : List (List Int)} (h : RowsIn w base A L) {p : Addr} (hp : p.block < base) (u : Value) : RowsIn (w.setCell p u) base A L := by
  rcases h with h | ⟨g, e, hb, hlt, hc⟩
  · exact .inl h
  · refine .inr ⟨g, e, hb, by simpa using hlt, fun k x hx => ?_⟩
    obtain ⟨q, m, h1, h2, h3, h4, h5⟩ := hc k x hx
    exact ⟨q, m, by rw [World.cell?_setCell_far _ _ _ _ (by show p.block ≠ g; omega)]; exact h1, h2, h3, h4, h5.far (by omega) u⟩
theorem RowsIn.base_le {w : World} {b1 b2 : Nat} {A : Option Addr} {L : List (List Int)} (h : RowsIn w b1 A L) (hb : b2 ≤ b1) : RowsIn w b2 A L := by
  rcases h with h | ⟨g, e, h0, hlt, hc⟩
  · exact .inl h
  · exact .inr ⟨g, e, by omega, hlt, fun k x hx => by
      obtain ⟨q, m, h1, h2, h3, h4, h5⟩ := hc k x hx
      exact ⟨q, m, h1, h2, h3, by omega, h5⟩⟩
theorem RowsIn.of_own {w : World} {base : Nat} {v : Value} {L : List (List Int)} {vals : List Value} (h : w.ownsRow base 55 1 v L.length vals)
    (hb : ∀ (k : Nat) (x : List Int), L[k]? = some x → ∃ (q m : Nat), vals[k]? = some (.slice (some ⟨q, 0, none⟩) x.length m) ∧ x.length ≤ m ∧ m ≤ 9223372036854775807 ∧ base ≤ q ∧ Blk w q 2 (numCells x)) :
    ∃ A c, v = .slice A L.length c ∧ L.length ≤ c ∧ c ≤ 9223372036854775807 ∧ RowsIn w base A L := by
  rcases h.2 with ⟨hv, hn⟩ | ⟨g, cap, cur, hv, hb', hh, h1, h2, h3, h4⟩
  · exact ⟨none, 0, by rw [hn]; exact hv, by omega, by omega, .inl ⟨rfl, List.eq_nil_of_length_eq_zero hn⟩⟩
  · subst hv
    refine ⟨some ⟨g, 0, none⟩, cap, rfl, h1, by unfold maxLen at h2; omega, .inr ⟨g, rfl, hb', (World.ownsRow.lt h g rfl).2, fun k x hx => ?_⟩⟩
    obtain ⟨q, m, k1, k2, k3, k4, k5⟩ := hb k x hx
    refine ⟨q, m, ?_, k2, k3, k4, k5⟩
    have := World.ownsRow.cells h (g := g) rfl k _ k1
    rw [addr_add] at this
    simpa using this
theorem LinesIn.rows {w : World} {base : Nat} {v : Value} {L : List (List Int)} {qs : List Nat} (h : LinesIn w base v L qs) : ∃ A c, v = .slice A L.length c ∧ L.length ≤ c ∧ c ≤ 9223372036854775807 ∧ RowsIn w base A L :=
  RowsIn.of_own h.row (fun k x hx => by
    obtain ⟨q, hq⟩ := at_lt (l := qs) (k := k) (by rw [h.len]; exact (List.getElem?_eq_some_iff.1 hx).1)
    have h2x := h.two x (List.mem_of_getElem? hx)
    exact ⟨q, 2, by simp [hq, rowVal, h2x], by omega, by omega, (h.blk k q x hq hx).1, (h.blk k q x hq hx).2⟩)
/-- a row of any length is appended to lines -/
theorem run_app_last (W : World) (base : Nat) (v : Value) (L : List (List Int)) (qs : List Nat) (x : List Int) (q b c : Nat) (ty : TypeId) (h : LinesIn W base v L qs) (hc : W.cell? ⟨b, 0, none⟩ = some (.slice (some ⟨q, 0, none⟩) x.length x.length)) (hx : Blk W q 2 (numCells x)) (hx2 : x.length ≤ 9223372036854775807) (hbq : base ≤ q) (hoff : v.ownBlock ≠ some q) (hl : L.length ≤ 1048577) (hb : base ≤ W.heap.size) :
    ∃ v' w', (Builtin.append_ #[61, 61] ty #[v, .slice (some ⟨b, 0, none⟩) 1 c]).run Tryz.prog W = .ok v' w' ∧ (∃ A c', v' = .slice A (L ++ [x]).length c' ∧ (L ++ [x]).length ≤ c' ∧ c' ≤ 9223372036854775807 ∧ RowsIn w' base A (L ++ [x])) ∧ W.grownBy w' v.ownBlock := by
  obtain ⟨i0, hi0, hz0, hz1, hz2⟩ := info_parts info_rows
  obtain ⟨v', w', hr, h1, h2, _, h4⟩ := run_append_own_at (P := Tryz.prog) (w := W) base 61 ty 55 i0 _ 1 24 Tryz.underlying61 hi0 hz0 hz1 hz2 rfl (by decide) v L.length (qs.map rowVal) h.row ⟨b, 0, none⟩ 1 c [.slice (some ⟨q, 0, none⟩) x.length x.length] rfl (fun j u hj => by
      cases j with
      | zero => simp only [List.getElem?_cons_zero, Option.some.injEq] at hj; subst hj; rw [addr_add]; exact hc
      | succ j => simp at hj) (fun u hu => by simp only [List.mem_singleton] at hu; subst hu; rfl) (by simp only [maxLen]; omega) (by omega) hb
  refine ⟨v', w', hr, RowsIn.of_own (vals := qs.map rowVal ++ [.slice (some ⟨q, 0, none⟩) x.length x.length]) (by rw [List.length_append]; exact h1) (fun k y hy => ?_), h2⟩
  by_cases hkl : k < L.length
  · rw [List.getElem?_append_left hkl] at hy
    obtain ⟨p, hp⟩ := at_lt (l := qs) (k := k) (by rw [h.len]; exact hkl)
    have h2y := h.two y (List.mem_of_getElem? hy)
    obtain ⟨g1, g2⟩ := h.blk k p y hp hy
    refine ⟨p, 2, ?_, by omega, by omega, g1, g2.grown2 h2 (fun z hz e => h.off p (List.mem_of_getElem? hp) (by rw [hz, e]))⟩
    rw [List.getElem?_append_left (by rw [List.length_map, h.len]; exact hkl)]
    simp [hp, rowVal, h2y]
  · have hk2 : k = L.length := by
      have := (List.getElem?_eq_some_iff.1 hy).1
      rw [List.length_append, List.length_singleton] at this; omega
    subst hk2
    rw [List.getElem?_append_right (Nat.le_refl _), Nat.sub_self] at hy
    simp only [List.getElem?_cons_zero, Option.some.injEq] at hy
    subst hy
    refine ⟨q, x.length, ?_, Nat.le_refl _, hx2, hbq, hx.grown2 h2 (fun z hz e => hoff (by rw [hz, e]))⟩
    rw [List.getElem?_append_right (by rw [List.length_map, h.len]; exact Nat.le_refl _), List.length_map, h.len, Nat.sub_self]
    rfl
theorem oper_app_last {W : World} {o : Oper} {a : Act} {K : Act → World → Prop} {Q : Exit → Act → World → Prop} (s x : Operand)
    (ho : o.op = .call { callee := .builtin .append, args := #[s, x], argTypes := #[61, 61] })
    (base : Nat) (v : Value) (L : List (List Int)) (qs : List Nat) (y : List Int) (q b c : Nat) (hs : a.eval s = v) (hx : a.eval x = .slice (some ⟨b, 0, none⟩) 1 c) (hown : LinesIn W base v L qs) (hc : W.cell? ⟨b, 0, none⟩ = some (.slice (some ⟨q, 0, none⟩) y.length y.length)) (hy : Blk W q 2 (numCells y)) (hy2 : y.length ≤ 9223372036854775807) (hbq : base ≤ q) (hoff : v.ownBlock ≠ some q) (hl : L.length ≤ 1048577) (hb : base ≤ W.heap.size)
    (h : ∀ v' w', (∃ A c', v' = .slice A (L ++ [y]).length c' ∧ (L ++ [y]).length ≤ c' ∧ c' ≤ 9223372036854775807 ∧ RowsIn w' base A (L ++ [y])) → W.grownBy w' v.ownBlock → K (a.put o.dst v') w') : Oper.wp Tryz.prog o a W K Q := by
  obtain ⟨v', w', hr, h1, h2⟩ := run_app_last W base v L qs y q b c o.type hown hc hy hy2 hbq hoff hl hb
  unfold Oper.wp execOp
  simp only [ho, resolve, invoke, builtin, Sem.run_bind, Sem.run_pure, Result.andThen_ok, List.map_toArray, List.map_cons, List.map_nil, hs, hx, hr]
  exact h _ _ h1 h2
theorem wpList_app_last {W : World} {ops : Array Oper} {rest : List Oper} {o : Oper} {a : Act} {Q : Exit → Act → World → Prop} (hgd : o.guard = none) (s x : Operand)
    (ho : o.op = .call { callee := .builtin .append, args := #[s, x], argTypes := #[61, 61] })
    (base : Nat) (v : Value) (L : List (List Int)) (qs : List Nat) (y : List Int) (q b c : Nat) (hs : a.eval s = v) (hx : a.eval x = .slice (some ⟨b, 0, none⟩) 1 c) (hown : LinesIn W base v L qs) (hc : W.cell? ⟨b, 0, none⟩ = some (.slice (some ⟨q, 0, none⟩) y.length y.length)) (hy : Blk W q 2 (numCells y)) (hy2 : y.length ≤ 9223372036854775807) (hbq : base ≤ q) (hoff : v.ownBlock ≠ some q) (hl : L.length ≤ 1048577) (hb : base ≤ W.heap.size)
    (h : ∀ v' w', (∃ A c', v' = .slice A (L ++ [y]).length c' ∧ (L ++ [y]).length ≤ c' ∧ c' ≤ 9223372036854775807 ∧ RowsIn w' base A (L ++ [y])) → W.grownBy w' v.ownBlock → wpList Tryz.prog ops Q rest (a.put o.dst v') w') : wpList Tryz.prog ops Q (o :: rest) a W := by
  refine wpList_plain hgd fun K hK => ?_
  exact oper_app_last s x ho base v L qs y q b c hs hx hown hc hy hy2 hbq hoff hl hb (fun v' w' h1 h2 => hK _ _ (h v' w' h1 h2))
end Go.Proofs.YtpnfhienffekoaaGreatDoor
