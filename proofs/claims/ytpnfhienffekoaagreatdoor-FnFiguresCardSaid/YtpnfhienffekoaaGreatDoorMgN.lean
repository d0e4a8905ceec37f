/- FigT, Lines, in one text. -/
import Derived.Test.YtpnfhienffekoaaGreatDoorListT
import Derived.Test.YtpnfhienffekoaaGreatDoorGrpFigs
import Derived.Maps.AppendAt
namespace Go.Proofs.YtpnfhienffekoaaGreatDoor
set_option linter.unusedVariables false
set_option linter.unusedSimpArgs false
open Go.RowKit
def figTO (nm : List UInt8) (L : List (List Int)) : List UInt8 := if figOk nm L = true then figT nm L else []
theorem figTO_yes {nm : List UInt8} {L : List (List Int)} (h : isName nm = true) (h2 : vLines 24 L = true) : figTO nm L = figT nm L := by rw [figTO, if_pos (by simp [figOk, h, h2])]
theorem figTO_no1 {nm : List UInt8} {L : List (List Int)} (h : isName nm = false) : figTO nm L = [] := by rw [figTO, if_neg (by simp [figOk, h])]
theorem figTO_no2 {nm : List UInt8} {L : List (List Int)} (h : vLines 24 L = false) : figTO nm L = [] := by rw [figTO, if_neg (by simp [figOk, h])]
theorem figT_nil (nm : List UInt8) : figT nm [] = nm := rfl
theorem figT_snoc {nm : List UInt8} {L : List (List Int)} {k : Nat} {a b : Int} (h : L[k]? = some [a, b]) : figT nm (L.take (k + 1)) = figT nm (L.take k) ++ ((([32] ++ Lib.itoa a) ++ [45]) ++ Lib.itoa b) := by
  unfold figT
  rw [List.take_add_one, h, List.map_append, ← List.cons_append]
  simp only [Option.toList, List.map_cons, List.map_nil]
  rw [joinC_snoc _ _ _ (by simp)]
  congr 1
  simp [lineT, joinC]
theorem hid_dash : Hid ((⟨#[45]⟩ : ByteArray).data.toList = [45]) := Lib.hid rfl
theorem vLines_16 {n : Int} {L : List (List Int)} (h : vLines n L = true) : L.length ≤ 16 := by
  simp [vLines] at h; omega
set_option maxHeartbeats 2000000 in
theorem FigureText_any (nm : ByteArray) (B : Option Addr) (p q : Nat) (L : List (List Int)) (w : World) (hp : L.length = p) (hp2 : p ≤ 9223372036854775807) (hB : Lists w B L) (hP : PowOk w) :
    Calls Tryz.prog 42 #[.agg #[.string nm, .slice B p q]] w fun e w' => e = .returned (.string (tx (figTO nm.data.toList L))) ∧ Below w.heap.size w w' := by
  have hb0 : Below w.heap.size w (w.alloc (.cells #[.string nm, .slice B p q] 63)) := below_alloc (Below.refl _ _) _
  have hX0 : Blk (w.alloc (.cells #[.string nm, .slice B p q] 63)) w.heap.size 63 (figCells nm B p q) := Blk.new _ _ _
  have hB0 := hB.below hb0
  have N : Hid (∀ W, Calls Tryz.prog 95 #[.string nm] W fun e w' => e = .returned (.bool (isName nm.data.toList)) ∧ W = w') := Lib.hid (fun W => IsName_any nm W)
  cases hm : isName nm.data.toList with
  | false =>
    have HO := Lib.hid (figTO_no1 (L := L) hm)
    rw [hm] at N
    clear hm hB hB0 hX0
    go_enter Tryz.func42, Tryz.ntmps42
    go_wp2_with (refine (N.out _).mono ?_; rintro e w2 ⟨rfl, rfl⟩)
    go_ret
    exact ⟨by rw [HO.out]; rfl, hb0⟩
  | true =>
    rw [hm] at N
    have VL : Hid (∀ W, Lists W B L → Calls Tryz.prog 96 #[.slice B p q, .int .i64 24] W fun e w' => e = .returned (.bool (vLines 24 L)) ∧ Below W.heap.size W w') := Lib.hid (fun W hW => validLines_any B p q L 24 W hp hp2 hW)
    cases hv : vLines 24 L with
    | false =>
      have HO := Lib.hid (figTO_no2 (nm := nm.data.toList) hv)
      rw [hv] at VL
      clear hm hv hB hX0
      go_enter Tryz.func42, Tryz.ntmps42
      go_wp2_with (first | (go_at_call 95; refine (N.out _).mono ?_; rintro e w2 ⟨rfl, rfl⟩) | (go_at_call 96; refine (VL.out _ hB0).mono ?_; rintro e w3 ⟨rfl, hb3⟩))
      go_ret
      exact ⟨by rw [HO.out]; rfl, below_step hb0 hb3⟩
    | true =>
      have HO := Lib.hid (figTO_yes hm hv)
      have hn10 := name_len hm
      have h16 := vLines_16 hv
      rw [hp] at h16
      have HMEM := Lib.hid (vLines_mem hv)
      have HL := Lib.hid hp
      rw [hv] at VL
      clear hm hv hp
      go_enter Tryz.func42, Tryz.ntmps42
      go_wp2_with (first | (go_at_call 95; refine (N.out _).mono ?_; rintro e w2 ⟨rfl, rfl⟩) | (go_at_call 96; refine (VL.out _ hB0).mono ?_; rintro e w3 ⟨rfl, hb3⟩; have hX3 := hX0.keep hb3; obtain ⟨x0, x1⟩ := hX3.fig; have hgl := hX3.lt))
      have hb03 := below_step hb0 hb3
      clear hX0 hB0 hb0
      go_loopw [3, 5, 21] (fun s3 _ s21 wr => ∃ (k : Nat) (s : ByteArray), k ≤ p ∧ s21 = .int .i64 (k : Int) ∧ s3 = .string s ∧ s.data.toList = figT nm.data.toList (L.take k) ∧ s.size ≤ 10 + 50 * k ∧ Below w.heap.size w wr) (fun _ _ s21 _ => p - (intOf s21).toNat)
      case atStart => exact ⟨0, nm, by omega, rfl, rfl, by rw [List.take_zero, figT_nil], by rw [← len_data]; omega, hb03⟩
      case round =>
        clear x0 x1 hX3 hb3 hb03 hgl
        obtain ⟨k, s, hk, rfl, rfl, hs, hsl, hb⟩ := hrel
        have HS := Lib.hid hs
        have hsd : s.data.toList.length ≤ 10 + 50 * k := by rw [len_data]; exact hsl
        clear hs
        by_cases hlt : k < p
        · obtain ⟨x, hx⟩ := at_lt (l := L) (k := k) (by have := HL.out; omega)
          obtain ⟨a, b, rfl, ha, hab, hb24⟩ := lineOk_two (HMEM.out x (List.mem_of_getElem? hx))
          obtain ⟨bb, bo, rfl, hc⟩ := hB.below hb (by have := HL.out; omega)
          obtain ⟨A1, c1, e0, e1, e2, e3, e4⟩ := hc k [a, b] hx
          obtain ⟨pp, oo, rfl, d0, d1⟩ := ints_two e4
          have l0 := World.block_lt_of_cell? wr _ e0
          have l1 := World.block_lt_of_cell? wr _ d0
          dsimp only at l0 l1
          have HFS := Lib.hid (figT_snoc (nm := nm.data.toList) hx)
          have i1 := itoa_len21 a ⟨by omega, by omega⟩
          have i2 := itoa_len21 b ⟨by omega, by omega⟩
          obtain ⟨p1, q1, f1⟩ := add_ex ⟨#[32]⟩ (tx (Lib.itoa a)) hid_blank (hid_tx _) (by simp only [List.length_cons, List.length_nil]; omega)
          obtain ⟨p2, q2, f2⟩ := add_ex p1 ⟨#[45]⟩ f1 hid_dash (by simp only [List.length_append, List.length_cons, List.length_nil]; omega)
          obtain ⟨p3, q3, f3⟩ := add_ex p2 (tx (Lib.itoa b)) f2 (hid_tx _) (by simp only [List.length_append, List.length_cons, List.length_nil]; omega)
          obtain ⟨p4, q4, f4⟩ := add_ex s p3 (hid_data s) f3 (by simp only [List.length_append, List.length_cons, List.length_nil]; omega)
          have HE : Hid (p4.data.toList = figT nm.data.toList (L.take (k + 1))) := Lib.hid (by rw [f4.out, HFS.out, HS.out])
          have hz4 : p4.size ≤ 10 + 50 * (k + 1) := by
            rw [← len_data, f4.out]
            simp only [List.length_append, List.length_cons, List.length_nil]
            omega
          have CD : Hid (∀ (W : Later wr) (m : Int), 0 ≤ m → m ≤ 100 → Calls Tryz.prog 75 #[.int .i64 m] W.w fun e w' => e = .returned (.string (tx (Lib.itoa m))) ∧ Below W.w.heap.size W.w w') := Lib.hid (fun W m h1 h2 => Decimal_any m W.w ⟨by omega, by omega⟩ ((hP.below hb).below W.below))
          clear hx hc e1 e2 e3 e4 hB i1 i2 hsd
          simp only [List.length_cons, List.length_nil] at e0
          go_wp2_with (fail)
          (refine later_intro_wp ?_; intro y)
          (refine wp_region_later (by kernel_rfl) (by kernel_rfl) ?_; (repeat (quiet_step ((go_at_call 75; exact later_below (CD.out _ _ (by omega) (by omega)))))); refine wpQuiet_nil ?_; rintro _ ⟨y, rfl⟩)
          go_wp2_with (fail)
          go_roundw
          case rel => exact ⟨k + 1, p4, by omega, by go_num, rfl, HE.out, hz4, below_later hb y⟩
          case measure => simp [intOf]; omega
        · have HE : Hid (s = tx (figT nm.data.toList L)) := Lib.hid (tx_eq (by rw [HS.out, List.take_of_length_le (by have := HL.out; omega)]))
          go_wp2_with (fail)
          go_ret
          exact ⟨by rw [HE.out, HO.out]; rfl, hb⟩
end Go.Proofs.YtpnfhienffekoaaGreatDoor
namespace Go.Proofs.YtpnfhienffekoaaGreatDoor
set_option linter.unusedVariables false
set_option linter.unusedSimpArgs false
open Go.RowKit
def rowVal (q : Nat) : Value := .slice (some ⟨q, 0, none⟩) 2 2
theorem own_set {w : World} {base : Nat} {e : TypeId} {size : Nat} {v : Value} {n : Nat} {xs : List Value} (h : w.ownsRow base e size v n xs) {p : Addr} (hp : p.block < base) (u : Value) : (w.setCell p u).ownsRow base e size v n xs := by
  obtain ⟨h0, hv | ⟨g, cap, cur, hv, hb, hh, h1, h2, h3, h4⟩⟩ := h
  · exact ⟨h0, .inl hv⟩
  · exact ⟨h0, .inr ⟨g, cap, cur, hv, hb, (Below.heap_setCell w p u g (by omega)).trans hh, h1, h2, h3, h4⟩⟩
/-- the marks in lines -/
def marksL (j : Int) : Nat → List (List Int)
  | 0 => []
  | n + 1 => marksL j n ++ [upFrom (j + 2 * n) 2]
theorem marksL_length (j : Int) (n : Nat) : (marksL j n).length = n := by
  induction n with
  | zero => rfl
  | succ n ih => rw [marksL, List.length_append, ih]; rfl
theorem marksL_at (j : Int) (n k : Nat) (h : k < n) : (marksL j n)[k]? = some (upFrom (j + 2 * k) 2) := by
  induction n with
  | zero => omega
  | succ n ih =>
    rw [marksL]
    by_cases hk : k < n
    · rw [List.getElem?_append_left (by rw [marksL_length]; exact hk)]; exact ih hk
    · rw [List.getElem?_append_right (by rw [marksL_length]; omega), marksL_length, show k - n = 0 by omega, show k = n by omega]; rfl
theorem info_rows : (Tryz.prog.info? 55).map (fun i => (i.zero, i.size, i.bytes)) = some (some (.slice none 0 0), 1, 24) := by kernel_rfl
/-- rows of two numbers in blocks of their own, in a row of the call's own -/
structure LinesIn (w : World) (base : Nat) (v : Value) (L : List (List Int)) (qs : List Nat) : Prop where
  len : qs.length = L.length
  row : w.ownsRow base 55 1 v L.length (qs.map rowVal)
  blk : ∀ (j q : Nat) (x : List Int), qs[j]? = some q → L[j]? = some x → base ≤ q ∧ Blk w q 2 (numCells x)
  two : ∀ x ∈ L, x.length = 2
  up : ∀ (j k p q : Nat), j < k → qs[j]? = some p → qs[k]? = some q → p < q
  off : ∀ q ∈ qs, v.ownBlock ≠ some q
def LinesOwn (w : World) (base : Nat) (v : Value) (L : List (List Int)) : Prop := ∃ qs, LinesIn w base v L qs
theorem LinesIn.nil (w : World) (base : Nat) : LinesIn w base (.slice none 0 0) [] [] :=
  ⟨rfl, World.ownsRow_nil w base _ 1, fun j q x h => (by simp at h), fun x h => (by cases h), fun j k p q _ h => (by simp at h), fun q h => (by cases h)⟩
theorem LinesIn.at_ {w : World} {base : Nat} {v : Value} {L : List (List Int)} {qs : List Nat} (h : LinesIn w base v L qs) {q : Nat} (hq : q ∈ qs) : ∃ (j : Nat) (x : List Int), qs[j]? = some q ∧ L[j]? = some x ∧ base ≤ q ∧ Blk w q 2 (numCells x) := by
  obtain ⟨j, hj⟩ := List.getElem?_of_mem hq
  obtain ⟨x, hx⟩ := at_lt (l := L) (k := j) (by rw [← h.len]; exact (List.getElem?_eq_some_iff.1 hj).1)
  exact ⟨j, x, hj, hx, h.blk j q x hj hx⟩
theorem LinesIn.qlt {w : World} {base : Nat} {v : Value} {L : List (List Int)} {qs : List Nat} (h : LinesIn w base v L qs) {q : Nat} (hq : q ∈ qs) : base ≤ q ∧ q < w.heap.size := by
  obtain ⟨j, x, _, _, h1, h2⟩ := h.at_ hq
  exact ⟨h1, h2.lt⟩
theorem LinesIn.vlt {w : World} {base : Nat} {v : Value} {L : List (List Int)} {qs : List Nat} (h : LinesIn w base v L qs) : ∀ k, v.ownBlock = some k → base ≤ k ∧ k < w.heap.size := World.ownsRow.lt h.row
theorem LinesIn.below {w w' : World} {base : Nat} {v : Value} {L : List (List Int)} {qs : List Nat} (h : LinesIn w base v L qs) (hb : Below w.heap.size w w') : LinesIn w' base v L qs :=
  ⟨h.len, own_below h.row hb, fun j q x h1 h2 => ⟨(h.blk j q x h1 h2).1, (h.blk j q x h1 h2).2.keep hb⟩, h.two, h.up, h.off⟩
theorem LinesIn.set {w : World} {base : Nat} {v : Value} {L : List (List Int)} {qs : List Nat} (h : LinesIn w base v L qs) {p : Addr} (hp : p.block < base) (u : Value) : LinesIn (w.setCell p u) base v L qs :=
  ⟨h.len, own_set h.row hp u, fun j q x h1 h2 => ⟨(h.blk j q x h1 h2).1, (h.blk j q x h1 h2).2.far (by have := (h.blk j q x h1 h2).1; omega) u⟩, h.two, h.up, h.off⟩
theorem LinesIn.within {w w' : World} {base lo hi : Nat} {v : Value} {L : List (List Int)} {qs : List Nat} (h : LinesIn w base v L qs) (hg : Within lo hi w w') (hlo : w.heap.size ≤ lo) : LinesIn w' base v L qs :=
  ⟨h.len, own_within h.row hg (fun k hk => .inl (Nat.lt_of_lt_of_le (h.vlt k hk).2 hlo)), fun j q x h1 h2 => ⟨(h.blk j q x h1 h2).1, (h.blk j q x h1 h2).2.within hg (.inl (Nat.lt_of_lt_of_le (h.blk j q x h1 h2).2.lt hlo))⟩, h.two, h.up, h.off⟩
theorem LinesIn.base_le {w : World} {b1 b2 : Nat} {v : Value} {L : List (List Int)} {qs : List Nat} (h : LinesIn w b1 v L qs) (hb : b2 ≤ b1) : LinesIn w b2 v L qs := by
  refine ⟨h.len, ⟨h.row.1, ?_⟩, fun j q x h1 h2 => ⟨Nat.le_trans hb (h.blk j q x h1 h2).1, (h.blk j q x h1 h2).2⟩, h.two, h.up, h.off⟩
  rcases h.row.2 with h2 | ⟨g, cap, cur, h1, h2, hr⟩
  · exact .inl h2
  · exact .inr ⟨g, cap, cur, h1, Nat.le_trans hb h2, hr⟩
theorem LinesIn.cells {w : World} {base : Nat} {v : Value} {L : List (List Int)} {qs : List Nat} (h : LinesIn w base v L qs) : ∃ A c, v = .slice A L.length c ∧ L.length ≤ c ∧ c ≤ 9223372036854775807 ∧ (A = none → c = 0 ∧ L.length = 0) ∧ (A = none ∨ ∃ g, A = some ⟨g, 0, none⟩ ∧ v.ownBlock = some g ∧ g < w.heap.size ∧ ∀ (j q : Nat), qs[j]? = some q → w.cell? ⟨g, j, none⟩ = some (rowVal q)) := by
  rcases h.row.2 with ⟨hv, hn⟩ | ⟨g, cap, cur, hv, hb, hh, h1, h2, h3, h4⟩
  · exact ⟨none, 0, by rw [hn]; exact hv, by omega, by omega, fun _ => ⟨rfl, hn⟩, .inl rfl⟩
  · subst hv
    refine ⟨some ⟨g, 0, none⟩, cap, rfl, h1, by unfold maxLen at h2; omega, fun e => (by cases e), .inr ⟨g, rfl, rfl, (h.vlt g rfl).2, fun j q hj => ?_⟩⟩
    have := World.ownsRow.cells h.row (g := g) rfl j (rowVal q) (by simp [hj])
    rw [addr_add] at this
    simpa using this
theorem LinesIn.lists {w : World} {base : Nat} {v : Value} {L : List (List Int)} {qs : List Nat} (h : LinesIn w base v L qs) : ∃ A c, v = .slice A L.length c ∧ Lists w A L ∧ L.length ≤ c ∧ c ≤ 9223372036854775807 ∧ (A = none → c = 0 ∧ L.length = 0) := by
  obtain ⟨A, c, hv, h1, h2, h3, h4⟩ := h.cells
  refine ⟨A, c, hv, fun hl => ?_, h1, h2, h3⟩
  rcases h4 with rfl | ⟨g, rfl, _, _, hc⟩
  · have := (h3 rfl).2; omega
  · refine ⟨g, 0, rfl, fun k x hx => ?_⟩
    obtain ⟨q, hq⟩ := at_lt (l := qs) (k := k) (by rw [h.len]; exact (List.getElem?_eq_some_iff.1 hx).1)
    have h2x := h.two x (List.mem_of_getElem? hx)
    refine ⟨some ⟨q, 0, none⟩, 2, ?_, by omega, by omega, fun e => (by cases e), (h.blk k q x hq hx).2.nums⟩
    rw [h2x, Nat.zero_add]
    exact hc k q hq
/-- a line is appended -/
theorem run_app_line (W : World) (base : Nat) (v : Value) (L : List (List Int)) (qs : List Nat) (x : List Int) (q b c : Nat) (ty : TypeId) (h : LinesIn W base v L qs) (hc : W.cell? ⟨b, 0, none⟩ = some (rowVal q)) (hx : Blk W q 2 (numCells x)) (hx2 : x.length = 2) (hbq : base ≤ q) (hup : ∀ p ∈ qs, p < q) (hoff : v.ownBlock ≠ some q) (hl : L.length ≤ 1048577) (hb : base ≤ W.heap.size) :
    ∃ v' w', (Builtin.append_ #[61, 61] ty #[v, .slice (some ⟨b, 0, none⟩) 1 c]).run Tryz.prog W = .ok v' w' ∧ LinesIn w' base v' (L ++ [x]) (qs ++ [q]) ∧ W.grownBy w' v.ownBlock := by
  obtain ⟨i0, hi0, hz0, hz1, hz2⟩ := info_parts info_rows
  obtain ⟨v', w', hr, h1, h2, _, h4⟩ := run_append_own_at (P := Tryz.prog) (w := W) base 61 ty 55 i0 _ 1 24 Tryz.underlying61 hi0 hz0 hz1 hz2 rfl (by decide) v L.length (qs.map rowVal) h.row ⟨b, 0, none⟩ 1 c [rowVal q] rfl (fun j u hj => by
      cases j with
      | zero => simp only [List.getElem?_cons_zero, Option.some.injEq] at hj; subst hj; rw [addr_add]; exact hc
      | succ j => simp at hj) (fun u hu => by simp only [List.mem_singleton] at hu; subst hu; rfl) (by simp only [maxLen]; omega) (by omega) hb
  refine ⟨v', w', hr, ⟨by simp [h.len], ?_, ?_, ?_, ?_, ?_⟩, h2⟩
  · rw [List.map_append, List.length_append]; exact h1
  · intro j p y hj hy
    by_cases hjl : j < L.length
    · rw [List.getElem?_append_left (by rw [h.len]; exact hjl)] at hj
      rw [List.getElem?_append_left hjl] at hy
      obtain ⟨g1, g2⟩ := h.blk j p y hj hy
      exact ⟨g1, g2.grown2 h2 (fun z hz e => h.off p (List.mem_of_getElem? hj) (by rw [hz, e]))⟩
    · have hj2 : j = L.length := by
        have := (List.getElem?_eq_some_iff.1 hy).1
        rw [List.length_append, List.length_singleton] at this; omega
      subst hj2
      rw [List.getElem?_append_right (by rw [h.len]; exact Nat.le_refl _), h.len, Nat.sub_self] at hj
      rw [List.getElem?_append_right (Nat.le_refl _), Nat.sub_self] at hy
      simp only [List.getElem?_cons_zero, Option.some.injEq] at hj hy
      subst hj hy
      exact ⟨hbq, hx.grown2 h2 (fun z hz e => hoff (by rw [hz, e]))⟩
  · intro y hy
    rcases List.mem_append.1 hy with hy | hy
    · exact h.two y hy
    · rw [List.mem_singleton.1 hy]; exact hx2
  · intro j k p r hjk hj hk
    by_cases hkl : k < qs.length
    · rw [List.getElem?_append_left hkl] at hk
      rw [List.getElem?_append_left (by omega)] at hj
      exact h.up j k p r hjk hj hk
    · have hk2 : k = qs.length := by
        have := (List.getElem?_eq_some_iff.1 hk).1
        rw [List.length_append, List.length_singleton] at this; omega
      subst hk2
      rw [List.getElem?_append_right (Nat.le_refl _), Nat.sub_self] at hk
      simp only [List.getElem?_cons_zero, Option.some.injEq] at hk
      subst hk
      rw [List.getElem?_append_left hjk] at hj
      exact hup p (List.mem_of_getElem? hj)
  · intro p hp e
    rcases List.mem_append.1 hp with hp | hp
    · rcases h4 with h4 | h4
      · exact h.off p hp (by rw [← h4]; exact e)
      · rw [h4] at e
        have := (h.qlt hp).2
        injection e with e; omega
    · rw [List.mem_singleton.1 hp] at e
      rcases h4 with h4 | h4
      · exact hoff (by rw [← h4]; exact e)
      · rw [h4] at e
        have := hx.lt
        injection e with e; omega
theorem wpList_app_line {W : World} {ops : Array Oper} {rest : List Oper} {o : Oper} {a : Act} {Q : Exit → Act → World → Prop} (hgd : o.guard = none) (s x : Operand)
    (ho : o.op = .call { callee := .builtin .append, args := #[s, x], argTypes := #[61, 61] })
    (base : Nat) (v : Value) (L : List (List Int)) (qs : List Nat) (y : List Int) (q b c : Nat) (hs : a.eval s = v) (hx : a.eval x = .slice (some ⟨b, 0, none⟩) 1 c) (hown : LinesIn W base v L qs) (hc : W.cell? ⟨b, 0, none⟩ = some (rowVal q)) (hy : Blk W q 2 (numCells y)) (hy2 : y.length = 2) (hbq : base ≤ q) (hup : ∀ p ∈ qs, p < q) (hoff : v.ownBlock ≠ some q) (hl : L.length ≤ 1048577) (hb : base ≤ W.heap.size)
    (h : ∀ v' w', LinesIn w' base v' (L ++ [y]) (qs ++ [q]) → W.grownBy w' v.ownBlock → wpList Tryz.prog ops Q rest (a.put o.dst v') w') : wpList Tryz.prog ops Q (o :: rest) a W := by
  refine wpList_plain hgd fun K hK => ?_
  obtain ⟨v', w', hr, h1, h2⟩ := run_app_line W base v L qs y q b c o.type hown hc hy hy2 hbq hup hoff hl hb
  unfold Oper.wp execOp
  simp only [ho, resolve, invoke, builtin, Sem.run_bind, Sem.run_pure, Result.andThen_ok, List.map_toArray, List.map_cons, List.map_nil, hs, hx, hr]
  exact hK _ _ (h v' w' h1 h2)
/-- one line is marked -/
theorem LinesIn.mark {w w' : World} {base : Nat} {v : Value} {L : List (List Int)} {qs : List Nat} {j q : Nat} {y : List Int} (h : LinesIn w base v L qs) (hj : qs[j]? = some q) (hy : y.length = 2) (hg : w.grownBy w' (some q)) (hq : Blk w' q 2 (numCells y)) : LinesIn w' base v (L.set j y) qs := by
  have hjl : j < L.length := by rw [← h.len]; exact (List.getElem?_eq_some_iff.1 hj).1
  refine ⟨by rw [List.length_set]; exact h.len, ?_, fun k p x hk hx => ?_, fun x hx => ?_, h.up, h.off⟩
  · rw [List.length_set]
    exact own_only h.row hg (fun k hk e => by injection e with e; subst e; exact h.off q (List.mem_of_getElem? hj) hk)
  · by_cases hkj : k = j
    · subst hkj
      rw [hj] at hk; injection hk with hk; subst hk
      rw [List.getElem?_set_self hjl] at hx; injection hx with hx; subst hx
      exact ⟨(h.qlt (List.mem_of_getElem? hj)).1, hq⟩
    · rw [List.getElem?_set_ne (fun e => hkj e.symm)] at hx
      obtain ⟨g1, g2⟩ := h.blk k p x hk hx
      have hpq : p ≠ q := by
        rcases Nat.lt_or_gt_of_ne hkj with hlt | hgt
        · exact Nat.ne_of_lt (h.up k j p q hlt hk hj)
        · exact Nat.ne_of_gt (h.up j k q p hgt hj hk)
      exact ⟨g1, g2.grown2 hg (fun z hz => by injection hz with hz; omega)⟩
  · rcases List.mem_or_eq_of_mem_set hx with hx | rfl
    · exact h.two x hx
    · exact hy
end Go.Proofs.YtpnfhienffekoaaGreatDoor
