/- Contracts of the texts of figures. -/
import Derived.Test.YtngkdolohokcoaaDoorListT
import Derived.Test.YtngkdolohokcoaaDoorGrpFigs
namespace Go.Proofs.YtngkdolohokcoaaDoor
set_option linter.unusedVariables false
set_option linter.unusedSimpArgs false
open Go.RowKit
def figTO (nm : List UInt8) (L : List (List Int)) : List UInt8 := if figOk nm L = true then figT nm L else []
theorem figTO_yes {nm : List UInt8} {L : List (List Int)} (h : isName nm = true) (h2 : vLines 24 L = true) : figTO nm L = figT nm L := by rw [figTO, if_pos (by simp [figOk, h, h2])]
theorem figTO_no1 {nm : List UInt8} {L : List (List Int)} (h : isName nm = false) : figTO nm L = [] := by rw [figTO, if_neg (by simp [figOk, h])]
theorem figTO_no2 {nm : List UInt8} {L : List (List Int)} (h : vLines 24 L = false) : figTO nm L = [] := by rw [figTO, if_neg (by simp [figOk, h])]
theorem figT_nil (nm : List UInt8) : figT nm [] = nm := rfl
theorem figT_snoc {nm : List UInt8} {L : List (List Int)} {k : Nat} {a b : Int} (h : L[k]? = some [a, b]) : figT nm (L.take (k + 1)) = figT nm (L.take k) ++ ((([32] ++ Lib.itoa a) ++ [45]) ++ Lib.itoa b) := by
  unfold figT
  rw [List.take_add_one, h, List.map_append, ← List.cons_append]
  simp only [Option.toList, List.map_cons, List.map_nil]
  rw [joinC_snoc _ _ _ (by simp)]
  congr 1
  simp [lineT, joinC]
theorem hid_dash : Hid ((⟨#[45]⟩ : ByteArray).data.toList = [45]) := Lib.hid rfl
theorem vLines_16 {n : Int} {L : List (List Int)} (h : vLines n L = true) : L.length ≤ 16 := by
  simp [vLines] at h; omega
set_option maxHeartbeats 2000000 in
theorem FigureText_any (nm : ByteArray) (B : Option Addr) (p q : Nat) (L : List (List Int)) (w : World) (hp : L.length = p) (hp2 : p ≤ 9223372036854775807) (hB : Lists w B L) (hP : PowOk w) :
    Calls Tryd.prog 26 #[.agg #[.string nm, .slice B p q]] w fun e w' => e = .returned (.string (tx (figTO nm.data.toList L))) ∧ Below w.heap.size w w' := by
  have hb0 : Below w.heap.size w (w.alloc (.cells #[.string nm, .slice B p q] 48)) := below_alloc (Below.refl _ _) _
  have hX0 : Blk (w.alloc (.cells #[.string nm, .slice B p q] 48)) w.heap.size 48 (figCells nm B p q) := Blk.new _ _ _
  have hB0 := hB.below hb0
  have N : Hid (∀ W, Calls Tryd.prog 58 #[.string nm] W fun e w' => e = .returned (.bool (isName nm.data.toList)) ∧ W = w') := Lib.hid (fun W => IsName_any nm W)
  cases hm : isName nm.data.toList with
  | false =>
    have HO := Lib.hid (figTO_no1 (L := L) hm)
    rw [hm] at N
    clear hm hB hB0 hX0
    go_enter Tryd.func26, Tryd.ntmps26
    go_wp2_with (refine (N.out _).mono ?_; rintro e w2 ⟨rfl, rfl⟩)
    go_ret
    exact ⟨by rw [HO.out]; rfl, hb0⟩
  | true =>
    rw [hm] at N
    have VL : Hid (∀ W, Lists W B L → Calls Tryd.prog 59 #[.slice B p q, .int .i64 24] W fun e w' => e = .returned (.bool (vLines 24 L)) ∧ Below W.heap.size W w') := Lib.hid (fun W hW => validLines_any B p q L 24 W hp hp2 hW)
    cases hv : vLines 24 L with
    | false =>
      have HO := Lib.hid (figTO_no2 (nm := nm.data.toList) hv)
      rw [hv] at VL
      clear hm hv hB hX0
      go_enter Tryd.func26, Tryd.ntmps26
      go_wp2_with (first | (go_at_call 58; refine (N.out _).mono ?_; rintro e w2 ⟨rfl, rfl⟩) | (go_at_call 59; refine (VL.out _ hB0).mono ?_; rintro e w3 ⟨rfl, hb3⟩))
      go_ret
      exact ⟨by rw [HO.out]; rfl, below_step hb0 hb3⟩
    | true =>
      have HO := Lib.hid (figTO_yes hm hv)
      have hn10 := name_len hm
      have h16 := vLines_16 hv
      rw [hp] at h16
      have HMEM := Lib.hid (vLines_mem hv)
      have HL := Lib.hid hp
      rw [hv] at VL
      clear hm hv hp
      go_enter Tryd.func26, Tryd.ntmps26
      go_wp2_with (first | (go_at_call 58; refine (N.out _).mono ?_; rintro e w2 ⟨rfl, rfl⟩) | (go_at_call 59; refine (VL.out _ hB0).mono ?_; rintro e w3 ⟨rfl, hb3⟩; have hX3 := hX0.keep hb3; obtain ⟨x0, x1⟩ := hX3.fig; have hgl := hX3.lt))
      have hb03 := below_step hb0 hb3
      clear hX0 hB0 hb0
      go_loopw [3, 5, 21] (fun s3 _ s21 wr => ∃ (k : Nat) (s : ByteArray), k ≤ p ∧ s21 = .int .i64 (k : Int) ∧ s3 = .string s ∧ s.data.toList = figT nm.data.toList (L.take k) ∧ s.size ≤ 10 + 50 * k ∧ Below w.heap.size w wr) (fun _ _ s21 _ => p - (intOf s21).toNat)
      case atStart => exact ⟨0, nm, by omega, rfl, rfl, by rw [List.take_zero, figT_nil], by rw [← len_data]; omega, hb03⟩
      case round =>
        clear x0 x1 hX3 hb3 hb03 hgl
        obtain ⟨k, s, hk, rfl, rfl, hs, hsl, hb⟩ := hrel
        have HS := Lib.hid hs
        have hsd : s.data.toList.length ≤ 10 + 50 * k := by rw [len_data]; exact hsl
        clear hs
        by_cases hlt : k < p
        · obtain ⟨x, hx⟩ := at_lt (l := L) (k := k) (by have := HL.out; omega)
          obtain ⟨a, b, rfl, ha, hab, hb24⟩ := lineOk_two (HMEM.out x (List.mem_of_getElem? hx))
          obtain ⟨bb, bo, rfl, hc⟩ := hB.below hb (by have := HL.out; omega)
          obtain ⟨A1, c1, e0, e1, e2, e3, e4⟩ := hc k [a, b] hx
          obtain ⟨pp, oo, rfl, d0, d1⟩ := ints_two e4
          have l0 := World.block_lt_of_cell? wr _ e0
          have l1 := World.block_lt_of_cell? wr _ d0
          dsimp only at l0 l1
          have HFS := Lib.hid (figT_snoc (nm := nm.data.toList) hx)
          have i1 := itoa_len21 a ⟨by omega, by omega⟩
          have i2 := itoa_len21 b ⟨by omega, by omega⟩
          obtain ⟨p1, q1, f1⟩ := add_ex ⟨#[32]⟩ (tx (Lib.itoa a)) hid_blank (hid_tx _) (by simp only [List.length_cons, List.length_nil]; omega)
          obtain ⟨p2, q2, f2⟩ := add_ex p1 ⟨#[45]⟩ f1 hid_dash (by simp only [List.length_append, List.length_cons, List.length_nil]; omega)
          obtain ⟨p3, q3, f3⟩ := add_ex p2 (tx (Lib.itoa b)) f2 (hid_tx _) (by simp only [List.length_append, List.length_cons, List.length_nil]; omega)
          obtain ⟨p4, q4, f4⟩ := add_ex s p3 (hid_data s) f3 (by simp only [List.length_append, List.length_cons, List.length_nil]; omega)
          have HE : Hid (p4.data.toList = figT nm.data.toList (L.take (k + 1))) := Lib.hid (by rw [f4.out, HFS.out, HS.out])
          have hz4 : p4.size ≤ 10 + 50 * (k + 1) := by
            rw [← len_data, f4.out]
            simp only [List.length_append, List.length_cons, List.length_nil]
            omega
          have CD : Hid (∀ (W : Later wr) (m : Int), 0 ≤ m → m ≤ 100 → Calls Tryd.prog 44 #[.int .i64 m] W.w fun e w' => e = .returned (.string (tx (Lib.itoa m))) ∧ Below W.w.heap.size W.w w') := Lib.hid (fun W m h1 h2 => Decimal_any m W.w ⟨by omega, by omega⟩ ((hP.below hb).below W.below))
          clear hx hc e1 e2 e3 e4 hB i1 i2 hsd
          simp only [List.length_cons, List.length_nil] at e0
          go_wp2_with (fail)
          (refine later_intro_wp ?_; intro y)
          (refine wp_region_later (by kernel_rfl) (by kernel_rfl) ?_; (repeat (quiet_step ((go_at_call 44; exact later_below (CD.out _ _ (by omega) (by omega)))))); refine wpQuiet_nil ?_; rintro _ ⟨y, rfl⟩)
          go_wp2_with (fail)
          go_roundw
          case rel => exact ⟨k + 1, p4, by omega, by go_num, rfl, HE.out, hz4, below_later hb y⟩
          case measure => simp [intOf]; omega
        · have HE : Hid (s = tx (figT nm.data.toList L)) := Lib.hid (tx_eq (by rw [HS.out, List.take_of_length_le (by have := HL.out; omega)]))
          go_wp2_with (fail)
          go_ret
          exact ⟨by rw [HE.out, HO.out]; rfl, hb⟩
set_option maxHeartbeats 2000000 in
theorem l08Text_any (g : Nat) (nm : ByteArray) (B : Option Addr) (p q : Nat) (L : List (List Int)) (w : World) (x0 : w.cell? ⟨g, 0, none⟩ = some (.string nm)) (x1 : w.cell? ⟨g, 1, none⟩ = some (.slice B p q)) (hp : L.length = p) (hB : Lists w B L) (hm : isName nm.data.toList = true) (hv : vLines 24 L = true) :
    Calls Tryd.prog 56 #[.pointer (some ⟨g, 0, none⟩)] w fun e w' => e = .returned (.string (tx (figTO nm.data.toList L))) ∧ Below w.heap.size w w' := by
  have HO := Lib.hid (figTO_yes hm hv)
  have hn10 := name_len hm
  have h16 := vLines_16 hv
  rw [hp] at h16
  have HMEM := Lib.hid (vLines_mem hv)
  have HL := Lib.hid hp
  have hgl := World.block_lt_of_cell? w _ x0
  dsimp only at hgl
  clear hm hv hp
  go_enter Tryd.func56, Tryd.ntmps56
  go_wp2_with (fail)
  go_loopw [3, 4] (fun s3 s4 wr => ∃ (k : Nat) (s : ByteArray), k ≤ p ∧ s4 = .int .i64 (k : Int) ∧ s3 = .string s ∧ s.data.toList = figT nm.data.toList (L.take k) ∧ s.size ≤ 10 + 50 * k ∧ Below w.heap.size w wr) (fun _ s4 _ => p - (intOf s4).toNat)
  case atStart => exact ⟨0, nm, by omega, rfl, rfl, by rw [List.take_zero, figT_nil], by rw [← len_data]; omega, Below.refl _ _⟩
  case round =>
    obtain ⟨k, s, hk, rfl, rfl, hs, hsl, hb⟩ := hrel
    have y0 := (hb.cell (p := ⟨g, 0, none⟩) hgl).trans x0
    have y1 := (hb.cell (p := ⟨g, 1, none⟩) hgl).trans x1
    have hgl2 := Nat.lt_of_lt_of_le hgl hb.size
    clear x0 x1
    have HS := Lib.hid hs
    have hsd : s.data.toList.length ≤ 10 + 50 * k := by rw [len_data]; exact hsl
    clear hs
    by_cases hlt : k < p
    · obtain ⟨x, hx⟩ := at_lt (l := L) (k := k) (by have := HL.out; omega)
      obtain ⟨a, b, rfl, ha, hab, hb24⟩ := lineOk_two (HMEM.out x (List.mem_of_getElem? hx))
      obtain ⟨bb, bo, rfl, hc⟩ := hB.below hb (by have := HL.out; omega)
      obtain ⟨A1, c1, e0, e1, e2, e3, e4⟩ := hc k [a, b] hx
      obtain ⟨pp, oo, rfl, d0, d1⟩ := ints_two e4
      have l0 := World.block_lt_of_cell? wr _ e0
      have l1 := World.block_lt_of_cell? wr _ d0
      dsimp only at l0 l1
      have HFS := Lib.hid (figT_snoc (nm := nm.data.toList) hx)
      have i1 := itoa_len21 a ⟨by omega, by omega⟩
      have i2 := itoa_len21 b ⟨by omega, by omega⟩
      obtain ⟨p1, q1, f1⟩ := add_ex ⟨#[32]⟩ (tx (Lib.itoa a)) hid_blank (hid_tx _) (by simp only [List.length_cons, List.length_nil]; omega)
      obtain ⟨p2, q2, f2⟩ := add_ex p1 ⟨#[45]⟩ f1 hid_dash (by simp only [List.length_append, List.length_cons, List.length_nil]; omega)
      obtain ⟨p3, q3, f3⟩ := add_ex p2 (tx (Lib.itoa b)) f2 (hid_tx _) (by simp only [List.length_append, List.length_cons, List.length_nil]; omega)
      obtain ⟨p4, q4, f4⟩ := add_ex s p3 (hid_data s) f3 (by simp only [List.length_append, List.length_cons, List.length_nil]; omega)
      have HE : Hid (p4.data.toList = figT nm.data.toList (L.take (k + 1))) := Lib.hid (by rw [f4.out, HFS.out, HS.out])
      have hz4 : p4.size ≤ 10 + 50 * (k + 1) := by
        rw [← len_data, f4.out]
        simp only [List.length_append, List.length_cons, List.length_nil]
        omega
      have CD : Hid (∀ (W : Later wr) (m : Int), 0 ≤ m → m ≤ 100 → Calls Tryd.prog 75 #[.int .i64 m] W.w fun e w' => e = .returned (.string (tx (Lib.itoa m))) ∧ Below W.w.heap.size W.w w') := Lib.hid (fun W m h1 h2 => l01Dec_any m W.w ⟨by omega, by omega⟩)
      have hkp : (k : Int) < (p : Int) := by omega
      clear hx hc e1 e2 e3 e4 hB i1 i2 hsd
      simp only [List.length_cons, List.length_nil] at e0
      go_wp2_with (fail)
      (refine later_intro_wp ?_; intro y)
      (refine wp_region_later (by kernel_rfl) (by kernel_rfl) ?_; (repeat (quiet_step ((go_at_call 75; exact later_below (CD.out _ _ (by omega) (by omega)))))); refine wpQuiet_nil ?_; rintro _ ⟨y, rfl⟩)
      go_wp2_with (fail)
      go_roundw
      case rel => exact ⟨k + 1, p4, by omega, by go_num, rfl, HE.out, hz4, below_later hb y⟩
      case measure => simp [intOf]; omega
    · have HE : Hid (s = tx (figT nm.data.toList L)) := Lib.hid (tx_eq (by rw [HS.out, List.take_of_length_le (by have := HL.out; omega)]))
      go_wp2_with (fail)
      go_ret
      exact ⟨by rw [HE.out, HO.out]; rfl, hb⟩
set_option maxHeartbeats 1000000 in
theorem sFigureText_any (nm : ByteArray) (B : Option Addr) (p q : Nat) (L : List (List Int)) (w : World) (hp : L.length = p) (hp2 : p ≤ 9223372036854775807) (hB : Lists w B L) :
    Calls Tryd.prog 24 #[.agg #[.string nm, .slice B p q]] w fun e w' => e = .returned (.string (tx (figTO nm.data.toList L))) ∧ Below w.heap.size w w' := by
  have hb0 : Below w.heap.size w (w.alloc (.cells #[.string nm, .slice B p q] 48)) := below_alloc (Below.refl _ _) _
  have hX0 : Blk (w.alloc (.cells #[.string nm, .slice B p q] 48)) w.heap.size 48 (figCells nm B p q) := Blk.new _ _ _
  have hB0 := hB.below hb0
  have N : Hid (∀ W, Calls Tryd.prog 54 #[.string nm] W fun e w' => e = .returned (.bool (isName nm.data.toList)) ∧ W = w') := Lib.hid (fun W => l01Name_any nm W)
  cases hm : isName nm.data.toList with
  | false =>
    have HO := Lib.hid (figTO_no1 (L := L) hm)
    rw [hm] at N
    clear hm hB hB0 hX0
    go_enter Tryd.func24, Tryd.ntmps24
    go_wp2_with (refine (N.out _).mono ?_; rintro e w2 ⟨rfl, rfl⟩)
    go_ret
    exact ⟨by rw [HO.out]; rfl, hb0⟩
  | true =>
    rw [hm] at N
    have VL : Hid (∀ W, Lists W B L → Calls Tryd.prog 55 #[.slice B p q, .int .i64 24] W fun e w' => e = .returned (.bool (vLines 24 L)) ∧ Below W.heap.size W w') := Lib.hid (fun W hW => l08Lines_any B p q L 24 W hp hp2 hW (by omega) (by omega))
    cases hv : vLines 24 L with
    | false =>
      have HO := Lib.hid (figTO_no2 (nm := nm.data.toList) hv)
      rw [hv] at VL
      clear hm hv hB hX0
      go_enter Tryd.func24, Tryd.ntmps24
      go_wp2_with (first | (go_at_call 54; refine (N.out _).mono ?_; rintro e w2 ⟨rfl, rfl⟩) | (go_at_call 55; refine (VL.out _ hB0).mono ?_; rintro e w3 ⟨rfl, hb3⟩))
      go_ret
      exact ⟨by rw [HO.out]; rfl, below_step hb0 hb3⟩
    | true =>
      have CT : Hid (∀ W, Below (w.alloc (.cells #[.string nm, .slice B p q] 48)).heap.size (w.alloc (.cells #[.string nm, .slice B p q] 48)) W → Calls Tryd.prog 56 #[.pointer (some ⟨w.heap.size, 0, none⟩)] W fun e w' => e = .returned (.string (tx (figTO nm.data.toList L))) ∧ Below W.heap.size W w') := Lib.hid (fun W hW => l08Text_any w.heap.size nm B p q L W (hX0.keep hW).fig.1 (hX0.keep hW).fig.2 hp (hB0.below hW) hm hv)
      rw [hv] at VL
      clear hm hv hB hX0
      go_enter Tryd.func24, Tryd.ntmps24
      go_wp2_with (first | (go_at_call 54; refine (N.out _).mono ?_; rintro e w2 ⟨rfl, rfl⟩) | (go_at_call 55; refine (VL.out _ hB0).mono ?_; rintro e w3 ⟨rfl, hb3⟩) | (go_at_call 56; refine (CT.out _ hb3).mono ?_; rintro e w4 ⟨rfl, hb4⟩))
      go_ret
      exact ⟨rfl, below_step (below_step hb0 hb3) hb4⟩
end Go.Proofs.YtngkdolohokcoaaDoor
