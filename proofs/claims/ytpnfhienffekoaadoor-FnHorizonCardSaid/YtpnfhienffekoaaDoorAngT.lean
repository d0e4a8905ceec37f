/- Contracts of the texts of angles and sites. -/
import Derived.Test.YtpnfhienffekoaaDoorStarT
namespace Go.Proofs.YtpnfhienffekoaaDoor
set_option linter.unusedVariables false
set_option linter.unusedSimpArgs false
open Go.RowKit
theorem hid_zero : Hid ((⟨#[48]⟩ : ByteArray).data.toList = [48]) := Lib.hid rfl
theorem hid_dot : Hid ((⟨#[46]⟩ : ByteArray).data.toList = [46]) := Lib.hid rfl
theorem hid_minus : Hid ((⟨#[45]⟩ : ByteArray).data.toList = [45]) := Lib.hid rfl
theorem hid_none : Hid ((⟨#[]⟩ : ByteArray).data.toList = []) := Lib.hid rfl
/-- digits with zeros ahead -/
def padJ (j n : Nat) : List UInt8 := List.replicate j 48 ++ Lib.decDigits n
theorem padJ_succ (j n : Nat) : [48] ++ padJ j n = padJ (j + 1) n := by rw [padJ, padJ, List.replicate_succ]; rfl
theorem padJ_len (j n : Nat) : (padJ j n).length = j + (Lib.decDigits n).length := by simp [padJ]
theorem padJ_end {j n : Nat} (hn : n < 1000) (h : (padJ j n).length = 3) : padJ j n = pad3 n := by
  rw [padJ_len] at h
  rw [padJ, pad3, show 3 - (Lib.decDigits n).length = j by omega]
theorem itoa_nat (u : Nat) : Lib.itoa (u : Int) = Lib.decDigits u := itoa_of_nat u
theorem angT_neg (u : Nat) (h : 1 ≤ u) : angT (-(u : Int)) = [45] ++ (Lib.decDigits (u / 1000) ++ 46 :: pad3 (u % 1000)) := by
  rw [angT, if_pos (by omega), show (-(u : Int)).natAbs = u by omega]
theorem angT_pos (u : Nat) : angT (u : Int) = [] ++ (Lib.decDigits (u / 1000) ++ 46 :: pad3 (u % 1000)) := by
  rw [angT, if_neg (by omega), show ((u : Int)).natAbs = u by omega]
theorem angT_len {a : Int} (h1 : -359999 ≤ a) (h2 : a ≤ 359999) : (angT a).length ≤ 8 := by
  have i1 := (decDigits_len3 (r := a.natAbs / 1000) (by omega)).2
  have i2 := pad3_len (r := a.natAbs % 1000) (by omega)
  unfold angT
  split <;> simp only [List.length_append, List.length_cons, List.length_nil] <;> omega
theorem angText_yes {a : Int} (h : inB a (-359999) 359999 = true) : angText a = angT a := by rw [angText, if_pos h]
theorem angText_no {a : Int} (h : inB a (-359999) 359999 = false) : angText a = [] := by rw [angText, if_neg (by rw [h]; exact Bool.false_ne_true)]
set_option maxHeartbeats 2000000 in
theorem padded_any (n : Nat) (w : World) (hn : n < 1000) (hP : PowOk w) :
    Calls Tryd.prog 47 #[.int .i64 (n : Int), .int .i64 3] w fun e w' => e = .returned (.string (tx (pad3 n))) ∧ Below w.heap.size w w' := by
  have hd := decDigits_len3 hn
  have HI := Lib.hid (itoa_nat n)
  go_enter Tryd.func47, Tryd.ntmps47
  go_wp2_with (refine (Decimal_any (n : Int) _ ⟨by omega, by omega⟩ hP).mono ?_; rintro e w1 ⟨rfl, hb1⟩)
  rw [HI.out]
  go_loop [5] (fun s5 => ∃ (j : Nat) (p : ByteArray), s5 = .string p ∧ p.data.toList = padJ j n ∧ j + (Lib.decDigits n).length ≤ 3) (fun s5 => match s5 with | .string p => 3 - p.size | _ => 0)
  case atStart => exact ⟨0, _, rfl, by rw [tx_data]; rfl, by omega⟩
  case round =>
    obtain ⟨j, p, rfl, hp, hj⟩ := hrel
    have HPJ := Lib.hid hp
    have hsz : p.size = j + (Lib.decDigits n).length := by rw [← len_data, hp, padJ_len]
    have HSZ := Lib.hid hsz
    clear hp
    by_cases hlt : p.size < 3
    · have hlt' : decide ((p.size : Int) < 3) = true := by rw [decide_eq_true_eq]; omega
      obtain ⟨p2, q2, e2⟩ := add_ex ⟨#[48]⟩ p hid_zero HPJ (by rw [padJ_len]; simp; omega)
      have HE : Hid (p2.data.toList = padJ (j + 1) n) := Lib.hid (by rw [e2.out, padJ_succ])
      have hs2 : p2.size = p.size + 1 := by rw [← len_data, HE.out, padJ_len, hsz]; omega
      have HS2 := Lib.hid hs2
      clear hs2 hsz e2
      go_wp2_with (fail)
      go_round
      case rel => exact ⟨j + 1, p2, rfl, HE.out, by have := HSZ.out; omega⟩
      case measure => simp only; have := HS2.out; omega
    · have hlt' : decide ((p.size : Int) < 3) = false := by rw [decide_eq_false_iff_not]; omega
      have HT : Hid (p = tx (pad3 n)) := Lib.hid (tx_eq (by rw [HPJ.out]; exact padJ_end hn (by rw [padJ_len]; omega)))
      clear hsz
      go_wp2_with (fail)
      go_ret
      exact ⟨by rw [HT.out]; rfl, hb1⟩
set_option maxHeartbeats 2000000 in
theorem AngleText_any (a : Int) (w : World) (hI : I64 a) (hP : PowOk w) :
    Calls Tryd.prog 32 #[.int .i64 a] w fun e w' => e = .returned (.string (tx (angText a))) ∧ Below w.heap.size w w' := by
  have CW := Lib.hid (within_any a (-359999) 359999 w)
  cases hb : inB a (-359999) 359999 with
  | false =>
    have HO := Lib.hid (angText_no hb)
    rw [hb] at CW
    clear hb
    go_enter Tryd.func32, Tryd.ntmps32
    go_wp2_with (refine CW.out.mono ?_; rintro e w1 ⟨rfl, rfl⟩)
    go_ret
    exact ⟨by rw [HO.out]; rfl, Below.refl _ _⟩
  | true =>
    have HO := Lib.hid (angText_yes hb)
    have hab := (inB_iff _ _ _).1 hb
    rw [hb] at CW
    clear hb
    by_cases hs : a < 0
    · obtain ⟨u, rfl⟩ : ∃ u : Nat, a = -(u : Int) := ⟨a.natAbs, by omega⟩
      have hu1 : u ≤ 359999 := by omega
      have hu0 : 1 ≤ u := by omega
      have HA := Lib.hid (angT_neg u hu0)
      have i1 := (decDigits_len3 (r := u / 1000) (by omega)).2
      have i2 := pad3_len (r := u % 1000) (by omega)
      have HQ : Hid (Lib.itoa ((u : Int) / 1000) = Lib.decDigits (u / 1000)) := Lib.hid (by rw [← itoa_nat]; congr 1)
      obtain ⟨p1, q1, e1⟩ := add_ex ⟨#[45]⟩ (tx (Lib.decDigits (u / 1000))) hid_minus (hid_tx _) (by simp; omega)
      obtain ⟨p2, q2, e2⟩ := add_ex p1 ⟨#[46]⟩ e1 hid_dot (by simp; omega)
      obtain ⟨p3, q3, e3⟩ := add_ex p2 (tx (pad3 (u % 1000))) e2 (hid_tx _) (by simp only [List.length_append, List.length_cons, List.length_nil]; omega)
      have CD : Hid (∀ W, PowOk W → Calls Tryd.prog 46 #[.int .i64 ((u : Int) / 1000)] W fun e w' => e = .returned (.string (tx (Lib.decDigits (u / 1000)))) ∧ Below W.heap.size W w') := Lib.hid (fun W h => by
        have := Decimal_any ((u : Int) / 1000) W ⟨by omega, by omega⟩ h
        rwa [HQ.out] at this)
      have CP : Hid (∀ W, PowOk W → Calls Tryd.prog 47 #[.int .i64 ((u : Int) % 1000), .int .i64 3] W fun e w' => e = .returned (.string (tx (pad3 (u % 1000)))) ∧ Below W.heap.size W w') := Lib.hid (fun W h => by
        have := padded_any (u % 1000) W (by omega) h
        rwa [show (((u % 1000 : Nat)) : Int) = (u : Int) % 1000 by omega] at this)
      clear hab i1 i2
      go_enter Tryd.func32, Tryd.ntmps32
      go_wp2_with (first | (go_at_call 19; refine CW.out.mono ?_; rintro e w1 ⟨rfl, rfl⟩) | (go_at_call 46; refine (CD.out _ hP).mono ?_; rintro e w2 ⟨rfl, hb2⟩) | (go_at_call 47; refine (CP.out _ (hP.below hb2)).mono ?_; rintro e w3 ⟨rfl, hb3⟩))
      go_ret
      exact ⟨ret_str (by rw [e3.out, HO.out, HA.out]; simp only [List.append_assoc, List.cons_append, List.nil_append]), below_step hb2 hb3⟩
    · obtain ⟨u, rfl⟩ : ∃ u : Nat, a = (u : Int) := ⟨a.toNat, by omega⟩
      have hu1 : u ≤ 359999 := by omega
      have HA := Lib.hid (angT_pos u)
      have i1 := (decDigits_len3 (r := u / 1000) (by omega)).2
      have i2 := pad3_len (r := u % 1000) (by omega)
      have HQ : Hid (Lib.itoa ((u : Int) / 1000) = Lib.decDigits (u / 1000)) := Lib.hid (by rw [← itoa_nat]; congr 1)
      obtain ⟨p1, q1, e1⟩ := add_ex ⟨#[]⟩ (tx (Lib.decDigits (u / 1000))) hid_none (hid_tx _) (by simp; omega)
      obtain ⟨p2, q2, e2⟩ := add_ex p1 ⟨#[46]⟩ e1 hid_dot (by simp; omega)
      obtain ⟨p3, q3, e3⟩ := add_ex p2 (tx (pad3 (u % 1000))) e2 (hid_tx _) (by simp only [List.length_append, List.length_cons, List.length_nil]; omega)
      have CD : Hid (∀ W, PowOk W → Calls Tryd.prog 46 #[.int .i64 ((u : Int) / 1000)] W fun e w' => e = .returned (.string (tx (Lib.decDigits (u / 1000)))) ∧ Below W.heap.size W w') := Lib.hid (fun W h => by
        have := Decimal_any ((u : Int) / 1000) W ⟨by omega, by omega⟩ h
        rwa [HQ.out] at this)
      have CP : Hid (∀ W, PowOk W → Calls Tryd.prog 47 #[.int .i64 ((u : Int) % 1000), .int .i64 3] W fun e w' => e = .returned (.string (tx (pad3 (u % 1000)))) ∧ Below W.heap.size W w') := Lib.hid (fun W h => by
        have := padded_any (u % 1000) W (by omega) h
        rwa [show (((u % 1000 : Nat)) : Int) = (u : Int) % 1000 by omega] at this)
      clear hab i1 i2
      go_enter Tryd.func32, Tryd.ntmps32
      go_wp2_with (first | (go_at_call 19; refine CW.out.mono ?_; rintro e w1 ⟨rfl, rfl⟩) | (go_at_call 46; refine (CD.out _ hP).mono ?_; rintro e w2 ⟨rfl, hb2⟩) | (go_at_call 47; refine (CP.out _ (hP.below hb2)).mono ?_; rintro e w3 ⟨rfl, hb3⟩))
      go_ret
      exact ⟨ret_str (by rw [e3.out, HO.out, HA.out]; simp only [List.append_assoc, List.cons_append, List.nil_append]), below_step hb2 hb3⟩
set_option maxHeartbeats 2000000 in
theorem SiteText_any (nm : ByteArray) (lo la : Int) (w : World) (h1 : I64 lo) (h2 : I64 la) (hP : PowOk w) :
    Calls Tryd.prog 13 #[.agg #[.string nm, .int .i64 lo, .int .i64 la]] w fun e w' => e = .returned (.string (tx (siteO nm.data.toList lo la))) ∧ Below w.heap.size w w' := by
  have hb0 : Below w.heap.size w (w.alloc (.cells #[.string nm, .int .i64 lo, .int .i64 la] 25)) := below_alloc (Below.refl _ _) _
  have CV := Lib.hid (ValidSite_any nm lo la)
  cases hv : vSite nm.data.toList lo la with
  | false =>
    have HO := Lib.hid (siteO_no hv)
    rw [hv] at CV
    clear hv
    go_enter Tryd.func13, Tryd.ntmps13
    go_wp2_with (refine (CV.out _).mono ?_; rintro e w1 ⟨rfl, hb1⟩)
    go_ret
    exact ⟨by rw [HO.out]; rfl, below_step hb0 hb1⟩
  | true =>
    have HO := Lib.hid (siteO_yes hv)
    obtain ⟨hn, a1, a2⟩ := vSite_parts hv
    rw [hv] at CV
    have hn := name_len hn
    have i1 := angT_len (a := lo) (by omega) (by omega)
    have i2 := angT_len (a := la) (by omega) (by omega)
    obtain ⟨p1, q1, e1⟩ := add_ex nm ⟨#[32]⟩ (hid_data nm) hid_blank (by simp only [List.length_append, List.length_cons, List.length_nil]; omega)
    obtain ⟨p2, q2, e2⟩ := add_ex p1 (tx (angT lo)) e1 (hid_tx _) (by simp only [List.length_append, List.length_cons, List.length_nil]; omega)
    obtain ⟨p3, q3, e3⟩ := add_ex p2 ⟨#[32]⟩ e2 hid_blank (by simp only [List.length_append, List.length_cons, List.length_nil]; omega)
    obtain ⟨p4, q4, e4⟩ := add_ex p3 (tx (angT la)) e3 (hid_tx _) (by simp only [List.length_append, List.length_cons, List.length_nil]; omega)
    have CD : Hid (∀ (w1 : World) (_ : Below w.heap.size w w1) (a : Int) (W : Later w1), -359999 ≤ a → a ≤ 359999 → Calls Tryd.prog 32 #[.int .i64 a] W.w fun e w' => e = .returned (.string (tx (angT a))) ∧ Below W.w.heap.size W.w w') := Lib.hid (fun w1 hb a W g1 g2 => by
      have := AngleText_any a W.w ⟨by omega, by omega⟩ ((hP.below hb).below W.below)
      rwa [angText_yes (a := a) ((inB_iff _ _ _).2 ⟨g1, g2⟩)] at this)
    obtain ⟨b1, b2⟩ := a1
    obtain ⟨b3, b4⟩ := a2
    have hX : Blk (w.alloc (.cells #[.string nm, .int .i64 lo, .int .i64 la] 25)) w.heap.size 25 [.string nm, .int .i64 lo, .int .i64 la] := Blk.new _ _ _
    clear hv hn i1 i2
    go_enter Tryd.func13, Tryd.ntmps13
    go_wp2_with (refine (CV.out _).mono ?_; rintro e w1 ⟨rfl, hb1⟩)
    have hb2 := below_step hb0 hb1
    have hX2 := hX.keep hb1
    clear hX CV hb1 hb0
    have hl := hX2.lt
    have x0 : w1.cell? ⟨w.heap.size, 0, none⟩ = some (.string nm) := by rw [hX2.cell]; rfl
    have x1 : w1.cell? ⟨w.heap.size, 1, none⟩ = some (.int .i64 lo) := by rw [hX2.cell]; rfl
    have x2 : w1.cell? ⟨w.heap.size, 2, none⟩ = some (.int .i64 la) := by rw [hX2.cell]; rfl
    (refine later_intro_wp ?_; intro y)
    (refine wp_region_later (by kernel_rfl) (by kernel_rfl) ?_; (repeat (quiet_step ((go_at_call 32; exact later_below (CD.out w1 hb2 _ _ (by omega) (by omega)))))); refine wpQuiet_nil ?_; rintro _ ⟨y, rfl⟩)
    go_wp2_with (fail)
    go_ret
    exact ⟨ret_str (by rw [e4.out, HO.out]; simp only [List.append_assoc, List.cons_append, List.nil_append]), below_later hb2 y⟩
end Go.Proofs.YtpnfhienffekoaaDoor
