/- Contracts of the texts of stars and sites. -/
import Derived.Test.YtpnfhienffekoaaGreatDoorMgD
import Derived.Test.YtpnfhienffekoaaGreatDoorGrpNum
namespace Go.Proofs.YtpnfhienffekoaaGreatDoor
set_option linter.unusedVariables false
set_option linter.unusedSimpArgs false
open Go.RowKit
def starO (l : List UInt8) (r d m c : Int) : List UInt8 := if vStar l r d m c = true then starT l [r, d, m, c] else []
theorem starO_yes {l : List UInt8} {r d m c : Int} (h : vStar l r d m c = true) : starO l r d m c = l ++ 32 :: (Lib.itoa r ++ 32 :: (Lib.itoa d ++ 32 :: (Lib.itoa m ++ 32 :: Lib.itoa c))) := by rw [starO, if_pos h]; rfl
theorem starO_no {l : List UInt8} {r d m c : Int} (h : vStar l r d m c = false) : starO l r d m c = [] := by rw [starO, if_neg (by rw [h]; exact Bool.false_ne_true)]
def siteO (l : List UInt8) (lo la : Int) : List UInt8 := if vSite l lo la = true then siteT l lo la else []
theorem siteO_yes {l : List UInt8} {lo la : Int} (h : vSite l lo la = true) : siteO l lo la = l ++ 32 :: (angT lo ++ 32 :: angT la) := by rw [siteO, if_pos h]; rfl
theorem siteO_no {l : List UInt8} {lo la : Int} (h : vSite l lo la = false) : siteO l lo la = [] := by rw [siteO, if_neg (by rw [h]; exact Bool.false_ne_true)]
set_option maxHeartbeats 2000000 in
theorem StarText_any (id : ByteArray) (r d m c : Int) (w : World) (h1 : I64 r) (h2 : I64 d) (h3 : I64 m) (h4 : I64 c) (hP : PowOk w) :
    Calls Tryz.prog 25 #[.agg #[.string id, .int .i64 r, .int .i64 d, .int .i64 m, .int .i64 c]] w fun e w' => e = .returned (.string (tx (starO id.data.toList r d m c))) ∧ Below w.heap.size w w' := by
  have hb0 : Below w.heap.size w (w.alloc (.cells #[.string id, .int .i64 r, .int .i64 d, .int .i64 m, .int .i64 c] 46)) := below_alloc (Below.refl _ _) _
  have CV := Lib.hid (ValidStar_any id r d m c)
  cases hv : vStar id.data.toList r d m c with
  | false =>
    have HO := Lib.hid (starO_no hv)
    rw [hv] at CV
    clear hv
    go_enter Tryz.func25, Tryz.ntmps25
    go_wp2_with (refine (CV.out _).mono ?_; rintro e w1 ⟨rfl, hb1⟩)
    go_ret
    exact ⟨by rw [HO.out]; rfl, below_step hb0 hb1⟩
  | true =>
    have HO := Lib.hid (starO_yes hv)
    have HVN := Lib.hid hv
    rw [hv] at CV
    clear hv
    have hn := name_len (vStar_parts HVN.out).1
    have i1 := itoa_len21 r h1
    have i2 := itoa_len21 d h2
    have i3 := itoa_len21 m h3
    have i4 := itoa_len21 c h4
    obtain ⟨p1, q1, e1⟩ := add_ex id ⟨#[32]⟩ (hid_data id) hid_blank (by simp only [List.length_append, List.length_cons, List.length_nil]; omega)
    obtain ⟨p2, q2, e2⟩ := add_ex p1 (tx (Lib.itoa r)) e1 (hid_tx _) (by simp only [List.length_append, List.length_cons, List.length_nil]; omega)
    obtain ⟨p3, q3, e3⟩ := add_ex p2 ⟨#[32]⟩ e2 hid_blank (by simp only [List.length_append, List.length_cons, List.length_nil]; omega)
    obtain ⟨p4, q4, e4⟩ := add_ex p3 (tx (Lib.itoa d)) e3 (hid_tx _) (by simp only [List.length_append, List.length_cons, List.length_nil]; omega)
    obtain ⟨p5, q5, e5⟩ := add_ex p4 ⟨#[32]⟩ e4 hid_blank (by simp only [List.length_append, List.length_cons, List.length_nil]; omega)
    obtain ⟨p6, q6, e6⟩ := add_ex p5 (tx (Lib.itoa m)) e5 (hid_tx _) (by simp only [List.length_append, List.length_cons, List.length_nil]; omega)
    obtain ⟨p7, q7, e7⟩ := add_ex p6 ⟨#[32]⟩ e6 hid_blank (by simp only [List.length_append, List.length_cons, List.length_nil]; omega)
    obtain ⟨p8, q8, e8⟩ := add_ex p7 (tx (Lib.itoa c)) e7 (hid_tx _) (by simp only [List.length_append, List.length_cons, List.length_nil]; omega)
    clear hn i1 i2 i3 i4
    have CD : Hid (∀ (w1 : World) (_ : Below w.heap.size w w1) (n : Int) (W : Later w1), I64 n → Calls Tryz.prog 75 #[.int .i64 n] W.w fun e w' => e = .returned (.string (tx (Lib.itoa n))) ∧ Below W.w.heap.size W.w w') := Lib.hid (fun w1 hb n W hn => Decimal_any n W.w hn ((hP.below hb).below W.below))
    have hX : Blk (w.alloc (.cells #[.string id, .int .i64 r, .int .i64 d, .int .i64 m, .int .i64 c] 46)) w.heap.size 46 [.string id, .int .i64 r, .int .i64 d, .int .i64 m, .int .i64 c] := Blk.new _ _ _
    go_enter Tryz.func25, Tryz.ntmps25
    go_wp2_with (refine (CV.out _).mono ?_; rintro e w1 ⟨rfl, hb1⟩)
    have hb2 := below_step hb0 hb1
    have hX2 := hX.keep hb1
    clear hX CV hb1 hb0
    have hl := hX2.lt
    have x0 : w1.cell? ⟨w.heap.size, 0, none⟩ = some (.string id) := by rw [hX2.cell]; rfl
    have x1 : w1.cell? ⟨w.heap.size, 1, none⟩ = some (.int .i64 r) := by rw [hX2.cell]; rfl
    have x2 : w1.cell? ⟨w.heap.size, 2, none⟩ = some (.int .i64 d) := by rw [hX2.cell]; rfl
    have x3 : w1.cell? ⟨w.heap.size, 3, none⟩ = some (.int .i64 m) := by rw [hX2.cell]; rfl
    have x4 : w1.cell? ⟨w.heap.size, 4, none⟩ = some (.int .i64 c) := by rw [hX2.cell]; rfl
    (refine later_intro_wp ?_; intro y)
    (refine wp_region_later (by kernel_rfl) (by kernel_rfl) ?_; (repeat (quiet_step ((go_at_call 75; exact later_below (CD.out w1 hb2 _ _ (by assumption)))))); refine wpQuiet_nil ?_; rintro _ ⟨y, rfl⟩)
    go_wp2_with (fail)
    go_ret
    exact ⟨ret_str (by rw [e8.out, HO.out]; simp only [List.append_assoc, List.cons_append, List.nil_append]), below_later hb2 y⟩
end Go.Proofs.YtpnfhienffekoaaGreatDoor
