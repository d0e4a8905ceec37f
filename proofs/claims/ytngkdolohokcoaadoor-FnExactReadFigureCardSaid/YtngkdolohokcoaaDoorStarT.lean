/- Contracts of the texts of stars and sites. -/
import Derived.Test.YtngkdolohokcoaaDoorDec
import Derived.Test.YtngkdolohokcoaaDoorGrpNum
namespace Go.Proofs.YtngkdolohokcoaaDoor
set_option linter.unusedVariables false
set_option linter.unusedSimpArgs false
open Go.RowKit
def starO (l : List UInt8) (r d m c : Int) : List UInt8 := if vStar l r d m c = true then starT l [r, d, m, c] else []
theorem starO_yes {l : List UInt8} {r d m c : Int} (h : vStar l r d m c = true) : starO l r d m c = l ++ 32 :: (Lib.itoa r ++ 32 :: (Lib.itoa d ++ 32 :: (Lib.itoa m ++ 32 :: Lib.itoa c))) := by rw [starO, if_pos h]; rfl
theorem starO_no {l : List UInt8} {r d m c : Int} (h : vStar l r d m c = false) : starO l r d m c = [] := by rw [starO, if_neg (by rw [h]; exact Bool.false_ne_true)]
def siteO (l : List UInt8) (lo la : Int) : List UInt8 := if vSite l lo la = true then siteT l lo la else []
theorem siteO_yes {l : List UInt8} {lo la : Int} (h : vSite l lo la = true) : siteO l lo la = l ++ 32 :: (angT lo ++ 32 :: angT la) := by rw [siteO, if_pos h]; rfl
theorem siteO_no {l : List UInt8} {lo la : Int} (h : vSite l lo la = false) : siteO l lo la = [] := by rw [siteO, if_neg (by rw [h]; exact Bool.false_ne_true)]
set_option maxHeartbeats 2000000 in
theorem StarText_any (id : ByteArray) (r d m c : Int) (w : World) (h1 : I64 r) (h2 : I64 d) (h3 : I64 m) (h4 : I64 c) (hP : PowOk w) :
    Calls Tryd.prog 14 #[.agg #[.string id, .int .i64 r, .int .i64 d, .int .i64 m, .int .i64 c]] w fun e w' => e = .returned (.string (tx (starO id.data.toList r d m c))) ∧ Below w.heap.size w w' := by
  have hb0 : Below w.heap.size w (w.alloc (.cells #[.string id, .int .i64 r, .int .i64 d, .int .i64 m, .int .i64 c] 26)) := below_alloc (Below.refl _ _) _
  have CV := Lib.hid (ValidStar_any id r d m c)
  cases hv : vStar id.data.toList r d m c with
  | false =>
    have HO := Lib.hid (starO_no hv)
    rw [hv] at CV
    clear hv
    go_enter Tryd.func14, Tryd.ntmps14
    go_wp2_with (refine (CV.out _).mono ?_; rintro e w1 ⟨rfl, hb1⟩)
    go_ret
    exact ⟨by rw [HO.out]; rfl, below_step hb0 hb1⟩
  | true =>
    have HO := Lib.hid (starO_yes hv)
    have HVN := Lib.hid hv
    rw [hv] at CV
    clear hv
    have hn := name_len (vStar_parts HVN.out).1
    have i1 := itoa_len21 r h1
    have i2 := itoa_len21 d h2
    have i3 := itoa_len21 m h3
    have i4 := itoa_len21 c h4
    obtain ⟨p1, q1, e1⟩ := add_ex id ⟨#[32]⟩ (hid_data id) hid_blank (by simp only [List.length_append, List.length_cons, List.length_nil]; omega)
    obtain ⟨p2, q2, e2⟩ := add_ex p1 (tx (Lib.itoa r)) e1 (hid_tx _) (by simp only [List.length_append, List.length_cons, List.length_nil]; omega)
    obtain ⟨p3, q3, e3⟩ := add_ex p2 ⟨#[32]⟩ e2 hid_blank (by simp only [List.length_append, List.length_cons, List.length_nil]; omega)
    obtain ⟨p4, q4, e4⟩ := add_ex p3 (tx (Lib.itoa d)) e3 (hid_tx _) (by simp only [List.length_append, List.length_cons, List.length_nil]; omega)
    obtain ⟨p5, q5, e5⟩ := add_ex p4 ⟨#[32]⟩ e4 hid_blank (by simp only [List.length_append, List.length_cons, List.length_nil]; omega)
    obtain ⟨p6, q6, e6⟩ := add_ex p5 (tx (Lib.itoa m)) e5 (hid_tx _) (by simp only [List.length_append, List.length_cons, List.length_nil]; omega)
    obtain ⟨p7, q7, e7⟩ := add_ex p6 ⟨#[32]⟩ e6 hid_blank (by simp only [List.length_append, List.length_cons, List.length_nil]; omega)
    obtain ⟨p8, q8, e8⟩ := add_ex p7 (tx (Lib.itoa c)) e7 (hid_tx _) (by simp only [List.length_append, List.length_cons, List.length_nil]; omega)
    clear hn i1 i2 i3 i4
    have CD : Hid (∀ (w1 : World) (_ : Below w.heap.size w w1) (n : Int) (W : Later w1), I64 n → Calls Tryd.prog 44 #[.int .i64 n] W.w fun e w' => e = .returned (.string (tx (Lib.itoa n))) ∧ Below W.w.heap.size W.w w') := Lib.hid (fun w1 hb n W hn => Decimal_any n W.w hn ((hP.below hb).below W.below))
    have hX : Blk (w.alloc (.cells #[.string id, .int .i64 r, .int .i64 d, .int .i64 m, .int .i64 c] 26)) w.heap.size 26 [.string id, .int .i64 r, .int .i64 d, .int .i64 m, .int .i64 c] := Blk.new _ _ _
    go_enter Tryd.func14, Tryd.ntmps14
    go_wp2_with (refine (CV.out _).mono ?_; rintro e w1 ⟨rfl, hb1⟩)
    have hb2 := below_step hb0 hb1
    have hX2 := hX.keep hb1
    clear hX CV hb1 hb0
    have hl := hX2.lt
    have x0 : w1.cell? ⟨w.heap.size, 0, none⟩ = some (.string id) := by rw [hX2.cell]; rfl
    have x1 : w1.cell? ⟨w.heap.size, 1, none⟩ = some (.int .i64 r) := by rw [hX2.cell]; rfl
    have x2 : w1.cell? ⟨w.heap.size, 2, none⟩ = some (.int .i64 d) := by rw [hX2.cell]; rfl
    have x3 : w1.cell? ⟨w.heap.size, 3, none⟩ = some (.int .i64 m) := by rw [hX2.cell]; rfl
    have x4 : w1.cell? ⟨w.heap.size, 4, none⟩ = some (.int .i64 c) := by rw [hX2.cell]; rfl
    (refine later_intro_wp ?_; intro y)
    (refine wp_region_later (by kernel_rfl) (by kernel_rfl) ?_; (repeat (quiet_step ((go_at_call 44; exact later_below (CD.out w1 hb2 _ _ (by assumption)))))); refine wpQuiet_nil ?_; rintro _ ⟨y, rfl⟩)
    go_wp2_with (fail)
    go_ret
    exact ⟨ret_str (by rw [e8.out, HO.out]; simp only [List.append_assoc, List.cons_append, List.nil_append]), below_later hb2 y⟩
set_option maxHeartbeats 1000000 in
theorem l05Signed_any (n : Int) (w : World) (h1 : -1000000 ≤ n) (h2 : n ≤ 1000000) :
    Calls Tryd.prog 76 #[.int .i64 n] w fun e w' => e = .returned (.string (tx (Lib.itoa n))) ∧ Below w.heap.size w w' := by
  by_cases hn : n < 0
  · have i1 := itoa_len21 (-n) ⟨by omega, by omega⟩
    have q1 := run_add_tx ⟨#[45]⟩ (tx (Lib.itoa (-n))) [45] (Lib.itoa (-n)) rfl (tx_data _) (by simp only [List.length_cons, List.length_nil]; omega)
    have HE : Hid ([45] ++ Lib.itoa (-n) = Lib.itoa n) := Lib.hid (by
      obtain ⟨u, rfl⟩ : ∃ u : Nat, n = -(u : Int) := ⟨n.natAbs, by omega⟩
      rw [Int.neg_neg, itoa_of_nat, Lib.itoa_neg u (by omega)]; rfl)
    go_enter Tryd.func76, Tryd.ntmps76
    go_wp2_with (refine (l01Dec_any (-n) _ ⟨by omega, by omega⟩).mono ?_; rintro e w1 ⟨rfl, hb1⟩)
    go_ret
    exact ⟨by rw [← HE.out]; rfl, hb1⟩
  · go_enter Tryd.func76, Tryd.ntmps76
    go_wp2_with (refine (l01Dec_any n _ ⟨by omega, by omega⟩).mono ?_; rintro e w1 ⟨rfl, hb1⟩)
    go_ret
    exact ⟨rfl, hb1⟩
set_option maxHeartbeats 2000000 in
theorem l05Text_any (b o : Nat) (x : Sta) (w : World) (hx : x.ok = true) (hX : StaAt w b o x) :
    Calls Tryd.prog 42 #[.pointer (some ⟨b, o, none⟩)] w fun e w' => e = .returned (.string (tx (starO x.id.data.toList x.ri x.de x.ma x.co))) ∧ Below w.heap.size w w' := by
  have HO := Lib.hid (starO_yes hx)
  obtain ⟨_, ⟨a1, a2⟩, ⟨a3, a4⟩, ⟨a5, a6⟩, a7, a8⟩ := vStar_parts hx
  have hn := name_len (vStar_parts hx).1
  have i1 := itoa_len21 x.ri ⟨by omega, by omega⟩
  have i2 := itoa_len21 x.de ⟨by omega, by omega⟩
  have i3 := itoa_len21 x.ma ⟨by omega, by omega⟩
  have i4 := itoa_len21 x.co ⟨by omega, by omega⟩
  obtain ⟨p1, q1, e1⟩ := add_ex x.id ⟨#[32]⟩ (hid_data x.id) hid_blank (by simp only [List.length_append, List.length_cons, List.length_nil]; omega)
  obtain ⟨p2, q2, e2⟩ := add_ex p1 (tx (Lib.itoa x.ri)) e1 (hid_tx _) (by simp only [List.length_append, List.length_cons, List.length_nil]; omega)
  obtain ⟨p3, q3, e3⟩ := add_ex p2 ⟨#[32]⟩ e2 hid_blank (by simp only [List.length_append, List.length_cons, List.length_nil]; omega)
  obtain ⟨p4, q4, e4⟩ := add_ex p3 (tx (Lib.itoa x.de)) e3 (hid_tx _) (by simp only [List.length_append, List.length_cons, List.length_nil]; omega)
  obtain ⟨p5, q5, e5⟩ := add_ex p4 ⟨#[32]⟩ e4 hid_blank (by simp only [List.length_append, List.length_cons, List.length_nil]; omega)
  obtain ⟨p6, q6, e6⟩ := add_ex p5 (tx (Lib.itoa x.ma)) e5 (hid_tx _) (by simp only [List.length_append, List.length_cons, List.length_nil]; omega)
  obtain ⟨p7, q7, e7⟩ := add_ex p6 ⟨#[32]⟩ e6 hid_blank (by simp only [List.length_append, List.length_cons, List.length_nil]; omega)
  obtain ⟨p8, q8, e8⟩ := add_ex p7 (tx (Lib.itoa x.co)) e7 (hid_tx _) (by simp only [List.length_append, List.length_cons, List.length_nil]; omega)
  have q2 := run_add_tx (tx ((x.id.data.toList) ++ ([32]))) (tx (Lib.itoa x.ri)) ((x.id.data.toList) ++ ([32])) (Lib.itoa x.ri) (by first | rfl | exact tx_data _) (by first | rfl | exact tx_data _) (by simp only [List.length_append, List.length_cons, List.length_nil]; omega)
  have q3 := run_add_tx (tx (((x.id.data.toList) ++ ([32])) ++ (Lib.itoa x.ri))) (⟨#[32]⟩) (((x.id.data.toList) ++ ([32])) ++ (Lib.itoa x.ri)) ([32]) (by first | rfl | exact tx_data _) (by first | rfl | exact tx_data _) (by simp only [List.length_append, List.length_cons, List.length_nil]; omega)
  have q4 := run_add_tx (tx ((((x.id.data.toList) ++ ([32])) ++ (Lib.itoa x.ri)) ++ ([32]))) (tx (Lib.itoa x.de)) ((((x.id.data.toList) ++ ([32])) ++ (Lib.itoa x.ri)) ++ ([32])) (Lib.itoa x.de) (by first | rfl | exact tx_data _) (by first | rfl | exact tx_data _) (by simp only [List.length_append, List.length_cons, List.length_nil]; omega)
  have q5 := run_add_tx (tx (((((x.id.data.toList) ++ ([32])) ++ (Lib.itoa x.ri)) ++ ([32])) ++ (Lib.itoa x.de))) (⟨#[32]⟩) (((((x.id.data.toList) ++ ([32])) ++ (Lib.itoa x.ri)) ++ ([32])) ++ (Lib.itoa x.de)) ([32]) (by first | rfl | exact tx_data _) (by first | rfl | exact tx_data _) (by simp only [List.length_append, List.length_cons, List.length_nil]; omega)
  have q6 := run_add_tx (tx ((((((x.id.data.toList) ++ ([32])) ++ (Lib.itoa x.ri)) ++ ([32])) ++ (Lib.itoa x.de)) ++ ([32]))) (tx (Lib.itoa x.ma)) ((((((x.id.data.toList) ++ ([32])) ++ (Lib.itoa x.ri)) ++ ([32])) ++ (Lib.itoa x.de)) ++ ([32])) (Lib.itoa x.ma) (by first | rfl | exact tx_data _) (by first | rfl | exact tx_data _) (by simp only [List.length_append, List.length_cons, List.length_nil]; omega)
  have q7 := run_add_tx (tx (((((((x.id.data.toList) ++ ([32])) ++ (Lib.itoa x.ri)) ++ ([32])) ++ (Lib.itoa x.de)) ++ ([32])) ++ (Lib.itoa x.ma))) (⟨#[32]⟩) (((((((x.id.data.toList) ++ ([32])) ++ (Lib.itoa x.ri)) ++ ([32])) ++ (Lib.itoa x.de)) ++ ([32])) ++ (Lib.itoa x.ma)) ([32]) (by first | rfl | exact tx_data _) (by first | rfl | exact tx_data _) (by simp only [List.length_append, List.length_cons, List.length_nil]; omega)
  have q8 := run_add_tx (tx ((((((((x.id.data.toList) ++ ([32])) ++ (Lib.itoa x.ri)) ++ ([32])) ++ (Lib.itoa x.de)) ++ ([32])) ++ (Lib.itoa x.ma)) ++ ([32]))) (tx (Lib.itoa x.co)) ((((((((x.id.data.toList) ++ ([32])) ++ (Lib.itoa x.ri)) ++ ([32])) ++ (Lib.itoa x.de)) ++ ([32])) ++ (Lib.itoa x.ma)) ++ ([32])) (Lib.itoa x.co) (by first | rfl | exact tx_data _) (by first | rfl | exact tx_data _) (by simp only [List.length_append, List.length_cons, List.length_nil]; omega)
  clear hn i1 i2 i3 i4
  have hl := hX.lt
  obtain ⟨x0, x1, x2, x3, x4⟩ := hX
  clear hx
  have CD : Hid (∀ (n : Int) (W : Later w), I64 n → Calls Tryd.prog 75 #[.int .i64 n] W.w fun e w' => e = .returned (.string (tx (Lib.itoa n))) ∧ Below W.w.heap.size W.w w') := Lib.hid (fun n W hn => l01Dec_any n W.w hn)
  have CS : Hid (∀ (n : Int) (W : Later w), -1000000 ≤ n → n ≤ 1000000 → Calls Tryd.prog 76 #[.int .i64 n] W.w fun e w' => e = .returned (.string (tx (Lib.itoa n))) ∧ Below W.w.heap.size W.w w') := Lib.hid (fun n W h1 h2 => l05Signed_any n W.w h1 h2)
  go_enter Tryd.func42, Tryd.ntmps42
  go_wp2_with (fail)
  (refine later_intro_wp ?_; intro y)
  (refine wp_region_later (by kernel_rfl) (by kernel_rfl) ?_; (repeat (quiet_step ((first | (go_at_call 75; exact later_below (CD.out _ _ ⟨by omega, by omega⟩)) | (go_at_call 76; exact later_below (CS.out _ _ (by omega) (by omega))))))); refine wpQuiet_nil ?_; rintro _ ⟨y, rfl⟩)
  go_wp2_with (fail)
  go_ret
  exact ⟨ret_str (by rw [e8.out, HO.out]; simp only [List.append_assoc, List.cons_append, List.nil_append]), y.below⟩
set_option maxHeartbeats 1000000 in
theorem sStarText_any (x : Sta) (w : World) :
    Calls Tryd.prog 12 #[.agg #[.string x.id, .int .i64 x.ri, .int .i64 x.de, .int .i64 x.ma, .int .i64 x.co]] w fun e w' => e = .returned (.string (tx (starO x.id.data.toList x.ri x.de x.ma x.co))) ∧ Below w.heap.size w w' := by
  have hb0 : Below w.heap.size w (w.alloc (.cells #[.string x.id, .int .i64 x.ri, .int .i64 x.de, .int .i64 x.ma, .int .i64 x.co] 26)) := below_alloc (Below.refl _ _) _
  have hX : StaAt (w.alloc (.cells #[.string x.id, .int .i64 x.ri, .int .i64 x.de, .int .i64 x.ma, .int .i64 x.co] 26)) w.heap.size 0 x := by
    have h : Blk (w.alloc (.cells #[.string x.id, .int .i64 x.ri, .int .i64 x.de, .int .i64 x.ma, .int .i64 x.co] 26)) w.heap.size 26 [.string x.id, .int .i64 x.ri, .int .i64 x.de, .int .i64 x.ma, .int .i64 x.co] := Blk.new _ _ _
    exact ⟨by rw [h.cell]; rfl, by rw [h.cell]; rfl, by rw [h.cell]; rfl, by rw [h.cell]; rfl, by rw [h.cell]; rfl⟩
  have CV : Hid (Calls Tryd.prog 41 #[.pointer (some ⟨w.heap.size, 0, none⟩)] (w.alloc (.cells #[.string x.id, .int .i64 x.ri, .int .i64 x.de, .int .i64 x.ma, .int .i64 x.co] 26)) fun e w' => e = .returned (.bool x.ok) ∧ ∃ n, w' = (w.alloc (.cells #[.string x.id, .int .i64 x.ri, .int .i64 x.de, .int .i64 x.ma, .int .i64 x.co] 26)).drewN n) := Lib.hid (l05One_any w.heap.size 0 x.id x.ri x.de x.ma x.co _ hX.1 hX.2.1 hX.2.2.1 hX.2.2.2.1 hX.2.2.2.2)
  cases hv : x.ok with
  | false =>
    have HO := Lib.hid (starO_no hv)
    rw [hv] at CV
    clear hv hX
    go_enter Tryd.func12, Tryd.ntmps12
    go_wp2_with (refine CV.out.mono ?_; rintro e w1 ⟨rfl, nd, rfl⟩)
    go_ret
    exact ⟨by rw [HO.out]; rfl, below_drewN0 hb0 nd⟩
  | true =>
    have CT := Lib.hid (fun (nd : Nat) => l05Text_any w.heap.size 0 x ((w.alloc (.cells #[.string x.id, .int .i64 x.ri, .int .i64 x.de, .int .i64 x.ma, .int .i64 x.co] 26)).drewN nd) hv hX)
    rw [hv] at CV
    clear hv hX
    go_enter Tryd.func12, Tryd.ntmps12
    go_wp2_with (first | (go_at_call 41; refine CV.out.mono ?_; rintro e w1 ⟨rfl, nd, rfl⟩) | (go_at_call 42; refine (CT.out _).mono ?_; rintro e w2 ⟨rfl, hb2⟩))
    go_ret
    exact ⟨rfl, below_step (below_drewN0 hb0 nd) hb2⟩
end Go.Proofs.YtngkdolohokcoaaDoor
