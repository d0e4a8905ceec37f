/- Contracts of the functions on a star's altitude. -/
import Derived.Test.YtbpjnopnhmoigaaDoorGrpPure
import Derived.Test.YtbpjnopnhmoigaaDoorGrpHor
import Derived.Test.YtbpjnopnhmoigaaDoorSta
import Derived.Test.YtbpjnopnhmoigaaDoorFar
namespace Go.Proofs.YtbpjnopnhmoigaaDoor
set_option linter.unusedVariables false
set_option linter.unusedSimpArgs false
open Go.RowKit
/-- the vector of a star over a horizon is not zero -/
theorem hvV_nz (la s r d : Int) : zeroV (hvV la s r d) = false := by
  cases h : zeroV (hvV la s r d) with
  | false => rfl
  | true =>
    simp only [zeroV, hvV, Bool.and_eq_true, beq_iff_eq] at h
    obtain ⟨h1, h2, h3⟩ := h
    obtain ⟨hx, hz⟩ := rot_zero h3 h1
    exact (dir_zero hx h2 hz).elim
/-- the altitude of a star -/
def altI (la s : Int) (x : Sta) : Int := latI (hvV la s x.ri x.de)
theorem horO_alt {n : List UInt8} {lo la s r d : Int} (h : askI n lo la s r d = 0) : horO n lo la s r d = (lonI (hvV la s r d), latI (hvV la s r d), 0) := by rw [horO_ok h, anglesO_yes (hvV_nz _ _ _ _)]
set_option maxHeartbeats 1000000 in
theorem l06Altitude_any (la s : Int) (b o : Nat) (x : Sta) (w : World) (hla : -90000 ≤ la ∧ la ≤ 90000) (hs : 0 ≤ s ∧ s ≤ 359999) (hx : StaAt w b o x) (hok : x.ok = true) :
    Calls Tryd.prog 71 #[.int .i64 la, .int .i64 s, .pointer (some ⟨b, o, none⟩)] w fun e w' => e = .returned (.int .i64 (altI la s x)) ∧ Below w.heap.size w w' := by
  have hd := ok_dir hok
  have hl := hx.lt
  obtain ⟨_, c1, c2, _, _⟩ := hx
  have C1 : Hid (∀ W, Calls Tryd.prog 120 #[.int .i64 la, .int .i64 s, .int .i64 x.ri, .int .i64 x.de] W fun e w' => e = .returned (.agg #[.int .i64 (hvV la s x.ri x.de).x, .int .i64 (hvV la s x.ri x.de).y, .int .i64 (hvV la s x.ri x.de).z]) ∧ Below W.heap.size W w') := Lib.hid (fun W => l06Vector_any la s x.ri x.de W hla hs ⟨hd.1, hd.2.1⟩ ⟨hd.2.2.1, hd.2.2.2⟩)
  have C2 : Hid (∀ W, Calls Tryd.prog 86 #[.agg #[.int .i64 (hvV la s x.ri x.de).x, .int .i64 (hvV la s x.ri x.de).y, .int .i64 (hvV la s x.ri x.de).z]] W fun e w' => e = .returned (.tuple #[.int .i64 (lonI (hvV la s x.ri x.de)), .int .i64 (latI (hvV la s x.ri x.de))]) ∧ Below W.heap.size W w') := Lib.hid (fun W => l04Angles_any _ W (hvV_md la s x.ri x.de) (hvV_nz _ _ _ _))
  clear hd
  go_enter Tryd.func71, Tryd.ntmps71
  go_wp2_with (fail)
  (refine later_intro_wp ?_; intro y)
  (refine wp_region_later (by kernel_rfl) (by kernel_rfl) ?_; (repeat (first | go_big_quiet_step ((first | (go_at_call 120; exact later_below (C1.out _)) | (go_at_call 86; exact later_below (C2.out _)))) | quiet_step ((first | (go_at_call 120; exact later_below (C1.out _)) | (go_at_call 86; exact later_below (C2.out _)))))); refine wpQuiet_nil ?_; rintro _ ⟨y, rfl⟩)
  go_wp2_with (fail)
  go_ret
  exact ⟨rfl, (by repeat (first | exact Below.refl _ _ | refine below_alloc ?_ _ | refine below_drewN0 ?_ _ | refine below_drew0 ?_ | refine below_step ?_ (by assumption) | refine below_later ?_ _ | refine below_setCell0 ?_ (by first | exact Nat.le_refl _ | (simp; done) | omega | (simp; omega)) _))⟩
/-- the altitude that the program finds -/
theorem Horizontal_alt (n : ByteArray) (lo la s : Int) (x : Sta) (w : World) (hS : SinOk w) (hv : vSite n.data.toList lo la = true) (hs : inB s 0 359999 = true) (hok : x.ok = true) :
    Calls Tryd.prog 51 #[.agg #[.string n, .int .i64 lo, .int .i64 la], .int .i64 s, .int .i64 x.ri, .int .i64 x.de] w fun e w' => e = .returned (.tuple #[.int .i64 (lonI (hvV la s x.ri x.de)), .int .i64 (altI la s x), .int .i64 0]) ∧ Below w.heap.size w w' := by
  have h := Horizontal_any n lo la s x.ri x.de w hS
  rw [horO_alt] at h
  · exact h
  · have hd : vDir x.ri x.de = true := by
      have := hok; simp only [Sta.ok, vStar, Bool.and_eq_true] at this; exact this.2.1
    rcases askI_cases n.data.toList lo la s x.ri x.de with ⟨v1, hk⟩ | ⟨v1, v2, hk⟩ | ⟨v1, v2, v3, hk⟩ | ⟨v1, v2, v3, hk⟩
    · rw [hv] at v1; cases v1
    · rw [hs] at v2; cases v2
    · rw [hd] at v3; cases v3
    · exact hk
end Go.Proofs.YtbpjnopnhmoigaaDoor
