/- Vec, PlainFloat, Root, in one text. -/
import Derived.Test.YtpnfhienffekoaaGreatDoorMgE
import Derived.Test.YtpnfhienffekoaaGreatDoorGrpNum
import Derived.Test.YtpnfhienffekoaaGreatDoorGrpPure
import Derived.Deep.RegionHeld3
import Derived.Deep.DrawnRows
import Derived.Laws.FloatArith
import Derived.Laws.Cover2
namespace Go.Proofs.YtpnfhienffekoaaGreatDoor
set_option linter.unusedVariables false
set_option linter.unusedSimpArgs false
open Go.RowKit
attribute [local go_sem ↓] Go.wp_at_zero Go.wp_at_succ
theorem validComponent_any (x : Int) (w : World) : Calls Tryz.prog 154 #[.int .i64 x] w fun e w' => e = .returned (.bool (inB x (-2000000) 2000000)) ∧ w = w' := by
  go_enter Tryz.func154, Tryz.ntmps154
  go_wp2_with ((go_at_call 79; refine (within_any _ _ _ _).mono ?_; rintro e w' ⟨rfl, rfl⟩))
  go_ret
  exact ⟨rfl, rfl⟩
theorem ValidVector_any (x y z : Int) (w : World) : Calls Tryz.prog 125 #[.agg #[.int .i64 x, .int .i64 y, .int .i64 z]] w fun e w' => e = .returned (.bool (vVec x y z)) ∧ Below w.heap.size w w' := by
  go_enter Tryz.func125, Tryz.ntmps125
  go_wp2_with ((go_at_call 154; refine (validComponent_any _ _).mono ?_; rintro e w' ⟨rfl, rfl⟩))
  all_goals (go_ret; exact ⟨ret_bool (by simp [vVec, *]), (by repeat (first | exact Below.refl _ _ | refine below_alloc ?_ _ | refine below_drewN0 ?_ _ | refine below_drew0 ?_ | refine below_step ?_ (by assumption) | refine below_later ?_ _ | refine below_setCell0 ?_ (by first | exact Nat.le_refl _ | (simp; done) | omega | (simp; omega)) _))⟩)
theorem checkedVector_any (x v z : Int) (w : World) (hv : vVec x v z = true) : Calls Tryz.prog 156 #[.agg #[.int .i64 x, .int .i64 v, .int .i64 z]] w fun e w' => e = .returned (.tuple #[.agg #[.int .i64 x, .int .i64 v, .int .i64 z], .int .i64 0]) ∧ Below w.heap.size w w' := by
  go_enter Tryz.func156, Tryz.ntmps156
  go_wp2_with (fail)
  (refine later_intro ?_; intro y)
  go_wp2_with ((go_at_call 125; refine (later_below (ValidVector_any _ _ _ _)).mono ?_; rintro e w' ⟨rfl, y, rfl⟩))
  exact bodyPost_ret (v := .tuple #[.agg #[.int .i64 x, .int .i64 v, .int .i64 z], .int .i64 0]) (by simp [results, Tryz.results156, go_sem]) rfl ⟨rfl, (by repeat (first | exact Below.refl _ _ | refine below_alloc ?_ _ | refine below_drewN0 ?_ _ | refine below_drew0 ?_ | refine below_step ?_ (by assumption) | refine below_later ?_ _ | refine below_setCell0 ?_ (by first | exact Nat.le_refl _ | (simp; done) | omega | (simp; omega)) _))⟩
theorem directionOf_any (l b : Int) (w : World) (hS : SinOk w) (hl : -9000000000000000000 ≤ l ∧ l ≤ 9000000000000000000) (hb : -9000000000000000000 ≤ b ∧ b ≤ 9000000000000000000) :
    Calls Tryz.prog 88 #[.int .i64 l, .int .i64 b] w fun e w' => e = .returned (.agg #[.int .i64 (dirX l b), .int .i64 (dirY l b), .int .i64 (dirZ b)]) ∧ Below w.heap.size w w' := by
  obtain ⟨p1, p2⟩ := unit_prod _ _ (cosI_bd b) (cosI_bd l)
  obtain ⟨p3, p4⟩ := unit_prod _ _ (cosI_bd b) (sinI_bd l)
  have HX : Hid (dirX l b = rnd (cosI b * cosI l) 1000000) := rfl
  have HY : Hid (dirY l b = rnd (cosI b * sinI l) 1000000) := rfl
  have HZ : Hid (dirZ b = sinI b) := rfl
  go_enter Tryz.func88, Tryz.ntmps88
  go_wp2_with (fail)
  (refine later_intro ?_; intro y)
  (go_at_call 51; refine (later_drew (CosineOf_any b _ (SinOk.later (hS.alloc _) _) hb.1 hb.2)).mono ?_; rintro e w' ⟨rfl, y, rfl⟩)
  go_wp2_with (fail)
  (go_at_call 51; refine (later_drew (CosineOf_any l _ (SinOk.later (hS.alloc _) _) hl.1 hl.2)).mono ?_; rintro e w' ⟨rfl, y, rfl⟩)
  go_wp2_with (fail)
  (go_at_call 50; refine (later_drew (nearest_any (cosI b * cosI l) 1000000 _ (by omega) (by omega) (by omega) (by omega))).mono ?_; rintro e w' ⟨rfl, y, rfl⟩)
  go_wp2_with (fail)
  (go_at_call 52; refine (later_drew (SineOf_any l _ (SinOk.later (hS.alloc _) _) hl.1 hl.2)).mono ?_; rintro e w' ⟨rfl, y, rfl⟩)
  go_wp2_with (fail)
  (go_at_call 50; refine (later_drew (nearest_any (cosI b * sinI l) 1000000 _ (by omega) (by omega) (by omega) (by omega))).mono ?_; rintro e w' ⟨rfl, y, rfl⟩)
  go_wp2_with (fail)
  (go_at_call 52; refine (later_drew (SineOf_any b _ (SinOk.later (hS.alloc _) _) hb.1 hb.2)).mono ?_; rintro e w' ⟨rfl, y, rfl⟩)
  go_wp2
  exact bodyPost_ret (v := .agg #[.int .i64 (dirX l b), .int .i64 (dirY l b), .int .i64 (dirZ b)]) (by rw [HX.out, HY.out, HZ.out]; simp [results, Tryz.results88, go_sem]) rfl ⟨rfl, (by repeat (first | exact Below.refl _ _ | refine below_alloc ?_ _ | refine below_drewN0 ?_ _ | refine below_drew0 ?_ | refine below_step ?_ (by assumption) | refine below_later ?_ _ | refine below_setCell0 ?_ (by first | exact Nat.le_refl _ | (simp; done) | omega | (simp; omega)) _))⟩
set_option maxHeartbeats 4000000 in
theorem RotateAround_any (x v z a : Int) (w : World) (hS : SinOk w) (hx : -1000000 ≤ x ∧ x ≤ 1000000) (hv : -2000000 ≤ v ∧ v ≤ 2000000) (hz : -1000000 ≤ z ∧ z ≤ 1000000) (ha : -9000000000000000000 ≤ a ∧ a ≤ 9000000000000000000) :
    Calls Tryz.prog 155 #[.agg #[.int .i64 x, .int .i64 v, .int .i64 z], .int .i64 2, .int .i64 a] w fun e w' => e = .returned (.tuple #[.agg #[.int .i64 (rotX x z a), .int .i64 v, .int .i64 (rotZ x z a)], .int .i64 0]) ∧ Below w.heap.size w w' := by
  obtain ⟨s1, s2⟩ := sinI_bd a
  obtain ⟨c1, c2⟩ := cosI_bd a
  obtain ⟨p1, p2⟩ := two_prod _ _ (show -2000000 ≤ x ∧ x ≤ 2000000 by omega) (cosI_bd a)
  obtain ⟨p3, p4⟩ := unit_prod _ _ hz (sinI_bd a)
  obtain ⟨p5, p6⟩ := unit_prod _ _ hz (cosI_bd a)
  obtain ⟨p7, p8⟩ := unit_prod _ _ hx (sinI_bd a)
  have HX : Hid (rotX x z a = rnd (x * cosI a + z * sinI a) 1000000) := rfl
  have HZ : Hid (rotZ x z a = rnd (z * cosI a - x * sinI a) 1000000) := rfl
  have hok : vVec (rotX x z a) v (rotZ x z a) = true := vVec_ok (rotX_bd hx hz a) hv (rotZ_bd hx hz a)
  have hin : vVec x v z = true := vVec_ok (by omega) hv (by omega)
  go_enter Tryz.func155, Tryz.ntmps155
  go_wp2_with (fail)
  refine calls_named ?_
  intro W1 hW1
  have hbW : Below w.heap.size w W1 := by rw [hW1]; exact (by repeat (first | exact Below.refl _ _ | refine below_alloc ?_ _ | refine below_drewN0 ?_ _ | refine below_drew0 ?_ | refine below_step ?_ (by assumption) | refine below_later ?_ _ | refine below_setCell0 ?_ (by first | exact Nat.le_refl _ | (simp; done) | omega | (simp; omega)) _))
  have hS1 : SinOk W1 := by rw [hW1]; exact (hS.alloc _).alloc _
  have hlt : w.heap.size < W1.heap.size := by rw [hW1]; simp; omega
  have hlt1 : w.heap.size + 1 < W1.heap.size := by rw [hW1]; simp
  have k0 : W1.cell? ⟨w.heap.size, 0, none⟩ = some (.int .i64 x) := by rw [hW1]; simp
  have k1 : W1.cell? ⟨w.heap.size, 1, none⟩ = some (.int .i64 v) := by rw [hW1]; simp
  have k2 : W1.cell? ⟨w.heap.size, 2, none⟩ = some (.int .i64 z) := by rw [hW1]; simp
  have f0 : W1.frozen? ⟨w.heap.size, 0, none⟩ = false := by rw [hW1]; simp [go_sem]
  have f1 : W1.frozen? ⟨w.heap.size, 1, none⟩ = false := by rw [hW1]; simp [go_sem]
  have f2 : W1.frozen? ⟨w.heap.size, 2, none⟩ = false := by rw [hW1]; simp [go_sem]
  have r0 : W1.cell? ⟨w.heap.size + 1, 0, none⟩ = some (.int .i64 0) := by rw [hW1]; simp
  have g0 : W1.frozen? ⟨w.heap.size + 1, 0, none⟩ = false := by rw [hW1]; simp [go_sem]
  have r1 : W1.cell? ⟨w.heap.size + 1, 1, none⟩ = some (.int .i64 0) := by rw [hW1]; simp
  have g1 : W1.frozen? ⟨w.heap.size + 1, 1, none⟩ = false := by rw [hW1]; simp [go_sem]
  have r2 : W1.cell? ⟨w.heap.size + 1, 2, none⟩ = some (.int .i64 0) := by rw [hW1]; simp
  have g2 : W1.frozen? ⟨w.heap.size + 1, 2, none⟩ = false := by rw [hW1]; simp [go_sem]
  clear hW1
  (refine later_intro ?_; intro y)
  (go_at_call 125; refine (later_below (ValidVector_any _ _ _ _)).mono ?_; rintro e w' ⟨rfl, y, rfl⟩)
  go_wp2_with (fail)
  (go_at_call 52; refine (later_drew (SineOf_any a _ (SinOk.later hS1 _) ha.1 ha.2)).mono ?_; rintro e w' ⟨rfl, y, rfl⟩)
  go_wp2_with (fail)
  (go_at_call 51; refine (later_drew (CosineOf_any a _ (SinOk.later hS1 _) ha.1 ha.2)).mono ?_; rintro e w' ⟨rfl, y, rfl⟩)
  go_wp2_with (fail)
  have w1 : IntKind.i64.wrap (x * cosI a) = x * cosI a := wrap_in' (by omega) (by omega)
  have w2 : IntKind.i64.wrap (z * sinI a) = z * sinI a := wrap_in' (by omega) (by omega)
  have w3 : IntKind.i64.wrap (z * cosI a) = z * cosI a := wrap_in' (by omega) (by omega)
  have w4 : IntKind.i64.wrap (x * sinI a) = x * sinI a := wrap_in' (by omega) (by omega)
  have w5 : IntKind.i64.wrap (x * cosI a + z * sinI a) = x * cosI a + z * sinI a := wrap_in' (by omega) (by omega)
  have w6 : IntKind.i64.wrap (z * cosI a - x * sinI a) = z * cosI a - x * sinI a := wrap_in' (by omega) (by omega)
  (refine wp_region_later_last 23 (by kernel_rfl) (by kernel_rfl) (by kernel_rfl) (by kernel_rfl) ?_; simp only [List.take_succ_cons, List.take_zero, List.drop_succ_cons, List.drop_zero]; (repeat (quiet_step (((go_at_call 50; exact later_drew (nearest_any _ _ _ (by omega) (by omega) (by omega) (by omega))))))); refine wpQuiet_nil ?_; rintro _ ⟨y, rfl⟩)
  go_wp2_with (fail)
  refine calls_named ?_
  intro W2 hW2
  have hbW2 : Below w.heap.size w W2 := by rw [hW2]; exact below_setCell0 (below_setCell0 (below_setCell0 (below_later hbW _) (Nat.le_refl _) _) (Nat.le_refl _) _) (Nat.le_refl _) _
  have hlt2 : w.heap.size + 1 < W2.heap.size := by rw [hW2]; simp; exact Nat.lt_of_lt_of_le hlt1 (below_size (Later.below _))
  have e0 : W2.cell? ⟨w.heap.size + 1, 0, none⟩ = some (.int .i64 0) := by rw [hW2]; simp [go_sem, r0, hlt1]
  have h0 : W2.frozen? ⟨w.heap.size + 1, 0, none⟩ = false := by rw [hW2]; simp [go_sem, g0, hlt1]
  have e1 : W2.cell? ⟨w.heap.size + 1, 1, none⟩ = some (.int .i64 0) := by rw [hW2]; simp [go_sem, r1, hlt1]
  have h1 : W2.frozen? ⟨w.heap.size + 1, 1, none⟩ = false := by rw [hW2]; simp [go_sem, g1, hlt1]
  have e2 : W2.cell? ⟨w.heap.size + 1, 2, none⟩ = some (.int .i64 0) := by rw [hW2]; simp [go_sem, r2, hlt1]
  have h2 : W2.frozen? ⟨w.heap.size + 1, 2, none⟩ = false := by rw [hW2]; simp [go_sem, g2, hlt1]
  clear hW2
  (refine later_intro ?_; intro y)
  (go_at_call 156; refine (later_below (checkedVector_any _ _ _ _ hok)).mono ?_; rintro e w' ⟨rfl, y, rfl⟩)
  go_wp2
  exact bodyPost_ret (v := .tuple #[.agg #[.int .i64 (rotX x z a), .int .i64 v, .int .i64 (rotZ x z a)], .int .i64 0]) (by simp [results, Tryz.results155, go_sem, hlt2, e0, e1, e2]) rfl ⟨rfl, below_setCell0 (below_setCell0 (below_setCell0 (below_later hbW2 _) (Nat.le_succ _) _) (Nat.le_succ _) _) (Nat.le_succ _) _⟩
end Go.Proofs.YtpnfhienffekoaaGreatDoor
namespace Go.Proofs.YtpnfhienffekoaaGreatDoor
set_option linter.unusedVariables false
set_option linter.unusedSimpArgs false
open Ieee

theorem cut_le (way : Toward) (s : Bool) (n d : Nat) (h : way = .even ∨ way = .zero) : way.cut s n d ≤ n / 2 ^ d + 1 ∧ (d = 0 → way.cut s n d = n) := by
  have hg : ∀ k, (1 : Nat) <<< k = 2 ^ k := fun k => by rw [Nat.shiftLeft_eq, Nat.one_mul]
  unfold Toward.cut
  simp only [hg]
  refine ⟨?_, ?_⟩
  · have h1 : n / 2 ^ min d (n.log2 + 2) ≤ n / 2 ^ d := by
      by_cases hd : d ≤ n.log2 + 2
      · rw [Nat.min_eq_left hd]; exact Nat.le_refl _
      · have : n < 2 ^ (n.log2 + 2) := Nat.lt_of_lt_of_le (Nat.lt_log2_self (n := n)) (Nat.pow_le_pow_right (by omega) (by omega))
        rw [Nat.min_eq_right (by omega), Nat.div_eq_of_lt this]; exact Nat.zero_le _
    have h2 : ∀ b : Bool, b.toNat ≤ 1 := fun b => by cases b <;> decide
    rcases h with rfl | rfl
    · simp only; have := h2 (decide (2 ^ min d (n.log2 + 2) < 2 * (n % 2 ^ min d (n.log2 + 2))) || (2 ^ min d (n.log2 + 2) == 2 * (n % 2 ^ min d (n.log2 + 2)) && n / 2 ^ min d (n.log2 + 2) % 2 == 1)); omega
    · simp only [Bool.toNat_false]; omega
  · rintro rfl
    simp only [Nat.zero_min, Nat.pow_zero, Nat.div_one, Nat.mod_one]
    rcases h with rfl | rfl <;> simp

/-- the rung of a number whose last place is at most L -/
theorem nearest_le (M : Nat) (p : Int) (L : Int) (hp : p + M.log2 ≤ L + 52) (hL : -1074 ≤ L) : double.nearest false M p ≤ (L + 1074).toNat * 4503599627370496 + 9007199254740992 := by
  unfold Format.nearest
  split
  · exact Nat.zero_le _
  · rename_i h0
    have hlp : double.leastPlace = -1074 := by decide +kernel
    have hb : double.binade = 4503599627370496 := by decide +kernel
    have hf : double.fractionBits = 52 := rfl
    simp only [hlp, hb, hf, Format.word, Bool.false_eq_true, if_false]
    refine Nat.le_trans (Nat.min_le_left _ _) ?_
    have hM : M < 2 ^ (M.log2 + 1) := Nat.lt_log2_self
    generalize hlast : max (p + (M.log2 : Int) - ((52 : Nat) : Int)) (-1074) = last
    have hl1 : last ≤ L := by omega
    have hl2 : -1074 ≤ last := by omega
    have hl3 : p + (M.log2 : Int) - 52 ≤ last := by omega
    have hk : Toward.even.cut false (M <<< (p - last).toNat) (last - p).toNat ≤ 9007199254740992 := by
      by_cases hc : last ≤ p
      · have e : (last - p).toNat = 0 := by omega
        rw [e, (cut_le .even false (M <<< (p - last).toNat) 0 (.inl rfl)).2 rfl, Nat.shiftLeft_eq]
        have h1 : M * 2 ^ (p - last).toNat < 2 ^ (M.log2 + 1) * 2 ^ (p - last).toNat := Nat.mul_lt_mul_of_pos_right hM (Nat.two_pow_pos _)
        have h2 : 2 ^ (M.log2 + 1) * 2 ^ (p - last).toNat ≤ 2 ^ 53 := by rw [← Nat.pow_add]; exact Nat.pow_le_pow_right (by omega) (by omega)
        have : (2 : Nat) ^ 53 = 9007199254740992 := by decide
        omega
      · have e : (p - last).toNat = 0 := by omega
        rw [e, Nat.shiftLeft_zero]
        have h1 := (cut_le .even false M (last - p).toNat (.inl rfl)).1
        have h2 : M / 2 ^ (last - p).toNat < 2 ^ 53 := by
          rw [Nat.div_lt_iff_lt_mul (Nat.two_pow_pos _), ← Nat.pow_add]
          exact Nat.lt_of_lt_of_le hM (Nat.pow_le_pow_right (by omega) (by omega))
        have : (2 : Nat) ^ 53 = 9007199254740992 := by decide
        omega
    have h3 : (last - -1074).toNat ≤ (L + 1074).toNat := by omega
    exact Nat.add_le_add (Nat.mul_le_mul_right 4503599627370496 h3) hk

/-- a word of a low rung reads as a number that is not negative -/
theorem read_low (x : Nat) (K : Nat) (hK : K ≤ 2000) (h : x ≤ K * 4503599627370496 + 9007199254740992) : ∃ (m : Nat) (i : Int), double.read x = .number false m i ∧ m < 9007199254740992 ∧ i ≤ (K : Int) + 2 - 1075 ∧ -1074 ≤ i := by
  have hs : double.signWeight = 9223372036854775808 := by decide +kernel
  have hb : double.binade = 4503599627370496 := by decide +kernel
  have hi : double.infRung = 9218868437227405312 := by decide +kernel
  have hl : double.leastPlace = -1074 := by decide +kernel
  unfold Format.read
  simp only [hs, hb, hi, hl]
  have e1 : x / 9223372036854775808 = 0 := by omega
  have e2 : x % 9223372036854775808 = x := by omega
  rw [e1, e2]
  have e3 : ((0 % 2 == 1) : Bool) = false := rfl
  rw [e3]
  split
  · exact ⟨x, -1074, rfl, by omega, by omega, by omega⟩
  · rw [if_pos (by omega)]
    exact ⟨_, _, rfl, by omega, by omega, by omega⟩

theorem rootFrom_lt (n : Nat) : ∀ todo root, Datum.rootFrom n todo root < root + 2 ^ todo
  | 0, root => by simp [Datum.rootFrom]
  | todo + 1, root => by
    have e : (1 : Nat) <<< todo = 2 ^ todo := by rw [Nat.shiftLeft_eq, Nat.one_mul]
    unfold Datum.rootFrom
    simp only [e]
    have hp : 2 ^ (todo + 1) = 2 ^ todo + 2 ^ todo := by rw [Nat.pow_succ]; omega
    have h0 := Nat.two_pow_pos todo
    split
    · have := rootFrom_lt n todo (root + 2 ^ todo); omega
    · have := rootFrom_lt n todo root; omega

theorem log2_shift (m k : Nat) (h : m ≠ 0) : (m <<< k).log2 = m.log2 + k := by
  have hk := Nat.two_pow_pos k
  have hm : m * 2 ^ k ≠ 0 := Nat.mul_ne_zero h (by omega)
  rw [Nat.shiftLeft_eq]
  apply Nat.le_antisymm
  · have : m * 2 ^ k < 2 ^ (m.log2 + k + 1) := by
      rw [show m.log2 + k + 1 = (m.log2 + 1) + k by omega, Nat.pow_add]
      exact Nat.mul_lt_mul_of_pos_right Nat.lt_log2_self hk
    have := (Nat.log2_lt hm).2 this
    omega
  · rw [Nat.le_log2 hm, Nat.pow_add]
    exact Nat.mul_le_mul_right _ (Nat.log2_self_le h)

theorem root_low (m : Nat) (i : Int) (hm : m < 9007199254740992) (hi : i ≤ 13) (hi2 : -1074 ≤ i) : ∃ (M : Nat) (p : Int), (Datum.number false m i).root 54 = some (.number false M p) ∧ (M = 0 ∨ p + M.log2 ≤ 40) := by
  simp only [Datum.root]
  split
  · rename_i h0; exact ⟨m, i, rfl, .inl h0⟩
  · rename_i h0
    simp only [Bool.false_eq_true, if_false]
    refine ⟨_, _, rfl, .inr ?_⟩
    have hl : m.log2 ≤ 52 := by
      have : m.log2 < 53 := (Nat.log2_lt h0).2 hm
      omega
    generalize hpar : ((i - ((2 * 54 - m.log2 : Nat) : Int)) % 2).toNat = par
    have hpar2 : par ≤ 1 := by omega
    generalize hmore : 2 * 54 - m.log2 + par = more
    have hm1 : 56 ≤ more ∧ more + m.log2 ≤ 109 := by omega
    have hnl : (m <<< more).log2 = m.log2 + more := log2_shift m more h0
    rw [hnl]
    have hw := rootFrom_lt (m <<< more) ((m.log2 + more) / 2 + 1) 0
    generalize Datum.rootFrom (m <<< more) ((m.log2 + more) / 2 + 1) 0 = whole at *
    have h2 : 2 ^ ((m.log2 + more) / 2 + 1) ≤ 2 ^ 55 := Nat.pow_le_pow_right (by omega) (by omega)
    have hb : ∀ b : Bool, b.toNat ≤ 1 := fun b => by cases b <;> decide
    have hb1 := hb (whole * whole != m <<< more)
    generalize (whole * whole != m <<< more).toNat = bit at *
    have h3 : (2 : Nat) ^ 55 = 36028797018963968 := by decide
    have h4 : 2 * whole + bit < 2 ^ 57 := by have : (2 : Nat) ^ 57 = 144115188075855872 := by decide
                                             omega
    have h5 : (2 * whole + bit).log2 ≤ 57 := by
      by_cases hz : 2 * whole + bit = 0
      · rw [hz]; decide
      · have := (Nat.log2_lt hz).2 h4; omega
    omega

/-- THE FLOAT ROOT -/
theorem sqrt_ok (n : Int) (h0 : 0 < n) (h1 : n ≤ 9223372036854775807) : ∃ (y : Nat) (r : Int), FloatKind.f64.format.sqrt (floatOfInt .f64 n) = some y ∧ floatToIntVal .f64 y .i64 = some r ∧ 0 ≤ r ∧ r ≤ 9007199254740993 := by
  obtain ⟨k, rfl⟩ : ∃ k : Nat, n = k := ⟨n.toNat, by omega⟩
  have hneg : decide ((k : Int) < 0) = false := by simp
  have hx : floatOfInt .f64 (k : Int) = double.nearest false k 0 := by
    show double.nearest (decide ((k : Int) < 0)) ((k : Int)).natAbs 0 = _
    rw [hneg]; rfl
  have hkl : k.log2 ≤ 62 := by
    have : k.log2 < 63 := (Nat.log2_lt (by omega)).2 (by have : (2 : Nat) ^ 63 = 9223372036854775808 := by decide
                                                         omega)
    omega
  have hn := nearest_le k 0 10 (by omega) (by omega)
  rw [show ((10 + 1074 : Int)).toNat = 1084 from rfl] at hn
  rw [hx]
  obtain ⟨m, i, hr, hm, hi, hi2⟩ := read_low (double.nearest false k 0) 1084 (by omega) hn
  have hs : FloatKind.f64.format.sqrt (double.nearest false k 0) = ((Datum.number false m i).root 54).map double.write := by
    show ((double.read (double.nearest false k 0)).root 54).map double.write = _
    rw [hr]
  obtain ⟨M, p, hroot, hM⟩ := root_low m i hm (by omega) hi2
  rw [hs, hroot]
  refine ⟨double.nearest false M p, ?_⟩
  have hy : double.nearest false M p ≤ 1062 * 4503599627370496 + 9007199254740992 := by
    rcases hM with rfl | hM
    · have : double.nearest false 0 p = 0 := by unfold Format.nearest; rw [if_pos rfl]; rfl
      rw [this]; exact Nat.zero_le _
    · have h9 := nearest_le M p (-12) (by omega) (by omega)
      rw [show ((-12 + 1074 : Int)).toNat = 1062 from rfl] at h9
      exact h9
  obtain ⟨m2, i2, hr2, hm2, hi3, hi4⟩ := read_low (double.nearest false M p) 1062 (by omega) hy
  have e1 : (i2.toNat : Nat) = 0 := by omega
  have hc := (cut_le .zero false (m2 <<< 0) (-i2).toNat (.inr rfl)).1
  have hd : m2 / 2 ^ (-i2).toNat ≤ m2 := Nat.div_le_self _ _
  rw [Nat.shiftLeft_zero] at hc
  refine ⟨(Toward.zero.cut false m2 (-i2).toNat : Nat), rfl, ?_, by omega, by omega⟩
  have hint : (FloatKind.f64.decode (double.nearest false M p)).toInt .zero = some ((Toward.zero.cut false m2 (-i2).toNat : Nat) : Int) := by
    show (double.read (double.nearest false M p)).toInt .zero = _
    rw [hr2]
    unfold Datum.toInt Datum.integral
    simp only [e1, Nat.shiftLeft_zero, Ieee.signed, Bool.false_eq_true, if_false]
  unfold floatToIntVal
  rw [hint]
  have hmin : IntKind.i64.min = -9223372036854775808 := by decide +kernel
  have hmax : IntKind.i64.max = 9223372036854775807 := by decide +kernel
  simp only [hmin, hmax]
  rw [if_pos (by omega)]
end Go.Proofs.YtpnfhienffekoaaGreatDoor
namespace Go.Proofs.YtpnfhienffekoaaGreatDoor
set_option linter.unusedVariables false
set_option linter.unusedSimpArgs false
open Go.RowKit
theorem sqrtName : (Tryz.f141.name == "runtime.NumGoroutine") = false := by kernel_rfl
theorem sqrtBody : Tryz.f141.body.isNone = true := by kernel_rfl
theorem sqrtNext : Extern.findNext Tryz.f141 = none := by kernel_rfl
theorem sqrtFind : Extern.find Tryz.f141 = some Extern.MathSqrt.sqrt := by kernel_rfl
theorem run_sqrt (x y : Nat) (h : FloatKind.f64.format.sqrt x = some y) (w : World) : (callFunc 141 #[.float .f64 x]).run Tryz.prog w = .ok (.value (.float .f64 y)) w := by
  rw [run_callFunc_extern Tryz.func141 sqrtName sqrtBody sqrtNext sqrtFind]
  have e : Extern.MathSqrt.sqrt #[.float .f64 x] = (match FloatKind.f64.format.sqrt x with
    | some r => pure (.float .f64 r)
    | none => do pure (.float .f64 (← choose (.nanBits .f64 x x)))) := rfl
  rw [e, h]
  simp
theorem Sqrt_any (x y : Nat) (h : FloatKind.f64.format.sqrt x = some y) (w : World) : Calls Tryz.prog 109 #[.float .f64 x] w fun e w' => e = .returned (.float .f64 y) ∧ w = w' := by
  have hr := run_sqrt x y h
  go_enter Tryz.func109, Tryz.ntmps109
  go_wp2
  go_ret
  exact ⟨rfl, rfl⟩
set_option maxHeartbeats 1000000 in
theorem RootOf_any (n : Int) (w : World) (h1 : n ≤ 9223372036854775807) :
    Calls Tryz.prog 63 #[.int .i64 n] w fun e w' => e = .returned (.int .i64 (rootI n)) ∧ w = w' := by
  by_cases h0 : n ≤ 0
  · go_enter Tryz.func63, Tryz.ntmps63
    go_wp2
    go_ret
    exact ⟨ret_int (by rw [rootI_neg h0]), rfl⟩
  · obtain ⟨y, r, hy, hr, r0, r1⟩ := sqrt_ok n (by omega) h1
    have hcv := fun W => run_convert_float_int (P := Tryz.prog) W 139 2 .f64 .i64 y r (by rw [Tryz.underlying139]; rfl) Tryz.underlying2 hr
    have C1 : Hid (∀ W, Calls Tryz.prog 109 #[.float .f64 (floatOfInt .f64 n)] W fun e w' => e = .returned (.float .f64 y) ∧ W = w') := fun W => Sqrt_any _ y hy W
    clear hy hr
    go_enter Tryz.func63, Tryz.ntmps63
    go_wp2_with (go_at_call 109; refine (C1.out _).mono ?_; rintro e w' ⟨rfl, rfl⟩)
    all_goals
      go_loop [3] (fun v => ∃ q : Nat, v = .int .i64 q ∧ q ≤ 3037000499) (fun v => (intOf v).toNat)
      case atStart =>
        first
          | exact ⟨3037000499, rfl, by omega⟩
          | exact ⟨r.toNat, by congr 1; omega, by omega⟩
      case round =>
        obtain ⟨q, rfl, hq⟩ := hrel
        obtain ⟨s1, s2⟩ := sq_small q hq
        by_cases hc : n < (q : Int) * q
        · have q1 : 1 ≤ q := by
            rcases Nat.eq_zero_or_pos q with rfl | h
            · simp at hc; omega
            · exact h
          go_wp2
          exact ⟨⟨q - 1, by congr 1; omega, by omega⟩, by simp [intOf]; omega⟩
        · go_wp2_with (fail)
          go_loop [3] (fun v => ∃ q : Nat, v = .int .i64 q ∧ q ≤ 3037000499 ∧ (q : Int) * q ≤ n) (fun v => 3037000499 - (intOf v).toNat)
          case atStart => exact ⟨q, rfl, hq, by omega⟩
          case round =>
            clear s1 s2 hc hq
            obtain ⟨q, rfl, hq, hs⟩ := hrel
            by_cases h3 : (q : Int) < 3037000499
            · obtain ⟨s3, s4⟩ := sq_small (q + 1) (by omega)
              have e3 : ((q + 1 : Nat) : Int) = (q : Int) + 1 := by omega
              rw [e3] at s3 s4
              by_cases hc : ((q : Int) + 1) * ((q : Int) + 1) ≤ n
              · go_wp2
                exact ⟨⟨q + 1, by go_num, by omega, by rw [e3]; exact hc⟩, by simp [intOf]; omega⟩
              · go_wp2
                go_ret
                exact ⟨ret_int (by rw [rootI_unique n q hs (by omega)]), rfl⟩
            · go_wp2
              go_ret
              exact ⟨ret_int (by
                obtain rfl : q = 3037000499 := by omega
                rw [rootI_unique n _ hs (by omega)]), rfl⟩
set_option maxHeartbeats 1000000 in
theorem l01Root_any (n : Int) (w : World) (h1 : n ≤ 9223372036854775807) :
    Calls Tryz.prog 56 #[.int .i64 n] w fun e w' => e = .returned (.int .i64 (rootI n)) ∧ w = w' := by
  go_enter Tryz.func56, Tryz.ntmps56
  go_wp2_with (fail)
  go_loop [3, 4] (fun a b => ∃ lo hi : Nat, a = .int .i64 lo ∧ b = .int .i64 hi ∧ lo ≤ hi ∧ hi ≤ 3037000499 ∧ (lo = 0 ∨ (lo : Int) * lo ≤ n) ∧ n < ((hi : Int) + 1) * ((hi : Int) + 1)) (fun a b => (intOf b).toNat - (intOf a).toNat)
  case atStart => exact ⟨0, 3037000499, rfl, rfl, by omega, by omega, .inl rfl, by omega⟩
  case round =>
    obtain ⟨lo, hi, rfl, rfl, hl, hh, hs, hn⟩ := hrel
    by_cases hc : lo < hi
    · obtain ⟨m, hm⟩ : ∃ m : Nat, ((lo : Int) + (hi : Int) + 1) / 2 = m := ⟨((lo : Int) + (hi : Int) + 1).toNat / 2, by omega⟩
      have m1 : lo < m := by omega
      have m2 : m ≤ hi := by omega
      obtain ⟨s1, s2⟩ := sq_small m (by omega)
      have HS := Lib.hid hs; clear hs
      by_cases hq : (m : Int) * m ≤ n
      · go_wp2
        exact ⟨⟨m, hi, by rw [hm], rfl, m2, hh, .inr hq, hn⟩, by simp [intOf]; omega⟩
      · go_wp2
        have e3 : ((m - 1 : Nat) : Int) = (m : Int) - 1 := by omega
        exact ⟨⟨lo, m - 1, rfl, by congr 1; omega, by omega, by omega, HS.out, by rw [e3, show (m : Int) - 1 + 1 = m by omega]; omega⟩, by simp [intOf]; omega⟩
    · have HS := Lib.hid hs; clear hs
      have HN := Lib.hid hn; clear hn
      go_wp2
      go_ret
      refine ⟨ret_int ?_, rfl⟩
      obtain rfl : lo = hi := by omega
      rcases HS.out with rfl | hs
      · have hn := HN.out
        by_cases h0 : 0 ≤ n
        · rw [rootI_unique n 0 (by simpa using h0) hn]
        · rw [rootI_neg (by omega)]; rfl
      · rw [rootI_unique n lo hs HN.out]
end Go.Proofs.YtpnfhienffekoaaGreatDoor
