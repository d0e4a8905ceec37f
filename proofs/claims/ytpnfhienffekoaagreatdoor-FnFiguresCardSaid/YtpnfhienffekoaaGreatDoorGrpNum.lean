/- Texts that belong together, as one: Basics, Later, Num, Valid, Rebase, Tail, Sky, LawA. -/
import Derived.Test.YtpnfhienffekoaaGreatDoorProg
import Derived.Test.YtpnfhienffekoaaGreatDoorGrpPure
import Derived.WalkKit
import Derived.WalkSpells
import Derived.WalkLawsBesides
import Derived.Lib.Hide
import Derived.Deep.QuietTactic
import Derived.BigQuiet
section
namespace Go.Proofs.YtpnfhienffekoaaGreatDoor
set_option linter.unusedVariables false
set_option linter.unusedSimpArgs false
open Go.RowKit

theorem ret_bool {a b : Bool} (h : a = b) : Ending.returned (.bool a) = Ending.returned (.bool b) := by rw [h]
theorem byteCases (c : Int) : (decide (97 ≤ c) = true ∧ decide (c ≤ 122) = true) ∨ (decide (97 ≤ c) = true ∧ decide (c ≤ 122) = false ∧ decide (48 ≤ c) = true ∧ decide (c ≤ 57) = false) ∨ (decide (97 ≤ c) = false ∧ decide (48 ≤ c) = true ∧ decide (c ≤ 57) = true) ∨
    (decide (97 ≤ c) = false ∧ decide (48 ≤ c) = true ∧ decide (c ≤ 57) = false) ∨ (decide (97 ≤ c) = false ∧ decide (48 ≤ c) = false) := by
  simp only [decide_eq_true_eq, decide_eq_false_iff_not]; omega
theorem isEmpty_no (s : ByteArray) (h : 1 ≤ s.size) : s.toList.isEmpty = false := by
  rw [List.isEmpty_eq_false_iff]; intro e; have : s.toList.length = 0 := by rw [e]; rfl
  rw [ByteArray.toList_eq, len_data] at this; omega
theorem isEmpty_yes (s : ByteArray) (h : s.size = 0) : s.toList.isEmpty = true := by
  rw [List.isEmpty_iff, ← List.length_eq_zero_iff, ByteArray.toList_eq, len_data]; exact h
theorem ret_int {a b : Int} (h : a = b) : Ending.returned (.int .i64 a) = Ending.returned (.int .i64 b) := by rw [h]
set_option maxHeartbeats 400000 in
theorem within_any (a b c : Int) (w : World) :
    Calls Tryz.prog 79 #[.int .i64 a, .int .i64 b, .int .i64 c] w fun e w' => e = .returned (.bool (inB a b c)) ∧ w = w' := by
  go_enter Tryz.func79, Tryz.ntmps79
  go_wp2
  all_goals (go_ret; exact ⟨ret_bool (by rw [Bool.eq_iff_iff]; simp [inB]; try omega), rfl⟩)
set_option maxHeartbeats 400000 in
theorem l00In_any (a b c : Int) (w : World) :
    Calls Tryz.prog 58 #[.int .i64 a, .int .i64 b, .int .i64 c] w fun e w' => e = .returned (.bool (inB a b c)) ∧ w = w' := by
  go_enter Tryz.func58, Tryz.ntmps58
  go_wp2
  all_goals (go_ret; exact ⟨ret_bool (by rw [Bool.eq_iff_iff]; simp [inB]; try omega), rfl⟩)
set_option maxHeartbeats 400000 in
theorem l01Small_any (c : UInt8) (w : World) :
    Calls Tryz.prog 157 #[.int .u8 (c.toNat : Int)] w fun e w' => e = .returned (.bool (lowB c)) ∧ w = w' := by
  go_enter Tryz.func157, Tryz.ntmps157
  go_wp2
  all_goals (go_ret; exact ⟨ret_bool (by rw [Bool.eq_iff_iff]; simp [lowB]; try omega), rfl⟩)
set_option maxHeartbeats 400000 in
theorem l01Digit_any (c : UInt8) (w : World) :
    Calls Tryz.prog 158 #[.int .u8 (c.toNat : Int)] w fun e w' => e = .returned (.bool (digB c)) ∧ w = w' := by
  go_enter Tryz.func158, Tryz.ntmps158
  go_wp2
  all_goals (go_ret; exact ⟨ret_bool (by rw [Bool.eq_iff_iff]; simp [digB]; try omega), rfl⟩)
set_option maxHeartbeats 1000000 in
theorem IsName_any (s : ByteArray) (w : World) :
    Calls Tryz.prog 95 #[.string s] w fun e w' => e = .returned (.bool (isName s.data.toList)) ∧ w = w' := by
  by_cases h1 : 1 ≤ s.size
  · by_cases h2 : s.size ≤ 10
    · by_cases h3 : 97 ≤ (s[0].toNat : Int)
      · by_cases h4 : (s[0].toNat : Int) ≤ 122
        · go_enter Tryz.func95, Tryz.ntmps95
          go_wp2
          go_loop [3] (fun i => ∃ k : Nat, k ≤ s.size ∧ i = .int .i64 k ∧ (s.data.toList.take k).all nameCh = true) (fun i => s.size - (intOf i).toNat)
          case atStart => exact ⟨0, Nat.zero_le _, rfl, by simp⟩
          case round =>
            obtain ⟨k, hk, rfl, hall⟩ := hrel
            have HA := Lib.hid hall; clear hall
            by_cases hlt : k < s.size
            · have hc := byteCases (s[k].toNat : Int)
              rcases hc with ⟨c1, c2⟩ | ⟨c1, c2, c3, c4⟩ | ⟨c1, c2, c3⟩ | ⟨c1, c2, c3⟩ | ⟨c1, c2⟩
              · go_wp2
                exact ⟨⟨k + 1, by omega, by go_num, all_snoc s k hlt HA.out (by simp only [nameCh, lowB, *]; rfl)⟩, by simp [intOf]; omega⟩
              · go_wp2
                go_ret
                exact ⟨ret_bool (by rw [isName_bad s k hlt (by simp only [nameCh, lowB, digB, *]; rfl)]), rfl⟩
              · go_wp2
                exact ⟨⟨k + 1, by omega, by go_num, all_snoc s k hlt HA.out (by simp only [nameCh, lowB, digB, *]; rfl)⟩, by simp [intOf]; omega⟩
              · go_wp2
                go_ret
                exact ⟨ret_bool (by rw [isName_bad s k hlt (by simp only [nameCh, lowB, digB, *]; rfl)]), rfl⟩
              · go_wp2
                go_ret
                exact ⟨ret_bool (by rw [isName_bad s k hlt (by simp only [nameCh, lowB, digB, *]; rfl)]), rfl⟩
            · go_wp2
              go_ret
              exact ⟨ret_bool (by rw [isName_good s (by omega) h2 (by simp [lowB, *]) (by have := HA.out; rwa [show k = s.size by omega] at this)]), rfl⟩
        · go_enter Tryz.func95, Tryz.ntmps95
          go_wp2
          go_ret
          exact ⟨ret_bool (by rw [isName_head s (by omega) (by simp [lowB]; omega)]), rfl⟩
      · go_enter Tryz.func95, Tryz.ntmps95
        go_wp2
        go_ret
        exact ⟨ret_bool (by rw [isName_head s (by omega) (by simp [lowB]; omega)]), rfl⟩
    · go_enter Tryz.func95, Tryz.ntmps95
      go_wp2
      go_ret
      exact ⟨ret_bool (by rw [isName_long _ (by rw [len_data]; omega)]), rfl⟩
  · go_enter Tryz.func95, Tryz.ntmps95
    go_wp2
    go_ret
    exact ⟨ret_bool (by rw [isName_short _ (by rw [len_data]; omega)]), rfl⟩
set_option maxHeartbeats 1000000 in
theorem l01Name_any (s : ByteArray) (w : World) :
    Calls Tryz.prog 131 #[.string s] w fun e w' => e = .returned (.bool (isName s.data.toList)) ∧ w = w' := by
  by_cases h1 : 1 ≤ s.size
  · have he := isEmpty_no s h1
    by_cases h2 : s.size ≤ 10
    · cases h3 : lowB s[0] with
      | true =>
        go_enter Tryz.func131, Tryz.ntmps131
        go_wp2_with (go_at_call 157; refine (l01Small_any _ _).mono ?_; rintro e w' ⟨rfl, rfl⟩)
        go_loop [3] (fun i => ∃ k : Nat, k ≤ s.size ∧ i = .int .i64 k ∧ (s.data.toList.take k).all nameCh = true) (fun i => s.size - (intOf i).toNat)
        case atStart => exact ⟨0, Nat.zero_le _, rfl, by simp⟩
        case round =>
          obtain ⟨k, hk, rfl, hall⟩ := hrel
          have HA := Lib.hid hall; clear hall
          by_cases hlt : k < s.size
          · cases c1 : lowB s[k] with
            | true =>
              go_wp2_with (first | (go_at_call 157; refine (l01Small_any _ _).mono ?_; rintro e w' ⟨rfl, rfl⟩) | (go_at_call 158; refine (l01Digit_any _ _).mono ?_; rintro e w' ⟨rfl, rfl⟩))
              exact ⟨⟨k + 1, by omega, by go_num, all_snoc s k hlt HA.out (by simp only [nameCh, *]; rfl)⟩, by simp [intOf]; omega⟩
            | false =>
              cases c2 : digB s[k] with
              | true =>
                go_wp2_with (first | (go_at_call 157; refine (l01Small_any _ _).mono ?_; rintro e w' ⟨rfl, rfl⟩) | (go_at_call 158; refine (l01Digit_any _ _).mono ?_; rintro e w' ⟨rfl, rfl⟩))
                exact ⟨⟨k + 1, by omega, by go_num, all_snoc s k hlt HA.out (by simp only [nameCh, *]; rfl)⟩, by simp [intOf]; omega⟩
              | false =>
                go_wp2_with (first | (go_at_call 157; refine (l01Small_any _ _).mono ?_; rintro e w' ⟨rfl, rfl⟩) | (go_at_call 158; refine (l01Digit_any _ _).mono ?_; rintro e w' ⟨rfl, rfl⟩))
                go_ret
                exact ⟨ret_bool (by rw [isName_bad s k hlt (by simp only [nameCh, *]; rfl)]), rfl⟩
          · go_wp2
            go_ret
            exact ⟨ret_bool (by rw [isName_good s (by omega) h2 h3 (by have := HA.out; rwa [show k = s.size by omega] at this)]), rfl⟩
      | false =>
        go_enter Tryz.func131, Tryz.ntmps131
        go_wp2_with (go_at_call 157; refine (l01Small_any _ _).mono ?_; rintro e w' ⟨rfl, rfl⟩)
        go_ret
        exact ⟨ret_bool (by rw [isName_head s (by omega) h3]), rfl⟩
    · go_enter Tryz.func131, Tryz.ntmps131
      go_wp2
      go_ret
      exact ⟨ret_bool (by rw [isName_long _ (by rw [len_data]; omega)]), rfl⟩
  · have he := isEmpty_yes s (by omega)
    go_enter Tryz.func131, Tryz.ntmps131
    go_wp2
    go_ret
    exact ⟨ret_bool (by rw [isName_short _ (by rw [len_data]; omega)]), rfl⟩
theorem l01Name_is {s : ByteArray} {b : Bool} (h : isName s.data.toList = b) (w : World) :
    Calls Tryz.prog 131 #[.string s] w fun e w' => e = .returned (.bool b) ∧ w = w' := by subst h; exact l01Name_any s w
theorem l00In_is {x y z : Int} {b : Bool} (h : inB x y z = b) (w : World) :
    Calls Tryz.prog 58 #[.int .i64 x, .int .i64 y, .int .i64 z] w fun e w' => e = .returned (.bool b) ∧ w = w' := by subst h; exact l00In_any x y z w
end Go.Proofs.YtpnfhienffekoaaGreatDoor
end
section
namespace Go.Proofs.YtpnfhienffekoaaGreatDoor
set_option linter.unusedVariables false
set_option linter.unusedSimpArgs false
open Go.RowKit

/-- A world that came later: all blocks that w has are as they were. -/
def Later (w : World) : Type := { w' : World // Below w.heap.size w w' }
def Later.w {w : World} (x : Later w) : World := x.1
instance (w : World) : Nonempty (Later w) := ⟨⟨w, Below.refl _ _⟩⟩
theorem Later.below {w : World} (x : Later w) : Below w.heap.size w x.w := x.2
theorem Later.cell {w : World} (x : Later w) {b o : Nat} (h : b < w.heap.size) : x.w.cell? ⟨b, o, none⟩ = w.cell? ⟨b, o, none⟩ := x.2.cell (p := ⟨b, o, none⟩) h
theorem Later.frozen {w : World} (x : Later w) {b o : Nat} (h : b < w.heap.size) : x.w.frozen? ⟨b, o, none⟩ = w.frozen? ⟨b, o, none⟩ := x.2.frozen (p := ⟨b, o, none⟩) h
attribute [go_sem] Later.cell Later.frozen

theorem below_drewN' {B : Nat} {a w : World} (h : Below B a w) (n : Nat) : Below B a (w.drewN n) := ⟨h.os, h.tape, h.output, h.size, h.block⟩
theorem Below.size_lt {B : Nat} {a w : World} (h : Below B a w) {k : Nat} (hk : k < a.heap.size) : k < w.heap.size := Nat.lt_of_lt_of_le hk h.size

theorem Later.drew {w : World} (x : Later w) : ∃ y : Later w, { x.w with drawn := x.w.drawn + 1 } = y.w := ⟨⟨x.w.drew, x.2.drew⟩, rfl⟩
theorem wp_region_later {P : Program} {id : Nat} {Q : Exit → Act → World → Prop} {a : Act} {w : World} {y : Later w} {l : List Oper} (hm : P.follows .mixedOrders = true) (hB : Region.lexB .any l.toArray = true)
    (h : wpQuiet P l.toArray (fun w' => ∃ x : Later w, w' = x.w) (fun a' => ∀ w', (∃ x : Later w, w' = x.w) → Q .normal a' w') l a) : (Code.region id l.toArray true).wp P Q a y.w :=
  wp_region_quiet (C := fun w' => ∃ x : Later w, w' = x.w) hm hB y.drew (by simpa using h)
/-- from here on the world is one that came later than this one -/
theorem later_intro {P : Program} {f : FuncId} {args : Array Value} {w : World} {R : Ending → World → Prop} (h : ∀ y : Later w, Calls P f args y.w R) : Calls P f args w R := h ⟨w, Below.refl _ _⟩
/-- the world under a name of its own -/
theorem wp_named {P : Program} {c : Code} {Q : Exit → Act → World → Prop} {a : Act} {w : World} (h : ∀ W1, W1 = w → c.wp P Q a W1) : c.wp P Q a w := h w rfl
theorem calls_named {P : Program} {f : FuncId} {args : Array Value} {w : World} {R : Ending → World → Prop} (h : ∀ W1, W1 = w → Calls P f args W1 R) : Calls P f args w R := h w rfl
theorem later_intro_wp {P : Program} {c : Code} {Q : Exit → Act → World → Prop} {a : Act} {w : World} (h : ∀ y : Later w, c.wp P Q a y.w) : c.wp P Q a w := h ⟨w, Below.refl _ _⟩

/-- a callee that makes memory of its own -/
theorem later_below {P : Program} {f : FuncId} {args : Array Value} {w : World} {x : Later w} {v : Value}
    (h : Calls P f args x.w fun e w' => e = .returned v ∧ Below x.w.heap.size x.w w') : Calls P f args x.w fun e w'' => e = .returned v ∧ ∃ y : Later w, w'' = y.w :=
  h.mono fun _ w' ⟨he, hb⟩ => ⟨he, ⟨w', x.2.trans (hb.mono x.2.size)⟩, rfl⟩
/-- a callee that draws alone -/
theorem later_drew {P : Program} {f : FuncId} {args : Array Value} {w : World} {x : Later w} {v : Value}
    (h : Calls P f args x.w fun e w' => e = .returned v ∧ ∃ m, w' = x.w.drewN m) : Calls P f args x.w fun e w'' => e = .returned v ∧ ∃ y : Later w, w'' = y.w :=
  h.mono fun _ _ ⟨he, m, hm⟩ => ⟨he, ⟨x.w.drewN m, below_drewN' x.2 m⟩, hm⟩
/-- a callee that leaves the world alone -/
theorem later_same {P : Program} {f : FuncId} {args : Array Value} {w : World} {x : Later w} {v : Value}
    (h : Calls P f args x.w fun e w' => e = .returned v ∧ x.w = w') : Calls P f args x.w fun e w'' => e = .returned v ∧ ∃ y : Later w, w'' = y.w :=
  h.mono fun _ _ ⟨he, hm⟩ => ⟨he, x, hm.symm⟩

theorem below_size {a b : World} (h : Below a.heap.size a b) : a.heap.size ≤ b.heap.size := h.size
theorem below_alloc {W a : World} (h : Below W.heap.size W a) (o : Obj) : Below W.heap.size W (a.alloc o) := h.alloc h.size o
theorem below_drewN0 {W a : World} (h : Below W.heap.size W a) (n : Nat) : Below W.heap.size W (a.drewN n) := below_drewN' h n
theorem below_drew0 {W a : World} (h : Below W.heap.size W a) : Below W.heap.size W a.drew := h.drew
theorem below_step {W a b : World} (h : Below W.heap.size W a) (k : Below a.heap.size a b) : Below W.heap.size W b := h.trans (k.mono h.size)
theorem below_setCell0 {W a : World} (h : Below W.heap.size W a) {p : Addr} (hp : W.heap.size ≤ p.block) (u : Value) : Below W.heap.size W (a.setCell p u) := h.setCell hp u
theorem below_later {W a : World} (h : Below W.heap.size W a) (x : Later a) : Below W.heap.size W x.w := below_step h x.below
/-- all cells and marks of old blocks, as two rules -/
theorem bcell {W w1 : World} (hb : Below W.heap.size W w1) : (∀ b o, b < W.heap.size → w1.cell? ⟨b, o, none⟩ = W.cell? ⟨b, o, none⟩) ∧ (∀ b o, b < W.heap.size → w1.frozen? ⟨b, o, none⟩ = W.frozen? ⟨b, o, none⟩) :=
  ⟨fun b o h => hb.cell (p := ⟨b, o, none⟩) h, fun b o h => hb.frozen (p := ⟨b, o, none⟩) h⟩

theorem quiet_add {P : Program} {f : FuncId} {args : Array Value} {w : World} {a n : Nat} {v : Value}
    (h : Calls P f args (w.drewN (a + n)) fun e w' => e = .returned v ∧ ∃ m, w' = (w.drewN (a + n)).drewN m) :
    Calls P f args (w.drewN (a + n)) fun e w'' => e = .returned v ∧ ∃ m, w'' = w.drewN (a + m) :=
  h.mono fun _ _ ⟨he, m, hm⟩ => ⟨he, n + m, by rw [hm, World.drewN_drewN, Nat.add_assoc]⟩
theorem quiet_add_left {P : Program} {f : FuncId} {args : Array Value} {w : World} {a n : Nat} {v : Value}
    (h : Calls P f args (w.drewN (a + n)) fun e w' => e = .returned v ∧ w.drewN (a + n) = w') :
    Calls P f args (w.drewN (a + n)) fun e w'' => e = .returned v ∧ ∃ m, w'' = w.drewN (a + m) :=
  h.mono fun _ _ ⟨he, hm⟩ => ⟨he, n, hm.symm⟩
theorem quiet_left {P : Program} {f : FuncId} {args : Array Value} {w : World} {n : Nat} {v : Value}
    (h : Calls P f args (w.drewN n) fun e w' => e = .returned v ∧ w.drewN n = w') : Calls P f args (w.drewN n) fun e w'' => e = .returned v ∧ ∃ m, w'' = w.drewN m :=
  h.mono fun _ _ ⟨he, hm⟩ => ⟨he, n, hm.symm⟩
end Go.Proofs.YtpnfhienffekoaaGreatDoor
end
section
namespace Go.Proofs.YtpnfhienffekoaaGreatDoor
set_option linter.unusedVariables false
set_option linter.unusedSimpArgs false
open Go.RowKit

set_option maxHeartbeats 400000 in
theorem absOf_any (a : Int) (w : World) (h1 : -9000000000000000000 ≤ a) (h2 : a ≤ 9000000000000000000) :
    Calls Tryz.prog 65 #[.int .i64 a] w fun e w' => e = .returned (.int .i64 (absI a)) ∧ w = w' := by
  by_cases h : a < 0
  · go_enter Tryz.func65, Tryz.ntmps65
    go_wp2
    go_ret
    exact ⟨ret_int (by unfold absI; split <;> omega), rfl⟩
  · go_enter Tryz.func65, Tryz.ntmps65
    go_wp2
    go_ret
    exact ⟨ret_int (by unfold absI; split <;> omega), rfl⟩
set_option maxHeartbeats 400000 in
theorem nearest_any (a b : Int) (w : World) (h1 : -4000000000000000000 ≤ a) (h2 : a ≤ 4000000000000000000) (h3 : 0 < b) (h4 : b ≤ 1000000000000000000) :
    Calls Tryz.prog 50 #[.int .i64 a, .int .i64 b] w fun e w' => e = .returned (.int .i64 (rnd a b)) ∧ ∃ n, w' = w.drewN n := by
  have hb0 : ¬ b = 0 := by omega
  have hm := tmod_bd a b h3
  have ha := absI_bd (a.tmod b)
  have hb1 : absI b = b := by unfold absI; split <;> omega
  have hd := tdiv_bd a b h3
  obtain ⟨m1, m2⟩ := hm
  obtain ⟨a1, a2, a3, a4⟩ := ha
  obtain ⟨d1, d2⟩ := hd
  have hA := absI_bd a
  obtain ⟨_, _, _, A4⟩ := hA
  have d3 : -4000000000000000000 ≤ a.tdiv b := by omega
  have d4 : a.tdiv b ≤ 4000000000000000000 := by omega
  clear d1 d2 A4
  have hbs : decide (b < 0) = false := by simp; omega
  have HA := Lib.hid (rnd_absI a b h3)
  generalize hr : absI (a.tmod b) = r at *
  generalize hq : a.tdiv b = q at *
  have a5 : r ≤ b := by omega
  have HR := Lib.hid hr
  have HQ := Lib.hid hq
  clear hr hq a2 a3 a4
  have hw : IntKind.i64.wrap (a.tdiv b) = q := by rw [HQ.out]; exact IntWalk.i64_in _ (by omega)
  have hc1 : ∀ W, Calls Tryz.prog 65 #[.int .i64 (a.tmod b)] W fun e w' => e = .returned (.int .i64 r) ∧ W = w' := fun W => by
    rw [← HR.out]; exact absOf_any _ _ (by omega) (by omega)
  have hc2 : ∀ W, Calls Tryz.prog 65 #[.int .i64 b] W fun e w' => e = .returned (.int .i64 b) ∧ W = w' := fun W => by
    have := absOf_any b W (by omega) (by omega); rwa [hb1] at this
  have C1 := Lib.hid hc1
  have C2 := Lib.hid hc2
  clear hc1 hc2 hb1
  go_enter Tryz.func50, Tryz.ntmps50
  go_wp2_with (fail)
  go_quiet ((go_at_call 65; exact quiet_left (C1.out _)))
  by_cases c1 : r < b - r
  · go_wp2_with (go_at_call 65; refine (C2.out _).mono ?_; rintro e w' ⟨rfl, rfl⟩)
    go_ret
    exact ⟨ret_int (by rw [HA.out, if_pos (by omega)]), _, rfl⟩
  · rcases Bool.eq_false_or_eq_true (decide (a < 0)) with c2 | c2
    · have c3 : a < 0 := of_decide_eq_true c2
      go_wp2_with (go_at_call 65; refine (C2.out _).mono ?_; rintro e w' ⟨rfl, rfl⟩)
      go_ret
      exact ⟨ret_int (by rw [HA.out, if_neg (by omega), if_pos (by omega)]), _, rfl⟩
    · have c3 : ¬ a < 0 := of_decide_eq_false c2
      go_wp2_with (go_at_call 65; refine (C2.out _).mono ?_; rintro e w' ⟨rfl, rfl⟩)
      go_ret
      exact ⟨ret_int (by rw [HA.out, if_neg (by omega), if_neg (by omega)]), _, rfl⟩
end Go.Proofs.YtpnfhienffekoaaGreatDoor
end
section
namespace Go.Proofs.YtpnfhienffekoaaGreatDoor
set_option linter.unusedVariables false
set_option linter.unusedSimpArgs false
open Go.RowKit
set_option maxHeartbeats 400000 in
theorem ValidSite_any (s : ByteArray) (r t : Int) (w : World) :
    Calls Tryz.prog 93 #[.agg #[.string s, .int .i64 r, .int .i64 t]] w fun e w' => e = .returned (.bool (vSite s.data.toList r t)) ∧ Below w.heap.size w w' := by
  go_enter Tryz.func93, Tryz.ntmps93
  go_wp2_with (first | (go_at_call 95; refine (IsName_any _ _).mono ?_; rintro e w' ⟨rfl, rfl⟩) | (go_at_call 79; refine (within_any _ _ _ _).mono ?_; rintro e w' ⟨rfl, rfl⟩))
  all_goals (go_ret; exact ⟨ret_bool (by simp [vSite, *]), (by repeat (first | exact Below.refl _ _ | refine below_alloc ?_ _ | refine below_drewN0 ?_ _ | refine below_drew0 ?_ | refine below_step ?_ (by assumption) | refine below_later ?_ _ | refine below_setCell0 ?_ (by first | exact Nat.le_refl _ | (simp; done) | omega | (simp; omega)) _))⟩)
set_option maxHeartbeats 400000 in
theorem ValidPlanet_any (s : ByteArray) (r t u : Int) (w : World) :
    Calls Tryz.prog 47 #[.agg #[.string s, .int .i64 r, .int .i64 t, .int .i64 u]] w fun e w' => e = .returned (.bool (vPlanet s.data.toList r t u)) ∧ Below w.heap.size w w' := by
  go_enter Tryz.func47, Tryz.ntmps47
  go_wp2_with (first | (go_at_call 95; refine (IsName_any _ _).mono ?_; rintro e w' ⟨rfl, rfl⟩) | (go_at_call 79; refine (within_any _ _ _ _).mono ?_; rintro e w' ⟨rfl, rfl⟩))
  all_goals (go_ret; exact ⟨ret_bool (by simp [vPlanet, *]), (by repeat (first | exact Below.refl _ _ | refine below_alloc ?_ _ | refine below_drewN0 ?_ _ | refine below_drew0 ?_ | refine below_step ?_ (by assumption) | refine below_later ?_ _ | refine below_setCell0 ?_ (by first | exact Nat.le_refl _ | (simp; done) | omega | (simp; omega)) _))⟩)
theorem l03Angle_any (a : Int) (w : World) : Calls Tryz.prog 202 #[.int .i64 a] w fun e w' => e = .returned (.bool (inB a 0 359999)) ∧ w = w' := by
  go_enter Tryz.func202, Tryz.ntmps202
  go_wp2_with ((go_at_call 58; refine (l00In_any _ _ _ _).mono ?_; rintro e w' ⟨rfl, rfl⟩))
  go_ret
  exact ⟨rfl, rfl⟩
theorem validDirection_any (a d : Int) (w : World) : Calls Tryz.prog 77 #[.int .i64 a, .int .i64 d] w fun e w' => e = .returned (.bool (vDir a d)) ∧ w = w' := by
  go_enter Tryz.func77, Tryz.ntmps77
  go_wp2_with ((go_at_call 79; refine (within_any _ _ _ _).mono ?_; rintro e w' ⟨rfl, rfl⟩))
  all_goals (go_ret; exact ⟨ret_bool (by simp [vDir, *]), rfl⟩)
theorem l05Direction_any (a d : Int) (w : World) : Calls Tryz.prog 171 #[.int .i64 a, .int .i64 d] w fun e w' => e = .returned (.bool (vDir a d)) ∧ w = w' := by
  go_enter Tryz.func171, Tryz.ntmps171
  go_wp2_with (first | (go_at_call 58; refine (l00In_any _ _ _ _).mono ?_; rintro e w' ⟨rfl, rfl⟩) | (go_at_call 202; refine (l03Angle_any _ _).mono ?_; rintro e w' ⟨rfl, rfl⟩))
  all_goals (go_ret; exact ⟨ret_bool (by simp [vDir, *]), rfl⟩)
theorem l05Direction_is {x y : Int} {b : Bool} (h : vDir x y = b) (w : World) :
    Calls Tryz.prog 171 #[.int .i64 x, .int .i64 y] w fun e w' => e = .returned (.bool b) ∧ w = w' := by subst h; exact l05Direction_any x y w
set_option maxHeartbeats 400000 in
theorem ValidStar_any (s : ByteArray) (r d m c : Int) (w : World) :
    Calls Tryz.prog 68 #[.agg #[.string s, .int .i64 r, .int .i64 d, .int .i64 m, .int .i64 c]] w fun e w' => e = .returned (.bool (vStar s.data.toList r d m c)) ∧ Below w.heap.size w w' := by
  cases h1 : isName s.data.toList with
  | false =>
    go_enter Tryz.func68, Tryz.ntmps68
    go_wp2_with (first | (go_at_call 95; refine (IsName_any _ _).mono ?_; rintro e w' ⟨rfl, rfl⟩) | (go_at_call 79; refine (within_any _ _ _ _).mono ?_; rintro e w' ⟨rfl, rfl⟩) | (go_at_call 77; refine (validDirection_any _ _ _).mono ?_; rintro e w' ⟨rfl, rfl⟩))
    all_goals (go_ret; exact ⟨ret_bool (by simp [vStar, *]), (by repeat (first | exact Below.refl _ _ | refine below_alloc ?_ _ | refine below_drewN0 ?_ _ | refine below_drew0 ?_ | refine below_step ?_ (by assumption) | refine below_later ?_ _ | refine below_setCell0 ?_ (by first | exact Nat.le_refl _ | (simp; done) | omega | (simp; omega)) _))⟩)
  | true =>
    go_enter Tryz.func68, Tryz.ntmps68
    go_wp2_with (first | (go_at_call 95; refine (IsName_any _ _).mono ?_; rintro e w' ⟨rfl, rfl⟩) | (go_at_call 79; refine (within_any _ _ _ _).mono ?_; rintro e w' ⟨rfl, rfl⟩) | (go_at_call 77; refine (validDirection_any _ _ _).mono ?_; rintro e w' ⟨rfl, rfl⟩))
    all_goals (go_ret; exact ⟨ret_bool (by simp [vStar, *]), (by repeat (first | exact Below.refl _ _ | refine below_alloc ?_ _ | refine below_drewN0 ?_ _ | refine below_drew0 ?_ | refine below_step ?_ (by assumption) | refine below_later ?_ _ | refine below_setCell0 ?_ (by first | exact Nat.le_refl _ | (simp; done) | omega | (simp; omega)) _))⟩)
set_option maxHeartbeats 1000000 in
theorem l05One_any (b o : Nat) (s : ByteArray) (r d m c : Int) (w : World) (c0 : w.cell? ⟨b, o, none⟩ = some (.string s)) (c1 : w.cell? ⟨b, o + 1, none⟩ = some (.int .i64 r)) (c2 : w.cell? ⟨b, o + 2, none⟩ = some (.int .i64 d))
    (c3 : w.cell? ⟨b, o + 3, none⟩ = some (.int .i64 m)) (c4 : w.cell? ⟨b, o + 4, none⟩ = some (.int .i64 c)) :
    Calls Tryz.prog 142 #[.pointer (some ⟨b, o, none⟩)] w fun e w' => e = .returned (.bool (vStar s.data.toList r d m c)) ∧ ∃ n, w' = w.drewN n := by
  cases h1 : isName s.data.toList with
  | false =>
    go_enter Tryz.func142, Tryz.ntmps142
    go_wp2_with (fail)
    go_quiet ((first | (go_at_call 131; exact quiet_left (l01Name_is h1 _)) | (go_at_call 171; exact quiet_left (l05Direction_is h2 _)) | (go_at_call 58; exact quiet_left (l00In_is (by assumption) _))))
    go_wp2
    go_ret
    exact ⟨ret_bool (by simp [vStar, *]), _, rfl⟩
  | true =>
    cases h2 : vDir r d with
    | false =>
      go_enter Tryz.func142, Tryz.ntmps142
      go_wp2_with (fail)
      go_quiet ((first | (go_at_call 131; exact quiet_left (l01Name_is h1 _)) | (go_at_call 171; exact quiet_left (l05Direction_is h2 _)) | (go_at_call 58; exact quiet_left (l00In_is (by assumption) _))))
      go_wp2
      go_ret
      exact ⟨ret_bool (by simp [vStar, *]), _, rfl⟩
    | true =>
      cases h3 : inB m (-200) 800 with
      | false =>
        go_enter Tryz.func142, Tryz.ntmps142
        go_wp2_with (fail)
        go_quiet ((first | (go_at_call 131; exact quiet_left (l01Name_is h1 _)) | (go_at_call 171; exact quiet_left (l05Direction_is h2 _)) | (go_at_call 58; exact quiet_left (l00In_is (by assumption) _))))
        go_wp2
        go_ret
        exact ⟨ret_bool (by simp [vStar, *]), _, rfl⟩
      | true =>
        cases h4 : inB c (-50) 250 with
        | false =>
          go_enter Tryz.func142, Tryz.ntmps142
          go_wp2_with (fail)
          go_quiet ((first | (go_at_call 131; exact quiet_left (l01Name_is h1 _)) | (go_at_call 171; exact quiet_left (l05Direction_is h2 _)) | (go_at_call 58; exact quiet_left (l00In_is (by assumption) _))))
          go_wp2
          go_ret
          exact ⟨ret_bool (by simp [vStar, *]), _, rfl⟩
        | true =>
          go_enter Tryz.func142, Tryz.ntmps142
          go_wp2_with (fail)
          go_quiet ((first | (go_at_call 131; exact quiet_left (l01Name_is h1 _)) | (go_at_call 171; exact quiet_left (l05Direction_is h2 _)) | (go_at_call 58; exact quiet_left (l00In_is (by assumption) _))))
          go_wp2
          go_ret
          exact ⟨ret_bool (by simp [vStar, *]), _, rfl⟩
theorem ValidMoment_any (a b : Int) (w : World) : Calls Tryz.prog 48 #[.agg #[.int .i64 a, .int .i64 b]] w fun e w' => e = .returned (.bool (vMoment a b)) ∧ Below w.heap.size w w' := by
  go_enter Tryz.func48, Tryz.ntmps48
  go_wp2_with ((go_at_call 79; refine (within_any _ _ _ _).mono ?_; rintro e w' ⟨rfl, rfl⟩))
  all_goals (go_ret; exact ⟨ret_bool (by simp [vMoment, *]), (by repeat (first | exact Below.refl _ _ | refine below_alloc ?_ _ | refine below_drewN0 ?_ _ | refine below_drew0 ?_ | refine below_step ?_ (by assumption) | refine below_later ?_ _ | refine below_setCell0 ?_ (by first | exact Nat.le_refl _ | (simp; done) | omega | (simp; omega)) _))⟩)
theorem l03Day_any (a : Int) (w : World) : Calls Tryz.prog 108 #[.int .i64 a] w fun e w' => e = .returned (.bool (inB a 0 99999)) ∧ w = w' := by
  go_enter Tryz.func108, Tryz.ntmps108
  go_wp2_with ((go_at_call 58; refine (l00In_any _ _ _ _).mono ?_; rintro e w' ⟨rfl, rfl⟩))
  go_ret
  exact ⟨rfl, rfl⟩
theorem l03Ok_any (a b : Int) (w : World) : Calls Tryz.prog 57 #[.agg #[.int .i64 a, .int .i64 b]] w fun e w' => e = .returned (.bool (vMoment a b)) ∧ Below w.heap.size w w' := by
  go_enter Tryz.func57, Tryz.ntmps57
  go_wp2_with (first | (go_at_call 58; refine (l00In_any _ _ _ _).mono ?_; rintro e w' ⟨rfl, rfl⟩) | (go_at_call 108; refine (l03Day_any _ _).mono ?_; rintro e w' ⟨rfl, rfl⟩))
  all_goals (go_ret; exact ⟨ret_bool (by simp [vMoment, *]), (by repeat (first | exact Below.refl _ _ | refine below_alloc ?_ _ | refine below_drewN0 ?_ _ | refine below_drew0 ?_ | refine below_step ?_ (by assumption) | refine below_later ?_ _ | refine below_setCell0 ?_ (by first | exact Nat.le_refl _ | (simp; done) | omega | (simp; omega)) _))⟩)
end Go.Proofs.YtpnfhienffekoaaGreatDoor
end
section
namespace Go.Proofs.YtpnfhienffekoaaGreatDoor
set_option linter.unusedVariables false
open Go.RowKit
theorem calls_rebase {P : Program} {f : FuncId} {args : Array Value} {a w : World} {R : Ending → World → Prop} (y : Later a) (hb : Below y.w.heap.size y.w w) (h : ∀ z : Later a, Calls P f args z.w R) : Calls P f args w R := h ⟨w, y.below.trans (hb.mono y.below.size)⟩
theorem wp_rebase {P : Program} {c : Code} {Q : Exit → Act → World → Prop} {act : Act} {a w : World} (y : Later a) (hb : Below y.w.heap.size y.w w) (h : ∀ z : Later a, c.wp P Q act z.w) : c.wp P Q act w := h ⟨w, y.below.trans (hb.mono y.below.size)⟩
theorem below_of_later {a w : World} (y : Later a) (hb : Below y.w.heap.size y.w w) : Below a.heap.size a w := y.below.trans (hb.mono y.below.size)
theorem later_of {a w : World} (hb : Below a.heap.size a w) : ∃ z : Later a, w = z.w := ⟨⟨w, hb⟩, rfl⟩
end Go.Proofs.YtpnfhienffekoaaGreatDoor
end
section
namespace Go.Proofs.YtpnfhienffekoaaGreatDoor
set_option linter.unusedVariables false
set_option linter.unusedSimpArgs false
open Go.RowKit
/-- the last operation waits for each of the others, and for none besides -/
def lastWaits (l : List Oper) (o : Oper) : Bool := ((List.range l.length).all fun i => o.after.any fun e => Region.binds .any e && e.on == i) && o.after.all fun e => decide (e.on < l.length)
/-- no operation waits for a later one, none is guarded -/
def plainOps (l : List Oper) : Bool := (List.range l.length).all fun k => match l[k]? with
  | some p => p.guard.isNone && p.after.all fun e => decide (e.on < k)
  | none => true
theorem wanted_free {p : Oper} (h : p.guard.isNone = true) (f : Nat → Option Bool) : Region.wanted p f = true := by
  have : p.guard = none := Option.isNone_iff_eq_none.1 h
  simp [Region.wanted, this]
theorem plainOps_at {l : List Oper} (h : plainOps l = true) {k : Nat} {p : Oper} (hp : l[k]? = some p) : p.guard.isNone = true ∧ ∀ e ∈ p.after, e.on < k := by
  have hk : k < l.length := (List.getElem?_eq_some_iff.1 hp).1
  have := List.all_eq_true.1 h k (List.mem_range.2 hk)
  rw [hp] at this
  simp only [Bool.and_eq_true] at this
  refine ⟨this.1, fun e he => ?_⟩
  have h2 := Array.all_eq_true'.1 this.2 e he
  simpa using h2
theorem getD_push_false (L : Array Bool) (j : Nat) : (L.push false).getD j false = L.getD j false := by
  rw [Array.getD_eq_getD_getElem?, Array.getD_eq_getD_getElem?, Array.getElem?_push]
  split
  · next h => subst h; simp
  · rfl
theorem getD_push_lt (L : Array Bool) {j : Nat} (h : j < L.size) : (L.push false).getD j true = L.getD j true := by
  rw [Array.getD_eq_getD_getElem?, Array.getD_eq_getD_getElem?, Array.getElem?_push, if_neg (by omega)]
theorem getD_push_eq (L : Array Bool) : (L.push false).getD L.size true = false := by
  rw [Array.getD_eq_getD_getElem?, Array.getElem?_push, if_pos rfl]; rfl
theorem getD_lt_both (L : Array Bool) {j : Nat} (h : j < L.size) : L.getD j true = L.getD j false := by
  rw [Array.getD_eq_getD_getElem?, Array.getD_eq_getD_getElem?, Array.getElem?_eq_getElem h]; rfl
section
variable {l : List Oper} {o : Oper} {L : Array Bool}
theorem snoc_lt {i : Nat} (h : i < l.length) : ((l ++ [o]).toArray)[i]? = l[i]? := by simp [List.getElem?_append, h]
theorem snoc_eq : ((l ++ [o]).toArray)[l.length]? = some o := by simp
theorem ready_snoc_lt (hL : L.size = l.length) {i : Nat} (h : i < l.length) (hi : i ∈ Region.ready .any (l ++ [o]).toArray (L.push false)) : i ∈ Region.ready .any l.toArray L := by
  obtain ⟨h1, p, hp, h2⟩ := mem_ready.1 hi
  rw [getD_push_lt L (by omega)] at h1
  rw [snoc_lt h] at hp
  exact mem_ready.2 ⟨h1, p, by simpa using hp, fun e he hb => by rw [← getD_push_false]; exact h2 e he hb⟩
theorem ready_snoc_of (hL : L.size = l.length) {i : Nat} (hi : i ∈ Region.ready .any l.toArray L) : i ∈ Region.ready .any (l ++ [o]).toArray (L.push false) := by
  obtain ⟨h1, p, hp, h2⟩ := mem_ready.1 hi
  have hp' : l[i]? = some p := by simpa using hp
  have hl : i < l.length := (List.getElem?_eq_some_iff.1 hp').1
  exact mem_ready.2 ⟨by rw [getD_push_lt L (by omega)]; exact h1, p, by rw [snoc_lt hl]; exact hp', fun e he hb => by rw [getD_push_false]; exact h2 e he hb⟩
/-- where nothing may come up all has come up -/
theorem all_listed (hl : plainOps l = true) (hL : L.size = l.length) (h : Region.ready .any l.toArray L = []) : ∀ i, i < l.length → L.getD i false = true := by
  intro i
  induction i using Nat.strongRecOn with
  | ind i ih =>
    intro hi
    obtain ⟨p, hp⟩ : ∃ p, l[i]? = some p := ⟨l[i], List.getElem?_eq_getElem hi⟩
    cases hg : L.getD i false with
    | true => rfl
    | false =>
      exfalso
      have : i ∈ Region.ready .any l.toArray L := mem_ready.2 ⟨by rw [getD_lt_both L (by omega)]; exact hg, p, by simpa using hp, fun e he _ => ih e.on ((plainOps_at hl hp).2 e he) (by have := (plainOps_at hl hp).2 e he; omega)⟩
      rw [h] at this; cases this
theorem ready_none (hL : L.size = l.length) (h : ∀ i, i < l.length → L.getD i false = true) : Region.ready .any l.toArray L = [] := by
  apply List.eq_nil_iff_forall_not_mem.2
  intro i hi
  obtain ⟨h1, p, hp, _⟩ := mem_ready.1 hi
  have hp' : l[i]? = some p := by simpa using hp
  have hlt : i < l.length := (List.getElem?_eq_some_iff.1 hp').1
  rw [getD_lt_both L (by omega), h i hlt] at h1; cases h1
theorem wpAny_all_done {P : Program} {ops : Array Oper} {Q : Exit → Act → World → Prop} {a : Act} {w : World} (h : Region.ready .any ops L = []) (q : Q .normal a w) : ∀ fuel, wpAny P .any ops Q fuel L a w
  | 0 => ⟨h, q⟩
  | _ + 1 => ⟨fun _ => q, fun i hi => by rw [h] at hi; cases hi⟩
theorem last_listed (hw : lastWaits l o = true) (h : ∀ e ∈ o.after, Region.binds .any e = true → L.getD e.on false = true) : ∀ i, i < l.length → L.getD i false = true := by
  intro i hi
  simp only [lastWaits, Bool.and_eq_true] at hw
  obtain ⟨e, he, hb⟩ := Array.any_eq_true'.1 (List.all_eq_true.1 hw.1 i (List.mem_range.2 hi))
  simp only [Bool.and_eq_true, beq_iff_eq] at hb
  rw [← hb.2]; exact h e he hb.1
end
theorem set_push (L : Array Bool) {i : Nat} (h : i < L.size) : (L.push false).setIfInBounds i true = (L.setIfInBounds i true).push false := by
  apply Array.ext_getElem?
  intro j
  simp only [Array.getElem?_setIfInBounds, Array.getElem?_push, Array.size_push, Array.size_setIfInBounds]
  by_cases h1 : i = j
  · subst h1
    have h2 : ¬ i = L.size := by omega
    have h3 : i < L.size + 1 := by omega
    simp [h, h2, h3]
  · simp [h1]
theorem listed_end (L : Array Bool) {l : List Oper} {o : Oper} (hL : L.size = l.length) (h : ∀ i, i < l.length → L.getD i false = true) : Region.ready .any (l ++ [o]).toArray ((L.push false).setIfInBounds l.length true) = [] := by
  apply List.eq_nil_iff_forall_not_mem.2
  intro i hi
  obtain ⟨h1, p, hp, _⟩ := mem_ready.1 hi
  have hi' : i < (l ++ [o]).length := by have := (Array.getElem?_eq_some_iff.1 hp).1; simpa using this
  simp only [List.length_append, List.length_cons, List.length_nil] at hi'
  rw [Array.getD_eq_getD_getElem?, Array.getElem?_setIfInBounds] at h1
  by_cases he : l.length = i
  · subst he; simp [hL] at h1
  · rw [if_neg he, Array.getElem?_push, if_neg (by omega), ← Array.getD_eq_getD_getElem?, getD_lt_both L (by omega), h i (by omega)] at h1
    cases h1
theorem last_step {P : Program} {Q : Exit → Act → World → Prop} {l : List Oper} {o : Oper} {L : Array Bool} {a : Act} {w : World} (fuel : Nat) (hL : L.size = l.length) (h : ∀ i, i < l.length → L.getD i false = true)
    (hq : wpList P (l ++ [o]).toArray Q [o] a w) : wpOp P (l ++ [o]).toArray Q l.length (wpAny P .any (l ++ [o]).toArray Q fuel ((L.push false).setIfInBounds l.length true)) a w := by
  have hd : ∀ a w, Q .normal a w → wpAny P .any (l ++ [o]).toArray Q fuel ((L.push false).setIfInBounds l.length true) a w := fun a w q => wpAny_all_done (listed_end L hL h) q fuel
  unfold wpOp
  rw [snoc_eq]
  simp only [wpList] at hq
  by_cases hw : Region.wanted o (yielded (l ++ [o]).toArray a.tmps) = true
  · rw [if_pos hw] at hq
    simp only [hw, if_true]
    exact hq.imp (Oper.wp_mono hd) id
  · rw [if_neg hw] at hq
    simp only [hw, if_false]
    exact hd _ _ hq
theorem any_last {P : Program} {C : World → Prop} {Qa : Act → Prop} {Q : Exit → Act → World → Prop} {l : List Oper} {o : Oper} (hl : plainOps l = true) (hw : lastWaits l o = true)
    (hK : ∀ a w, C w → Qa a → wpList P (l ++ [o]).toArray Q [o] a w) :
    ∀ (fuel : Nat) (L : Array Bool) (a : Act) (w : World), L.size = l.length → C w → wpAnyQ P .any l.toArray C Qa fuel L a → wpAny P .any (l ++ [o]).toArray Q (fuel + 1) (L.push false) a w := by
  have hback : ∀ e ∈ o.after, e.on < l.length := by
    simp only [lastWaits, Bool.and_eq_true] at hw
    intro e he
    simpa using Array.all_eq_true'.1 hw.2 e he
  -- the last operation may come up as soon as all others have
  have hnever : ∀ L : Array Bool, L.size = l.length → Region.ready .any (l ++ [o]).toArray (L.push false) ≠ [] := by
    intro L hL h0
    have h1 : Region.ready .any l.toArray L = [] := List.eq_nil_iff_forall_not_mem.2 fun i hi => by
      have := ready_snoc_of (o := o) hL hi
      rw [h0] at this; cases this
    have hall := all_listed hl hL h1
    have : l.length ∈ Region.ready .any (l ++ [o]).toArray (L.push false) := mem_ready.2 ⟨by rw [← hL]; exact getD_push_eq L, o, snoc_eq, fun e he _ => by rw [getD_push_false]; exact hall _ (hback e he)⟩
    rw [h0] at this; cases this
  have hlast : ∀ L : Array Bool, l.length ∈ Region.ready .any (l ++ [o]).toArray (L.push false) → ∀ i, i < l.length → L.getD i false = true := by
    intro L h
    obtain ⟨_, p, hp, h2⟩ := mem_ready.1 h
    rw [snoc_eq] at hp
    obtain rfl := Option.some.inj hp
    exact last_listed hw fun e he hb => by rw [← getD_push_false]; exact h2 e he hb
  have hcase : ∀ (L : Array Bool) (i : Nat), i ∈ Region.ready .any (l ++ [o]).toArray (L.push false) → i = l.length ∨ i < l.length := by
    intro L i h
    obtain ⟨_, p, hp, _⟩ := mem_ready.1 h
    have hi' : i < (l ++ [o]).length := by have := (Array.getElem?_eq_some_iff.1 hp).1; simpa using this
    simp only [List.length_append, List.length_cons, List.length_nil] at hi'
    omega
  intro fuel
  induction fuel with
  | zero =>
    intro L a w hL hC h
    refine ⟨fun h0 => absurd h0 (hnever L hL), fun i hi => ?_⟩
    rcases hcase L i hi with rfl | hlt
    · exact last_step 0 hL (hlast L hi) (hK a w hC h.2)
    · have := ready_snoc_lt hL hlt hi
      rw [h.1] at this; cases this
  | succ fuel ih =>
    intro L a w hL hC h
    refine ⟨fun h0 => absurd h0 (hnever L hL), fun i hi => ?_⟩
    rcases hcase L i hi with rfl | hlt
    · exact last_step (fuel + 1) hL (hlast L hi) (hK a w hC (h.1 (ready_none hL (hlast L hi))))
    · have hr := ready_snoc_lt hL hlt hi
      have h2 := h.2 i hr
      obtain ⟨p, hp⟩ : ∃ p, l[i]? = some p := ⟨l[i], List.getElem?_eq_getElem hlt⟩
      have hg := (plainOps_at hl hp).1
      unfold qOp at h2
      unfold wpOp
      rw [snoc_lt hlt, hp]
      rw [show l.toArray[i]? = some p by simpa using hp] at h2
      simp only [wanted_free hg, if_true] at h2 ⊢
      refine .inl (Oper.wp_of_quiet hC (fun a' w' hw' hk => ?_) h2)
      rw [set_push L (by omega)]
      exact ih _ a' w' (by simpa using hL) hw' hk
/-- one walk of the text's order, then the last operation -/
theorem wp_region_last {P : Program} {C : World → Prop} {id : Nat} {Q : Exit → Act → World → Prop} {a : Act} {w : World} {l : List Oper} {o : Oper} (hm : P.follows .mixedOrders = true) (hB : Region.lexB .any l.toArray = true)
    (hl : plainOps l = true) (hw : lastWaits l o = true) (hC : C { w with drawn := w.drawn + 1 })
    (h : wpQuiet P l.toArray C (fun a' => ∀ w', C w' → wpList P (l ++ [o]).toArray Q [o] a' w') l a) : (Code.region id (l ++ [o]).toArray true).wp P Q a w := by
  simp only [Region.lexB, Bool.and_eq_true] at hB
  refine wp_region_any hm ?_
  have h1 := wpAnyQ_lex (C := C) (md := .any) hB.1 l 0 (Array.replicate l.toArray.size false) a (by simp) (by simpa using hB.2) h
  have h2 := any_last (Q := Q) (o := o) (Qa := fun a' => ∀ w', C w' → wpList P (l ++ [o]).toArray Q [o] a' w') hl hw (fun a w hC hQ => hQ w hC) l.length (Array.replicate l.length false) a { w with drawn := w.drawn + 1 } (by simp) hC (by simpa using h1)
  have e : (Array.replicate l.length false).push false = Array.replicate (l ++ [o]).toArray.size false := by simp [Array.replicate_succ]
  rw [e] at h2
  have e2 : (l ++ [o]).toArray.size = l.length + 1 := by simp
  rw [e2] at h2 ⊢
  exact h2
def lastWaitsAt (n : Nat) (L : List Oper) : Bool := match L.drop n with
  | [o] => lastWaits (L.take n) o
  | _ => false
/-- the same over the whole list of the operations, n of them ahead of the last, in the class of worlds that came later than w0 -/
theorem wp_region_later_last {P : Program} {id : Nat} {Q : Exit → Act → World → Prop} {a : Act} {w0 : World} {y : Later w0} {L : List Oper} (n : Nat) (hm : P.follows .mixedOrders = true) (hB : Region.lexB .any (L.take n).toArray = true)
    (hl : plainOps (L.take n) = true) (hw : lastWaitsAt n L = true)
    (h : wpQuiet P (L.take n).toArray (fun w' => ∃ x : Later w0, w' = x.w) (fun a' => ∀ w', (∃ x : Later w0, w' = x.w) → wpList P L.toArray Q (L.drop n) a' w') (L.take n) a) : (Code.region id L.toArray true).wp P Q a y.w := by
  have e : L = L.take n ++ L.drop n := (List.take_append_drop n L).symm
  obtain ⟨o, ho⟩ : ∃ o, L.drop n = [o] := by
    unfold lastWaitsAt at hw
    split at hw
    · next o ho => exact ⟨o, ho⟩
    · cases hw
  have hw' : lastWaits (L.take n) o = true := by unfold lastWaitsAt at hw; rw [ho] at hw; exact hw
  rw [ho] at h e
  generalize L.take n = l at *
  subst e
  exact wp_region_last (C := fun w' => ∃ x : Later w0, w' = x.w) hm hB hl hw' y.drew h
end Go.Proofs.YtpnfhienffekoaaGreatDoor
end
section
namespace Go.Proofs.YtpnfhienffekoaaGreatDoor
set_option linter.unusedVariables false
set_option linter.unusedSimpArgs false
open Go.RowKit
theorem inB_zero : inB 0 0 359999 = true := rfl
theorem wrap_in {n : Int} (h1 : -9223372036854775808 ≤ n) (h2 : n ≤ 9223372036854775807) : IntKind.i64.wrap n = n := IntWalk.i64_in _ ⟨h1, h2⟩
theorem milliOf_any (d m : Int) (w : World) (hd : 0 ≤ d ∧ d ≤ 99999 ∧ 0 ≤ m ∧ m ≤ 86399999) :
    Calls Tryz.prog 49 #[.agg #[.int .i64 d, .int .i64 m]] w fun e w' => e = .returned (.int .i64 (milliI d m)) ∧ Below w.heap.size w w' := by
  obtain ⟨h1, h2, h3, h4⟩ := hd
  go_enter Tryz.func49, Tryz.ntmps49
  go_wp2
  go_ret
  exact ⟨rfl, (by repeat (first | exact Below.refl _ _ | refine below_alloc ?_ _ | refine below_drewN0 ?_ _ | refine below_drew0 ?_ | refine below_step ?_ (by assumption) | refine below_later ?_ _ | refine below_setCell0 ?_ (by first | exact Nat.le_refl _ | (simp; done) | omega | (simp; omega)) _))⟩
theorem l03All_any (d m : Int) (w : World) (hd : 0 ≤ d ∧ d ≤ 99999 ∧ 0 ≤ m ∧ m ≤ 86399999) :
    Calls Tryz.prog 60 #[.agg #[.int .i64 d, .int .i64 m]] w fun e w' => e = .returned (.int .i64 (milliI d m)) ∧ Below w.heap.size w w' := by
  obtain ⟨h1, h2, h3, h4⟩ := hd
  go_enter Tryz.func60, Tryz.ntmps60
  go_wp2
  go_ret
  exact ⟨rfl, (by repeat (first | exact Below.refl _ _ | refine below_alloc ?_ _ | refine below_drewN0 ?_ _ | refine below_drew0 ?_ | refine below_step ?_ (by assumption) | refine below_later ?_ _ | refine below_setCell0 ?_ (by first | exact Nat.le_refl _ | (simp; done) | omega | (simp; omega)) _))⟩
set_option maxHeartbeats 1000000 in
theorem OrbitAngle_any (n : ByteArray) (p r u d m : Int) (w : World) :
    Calls Tryz.prog 9 #[.agg #[.string n, .int .i64 p, .int .i64 r, .int .i64 u], .agg #[.int .i64 d, .int .i64 m]] w fun e w' =>
      e = .returned (.tuple #[.int .i64 (orbO n.data.toList p r u d m).1, .int .i64 (orbO n.data.toList p r u d m).2]) ∧ Below w.heap.size w w' := by
  cases hv : vPlanet n.data.toList p r u && vMoment d m with
  | false =>
    have HO : Hid (orbO n.data.toList p r u d m = (0, 1)) := okO_no hv
    cases v1 : vPlanet n.data.toList p r u with
    | false =>
      clear hv
      go_enter Tryz.func9, Tryz.ntmps9
      go_wp2_with (fail)
      (refine later_intro ?_; intro y)
      go_wp2_with (first | (go_at_call 47; refine (later_below (ValidPlanet_any _ _ _ _ _)).mono ?_; rintro e w' ⟨rfl, y, rfl⟩) | (go_at_call 48; refine (later_below (ValidMoment_any _ _ _)).mono ?_; rintro e w' ⟨rfl, y, rfl⟩))
      go_ret2
      exact ⟨by rw [HO.out]; rfl, (by repeat (first | exact Below.refl _ _ | refine below_alloc ?_ _ | refine below_drewN0 ?_ _ | refine below_drew0 ?_ | refine below_step ?_ (by assumption) | refine below_later ?_ _ | refine below_setCell0 ?_ (by first | exact Nat.le_refl _ | (simp; done) | omega | (simp; omega)) _))⟩
    | true =>
      have v2 : vMoment d m = false := by simpa [v1] using hv
      clear hv
      go_enter Tryz.func9, Tryz.ntmps9
      go_wp2_with (fail)
      (refine later_intro ?_; intro y)
      go_wp2_with (first | (go_at_call 47; refine (later_below (ValidPlanet_any _ _ _ _ _)).mono ?_; rintro e w' ⟨rfl, y, rfl⟩) | (go_at_call 48; refine (later_below (ValidMoment_any _ _ _)).mono ?_; rintro e w' ⟨rfl, y, rfl⟩))
      go_ret2
      exact ⟨by rw [HO.out]; rfl, (by repeat (first | exact Below.refl _ _ | refine below_alloc ?_ _ | refine below_drewN0 ?_ _ | refine below_drew0 ?_ | refine below_step ?_ (by assumption) | refine below_later ?_ _ | refine below_setCell0 ?_ (by first | exact Nat.le_refl _ | (simp; done) | omega | (simp; omega)) _))⟩
  | true =>
    have HO : Hid (orbO n.data.toList p r u d m = (angleI p u d m, 0)) := okO_yes hv
    obtain ⟨v1, v2⟩ := Bool.and_eq_true_iff.1 hv
    clear hv
    obtain ⟨p1, p2, r1, r2, u1, u2⟩ := vPlanet_bd v1
    have hd := vMoment_bd v2
    have HE : Hid (angleI p u d m = (u + milliI d m * 360000 / (p * 86400)) % 360000) := rfl
    have C1 : Hid (∀ W, Calls Tryz.prog 49 #[.agg #[.int .i64 d, .int .i64 m]] W fun e w' => e = .returned (.int .i64 (milliI d m)) ∧ Below W.heap.size W w') := fun W => milliOf_any d m W hd
    obtain ⟨t1, t2⟩ := milliI_bd hd
    generalize milliI d m = T at *
    obtain ⟨q1, q2⟩ := turn_bd T p t1 t2 p1
    have w1 : IntKind.i64.wrap (T * 360000) = T * 360000 := wrap_in (by omega) (by omega)
    have w2 : IntKind.i64.wrap (p * 86400) = p * 86400 := wrap_in (by omega) (by omega)
    have w3 : ¬ p * 86400 = 0 := by omega
    have w4 : IntKind.i64.wrap ((T * 360000).tdiv (p * 86400)) = T * 360000 / (p * 86400) := IntWalk.i64_quo _ _ (by omega)
    have w5 : IntKind.i64.wrap (u + T * 360000 / (p * 86400)) = u + T * 360000 / (p * 86400) := wrap_in (by omega) (by omega)
    have w6 : (u + T * 360000 / (p * 86400)).tmod 360000 = (u + T * 360000 / (p * 86400)) % 360000 := IntWalk.rem_in _ _ (by omega)
    go_enter Tryz.func9, Tryz.ntmps9
    go_wp2_with (fail)
    (refine later_intro ?_; intro y)
    go_wp2_with (first | (go_at_call 47; refine (later_below (ValidPlanet_any _ _ _ _ _)).mono ?_; rintro e w' ⟨rfl, y, rfl⟩) | (go_at_call 48; refine (later_below (ValidMoment_any _ _ _)).mono ?_; rintro e w' ⟨rfl, y, rfl⟩))
    (refine wp_region_later (by kernel_rfl) (by kernel_rfl) ?_; (repeat (quiet_step ((go_at_call 49; exact later_below (C1.out _))))); refine wpQuiet_nil ?_; rintro _ ⟨y, rfl⟩)
    go_wp2
    go_ret2
    exact ⟨by rw [HO.out, HE.out]; rfl, (by repeat (first | exact Below.refl _ _ | refine below_alloc ?_ _ | refine below_drewN0 ?_ _ | refine below_drew0 ?_ | refine below_step ?_ (by assumption) | refine below_later ?_ _ | refine below_setCell0 ?_ (by first | exact Nat.le_refl _ | (simp; done) | omega | (simp; omega)) _))⟩
set_option maxHeartbeats 2000000 in
theorem SynodicPeriod_any (n1 : ByteArray) (p1 r1 u1 : Int) (n2 : ByteArray) (p2 r2 u2 : Int) (w : World) :
    Calls Tryz.prog 18 #[.agg #[.string n1, .int .i64 p1, .int .i64 r1, .int .i64 u1], .agg #[.string n2, .int .i64 p2, .int .i64 r2, .int .i64 u2]] w fun e w' =>
      e = .returned (.tuple #[.int .i64 (synO n1.data.toList p1 r1 u1 n2.data.toList p2 r2 u2).1, .int .i64 (synO n1.data.toList p1 r1 u1 n2.data.toList p2 r2 u2).2]) ∧ Below w.heap.size w w' := by
  cases v1 : vPlanet n1.data.toList p1 r1 u1 with
  | false =>
    have HO : Hid (synO n1.data.toList p1 r1 u1 n2.data.toList p2 r2 u2 = (0, 1)) := okO_no (by simp [v1])
    go_enter Tryz.func18, Tryz.ntmps18
    go_wp2_with (fail)
    (refine later_intro ?_; intro y)
    go_wp2_with ((go_at_call 47; refine (later_below (ValidPlanet_any _ _ _ _ _)).mono ?_; rintro e w' ⟨rfl, y, rfl⟩))
    go_ret2
    exact ⟨by rw [HO.out]; rfl, (by repeat (first | exact Below.refl _ _ | refine below_alloc ?_ _ | refine below_drewN0 ?_ _ | refine below_drew0 ?_ | refine below_step ?_ (by assumption) | refine below_later ?_ _ | refine below_setCell0 ?_ (by first | exact Nat.le_refl _ | (simp; done) | omega | (simp; omega)) _))⟩
  | true =>
    cases v2 : vPlanet n2.data.toList p2 r2 u2 with
    | false =>
      have HO : Hid (synO n1.data.toList p1 r1 u1 n2.data.toList p2 r2 u2 = (0, 1)) := okO_no (by simp [v2])
      go_enter Tryz.func18, Tryz.ntmps18
      go_wp2_with (fail)
      (refine later_intro ?_; intro y)
      go_wp2_with ((go_at_call 47; refine (later_below (ValidPlanet_any _ _ _ _ _)).mono ?_; rintro e w' ⟨rfl, y, rfl⟩))
      go_ret2
      exact ⟨by rw [HO.out]; rfl, (by repeat (first | exact Below.refl _ _ | refine below_alloc ?_ _ | refine below_drewN0 ?_ _ | refine below_drew0 ?_ | refine below_step ?_ (by assumption) | refine below_later ?_ _ | refine below_setCell0 ?_ (by first | exact Nat.le_refl _ | (simp; done) | omega | (simp; omega)) _))⟩
    | true =>
      obtain ⟨b1, b2, _⟩ := vPlanet_bd v1
      obtain ⟨b3, b4, _⟩ := vPlanet_bd v2
      cases v3 : p1 == p2 with
      | true =>
        have HO : Hid (synO n1.data.toList p1 r1 u1 n2.data.toList p2 r2 u2 = (0, 6)) := (okO_yes (by simp [v1, v2])).trans (okO_no (by simp [v3]))
        go_enter Tryz.func18, Tryz.ntmps18
        go_wp2_with (fail)
        (refine later_intro ?_; intro y)
        go_wp2_with ((go_at_call 47; refine (later_below (ValidPlanet_any _ _ _ _ _)).mono ?_; rintro e w' ⟨rfl, y, rfl⟩))
        go_ret2
        exact ⟨by rw [HO.out]; rfl, (by repeat (first | exact Below.refl _ _ | refine below_alloc ?_ _ | refine below_drewN0 ?_ _ | refine below_drew0 ?_ | refine below_step ?_ (by assumption) | refine below_later ?_ _ | refine below_setCell0 ?_ (by first | exact Nat.le_refl _ | (simp; done) | omega | (simp; omega)) _))⟩
      | false =>
        have HO : Hid (synO n1.data.toList p1 r1 u1 n2.data.toList p2 r2 u2 = (rnd (p1 * p2) (absI (p1 - p2)), 0)) := (okO_yes (by simp [v1, v2])).trans (okO_yes (by simp [v3]))
        have hne : ¬ p1 = p2 := by simpa using v3
        have hA := absI_bd (p1 - p2)
        obtain ⟨A1, A2, A3, A4⟩ := hA
        have A5 : absI (p1 - p2) ≤ 100000000 := by omega
        have A6 : 0 < absI (p1 - p2) := by omega
        clear A2 A3 A4
        obtain ⟨m1, m2⟩ := mul_small p1 p2 100000000 100000000 (by omega) (by omega)
        have C1 : Hid (∀ W, Calls Tryz.prog 65 #[.int .i64 (p1 - p2)] W fun e w' => e = .returned (.int .i64 (absI (p1 - p2))) ∧ W = w') := fun W => absOf_any _ W (by omega) (by omega)
        have C2 : Hid (∀ W, Calls Tryz.prog 50 #[.int .i64 (p1 * p2), .int .i64 (absI (p1 - p2))] W fun e w' => e = .returned (.int .i64 (rnd (p1 * p2) (absI (p1 - p2)))) ∧ ∃ n, w' = W.drewN n) := fun W => nearest_any _ _ W (by omega) (by omega) (by omega) (by omega)
        have w1 : IntKind.i64.wrap (p1 * p2) = p1 * p2 := wrap_in (by omega) (by omega)
        have w2 : IntKind.i64.wrap (p1 - p2) = p1 - p2 := wrap_in (by omega) (by omega)
        go_enter Tryz.func18, Tryz.ntmps18
        go_wp2_with (fail)
        (refine later_intro ?_; intro y)
        go_wp2_with ((go_at_call 47; refine (later_below (ValidPlanet_any _ _ _ _ _)).mono ?_; rintro e w' ⟨rfl, y, rfl⟩))
        (refine wp_region_later (by kernel_rfl) (by kernel_rfl) ?_; (repeat (quiet_step ((first | (go_at_call 65; exact later_same (C1.out _)) | (go_at_call 50; exact later_drew (C2.out _)))))); refine wpQuiet_nil ?_; rintro _ ⟨y, rfl⟩)
        go_wp2
        go_ret2
        exact ⟨by rw [HO.out]; rfl, (by repeat (first | exact Below.refl _ _ | refine below_alloc ?_ _ | refine below_drewN0 ?_ _ | refine below_drew0 ?_ | refine below_step ?_ (by assumption) | refine below_later ?_ _ | refine below_setCell0 ?_ (by first | exact Nat.le_refl _ | (simp; done) | omega | (simp; omega)) _))⟩
end Go.Proofs.YtpnfhienffekoaaGreatDoor
end
section
namespace Go.Proofs.YtpnfhienffekoaaGreatDoor
set_option linter.unusedVariables false
set_option linter.unusedSimpArgs false
open Go.RowKit

/-- what is left of a bound behind a string of so many bytes; -1 if it is not enough -/
def szL (left : Int) (n : Nat) : Int := if left - n < 0 then -1 else left - n
theorem ret_szL {left : Int} {n : Nat} {x : Int} (h : x = szL left n) : Ending.returned (.int .i64 x) = Ending.returned (.int .i64 (szL left n)) := by rw [h]
theorem szL_cases (left : Int) (n : Nat) : (left - n < 0 ∧ szL left n = -1) ∨ (0 ≤ left - n ∧ szL left n = left - n) := by
  unfold szL; split <;> omega
end Go.Proofs.YtpnfhienffekoaaGreatDoor
end
