/- Contracts of the functions that take a star out of a list. -/
import Derived.Test.YtpnfhienffekoaaGreatDoorMgM
import Derived.Test.YtpnfhienffekoaaGreatDoorSta
import Derived.Test.YtpnfhienffekoaaGreatDoorFind
import Derived.Deep.RegionLaw
import Derived.Lib.SliceRun
namespace Go.Proofs.YtpnfhienffekoaaGreatDoor
set_option linter.unusedVariables false
set_option linter.unusedSimpArgs false
open Go.RowKit
/-- a row from o on overwritten -/
def layAt (cs : List Value) (o : Nat) : List Value → List Value
  | [] => cs
  | v :: r => layAt (cs.set o v) (o + 1) r
theorem layAt_length (vs : List Value) : ∀ (cs : List Value) (o : Nat), (layAt cs o vs).length = cs.length := by
  induction vs with
  | nil => intro cs o; rfl
  | cons v r ih => intro cs o; rw [layAt, ih, List.length_set]
theorem layAt_at (vs : List Value) : ∀ (cs : List Value) (o i : Nat), o + vs.length ≤ cs.length → (layAt cs o vs)[i]? = if o ≤ i ∧ i < o + vs.length then vs[i - o]? else cs[i]? := by
  induction vs with
  | nil => intro cs o i h; rw [if_neg (by simp only [List.length_nil]; omega)]; rfl
  | cons v r ih =>
    intro cs o i h
    simp only [List.length_cons] at h ⊢
    rw [layAt, ih (cs.set o v) (o + 1) i (by rw [List.length_set]; omega)]
    by_cases h1 : o + 1 ≤ i ∧ i < o + 1 + r.length
    · rw [if_pos h1, if_pos (by omega), show i - o = i - (o + 1) + 1 by omega, List.getElem?_cons_succ]
    · rw [if_neg h1]
      by_cases h2 : o = i
      · subst h2; rw [if_pos (by omega), List.getElem?_set_self (by omega), Nat.sub_self, List.getElem?_cons_zero]
      · rw [if_neg (by omega), List.getElem?_set_ne h2]
theorem Blk.setCells {g : Nat} {t : TypeId} (vs : List Value) : ∀ {w : World} {cs : List Value} (o : Nat), Blk w g t cs → Blk (w.setCells g o vs) g t (layAt cs o vs) := by
  induction vs with
  | nil => intro w cs o h; exact h
  | cons v r ih => intro w cs o h; rw [World.setCells, layAt]; exact ih (o + 1) (h.set_ o v)
theorem only_setCells {a : World} {g : Nat} (vs : List Value) : ∀ {w : World} (o : Nat), a.grownBy w (some g) → a.grownBy (w.setCells g o vs) (some g) := by
  induction vs with
  | nil => intro w o h; exact h
  | cons v r ih => intro w o h; rw [World.setCells]; exact ih (o + 1) (only_set h o v)
theorem only_drew {a w : World} {r : Option Nat} (h : a.grownBy w r) : a.grownBy w.drew r := ⟨h.os, h.tape, h.output, h.size, h.block⟩
theorem staCells_append (a b : List Sta) : staCells (a ++ b) = staCells a ++ staCells b := by simp [staCells]
theorem staCells_drop (l : List Sta) (k : Nat) : staCells (l.drop k) = (staCells l).drop (k * 5) := by
  induction k generalizing l with
  | zero => simp
  | succ k ih =>
    cases l with
    | nil => simp [staCells]
    | cons x l =>
      rw [List.drop_succ_cons, ih]
      have e : staCells (x :: l) = x.cells ++ staCells l := by simp [staCells]
      have hc : x.cells.length = 5 := rfl
      rw [e, List.drop_append, show List.drop ((k + 1) * 5) x.cells = [] from List.drop_eq_nil_of_le (by omega), hc, show (k + 1) * 5 - 5 = k * 5 by omega, List.nil_append]
theorem staCells_take (l : List Sta) (k : Nat) : staCells (l.take k) = (staCells l).take (k * 5) := by
  induction k generalizing l with
  | zero => simp [staCells]
  | succ k ih =>
    cases l with
    | nil => simp [staCells]
    | cons x l =>
      have e : ∀ l, staCells (x :: l) = x.cells ++ staCells l := by intro l; simp [staCells]
      have hc : x.cells.length = 5 := rfl
      rw [List.take_succ_cons, e, ih, e, List.take_append, show List.take ((k + 1) * 5) x.cells = x.cells from List.take_of_length_le (by omega), hc, show (k + 1) * 5 - 5 = k * 5 by omega]
set_option maxHeartbeats 1000000 in
theorem CloneS_any (A : Option Addr) (n c : Nat) (l : List Sta) (w : World) (hl : l.length = n) (hn : n ≤ 1000000000000) (hA : Stars w A l) (h0 : A = none → c = 0 ∧ n = 0) :
    Calls Tryz.prog 70 #[.slice A n c] w fun e w' => ∃ v : Value, e = .returned v ∧ OwnS w' w.heap.size v l ∧ Below w.heap.size w w' := by
  have HL := Lib.hid hl; clear hl
  have q25 : ∀ (w : World) (a : Option Addr) (n c n' c' : Nat), (binOp .eql 42 (.slice a n c) (.slice none n' c')).run Tryz.prog w = .ok (.bool a.isNone) w := fun w a n c n' c' => Lib.run_eql_slice_nil w _ _ a n c n' c' Tryz.underlying42
  cases A with
  | none =>
    obtain ⟨rfl, rfl⟩ := h0 rfl
    have e : l = [] := List.eq_nil_of_length_eq_zero HL.out
    subst e
    go_enter Tryz.func70, Tryz.ntmps70
    go_wp2
    go_ret
    exact ⟨_, rfl, OwnS.nil _ _, Below.refl _ _⟩
  | some a =>
    have h1 := OwnS.empty w w.heap.size (Nat.le_refl _)
    have h2 : Stars (w.alloc (.cells #[] 46)) (some a) l := hA.below (Below.alloc (Below.refl _ _) (Nat.le_refl _) _)
    have hl1 : ([] : List Sta).length + n ≤ 1099511627776 := by simp only [List.length_nil]; omega
    have hb1 : w.heap.size ≤ (w.alloc (.cells #[] 46)).heap.size := by simp
    go_enter Tryz.func70, Tryz.ntmps70
    go_wp2_with (at_builtin; go_loud (refine wpList_app_stars rfl _ _ rfl w.heap.size _ [] l (some a) n c rfl rfl h1 HL.out h2 (fun h => by cases h) hl1 hb1 ?_; intro v' w2 hO hg))
    go_wp2
    go_ret
    exact ⟨_, rfl, by simpa using hO, below_of_grown (below_alloc (Below.refl _ _) _) hg (by simp) (fun q hq => (h1.lt q hq).1)⟩
/-- the cells of no star -/
def zeroSta : List Value := [.string ByteArray.empty, .int .i64 0, .int .i64 0, .int .i64 0, .int .i64 0]
theorem zeroValue_star (w : World) : (zeroValue 46).run Tryz.prog w = .ok (.agg zeroSta.toArray) w := by kernel_rfl
theorem run_clear_star (w : World) (ty g o m c : Nat) (cs : List Value) (hm : m = 1) (hB : Blk w g 46 cs) (ho : o + 5 ≤ cs.length) :
    (Builtin.clear_ #[42] ty #[.slice (some ⟨g, o, none⟩) m c]).run Tryz.prog w = .ok (.tuple #[]) (w.setCells g o zeroSta) := by
  subst hm
  obtain ⟨z, hv, hzc⟩ : ∃ z, (∀ w, (zeroValue 46).run Tryz.prog w = .ok z w) ∧ (Builtin.zeroCells z.cells 1).toList = zeroSta := ⟨.agg zeroSta.toArray, zeroValue_star, by kernel_rfl⟩
  have hst := run_storeCells_cells (P := Tryz.prog) g o zeroSta 0 w (fun j hj => by rw [hB.cell, List.getElem?_eq_getElem (by have : zeroSta.length = 5 := rfl; omega)]; rfl) (fun j _ => hB.frozen _) (by intro v hv; simp only [zeroSta, List.mem_cons, List.not_mem_nil, or_false] at hv; obtain h | h | h | h | h := hv <;> subst h <;> rfl)
  simp only [Nat.add_zero] at hst
  simp [Builtin.clear_, run_underlying Tryz.underlying42, hv, hzc, hst]
theorem erase_row {l : List Sta} {cs : List Value} {n k : Nat} (hl : l.length = n) (hk : k < n) (h2 : n * 5 ≤ cs.length) (h6 : cs.take (n * 5) = staCells l) :
    (layAt (layAt cs (0 + k * 5) (staCells (l.drop (k + 1)))) ((k + (n - (k + 1))) * 5) zeroSta).take ((k + (n - (k + 1))) * 5) = staCells (l.eraseIdx k) := by
  have hnl : (staCells (l.drop (k + 1))).length = (n - (k + 1)) * 5 := by rw [staCells_length, List.length_drop, hl]
  have hz : zeroSta.length = 5 := rfl
  have htl : (staCells (l.take k)).length = k * 5 := by rw [staCells_length, List.length_take, hl]; omega
  rw [List.eraseIdx_eq_take_drop_succ, staCells_append]
  apply List.ext_getElem?
  intro i
  rw [List.getElem?_take]
  by_cases hi : i < (k + (n - (k + 1))) * 5
  · rw [if_pos hi, layAt_at _ _ _ _ (by rw [layAt_length]; omega), if_neg (by omega), layAt_at _ _ _ _ (by omega)]
    by_cases h : i < k * 5
    · rw [if_neg (by omega), List.getElem?_append_left (by omega), staCells_take, List.getElem?_take, if_pos h, ← h6, List.getElem?_take, if_pos (by omega)]
    · rw [if_pos (by omega), List.getElem?_append_right (by omega), htl]; congr 1; omega
  · rw [if_neg hi, List.getElem?_eq_none (by rw [List.length_append]; omega)]
set_option maxRecDepth 100000 in
set_option maxHeartbeats 4000000 in
theorem DeleteS_any (base g n cap k : Nat) (l : List Sta) (w : World) (hown : OwnS w base (.slice (some ⟨g, 0, none⟩) n cap) l) (hl : l.length = n) (hn : n ≤ 1000000000000) (hk : k < n) :
    Calls Tryz.prog 72 #[.slice (some ⟨g, 0, none⟩) n cap, .int .i64 k, .int .i64 ((k : Int) + 1)] w fun e w' => e = .returned (.slice (some ⟨g, 0, none⟩) (k + (n - (k + 1))) cap) ∧ OwnS w' base (.slice (some ⟨g, 0, none⟩) (k + (n - (k + 1))) cap) (l.eraseIdx k) ∧ w.grownBy w' (some g) := by
  have HL := Lib.hid hl; clear hl
  obtain ⟨i0, hi0, hz0, hz1, hz2⟩ := info_parts info_star
  rcases hown.blk with ⟨h, _⟩ | ⟨g', cap', cs, he, hb, hB, h2, h3, h4, h5, h6⟩
  · cases h
  obtain ⟨rfl, rfl⟩ : g = g' ∧ cap = cap' := by injection he with h1 h2 h3; injection h1 with h1; injection h1 with h1; exact ⟨h1, h3⟩
  rw [HL.out] at h2 h4 h6
  clear he
  have hm : cap ≤ 9223372036854775807 := by simp only [maxLen] at h3; omega
  have hnl : (staCells (l.drop (k + 1))).length = (n - (k + 1)) * 5 := by rw [staCells_length, List.length_drop, HL.out]
  obtain ⟨A, hA, hnews⟩ : ∃ A : Addr, (if cap = k + 1 then some (⟨g, 0, none⟩ : Addr) else some ⟨g, (k + 1) * 5, none⟩) = some A ∧ Hid (∀ j u, (staCells (l.drop (k + 1)))[j]? = some u → w.drew.cell? (A.add j) = some u) := by
    by_cases h : cap = k + 1
    · refine ⟨⟨g, 0, none⟩, by simp [h], fun j u hu => ?_⟩
      have := (List.getElem?_eq_some_iff.1 hu).1
      omega
    · refine ⟨⟨g, (k + 1) * 5, none⟩, by simp [h], fun j u hu => ?_⟩
      have hj : j < (n - (k + 1)) * 5 := by rw [← hnl]; exact (List.getElem?_eq_some_iff.1 hu).1
      rw [addr_add]
      show w.cell? _ = _
      rw [hB.cell]
      rw [staCells_drop, List.getElem?_drop, ← h6, List.getElem?_take, if_pos (by omega)] at hu
      exact hu
  have s1 : Hid ((staCells (l.drop (k + 1))).length = (n - (k + 1)) * 5) := hnl
  have s2 : Hid (∀ u ∈ staCells (l.drop (k + 1)), u.oneCell' = true) := fun u hu => by
    simp only [staCells, List.mem_flatMap, Sta.cells, List.mem_cons, List.not_mem_nil, or_false] at hu
    obtain ⟨x, _, h | h | h | h | h⟩ := hu <;> subst h <;> rfl
  have s3 : Hid (∀ j, j < (staCells (l.drop (k + 1))).length → (w.drew.cell? ⟨g, 0 + k * 5 + j, none⟩).isSome = true ∧ w.drew.frozen? ⟨g, 0 + k * 5 + j, none⟩ = false) := fun j hj => by
    rw [hnl] at hj
    refine ⟨?_, hB.frozen _⟩
    show (w.cell? _).isSome = true
    rw [hB.cell, List.getElem?_eq_getElem (by omega)]; rfl
  have hD1 : Blk (w.drew.setCells g (0 + k * 5) (staCells (l.drop (k + 1)))) g 46 (layAt cs (0 + k * 5) (staCells (l.drop (k + 1)))) := (Blk.drew hB).setCells _ _
  have hG1 : w.grownBy (w.drew.setCells g (0 + k * 5) (staCells (l.drop (k + 1)))) (some g) := only_setCells _ _ (only_drew (World.grownBy.refl w _))
  obtain ⟨W1, hW1⟩ : ∃ W1, W1 = w.drew.setCells g (0 + k * 5) (staCells (l.drop (k + 1))) := ⟨_, rfl⟩
  rw [← hW1] at hD1 hG1
  have HW1 := Lib.hid hW1; clear hW1
  have hD1l : (layAt cs (0 + k * 5) (staCells (l.drop (k + 1)))).length = cap * 5 := by rw [layAt_length]; exact h5
  have hcl : ∀ ty, (Builtin.clear_ #[42] ty #[.slice (some ⟨g, (k + (n - (k + 1))) * 5, none⟩) (n - (k + (n - (k + 1)))) (cap - (k + (n - (k + 1))))]).run Tryz.prog W1 = .ok (.tuple #[]) (W1.setCells g ((k + (n - (k + 1))) * 5) zeroSta) := fun ty => run_clear_star W1 ty g _ _ _ _ (by omega) hD1 (by omega)
  have hD2 := hD1.setCells zeroSta ((k + (n - (k + 1))) * 5)
  have hG2 := only_setCells zeroSta ((k + (n - (k + 1))) * 5) hG1
  have hic : k ≤ cap := by omega
  have hjc : k + 1 ≤ cap := by omega
  have hp0 : (0 : Int) ≤ (k : Int) + 1 := by omega
  have hp1 : (k : Int) + 1 ≤ (n : Int) := by omega
  have hp2 : ((k : Int) + 1).toNat = k + 1 := by omega
  have hkn : ((k : Int) == (k : Int) + 1) = false := by simp; omega
  go_enter Tryz.func72, Tryz.ntmps72
  go_wp2_with (fail)
  go_region_law (refine step_append_room rfl (.tmp 22) (.tmp 25) 42 rfl 46 i0 5 Tryz.underlying42 hi0 hz1 g 0 k cap (by simp [Act.eval, Act.put]) A (n - (k + 1)) (cap - (k + 1)) (staCells (l.drop (k + 1))) (by simp [Act.eval, Act.put]) s1.out hnews.out s2.out (by omega) s3.out ?_; rw [← HW1.out])
  go_wp2
  go_ret
  refine ⟨rfl, ?_, hG2⟩
  have hle : (l.eraseIdx k).length = k + (n - (k + 1)) := by rw [List.length_eraseIdx, HL.out, if_pos hk]; omega
  have := OwnS.of_blk (l := l.eraseIdx k) hb hD2 (by rw [hle]; omega) h3 (by rw [layAt_length, layAt_length]; exact h5) (by rw [hle]; exact erase_row HL.out hk h2 h6)
  rw [hle] at this; exact this
theorem Stars.take {w : World} {A : Option Addr} {l : List Sta} (h : Stars w A l) (k : Nat) : Stars w A (l.take k) := fun hl => by
  obtain ⟨b, o, e, hc⟩ := h (by rw [List.length_take] at hl; omega)
  refine ⟨b, o, e, fun i x hx => hc i x ?_⟩
  rw [List.getElem?_take] at hx
  split at hx
  · exact hx
  · cases hx
theorem Stars.drop {w : World} {b o c : Nat} {l : List Sta} (h : Stars w (some ⟨b, o, none⟩) l) (k : Nat) (hc : l.length ≤ c) : Stars w (if c = k then some ⟨b, o, none⟩ else some ⟨b, o + k * 5, none⟩) (l.drop k) := fun hl => by
  rw [List.length_drop] at hl
  obtain ⟨b', o', e, hs⟩ := h (by omega)
  obtain ⟨rfl, rfl⟩ : b = b' ∧ o = o' := by injection e with e; injection e with e1 e2; exact ⟨e1, e2⟩
  refine ⟨b, o + k * 5, by rw [if_neg (by omega)], fun i x hx => ?_⟩
  rw [List.getElem?_drop] at hx
  have := hs _ _ hx
  rw [show o + k * 5 + i * 5 = o + (k + i) * 5 by omega]; exact this
theorem OwnS.base_le {w : World} {b1 b2 : Nat} {v : Value} {l : List Sta} (h : OwnS w b1 v l) (hb : b2 ≤ b1) : OwnS w b2 v l := by
  refine ⟨h.1, ?_⟩
  rcases h.2 with h2 | ⟨g, cap, cur, h1, h2, hr⟩
  · exact .inl h2
  · exact .inr ⟨g, cap, cur, h1, Nat.le_trans hb h2, hr⟩
/-- what DropStar answers -/
def dropO (l : List Sta) (id : ByteArray) : List Sta × Int := if vStars l then (if findS id l 0 < 0 then ([], 3) else (l.eraseIdx (findS id l 0).toNat, 0)) else ([], 1)
theorem dropO_no {l : List Sta} {id : ByteArray} (h : vStars l = false) : dropO l id = ([], 1) := by simp [dropO, h]
theorem dropO_none {l : List Sta} {id : ByteArray} (h : vStars l = true) (h2 : findS id l 0 < 0) : dropO l id = ([], 3) := by simp [dropO, h, h2]
theorem dropO_yes {l : List Sta} {id : ByteArray} {k : Nat} (h : vStars l = true) (h2 : findS id l 0 = (k : Int)) : dropO l id = (l.eraseIdx k, 0) := by
  have : ¬ ((k : Int) < 0) := by omega
  simp [dropO, h, h2, this]
theorem dropO_len (l : List Sta) (id : ByteArray) : (dropO l id).1.length ≤ 24 := by
  cases hv : vStars l with
  | false => rw [dropO_no hv]; simp
  | true =>
    have h24 := vStars_len hv
    by_cases h : findS id l 0 < 0
    · rw [dropO_none hv h]; simp
    · obtain ⟨k, hk⟩ : ∃ k : Nat, findS id l 0 = k := ⟨(findS id l 0).toNat, by omega⟩
      rw [dropO_yes hv hk]
      have : (l.eraseIdx k).length ≤ l.length := List.length_eraseIdx_le _ _
      show (l.eraseIdx k).length ≤ 24
      omega
set_option maxRecDepth 100000 in
set_option maxHeartbeats 4000000 in
theorem DropStar_any (A : Option Addr) (n c : Nat) (l : List Sta) (id : ByteArray) (w : World) (hl : l.length = n) (hn : n ≤ 9223372036854775807) (hc1 : n ≤ c) (hA : Stars w A l) :
    Calls Tryz.prog 23 #[.slice A n c, .string id] w fun e w' => ∃ v : Value, e = .returned (.tuple #[v, .int .i64 (dropO l id).2]) ∧ OwnS w' w.heap.size v (dropO l id).1 ∧ Below w.heap.size w w' := by
  have HL := Lib.hid hl; clear hl
  have V : Hid (∀ W (A : Option Addr), Stars W A l → Calls Tryz.prog 67 #[.slice A n c] W fun e w' => e = .returned (.bool (vStars l)) ∧ Below W.heap.size W w') := fun W A hW => ValidStars_any A n c l W HL.out hn hW
  have F : Hid (∀ W (A : Option Addr), Stars W A l → Calls Tryz.prog 71 #[.slice A n c, .string id] W fun e w' => e = .returned (.int .i64 (findS id l 0)) ∧ Below W.heap.size W w') := fun W A hW => starIndex_any A n c l id W HL.out hn hW
  have hbd := findS_bd id l 0
  cases hv : vStars l with
  | false =>
    have HO := Lib.hid (dropO_no (id := id) hv)
    rw [hv] at V
    clear hv
    go_enter Tryz.func23, Tryz.ntmps23
    go_wp2_with (refine (V.out _ _ hA).mono ?_; rintro e w1 ⟨rfl, hb1⟩)
    go_ret2
    exact ⟨.slice none 0 0, by rw [HO.out]; rfl, by rw [HO.out]; exact OwnS.nil _ _, hb1⟩
  | true =>
    have h24 : n ≤ 24 := by have := vStars_len hv; have := HL.out; omega
    rw [hv] at V
    by_cases hneg : findS id l 0 < 0
    · have HO := Lib.hid (dropO_none (id := id) hv hneg)
      generalize findS id l 0 = p at *
      clear hv
      go_enter Tryz.func23, Tryz.ntmps23
      go_wp2_with (first | (go_at_call 67; refine (V.out _ _ hA).mono ?_; rintro e w1 ⟨rfl, hb1⟩; have hA1 := hA.below hb1) | (go_at_call 71; refine (F.out _ _ hA1).mono ?_; rintro e w2 ⟨rfl, hb2⟩))
      go_ret2
      exact ⟨.slice none 0 0, by rw [HO.out]; rfl, by rw [HO.out]; exact OwnS.nil _ _, below_step hb1 hb2⟩
    · obtain ⟨k, hk⟩ : ∃ k : Nat, findS id l 0 = k := ⟨(findS id l 0).toNat, by omega⟩
      have hkn : k < n := by have := HL.out; omega
      have HO := Lib.hid (dropO_yes (id := id) hv hk)
      rw [hk] at F
      clear hv hbd hneg hk
      go_enter Tryz.func23, Tryz.ntmps23
      go_wp2_with (first | (go_at_call 67; refine (V.out _ _ hA).mono ?_; rintro e w1 ⟨rfl, hb1⟩; have hA1 := hA.below hb1) | (go_at_call 71; refine (F.out _ _ hA1).mono ?_; rintro e w2 ⟨rfl, hb2⟩))
      have hA2 := (hA.below hb1).below hb2
      obtain ⟨b, o, rfl, _⟩ := hA (by have := HL.out; omega)
      refine (CloneS_any _ n c l _ HL.out (by omega) hA2 (fun h => by cases h)).mono ?_
      rintro e w3 ⟨v, rfl, hO, hb3⟩
      rcases hO.blk with ⟨_, h⟩ | ⟨g, cap, cs, rfl, hbg, _⟩
      · exfalso; have := HL.out; rw [h] at this; simp at this; omega
      rw [HL.out] at hO ⊢
      go_wp2_with (fail)
      refine (DeleteS_any _ g n cap k l w3 hO HL.out (by omega) hkn).mono ?_
      rintro e w4 ⟨rfl, hO4, hg4⟩
      go_wp2
      go_ret2
      have hb23 := below_step hb1 hb2
      refine ⟨_, ?_, by rw [HO.out]; exact hO4.base_le hb23.size, below_of_grown (below_step hb23 hb3) hg4 (below_step hb23 hb3).size (fun q hq => by injection hq with hq; subst hq; exact Nat.le_trans hb23.size hbg)⟩
      rw [HO.out]; rfl
end Go.Proofs.YtpnfhienffekoaaGreatDoor
