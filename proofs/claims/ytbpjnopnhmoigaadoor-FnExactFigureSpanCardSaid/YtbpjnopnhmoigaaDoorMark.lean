/- Contracts of the functions that mark stars and hold them against the marks. -/
import Derived.Test.YtbpjnopnhmoigaaDoorSta
import Derived.Test.YtbpjnopnhmoigaaDoorNums
import Derived.Laws.BytesString
namespace Go.Proofs.YtbpjnopnhmoigaaDoor
set_option linter.unusedVariables false
set_option linter.unusedSimpArgs false
open Go.RowKit
/-- the digits of a number before some others -/
def markGo : Nat → Nat → List UInt8 → List UInt8
  | 0, _, acc => acc
  | f + 1, k, acc => if k = 0 then acc else markGo f (k / 10) ((48 + UInt8.ofNat (k % 10)) :: acc)
/-- the text of a mark -/
def markT (k : Nat) : ByteArray := ⟨(109 :: markGo k k []).toArray⟩
theorem markGo_zero (f : Nat) (acc : List UInt8) : markGo f 0 acc = acc := by cases f <;> simp [markGo]
theorem markGo_fuel (f g k : Nat) (acc : List UInt8) (hf : k ≤ f) (hg : k ≤ g) : markGo f k acc = markGo g k acc := by
  induction f generalizing g k acc with
  | zero => obtain rfl : k = 0 := by omega
            rw [markGo_zero, markGo_zero]
  | succ f ih =>
    by_cases h : k = 0
    · subst h; rw [markGo_zero, markGo_zero]
    · cases g with
      | zero => omega
      | succ g =>
        rw [markGo, markGo, if_neg h, if_neg h]
        exact ih g (k / 10) _ (by omega) (by omega)
theorem markGo_step (k : Nat) (acc : List UInt8) (h : 0 < k) : markGo k k acc = markGo (k / 10) (k / 10) ((48 + UInt8.ofNat (k % 10)) :: acc) := by
  cases k with
  | zero => omega
  | succ k =>
    rw [markGo, if_neg (by omega)]
    exact markGo_fuel _ _ _ _ (by omega) (Nat.le_refl _)
theorem bytes_cons (a : UInt8) (acc : List UInt8) : ((⟨#[a]⟩ : ByteArray) ++ (⟨acc.toArray⟩ : ByteArray)) = ⟨(a :: acc).toArray⟩ := by
  apply ByteArray.ext; simp [ByteArray.data_append]
theorem ret_string {a b : ByteArray} (h : a = b) : Ending.returned (.string a) = Ending.returned (.string b) := by rw [h]
theorem run_byte_string (W : World) (x : Int) : (convert 57 9 (.slice (some ⟨W.heap.size, 0, none⟩) 1 1)).run Tryd.prog (W.alloc (.cells #[.int .u8 x] 5)) = .ok (.string ⟨#[UInt8.ofNat x.toNat]⟩) (W.alloc (.cells #[.int .u8 x] 5)) := by
  rw [run_convert_bytes_string _ _ _ 5 _ _ _ Tryd.underlying57 Tryd.underlying5 Tryd.underlying9, run_bytesToString _ _ _ _ [x] (by simp [loadCells, go_sem])]
  rfl
set_option maxRecDepth 100000 in
set_option maxHeartbeats 1000000 in
theorem markText_any (k : Nat) (w : World) (h0 : 0 < k) (h1 : k ≤ 1000000000) :
    Calls Tryd.prog 62 #[.int .i64 k] w fun e w' => e = .returned (.string (markT k)) ∧ Below w.heap.size w w' := by
  have hk0 : (0 : Int) < k := by omega
  go_enter Tryd.func62, Tryd.ntmps62
  go_wp2_with (fail)
  go_loopw [0, 3] (fun a s wr => ∃ (m : Nat) (acc : List UInt8), m ≤ k ∧ a = .int .i64 m ∧ s = .string ⟨acc.toArray⟩ ∧ markGo k k [] = markGo m m acc ∧ acc.length + m ≤ k ∧ Below w.heap.size w wr) (fun a _ _ => (intOf a).toNat)
  case atStart => exact ⟨k, [], by omega, rfl, rfl, rfl, by simp, Below.refl _ _⟩
  case round =>
    obtain ⟨m, acc, hm, rfl, rfl, hE, hal, hb⟩ := hrel
    have HE := Lib.hid hE; clear hE
    by_cases hlt : 0 < m
    · have HS := Lib.hid (markGo_step m acc hlt)
      have hcv := run_byte_string wr
      go_wp2_with (fail)
      go_roundw
      case rel => exact ⟨m / 10, (48 + UInt8.ofNat (m % 10)) :: acc, by omega, by go_num, by rw [bytes_cons], by rw [HE.out, HS.out], by simp only [List.length_cons]; omega, below_alloc hb _⟩
      case measure => simp [intOf]; omega
    · obtain rfl : m = 0 := by omega
      go_wp2
      go_ret
      exact ⟨ret_string (by rw [bytes_cons, markT, HE.out, markGo_zero]), hb⟩
theorem markText_int (k : Nat) (x : Int) (w : World) (hx : x = k) (h0 : 0 < k) (h1 : k ≤ 1000000000) :
    Calls Tryd.prog 62 #[.int .i64 x] w fun e w' => e = .returned (.string (markT k)) ∧ Below w.heap.size w w' := by
  subst hx; exact markText_any k w h0 h1
/-- the stars that markStarS leaves -/
def markSta (j : Nat) : Sta := ⟨markT j, (j : Int) + 1, (j : Int) + 2, (j : Int) + 3, (j : Int) + 4⟩
def markL (j : Nat) : Nat → List Sta
  | 0 => []
  | n + 1 => markL j n ++ [markSta (j + 5 * n)]
theorem markL_length (j n : Nat) : (markL j n).length = n := by
  induction n with
  | zero => rfl
  | succ n ih => rw [markL, List.length_append, ih]; rfl
theorem markL_at (j n k : Nat) (h : k < n) : (markL j n)[k]? = some (markSta (j + 5 * k)) := by
  induction n with
  | zero => omega
  | succ n ih =>
    rw [markL]
    by_cases hk : k < n
    · rw [List.getElem?_append_left (by rw [markL_length]; exact hk)]; exact ih hk
    · rw [List.getElem?_append_right (by rw [markL_length]; omega), markL_length, show k - n = 0 by omega, show k = n by omega]; rfl
/-- a row whose first cells are stars: one star put into its place -/
theorem sta_row_set {ds : List Value} {k : Nat} {ys : List Sta} (h : ds.take (k * 5) = staCells ys) (hy : ys.length = k) (hk : k * 5 + 5 ≤ ds.length) (x : Sta) :
    ((((((ds.set (k * 5) (.string x.id)).set (k * 5 + 1) (.int .i64 x.ri)).set (k * 5 + 2) (.int .i64 x.de)).set (k * 5 + 3) (.int .i64 x.ma)).set (k * 5 + 4) (.int .i64 x.co)).take ((k + 1) * 5)) = staCells (ys ++ [x]) := by
  have e : staCells (ys ++ [x]) = staCells ys ++ x.cells := by simp [staCells]
  rw [e]
  apply List.ext_getElem?
  intro i
  have hl : (staCells ys).length = k * 5 := by rw [staCells_length, hy]
  have hc : x.cells.length = 5 := rfl
  rw [List.getElem?_take]
  by_cases hi : i < (k + 1) * 5
  · rw [if_pos hi]
    by_cases hi2 : i < k * 5
    · rw [List.getElem?_append_left (by omega), List.getElem?_set_ne (by omega), List.getElem?_set_ne (by omega), List.getElem?_set_ne (by omega), List.getElem?_set_ne (by omega), List.getElem?_set_ne (by omega), ← h, List.getElem?_take, if_pos hi2]
    · rw [List.getElem?_append_right (by omega), hl]
      obtain ⟨r, rfl⟩ : ∃ r, i = k * 5 + r := ⟨i - k * 5, by omega⟩
      rw [show k * 5 + r - k * 5 = r by omega]
      have hr : r < 5 := by omega
      rcases r with _ | _ | _ | _ | _ | r
      · simp only [Nat.zero_add, Nat.add_zero]; rw [List.getElem?_set_ne (by omega), List.getElem?_set_ne (by omega), List.getElem?_set_ne (by omega), List.getElem?_set_ne (by omega), List.getElem?_set_self (by omega)]; rfl
      · rw [List.getElem?_set_ne (by omega), List.getElem?_set_ne (by omega), List.getElem?_set_ne (by omega), List.getElem?_set_self (by simp; omega)]; rfl
      · rw [List.getElem?_set_ne (by omega), List.getElem?_set_ne (by omega), List.getElem?_set_self (by simp; omega)]; rfl
      · rw [List.getElem?_set_ne (by omega), List.getElem?_set_self (by simp; omega)]; rfl
      · rw [List.getElem?_set_self (by simp; omega)]; rfl
      · omega
  · rw [if_neg hi, List.getElem?_eq_none (by rw [List.length_append, hl, hc]; omega)]
set_option maxHeartbeats 4000000 in
theorem markStarS_any (g n c : Nat) (cs : List Value) (j : Nat) (w : World) (hn : n * 5 ≤ cs.length) (hc : n ≤ 1048576) (hB : Blk w g 78 cs) (h0 : 0 < j) (h1 : j ≤ 100000000) :
    Calls Tryd.prog 17 #[.slice (some ⟨g, 0, none⟩) n c, .int .i64 j] w fun e w' => ∃ ds : List Value, e = .returned (.int .i64 (((j + 5 * n : Nat)) : Int)) ∧ Blk w' g 78 ds ∧ ds.length = cs.length ∧ ds.take (n * 5) = staCells (markL j n) ∧ w.grownBy w' (some g) := by
  have hgl := hB.lt
  go_enter Tryd.func17, Tryd.ntmps17
  go_wp2_with (fail)
  go_loopw [1, 5] (fun v i wr => ∃ (k : Nat) (ds : List Value), k ≤ n ∧ i = .int .i64 k ∧ v = .int .i64 ((j + 5 * k : Nat) : Int) ∧ Blk wr g 78 ds ∧ ds.length = cs.length ∧ ds.take (k * 5) = staCells (markL j k) ∧ w.grownBy wr (some g)) (fun _ i _ => n - (intOf i).toNat)
  case atStart => exact ⟨0, cs, by omega, rfl, by go_num, hB, rfl, by simp [markL, staCells], World.grownBy.refl w _⟩
  case round =>
    obtain ⟨k, ds, hk, rfl, rfl, hD, hdl, hdt, hg⟩ := hrel
    have HDL := Lib.hid hdl; clear hdl
    have HDT := Lib.hid hdt; clear hdt
    by_cases hlt : k < n
    · have hlen : k * 5 + 5 ≤ ds.length := by have := HDL.out; omega
      go_wp2_with (fail)
      refine (markText_int (j + 5 * k) _ _ (by omega) (by omega) (by omega)).mono ?_
      rintro e w2 ⟨rfl, hb2⟩
      have hD2 := hD.keep hb2
      obtain ⟨z0, e0⟩ := at_lt (l := ds) (k := k * 5) (by omega)
      obtain ⟨z1, e1⟩ := at_lt (l := ds) (k := k * 5 + 1) (by omega)
      obtain ⟨z2, e2⟩ := at_lt (l := ds) (k := k * 5 + 2) (by omega)
      obtain ⟨z3, e3⟩ := at_lt (l := ds) (k := k * 5 + 3) (by omega)
      obtain ⟨z4, e4⟩ := at_lt (l := ds) (k := k * 5 + 4) (by omega)
      have d0 : w2.cell? ⟨g, k * 5, none⟩ = some z0 := by (rw [hD2.cell]; exact e0)
      have d1 : w2.cell? ⟨g, k * 5 + 1, none⟩ = some z1 := by (rw [hD2.cell]; exact e1)
      have d2 : w2.cell? ⟨g, k * 5 + 2, none⟩ = some z2 := by (rw [hD2.cell]; exact e2)
      have d3 : w2.cell? ⟨g, k * 5 + 3, none⟩ = some z3 := by (rw [hD2.cell]; exact e3)
      have d4 : w2.cell? ⟨g, k * 5 + 4, none⟩ = some z4 := by (rw [hD2.cell]; exact e4)
      have f0 := hD2.frozen (k * 5)
      have f1 := hD2.frozen (k * 5 + 1)
      have f2 := hD2.frozen (k * 5 + 2)
      have f3 := hD2.frozen (k * 5 + 3)
      have f4 := hD2.frozen (k * 5 + 4)
      clear e0 e1 e2 e3 e4
      go_wp2_with (fail)
      go_roundw
      case rel =>
        have hM : markL j (k + 1) = markL j k ++ [(⟨markT (j + 5 * k), (j : Int) + 5 * k + 1, (j : Int) + 5 * k + 1 + 1, (j : Int) + 5 * k + 1 + 1 + 1, (j : Int) + 5 * k + 1 + 1 + 1 + 1⟩ : Sta)] := by
          rw [markL, markSta]; congr 3 <;> omega
        exact ⟨k + 1, _, by omega, by go_num, by go_num, ((((hD2.set_ _ _).set_ _ _).set_ _ _).set_ _ _).set_ _ _, by simp only [List.length_set]; exact HDL.out, by rw [hM]; exact sta_row_set HDT.out (markL_length j k) hlen ⟨markT (j + 5 * k), (j : Int) + 5 * k + 1, (j : Int) + 5 * k + 1 + 1, (j : Int) + 5 * k + 1 + 1 + 1, (j : Int) + 5 * k + 1 + 1 + 1 + 1⟩, only_set (only_set (only_set (only_set (only_set (only_below hg hb2) _ _) _ _) _ _) _ _) _ _⟩
      case measure => simp [intOf]; omega
    · obtain rfl : k = n := by omega
      go_wp2
      go_ret
      exact ⟨ds, rfl, hD, HDL.out, HDT.out, hg⟩
end Go.Proofs.YtbpjnopnhmoigaaDoor
