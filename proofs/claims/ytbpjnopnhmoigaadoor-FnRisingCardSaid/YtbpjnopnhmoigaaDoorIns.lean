/- Contracts of the functions that put a star into a list. -/
import Derived.Test.YtbpjnopnhmoigaaDoorDrop
import Derived.Test.YtbpjnopnhmoigaaDoorGrpList
import Derived.Shelf.Spec.SlicesInsert
import Derived.Lib.AppendZerosOnto
namespace Go.Proofs.YtbpjnopnhmoigaaDoor
set_option linter.unusedVariables false
set_option linter.unusedSimpArgs false
open Go.RowKit
theorem staCells_one (l : List Sta) : ∀ u ∈ staCells l, u.oneCell' = true := fun u hu => by
  simp only [staCells, List.mem_flatMap, Sta.cells, List.mem_cons, List.not_mem_nil, or_false] at hu
  obtain ⟨x, _, h | h | h | h | h⟩ := hu <;> subst h <;> rfl
/-- stars are copied into a row -/
theorem run_copy_stars (w : World) (ty g o dLen dCap : Nat) (a : Addr) (sLen sCap : Nat) (cur cs : List Value) (hB : Blk w g 78 cur) (hn : cs.length = Nat.min sLen dLen * 5)
    (hsrc : ∀ j v, cs[j]? = some v → w.cell? (a.add j) = some v) (hfit : o + cs.length ≤ cur.length) (h1 : ∀ v ∈ cs, v.oneCell' = true) :
    (Builtin.copy_ #[27, 27] ty #[.slice (some ⟨g, o, none⟩) dLen dCap, .slice (some a) sLen sCap]).run Tryd.prog w = .ok (goInt (Nat.min sLen dLen)) (w.setCells g o cs) := by
  obtain ⟨i0, hi0, hz0, hz1, hz2⟩ := info_parts info_star
  have hl := run_loadCells_list (P := Tryd.prog) w a cs hsrc
  have hst := run_storeCells_cells (P := Tryd.prog) g o cs 0 w (fun j hj => by rw [hB.cell, List.getElem?_eq_getElem (by omega)]; rfl) (fun j _ => hB.frozen _) h1
  simp only [Nat.add_zero] at hst
  have hm : Nat.min sLen dLen = min sLen dLen := rfl
  rw [hm] at hn
  simp [Builtin.copy_, run_underlying Tryd.underlying27, Builtin.lenOf, Builtin.firstCells, sizeOf, typeInfo, hi0, hz1, ← hn, hl, hst, hm]
theorem sizeOf_star (w : World) : (Go.sizeOf 78).run Tryd.prog w = .ok 5 w := by
  obtain ⟨i0, hi0, hz0, hz1, hz2⟩ := info_parts info_star
  simp [sizeOf, typeInfo, hi0, hz1]
theorem zeroCells_size (z : Array Value) (n : Nat) : (Builtin.zeroCells z n).size = n * z.size := by simp [Builtin.zeroCells]
theorem insert_row2 {l : List Sta} {cs : List Value} {n k : Nat} {x : Sta} (hl : l.length = n) (hk : k ≤ n) (h2 : (n + 1) * 5 ≤ cs.length) (h6 : cs.take (k * 5) = staCells (l.take k)) :
    (layAt (layAt cs (k * 5) (staCells [x])) ((k + 1) * 5) (staCells (l.drop k))).take ((n + 1) * 5) = staCells (l.take k ++ ([x] ++ l.drop k)) := by
  have hnl : (staCells (l.drop k)).length = (n - k) * 5 := by rw [staCells_length, List.length_drop, hl]
  have hz : (staCells [x]).length = 5 := rfl
  have htl : (staCells (l.take k)).length = k * 5 := by rw [staCells_length, List.length_take, hl]; omega
  rw [staCells_append, staCells_append]
  apply List.ext_getElem?
  intro i
  rw [List.getElem?_take]
  by_cases hi : i < (n + 1) * 5
  · rw [if_pos hi, layAt_at _ _ _ _ (by rw [layAt_length]; omega), layAt_at _ _ _ _ (by omega)]
    by_cases h : i < k * 5
    · rw [if_neg (by omega), if_neg (by omega), List.getElem?_append_left (by omega), ← h6, List.getElem?_take, if_pos h]
    · rw [List.getElem?_append_right (by omega), htl]
      by_cases h' : i < k * 5 + 5
      · rw [if_neg (by omega), if_pos (by omega), List.getElem?_append_left (by omega)]
      · rw [if_pos (by omega), List.getElem?_append_right (by omega), hz]; congr 1; omega
  · rw [if_neg hi, List.getElem?_eq_none (by rw [List.length_append, List.length_append]; omega)]
end Go.Proofs.YtbpjnopnhmoigaaDoor
