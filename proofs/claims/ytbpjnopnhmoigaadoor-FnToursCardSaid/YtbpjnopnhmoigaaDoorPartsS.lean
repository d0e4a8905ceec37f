/- Contracts of the functions that count a figure's parts: the reference's. -/
import Derived.Test.YtbpjnopnhmoigaaDoorParts
namespace Go.Proofs.YtbpjnopnhmoigaaDoor
set_option linter.unusedVariables false
set_option linter.unusedSimpArgs false
open Go.RowKit
theorem setKinds_succ {part used : List Int} {k : Nat} {i : Nat} (h : used[k]? = some (i : Int)) : setI (kindsL part (used.take (k + 1))) = putI (gt part i) (setI (kindsL part (used.take k))) := by
  rw [kindsL_take h, setI_snoc]
theorem Blk.grownP {w w' : World} {g : Nat} {t : TypeId} {cs : List Value} {row : Option Nat} (h : Blk w g t cs) (hg : w.grownBy w' row) (hne : ∀ q, row = some q → g ≠ q) : Blk w' g t cs := (hg.block g h.lt (fun e => hne g e.symm rfl)).trans h
theorem upFrom_succ0 (k : Nat) : upFrom 0 (k + 1) = upFrom 0 k ++ [(k : Int)] := by
  apply List.ext_getElem?
  intro i
  by_cases h : i < k
  · rw [upFrom_at 0 (k + 1) i (by omega), List.getElem?_append_left (by rw [upFrom_length]; exact h), upFrom_at 0 k i h]
  · by_cases e : i = k
    · subst e
      rw [upFrom_at 0 (i + 1) i (by omega), List.getElem?_append_right (by rw [upFrom_length]; omega), upFrom_length]; simp
    · rw [List.getElem?_eq_none (by rw [upFrom_length]; omega), List.getElem?_eq_none (by simp [upFrom_length]; omega)]
end Go.Proofs.YtbpjnopnhmoigaaDoor
