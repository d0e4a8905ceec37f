/- Plain functions: the lines of a figure that can be seen. Nothing of the program is named here. -/
import Derived.Test.YtbpjnopnhmoigaaDoorAlt
import Derived.Test.YtbpjnopnhmoigaaDoorGrpFigs
import Derived.Test.YtbpjnopnhmoigaaDoorBright
namespace Go.Proofs.YtbpjnopnhmoigaaDoor
set_option linter.unusedVariables false
set_option linter.unusedSimpArgs false
/-- the altitude of the star at a place -/
def altAt (l : List Sta) (la s i : Int) : Int := match l[i.toNat]? with
  | some x => altI la s x
  | none => -1
theorem altAt_at {l : List Sta} {la s : Int} {i : Nat} {x : Sta} (h : l[i]? = some x) : altAt l la s (i : Int) = altI la s x := by simp [altAt, h]
/-- are the first stars of a line to be seen -/
def seenTo (l : List Sta) (la s : Int) (line : List Int) : Nat → Bool
  | 0 => true
  | j + 1 => seenTo l la s line j && decide (0 ≤ altAt l la s (line.getD j 0))
/-- the lines among the first ones that can be seen -/
def visL (l : List Sta) (la s : Int) (L : List (List Int)) : Nat → List Int
  | 0 => []
  | k + 1 => if seenTo l la s (L.getD k []) 2 then visL l la s L k ++ [(k : Int)] else visL l la s L k
theorem visL_len (l : List Sta) (la s : Int) (L : List (List Int)) (k : Nat) : (visL l la s L k).length ≤ k := by
  induction k with
  | zero => simp [visL]
  | succ k ih =>
    rw [visL]
    split
    · rw [List.length_append, List.length_singleton]; omega
    · omega
theorem visL_at {l : List Sta} {la s : Int} {L : List (List Int)} {k : Nat} {x : List Int} (h : L[k]? = some x) : visL l la s L (k + 1) = if seenTo l la s x 2 then visL l la s L k ++ [(k : Int)] else visL l la s L k := by
  rw [visL, List.getD_eq_getElem?_getD, h]; rfl
/-- what VisibleLines answers -/
def visO (nm : ByteArray) (L : List (List Int)) (l : List Sta) (tn : List UInt8) (lo la s : Int) : List Int × Int := if vFig nm L l && vSite tn lo la then (if inB s 0 359999 then (visL l la s L L.length, 0) else ([], 2)) else ([], 1)
theorem visO_no {nm : ByteArray} {L : List (List Int)} {l : List Sta} {tn : List UInt8} {lo la s : Int} (h : vFig nm L l = false) : visO nm L l tn lo la s = ([], 1) := by simp [visO, h]
theorem visO_no2 {nm : ByteArray} {L : List (List Int)} {l : List Sta} {tn : List UInt8} {lo la s : Int} (h : vSite tn lo la = false) : visO nm L l tn lo la s = ([], 1) := by simp [visO, h]
theorem visO_turn {nm : ByteArray} {L : List (List Int)} {l : List Sta} {tn : List UInt8} {lo la s : Int} (h : vFig nm L l = true) (h2 : vSite tn lo la = true) (h3 : inB s 0 359999 = false) : visO nm L l tn lo la s = ([], 2) := by simp [visO, h, h2, h3]
theorem visO_yes {nm : ByteArray} {L : List (List Int)} {l : List Sta} {tn : List UInt8} {lo la s : Int} (h : vFig nm L l = true) (h2 : vSite tn lo la = true) (h3 : inB s 0 359999 = true) : visO nm L l tn lo la s = (visL l la s L L.length, 0) := by simp [visO, h, h2, h3]
theorem visO_len (nm : ByteArray) (L : List (List Int)) (l : List Sta) (tn : List UInt8) (lo la s : Int) : (visO nm L l tn lo la s).1.length ≤ 32 := by
  unfold visO
  split
  · next h =>
    simp only [Bool.and_eq_true] at h
    have := vLines_len (vFig_lines h.1)
    split
    · have := visL_len l la s L L.length; simp only; omega
    · simp
  · simp
end Go.Proofs.YtbpjnopnhmoigaaDoor
