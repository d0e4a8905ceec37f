/- Plain functions: the centre of a figure. Nothing of the program is named here. -/
import Derived.Test.YtbpjnopnhmoigaaDoorFigSpan
import Derived.Test.YtbpjnopnhmoigaaDoorGrpPure
namespace Go.Proofs.YtbpjnopnhmoigaaDoor
set_option linter.unusedVariables false
set_option linter.unusedSimpArgs false
/-- the direction of the star at a place -/
def dirAt (l : List Sta) (i : Nat) : V3 := match l[i]? with
  | some x => x.dir
  | none => ⟨0, 0, 0⟩
theorem dirAt_at {l : List Sta} {i : Nat} {x : Sta} (h : l[i]? = some x) : dirAt l i = x.dir := by rw [dirAt, h]
theorem dirAt_sm (l : List Sta) (i : Nat) : (dirAt l i).sm := by
  unfold dirAt
  split
  · exact dirV_sm _ _
  · exact ⟨by decide, by decide, by decide⟩
/-- the sums of the first directions -/
def cenX (l : List Sta) (E : List Int) : Nat → Int
  | 0 => 0
  | k + 1 => cenX l E k + (dirAt l (gt E k).toNat).x
def cenY (l : List Sta) (E : List Int) : Nat → Int
  | 0 => 0
  | k + 1 => cenY l E k + (dirAt l (gt E k).toNat).y
def cenZ (l : List Sta) (E : List Int) : Nat → Int
  | 0 => 0
  | k + 1 => cenZ l E k + (dirAt l (gt E k).toNat).z
theorem cen_bd (l : List Sta) (E : List Int) (k : Nat) : (-1000000 * (k : Int) ≤ cenX l E k ∧ cenX l E k ≤ 1000000 * k) ∧ (-1000000 * (k : Int) ≤ cenY l E k ∧ cenY l E k ≤ 1000000 * k) ∧ (-1000000 * (k : Int) ≤ cenZ l E k ∧ cenZ l E k ≤ 1000000 * k) := by
  induction k with
  | zero => simp [cenX, cenY, cenZ]
  | succ k ih =>
    obtain ⟨h1, h2, h3⟩ := dirAt_sm l (gt E k).toNat
    rw [cenX, cenY, cenZ]
    refine ⟨⟨?_, ?_⟩, ⟨?_, ?_⟩, ?_, ?_⟩ <;> omega
theorem cen_at {l : List Sta} {E : List Int} {k u : Nat} {x : Sta} (hk : E[k]? = some (u : Int)) (hx : l[u]? = some x) : cenX l E (k + 1) = cenX l E k + x.dir.x ∧ cenY l E (k + 1) = cenY l E k + x.dir.y ∧ cenZ l E (k + 1) = cenZ l E k + x.dir.z := by
  rw [cenX, cenY, cenZ, gt_at hk, Int.toNat_natCast, dirAt_at hx]
  exact ⟨rfl, rfl, rfl⟩
/-- their mean -/
def meanV (l : List Sta) (E : List Int) : V3 := ⟨rnd (cenX l E E.length) E.length, rnd (cenY l E E.length) E.length, rnd (cenZ l E E.length) E.length⟩
theorem meanV_sm {l : List Sta} {E : List Int} (h : 0 < E.length) : (meanV l E).sm := by
  obtain ⟨h1, h2, h3⟩ := cen_bd l E E.length
  exact ⟨rnd_between _ _ _ _ (by omega) (by omega) (by omega), rnd_between _ _ _ _ (by omega) (by omega) (by omega), rnd_between _ _ _ _ (by omega) (by omega) (by omega)⟩
/-- what FigureCentre answers -/
def centO (nm : ByteArray) (L : List (List Int)) (l : List Sta) : Int × Int × Int := if vFig nm L l then (if (setI (endsL L)).length = 0 then (0, 0, 6) else anglesO (meanV l (setI (endsL L)))) else (0, 0, 1)
theorem centO_no {nm : ByteArray} {L : List (List Int)} {l : List Sta} (h : vFig nm L l = false) : centO nm L l = (0, 0, 1) := by simp [centO, h]
theorem centO_none {nm : ByteArray} {L : List (List Int)} {l : List Sta} (h : vFig nm L l = true) (h2 : (setI (endsL L)).length = 0) : centO nm L l = (0, 0, 6) := by rw [centO, if_pos h, if_pos h2]
theorem centO_yes {nm : ByteArray} {L : List (List Int)} {l : List Sta} (h : vFig nm L l = true) (h2 : ¬ (setI (endsL L)).length = 0) : centO nm L l = anglesO (meanV l (setI (endsL L))) := by rw [centO, if_pos h, if_neg h2]
end Go.Proofs.YtbpjnopnhmoigaaDoor
