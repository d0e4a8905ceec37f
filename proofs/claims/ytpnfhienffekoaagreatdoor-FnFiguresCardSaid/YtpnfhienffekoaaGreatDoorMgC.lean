/- PlainParts, PlainVis, PlainFg, PlainBack, PlainCent, PlainFg2, in one text. -/
import Derived.Test.YtpnfhienffekoaaGreatDoorGrpList
import Derived.Test.YtpnfhienffekoaaGreatDoorMgM
import Derived.Test.YtpnfhienffekoaaGreatDoorMgI
import Derived.Test.YtpnfhienffekoaaGreatDoorGrpFigs
import Derived.Test.YtpnfhienffekoaaGreatDoorBright
import Derived.Test.YtpnfhienffekoaaGreatDoorMgA
import Derived.Test.YtpnfhienffekoaaGreatDoorMgH
import Derived.Test.YtpnfhienffekoaaGreatDoorGrpPure
import Derived.Test.YtpnfhienffekoaaGreatDoorReadF
namespace Go.Proofs.YtpnfhienffekoaaGreatDoor
set_option linter.unusedVariables false
set_option linter.unusedSimpArgs false
/-- one part joined to another -/
def joinF (old own x : Int) : Int := if x = old then own else x
def mapK (f : Int → Int) (l : List Int) (k : Nat) : List Int := (l.take k).map f ++ l.drop k
theorem mapK_zero (f : Int → Int) (l : List Int) : mapK f l 0 = l := by simp [mapK]
theorem mapK_length (f : Int → Int) (l : List Int) (k : Nat) : (mapK f l k).length = l.length := by
  simp only [mapK, List.length_append, List.length_map, List.length_take, List.length_drop]; omega
theorem mapK_at (f : Int → Int) (l : List Int) (k : Nat) : (mapK f l k)[k]? = l[k]? := by
  by_cases h : k ≤ l.length
  · rw [mapK, List.getElem?_append_right (by simp; omega), List.getElem?_drop]
    congr 1; simp; omega
  · rw [List.getElem?_eq_none (by rw [mapK_length]; omega), List.getElem?_eq_none (by omega)]
theorem mapK_succ {f : Int → Int} {l : List Int} {k : Nat} {x : Int} (h : l[k]? = some x) : mapK f l (k + 1) = (mapK f l k).set k (f x) := by
  have hk : k < l.length := (List.getElem?_eq_some_iff.1 h).1
  have hd : l.drop k = x :: l.drop (k + 1) := by
    rw [List.drop_eq_getElem_cons hk, (List.getElem?_eq_some_iff.1 h).2]
  rw [mapK, mapK, List.take_add_one, h, hd, List.set_append_right _ _ (by simp; omega)]
  simp [Nat.min_eq_left (Nat.le_of_lt hk)]
theorem mapK_same {f : Int → Int} {l : List Int} {k : Nat} {x : Int} (h : l[k]? = some x) (hf : f x = x) : mapK f l (k + 1) = mapK f l k := by
  rw [mapK_succ h, hf]
  apply List.ext_getElem?
  intro i
  by_cases e : k = i
  · subst e
    rw [List.getElem?_set_self (by rw [mapK_length]; exact (List.getElem?_eq_some_iff.1 h).1), mapK_at, h]
  · rw [List.getElem?_set_ne e]
theorem mapK_end {f : Int → Int} {l : List Int} {k : Nat} (h : l.length ≤ k) : mapK f l k = l.map f := by
  rw [mapK, List.take_of_length_le h, List.drop_eq_nil_of_le h, List.append_nil]
def joinP (part line : List Int) : List Int := part.map (joinF (gt part (line.getD 1 0).toNat) (gt part (line.getD 0 0).toNat))
theorem joinP_length (part line : List Int) : (joinP part line).length = part.length := by simp [joinP]
theorem joinP_two (part : List Int) (a b : Nat) : joinP part [(a : Int), (b : Int)] = part.map (joinF (gt part b) (gt part a)) := by simp [joinP]
/-- the parts that the stars belong to behind the lines -/
def partsF (part : List Int) (L : List (List Int)) : List Int := L.foldl joinP part
theorem partsF_length (L : List (List Int)) : ∀ part : List Int, (partsF part L).length = part.length := by
  induction L with
  | nil => intro part; rfl
  | cons x L ih => intro part; show (partsF (joinP part x) L).length = _; rw [ih, joinP_length]
theorem partsF_take {L : List (List Int)} {k : Nat} {x : List Int} (part : List Int) (h : L[k]? = some x) : partsF part (L.take (k + 1)) = joinP (partsF part (L.take k)) x := by
  rw [List.take_add_one, h]; simp [partsF, List.foldl_append]
/-- the kinds that occur, in the order in which they are met -/
def dedI (l : List Int) : List Int := l.foldl (fun o x => if hasI o x then o else o ++ [x]) []
theorem dedI_snoc (l : List Int) (x : Int) : dedI (l ++ [x]) = if hasI (dedI l) x then dedI l else dedI l ++ [x] := by
  rw [dedI, List.foldl_append]; rfl
theorem ded_fold (l : List Int) : ∀ o : List Int, o.Nodup → (l.foldl (fun o x => if hasI o x then o else o ++ [x]) o).Nodup ∧ ∀ x, x ∈ l.foldl (fun o x => if hasI o x then o else o ++ [x]) o ↔ x ∈ l ∨ x ∈ o := by
  induction l with
  | nil => intro o h; exact ⟨h, fun x => by simp⟩
  | cons y l ih =>
    intro o h
    rw [List.foldl_cons]
    by_cases hy : hasI o y = true
    · rw [if_pos hy]
      obtain ⟨a, b⟩ := ih o h
      refine ⟨a, fun x => ?_⟩
      rw [b, List.mem_cons]
      constructor
      · rintro (h1 | h1)
        · exact .inl (.inr h1)
        · exact .inr h1
      · rintro ((h1 | h1) | h1)
        · exact .inr (h1 ▸ hasI_iff.1 hy)
        · exact .inl h1
        · exact .inr h1
    · rw [if_neg hy]
      have hn : y ∉ o := fun hm => hy (hasI_iff.2 hm)
      obtain ⟨a, b⟩ := ih (o ++ [y]) (by
        rw [List.nodup_append]
        exact ⟨h, by simp, fun u hu v hv => by rw [List.mem_singleton] at hv; rw [hv]; exact fun e => hn (e ▸ hu)⟩)
      refine ⟨a, fun x => ?_⟩
      rw [b, List.mem_cons, List.mem_append, List.mem_singleton]
      constructor
      · rintro (h1 | h1 | h1)
        · exact .inl (.inr h1)
        · exact .inr h1
        · exact .inl (.inl h1)
      · rintro ((h1 | h1) | h1)
        · exact .inr (.inr h1)
        · exact .inl h1
        · exact .inr (.inl h1)
theorem dedI_length (l : List Int) : (dedI l).length = (setI l).length := by
  obtain ⟨a, b⟩ := ded_fold l [] .nil
  exact ((List.perm_ext_iff_of_nodup a (rise_nodup (setI_rise l))).2 (fun x => by rw [b, setI_mem]; simp)).length_eq
theorem dedI_le (l : List Int) : (dedI l).length ≤ l.length := by rw [dedI_length]; exact setI_len l
/-- the kinds of the stars that are used -/
def kindsL (part used : List Int) : List Int := used.map fun i => gt part i.toNat
theorem kindsL_take {part used : List Int} {k : Nat} {i : Nat} (h : used[k]? = some (i : Int)) : kindsL part (used.take (k + 1)) = kindsL part (used.take k) ++ [gt part i] := by
  rw [List.take_add_one, h]; simp [kindsL]
/-- what FigureParts answers -/
def partO (nm : ByteArray) (L : List (List Int)) (l : List Sta) (start : List Int) : Int × Int := if vFig nm L l then (((setI (kindsL (partsF start L) (setI (endsL L)))).length : Int), 0) else (0, 1)
theorem partO_no {nm : ByteArray} {L : List (List Int)} {l : List Sta} {s : List Int} (h : vFig nm L l = false) : partO nm L l s = (0, 1) := by simp [partO, h]
theorem partO_yes {nm : ByteArray} {L : List (List Int)} {l : List Sta} {s : List Int} (h : vFig nm L l = true) : partO nm L l s = (((setI (kindsL (partsF s L) (setI (endsL L)))).length : Int), 0) := by simp [partO, h]
end Go.Proofs.YtpnfhienffekoaaGreatDoor
namespace Go.Proofs.YtpnfhienffekoaaGreatDoor
set_option linter.unusedVariables false
set_option linter.unusedSimpArgs false
/-- the altitude of the star at a place -/
def altAt (l : List Sta) (la s i : Int) : Int := match l[i.toNat]? with
  | some x => altI la s x
  | none => -1
theorem altAt_at {l : List Sta} {la s : Int} {i : Nat} {x : Sta} (h : l[i]? = some x) : altAt l la s (i : Int) = altI la s x := by simp [altAt, h]
/-- are the first stars of a line to be seen -/
def seenTo (l : List Sta) (la s : Int) (line : List Int) : Nat → Bool
  | 0 => true
  | j + 1 => seenTo l la s line j && decide (0 ≤ altAt l la s (line.getD j 0))
/-- the lines among the first ones that can be seen -/
def visL (l : List Sta) (la s : Int) (L : List (List Int)) : Nat → List Int
  | 0 => []
  | k + 1 => if seenTo l la s (L.getD k []) 2 then visL l la s L k ++ [(k : Int)] else visL l la s L k
theorem visL_len (l : List Sta) (la s : Int) (L : List (List Int)) (k : Nat) : (visL l la s L k).length ≤ k := by
  induction k with
  | zero => simp [visL]
  | succ k ih =>
    rw [visL]
    split
    · rw [List.length_append, List.length_singleton]; omega
    · omega
theorem visL_at {l : List Sta} {la s : Int} {L : List (List Int)} {k : Nat} {x : List Int} (h : L[k]? = some x) : visL l la s L (k + 1) = if seenTo l la s x 2 then visL l la s L k ++ [(k : Int)] else visL l la s L k := by
  rw [visL, List.getD_eq_getElem?_getD, h]; rfl
/-- what VisibleLines answers -/
def visO (nm : ByteArray) (L : List (List Int)) (l : List Sta) (tn : List UInt8) (lo la s : Int) : List Int × Int := if vFig nm L l && vSite tn lo la then (if inB s 0 359999 then (visL l la s L L.length, 0) else ([], 2)) else ([], 1)
theorem visO_no {nm : ByteArray} {L : List (List Int)} {l : List Sta} {tn : List UInt8} {lo la s : Int} (h : vFig nm L l = false) : visO nm L l tn lo la s = ([], 1) := by simp [visO, h]
theorem visO_no2 {nm : ByteArray} {L : List (List Int)} {l : List Sta} {tn : List UInt8} {lo la s : Int} (h : vSite tn lo la = false) : visO nm L l tn lo la s = ([], 1) := by simp [visO, h]
theorem visO_turn {nm : ByteArray} {L : List (List Int)} {l : List Sta} {tn : List UInt8} {lo la s : Int} (h : vFig nm L l = true) (h2 : vSite tn lo la = true) (h3 : inB s 0 359999 = false) : visO nm L l tn lo la s = ([], 2) := by simp [visO, h, h2, h3]
theorem visO_yes {nm : ByteArray} {L : List (List Int)} {l : List Sta} {tn : List UInt8} {lo la s : Int} (h : vFig nm L l = true) (h2 : vSite tn lo la = true) (h3 : inB s 0 359999 = true) : visO nm L l tn lo la s = (visL l la s L L.length, 0) := by simp [visO, h, h2, h3]
theorem visO_len (nm : ByteArray) (L : List (List Int)) (l : List Sta) (tn : List UInt8) (lo la s : Int) : (visO nm L l tn lo la s).1.length ≤ 32 := by
  unfold visO
  split
  · next h =>
    simp only [Bool.and_eq_true] at h
    have := vLines_len (vFig_lines h.1)
    split
    · have := visL_len l la s L L.length; simp only; omega
    · simp
  · simp
end Go.Proofs.YtpnfhienffekoaaGreatDoor
namespace Go.Proofs.YtpnfhienffekoaaGreatDoor
set_option linter.unusedVariables false
set_option linter.unusedSimpArgs false
def endA (x : List Int) : Nat := (x.getD 0 0).toNat
def endB (x : List Int) : Nat := (x.getD 1 0).toNat
/-- the weight of a part: its lines' lengths, and a little for each -/
def wt (g : List Int → Int) (P : List Int) (c : Int) : List (List Int) → Int
  | [] => 0
  | x :: L => (if gt P (endA x) = c then g x + 40 else 0) + wt g P c L
theorem wt_nn {g : List Int → Int} (hg : ∀ x, 0 ≤ g x) (P : List Int) (c : Int) : ∀ L, 0 ≤ wt g P c L
  | [] => by simp [wt]
  | x :: L => by
    have := wt_nn hg P c L
    have := hg x
    rw [wt]; split <;> omega
theorem wt_append (g : List Int → Int) (P : List Int) (c : Int) (x : List Int) : ∀ L, wt g P c (L ++ [x]) = wt g P c L + (if gt P (endA x) = c then g x + 40 else 0)
  | [] => by simp [wt]
  | y :: L => by
    rw [List.cons_append, wt, wt, wt_append g P c x L]; omega
theorem gt_map {f : Int → Int} {P : List Int} {i : Nat} (h : i < P.length) : gt (P.map f) i = f (gt P i) := by
  simp [gt, List.getD, h]
theorem wt_join {g : List Int → Int} {P : List Int} {own old : Int} (hne : own ≠ old) : ∀ L : List (List Int), (∀ x ∈ L, endA x < P.length) → wt g (P.map (joinF old own)) own L = wt g P own L + wt g P old L
  | [], _ => by simp [wt]
  | x :: L, h => by
    have ih := wt_join (g := g) (P := P) hne L (fun y hy => h y (by simp [hy]))
    rw [wt, wt, wt, ih, gt_map (h x (by simp)), joinF]
    by_cases h1 : gt P (endA x) = old
    · rw [if_pos h1, if_pos rfl, if_neg (by omega), if_pos h1]; omega
    · rw [if_neg h1, if_neg h1]; omega
theorem wt_other {g : List Int → Int} {P : List Int} {own old c : Int} (h1 : c ≠ own) (h2 : c ≠ old) : ∀ L : List (List Int), (∀ x ∈ L, endA x < P.length) → wt g (P.map (joinF old own)) c L = wt g P c L
  | [], _ => by simp [wt]
  | x :: L, h => by
    have ih := wt_other (g := g) (P := P) h1 h2 L (fun y hy => h y (by simp [hy]))
    rw [wt, wt, ih, gt_map (h x (by simp)), joinF]
    by_cases h3 : gt P (endA x) = old
    · rw [if_pos h3, if_neg (by omega), if_neg (by omega)]
    · rw [if_neg h3]
theorem join_id (old : Int) (P : List Int) : P.map (joinF old old) = P := by
  have : joinF old old = id := by funext x; unfold joinF; split <;> simp_all
  rw [this, List.map_id]
/-- what holds behind some lines -/
def GapInv (G : Nat → Nat → Int) (g : List Int → Int) (P : List Int) (L : List (List Int)) : Prop :=
  ∀ i k, i < P.length → k < P.length → gt P i = gt P k → i ≠ k → G i k ≤ wt g P (gt P i) L
theorem gap_step {G : Nat → Nat → Int} {g : List Int → Int} {P : List Int} {L : List (List Int)} {x : List Int} (hg : ∀ x, 0 ≤ g x) (hx : g x = G (endA x) (endB x))
    (hsym : ∀ i k, G i k = G k i) (htri : ∀ i j k, i < P.length → j < P.length → k < P.length → G i k ≤ G i j + G j k + 20)
    (ha : endA x < P.length) (hb : endB x < P.length) (hL : ∀ y ∈ L, endA y < P.length) (h : GapInv G g P L) : GapInv G g (P.map (joinF (gt P (endB x)) (gt P (endA x)))) (L ++ [x]) := by
  intro i k hi hk he hik
  rw [List.length_map] at hi hk
  rw [gt_map hi, gt_map hk] at he
  rw [gt_map hi, wt_append, gt_map ha]
  have gx := hg x
  by_cases hne : gt P (endA x) = gt P (endB x)
  · rw [hne] at he ⊢
    rw [join_id]
    have e1 : ∀ y, joinF (gt P (endB x)) (gt P (endB x)) y = y := fun y => by unfold joinF; split <;> simp_all
    rw [e1, e1] at he
    rw [e1, e1]
    have := h i k hi hk he hik
    split <;> omega
  · have eo : joinF (gt P (endB x)) (gt P (endA x)) (gt P (endA x)) = gt P (endA x) := by unfold joinF; rw [if_neg hne]
    rw [eo]
    by_cases hc : joinF (gt P (endB x)) (gt P (endA x)) (gt P i) = gt P (endA x)
    · rw [hc, if_pos rfl, wt_join hne L hL]
      rw [hc] at he
      have n1 := wt_nn hg P (gt P (endA x)) L
      have n2 := wt_nn hg P (gt P (endB x)) L
      have two : ∀ j, joinF (gt P (endB x)) (gt P (endA x)) (gt P j) = gt P (endA x) → gt P j = gt P (endA x) ∨ gt P j = gt P (endB x) := fun j hj => by
        unfold joinF at hj
        by_cases h1 : gt P j = gt P (endB x)
        · exact .inr h1
        · rw [if_neg h1] at hj; exact .inl hj
      have cross : ∀ u v, u < P.length → v < P.length → gt P u = gt P (endA x) → gt P v = gt P (endB x) → G u v ≤ wt g P (gt P (endA x)) L + wt g P (gt P (endB x)) L + (g x + 40) := fun u v hu hv e1 e2 => by
        by_cases hua : u = endA x
        · by_cases hvb : v = endB x
          · rw [hua, hvb]; omega
          · have t1 := htri u (endB x) v hu hb hv
            have t2 := h (endB x) v hb hv e2.symm (Ne.symm hvb)
            rw [hua] at t1 ⊢
            omega
        · by_cases hvb : v = endB x
          · have t1 := htri u (endA x) v hu ha hv
            have t2 := h u (endA x) hu ha e1 hua
            rw [hvb] at t1 ⊢
            rw [e1] at t2
            omega
          · have t1 := htri u (endA x) v hu ha hv
            have t2 := h u (endA x) hu ha e1 hua
            have t3 := htri (endA x) (endB x) v ha hb hv
            have t4 := h (endB x) v hb hv e2.symm (Ne.symm hvb)
            rw [e1] at t2
            omega
      rcases two i hc with e1 | e1
      · rcases two k he.symm with e2 | e2
        · have := h i k hi hk (e1.trans e2.symm) hik
          rw [e1] at this; omega
        · exact (show _ from by have := cross i k hi hk e1 e2; omega)
      · rcases two k he.symm with e2 | e2
        · have := cross k i hk hi e2 e1
          rw [hsym]; omega
        · have := h i k hi hk (e1.trans e2.symm) hik
          rw [e1] at this; omega
    · rw [if_neg (fun e => hc e.symm)]
      have ei : ∀ j, joinF (gt P (endB x)) (gt P (endA x)) (gt P j) ≠ gt P (endA x) → gt P j ≠ gt P (endB x) ∧ joinF (gt P (endB x)) (gt P (endA x)) (gt P j) = gt P j := fun j hj => by
        unfold joinF at hj ⊢
        by_cases h1 : gt P j = gt P (endB x)
        · rw [if_pos h1] at hj; exact absurd rfl hj
        · rw [if_neg h1] at hj ⊢; exact ⟨h1, rfl⟩
      obtain ⟨a1, a2⟩ := ei i hc
      obtain ⟨b1, b2⟩ := ei k (by rw [← he]; exact hc)
      rw [a2, b2] at he
      rw [a2] at hc
      rw [a2, wt_other hc a1 L hL]
      have := h i k hi hk he hik
      omega
/-- the same for stars -/
theorem gapL_sym (l : List Sta) (i k : Nat) : gapL l i k = gapL l k i := by
  unfold gapL
  cases l[i]? <;> cases l[k]? <;> simp [farI_swap]
theorem gapL_tri {l : List Sta} {i j k : Nat} (hi : i < l.length) (hj : j < l.length) (hk : k < l.length) : gapL l i k ≤ gapL l i j + gapL l j k + 20 := by
  rw [gapL_at (List.getElem?_eq_getElem hi) (List.getElem?_eq_getElem hk), gapL_at (List.getElem?_eq_getElem hi) (List.getElem?_eq_getElem hj), gapL_at (List.getElem?_eq_getElem hj) (List.getElem?_eq_getElem hk)]
  have := sep_tri (a := l[i].dir) (b := l[j].dir) (c := l[k].dir) (dir_unit _ _) (dir_unit _ _) (dir_unit _ _)
  unfold farI
  omega
def gapX (l : List Sta) (x : List Int) : Int := gapL l (endA x) (endB x)
theorem line_ends {n : Int} {L : List (List Int)} (h : vLines n L = true) {x : List Int} (hx : x ∈ L) : (endA x : Int) < n ∧ (endB x : Int) < n ∧ ((endA x : Nat) : Int) ∈ endsL L ∧ endsL L ≠ [] := by
  obtain ⟨k, hk⟩ := List.getElem?_of_mem hx
  obtain ⟨a, b, rfl, h0, h1, h2⟩ := lineOk_two (vLines_ok h hk)
  have e1 : endA [a, b] = a.toNat := rfl
  have e2 : endB [a, b] = b.toNat := rfl
  have hm : a ∈ endsL L := List.mem_flatten.2 ⟨_, hx, by simp⟩
  refine ⟨by rw [e1]; omega, by rw [e2]; omega, by rw [e1, show ((a.toNat : Nat) : Int) = a by omega]; exact hm, fun e => by rw [e] at hm; cases hm⟩
theorem gap_all {l : List Sta} {L : List (List Int)} (h : vLines l.length L = true) : ∀ k, k ≤ L.length → GapInv (gapL l) (gapX l) (partsF (upFrom 0 l.length) (L.take k)) (L.take k)
  | 0, _ => fun i k hi hk he hik => by
    have e : partsF (upFrom 0 l.length) (L.take 0) = upFrom 0 l.length := rfl
    rw [e] at hi hk he ⊢
    rw [upFrom_length] at hi hk
    rw [gt_upFrom hi, gt_upFrom hk] at he
    omega
  | k + 1, hk => by
    have ih := gap_all h k (by omega)
    have hx : L[k]? = some L[k] := List.getElem?_eq_getElem (by omega)
    generalize L[k] = x at hx
    have hlen : (partsF (upFrom 0 l.length) (L.take k)).length = l.length := by rw [partsF_length, upFrom_length]
    rw [partsF_take _ hx, List.take_add_one, hx]
    obtain ⟨a1, a2, _⟩ := line_ends h (List.mem_of_getElem? hx)
    refine gap_step (G := gapL l) (g := gapX l) (x := x) (fun y => (gapL_bd _ _ _).1) rfl (gapL_sym l) (fun i j m hi hj hm => gapL_tri (by omega) (by omega) (by omega)) (by omega) (by omega) (fun y hy => ?_) ih
    have := line_ends h (List.mem_of_mem_take hy)
    omega
theorem setI_one {l : List Int} (h : (setI l).length = 1) {x y : Int} (hx : x ∈ l) (hy : y ∈ l) : x = y := by
  have h1 := (setI_mem l x).2 hx
  have h2 := (setI_mem l y).2 hy
  match e : setI l, h with
  | [z], _ =>
    rw [e, List.mem_singleton] at h1 h2
    rw [h1, h2]
theorem wt_sum {l : List Sta} {P : List Int} {c : Int} {L : List (List Int)} (h : ∀ x ∈ L, gt P (endA x) = c) : ∀ k, k ≤ L.length → wt (gapX l) P c (L.take k) = lenSum l L k + 40 * k
  | 0, _ => by simp [wt, lenSum]
  | k + 1, hk => by
    have ih := wt_sum (l := l) h k (by omega)
    have hx : L[k]? = some L[k] := List.getElem?_eq_getElem (by omega)
    generalize L[k] = x at hx
    have e : L.getD k [] = x := by rw [List.getD_eq_getElem?_getD, hx]; rfl
    rw [List.take_add_one, hx]
    show wt (gapX l) P c (L.take k ++ [x]) = _
    rw [wt_append, ih, if_pos (h x (List.mem_of_getElem? hx)), lenSum, e]
    show _ + (gapL l (x.getD 0 0).toNat (x.getD 1 0).toNat + 40) = _
    omega
theorem spanIn_le {l : List Sta} {E : List Int} {i : Nat} {M : Int} (h : ∀ k, k < i → gapL l (gt E i).toNat (gt E k).toNat ≤ M) : ∀ k m, k ≤ i → m ≤ M → spanIn l E i k m ≤ M
  | 0, m, _, hm => hm
  | k + 1, m, hk, hm => by
    have h1 := spanIn_le h k m (by omega) hm
    have h2 := h k (by omega)
    rw [spanIn]
    unfold maxI
    split <;> omega
theorem spanUp_le {l : List Sta} {E : List Int} {M : Int} (h0 : 0 ≤ M) : ∀ n, (∀ i k, i < n → k < i → gapL l (gt E i).toNat (gt E k).toNat ≤ M) → spanUp l E n ≤ M
  | 0, _ => h0
  | n + 1, h => spanIn_le (fun k hk => h n k (by omega) hk) n _ (by omega) (spanUp_le h0 n (fun i k hi hk => h i k (by omega) hk))
/-- a figure of one part has no greater span than length -/
theorem span_le {nm : ByteArray} {L : List (List Int)} {l : List Sta} (h : vFig nm L l = true) (h1 : (partO nm L l (upFrom 0 l.length)).1 = 1) : (spanO nm L l).1 ≤ (flenO nm L l).1 + 40 * (L.length : Int) := by
  have hv := vFig_lines h
  rw [partO_yes h] at h1
  rw [spanO_yes h, flenO_yes h]
  dsimp only at *
  have hinv := gap_all hv L.length (Nat.le_refl _)
  rw [List.take_length] at hinv
  generalize hP : partsF (upFrom 0 l.length) L = P at *
  have hlen : P.length = l.length := by rw [← hP, partsF_length, upFrom_length]
  have hk : ∀ {x y : Int}, x ∈ endsL L → y ∈ endsL L → gt P x.toNat = gt P y.toNat := fun hx hy => by
    refine setI_one (l := kindsL P (setI (endsL L))) (by omega) ?_ ?_
    · exact List.mem_map.2 ⟨_, (setI_mem _ _).2 hx, rfl⟩
    · exact List.mem_map.2 ⟨_, (setI_mem _ _).2 hy, rfl⟩
  have hls := lenSum_bd l L L.length
  refine spanUp_le (by omega) _ (fun i k hi hik => ?_)
  have hmi : gt (setI (endsL L)) i ∈ endsL L := (setI_mem _ _).1 (by
    have := List.getElem?_eq_getElem (l := setI (endsL L)) (i := i) hi
    rw [gt_at this]; exact List.getElem_mem _)
  have hmk : gt (setI (endsL L)) k ∈ endsL L := (setI_mem _ _).1 (by
    have := List.getElem?_eq_getElem (l := setI (endsL L)) (i := k) (by omega)
    rw [gt_at this]; exact List.getElem_mem _)
  have hlt : gt (setI (endsL L)) k < gt (setI (endsL L)) i := by
    have hr := List.pairwise_iff_getElem.1 (setI_rise (endsL L)) k i (by omega) hi hik
    rw [gt_at (List.getElem?_eq_getElem (l := setI (endsL L)) (i := i) hi), gt_at (List.getElem?_eq_getElem (l := setI (endsL L)) (i := k) (by omega))]
    exact hr
  have b1 := endsL_bd hv hmi
  have b2 := endsL_bd hv hmk
  have hg := hinv (gt (setI (endsL L)) i).toNat (gt (setI (endsL L)) k).toNat (by omega) (by omega) (hk hmi hmk) (by omega)
  have hw := wt_sum (l := l) (P := P) (c := gt P (gt (setI (endsL L)) i).toNat) (L := L) (fun x hx => by
    obtain ⟨_, _, hm, _⟩ := line_ends hv hx
    have := hk hm hmi
    rwa [Int.toNat_natCast] at this) L.length (Nat.le_refl _)
  rw [List.take_length] at hw
  omega
theorem parts_le {nm : ByteArray} {L : List (List Int)} {l : List Sta} (h : vFig nm L l = true) : 0 ≤ (partO nm L l (upFrom 0 l.length)).1 ∧ (partO nm L l (upFrom 0 l.length)).1 ≤ ((setI (endsL L)).length : Int) := by
  rw [partO_yes h]
  have := setI_len (kindsL (partsF (upFrom 0 l.length) L) (setI (endsL L)))
  have e : (kindsL (partsF (upFrom 0 l.length) L) (setI (endsL L))).length = (setI (endsL L)).length := by simp [kindsL]
  dsimp only
  omega
theorem parts_zero {nm : ByteArray} {L : List (List Int)} {l : List Sta} (h : vFig nm L l = true) : (partO nm L l (upFrom 0 l.length)).1 = 0 ↔ L.length = 0 := by
  rw [partO_yes h]
  dsimp only
  constructor
  · intro h0
    rcases Nat.eq_zero_or_pos L.length with e | e
    · exact e
    · exfalso
      have hx : L[0]? = some L[0] := List.getElem?_eq_getElem e
      obtain ⟨_, _, hm, _⟩ := line_ends (vFig_lines h) (List.mem_of_getElem? hx)
      have h1 : gt (partsF (upFrom 0 l.length) L) ((endA L[0] : Nat) : Int).toNat ∈ setI (kindsL (partsF (upFrom 0 l.length) L) (setI (endsL L))) := (setI_mem _ _).2 (List.mem_map.2 ⟨_, (setI_mem _ _).2 hm, rfl⟩)
      have h2 : setI (kindsL (partsF (upFrom 0 l.length) L) (setI (endsL L))) = [] := List.eq_nil_of_length_eq_zero (by omega)
      rw [h2] at h1
      cases h1
  · intro h0
    have e : L = [] := List.eq_nil_of_length_eq_zero h0
    subst e
    rfl
/-- the stars of a figure rise -/
theorem used_rise {nm : ByteArray} {L : List (List Int)} {l : List Sta} (h : vFig nm L l = true) {k : Nat} {x : Int} (hx : (setI (endsL L))[k]? = some x) : (0 ≤ x ∧ x < l.length) ∧ (∀ y, (setI (endsL L))[k + 1]? = some y → x < y) := by
  refine ⟨endsL_bd (vFig_lines h) ((setI_mem _ _).1 (List.mem_of_getElem? hx)), fun y hy => ?_⟩
  obtain ⟨h1, e1⟩ := List.getElem?_eq_some_iff.1 hx
  obtain ⟨h2, e2⟩ := List.getElem?_eq_some_iff.1 hy
  have hr := List.pairwise_iff_getElem.1 (setI_rise (endsL L)) k (k + 1) h1 h2 (by omega)
  rw [e1, e2] at hr
  exact hr
theorem visL_rise (l : List Sta) (la s : Int) (L : List (List Int)) : ∀ k, (visL l la s L k).Pairwise (· < ·) ∧ ∀ x ∈ visL l la s L k, 0 ≤ x ∧ x < k
  | 0 => by simp [visL]
  | k + 1 => by
    obtain ⟨h1, h2⟩ := visL_rise l la s L k
    rw [visL]
    split
    · refine ⟨?_, fun x hx => ?_⟩
      · rw [List.pairwise_append]
        exact ⟨h1, by simp, fun x hx y hy => by have := h2 x hx; rw [List.mem_singleton] at hy; omega⟩
      · rcases List.mem_append.1 hx with hx | hx
        · have := h2 x hx; omega
        · rw [List.mem_singleton] at hx; omega
    · exact ⟨h1, fun x hx => by have := h2 x hx; omega⟩
end Go.Proofs.YtpnfhienffekoaaGreatDoor
namespace Go.Proofs.YtpnfhienffekoaaGreatDoor
set_option linter.unusedVariables false
set_option linter.unusedSimpArgs false
theorem lat_sc (v : V3) : cosI (latI v) = cosI (latR v) ∧ sinI (latI v) = sinI (latR v) := by
  unfold latI
  split
  · have h1 := cosI_turn (latR v) (-1)
    have h2 := sinI_turn (latR v) (-1)
    rw [show latR v + 360000 * -1 = latR v - 360000 by omega] at h1 h2
    exact ⟨h1, h2⟩
  · exact ⟨rfl, rfl⟩
theorem lat_bd (v : V3) : -90000 ≤ latI v ∧ latI v ≤ 90000 := by
  have hf : 0 ≤ flatI v := rootI_nonneg _
  have hb := arcB_bd (absI v.z) (absI (flatI v))
  have e : latR v = arcB (absI v.z) (absI (flatI v)) ∨ latR v = nrm (-arcB (absI v.z) (absI (flatI v))) := by
    unfold latR arcI
    by_cases hz : 0 ≤ v.z
    · rw [if_pos ⟨hf, hz⟩]; exact .inl rfl
    · rw [if_neg (by omega), if_neg hz, if_neg (by omega)]; exact .inr rfl
  unfold latI
  generalize arcB (absI v.z) (absI (flatI v)) = b at *
  rcases e with e | e
  · rw [e]; split <;> omega
  · rw [e]; unfold nrm; split <;> omega
theorem lon_fit {v : V3} (h : v.md) : Fit v.y v.x (lonI v) := by
  by_cases hz : v.x = 0 ∧ v.y = 0
  · rw [lon_none hz, hz.1, hz.2]; unfold Fit; omega
  · rw [lon_arc h hz]; exact arcI_fit _ _
theorem lat_fit (v : V3) : Fit v.z (flatI v) (latI v) := by
  have h := arcI_fit v.z (flatI v)
  unfold Fit at *
  rw [(lat_sc v).1, (lat_sc v).2]
  exact h
theorem sq_ge {a b : Int} (h0 : 0 ≤ a) (h : b * b ≤ a * a) : b ≤ a := sq_lt h0 h
/-- the direction of the angles of a vector is nearly the vector -/
theorem back_near {v : V3} (h : v.md) (hn : 999730000000 ≤ sqV v ∧ sqV v ≤ 1000270000000) : (dirX (lonI v) (latI v) - v.x) * (dirX (lonI v) (latI v) - v.x) + (dirY (lonI v) (latI v) - v.y) * (dirY (lonI v) (latI v) - v.y) + (dirZ (latI v) - v.z) * (dirZ (latI v) - v.z) ≤ 480 * 480 := by
  have f1 := lat_fit v
  have f2 := lon_fit h
  have bF := flatI_bd h
  have hG0 : 0 ≤ v.x * v.x + v.y * v.y := by have := sq_nn v.x; have := sq_nn v.y; omega
  have hr := rootI_spec (v.x * v.x + v.y * v.y) hG0
  change flatI v * flatI v ≤ _ ∧ _ < (flatI v + 1) * (flatI v + 1) at hr
  have r1 := rnd_err (cosI (latI v) * cosI (lonI v))
  have r2 := rnd_err (cosI (latI v) * sinI (lonI v))
  change _ ≤ 1000000 * dirX (lonI v) (latI v) - _ ∧ 1000000 * dirX (lonI v) (latI v) - _ ≤ _ at r1
  change _ ≤ 1000000 * dirY (lonI v) (latI v) - _ ∧ 1000000 * dirY (lonI v) (latI v) - _ ≤ _ at r2
  have nb := norm_near (latI v)
  have nl := norm_near (lonI v)
  have cb := cosI_bd (latI v)
  have sb := sinI_bd (latI v)
  have cl := cosI_bd (lonI v)
  have sl := sinI_bd (lonI v)
  have i1 := norm_id (flatI v) v.z (cosI (latI v)) (sinI (latI v))
  have i2 := norm_id v.x v.y (cosI (lonI v)) (sinI (lonI v))
  unfold sqV at hn
  unfold dirZ
  unfold Fit at f1 f2
  generalize dirX (lonI v) (latI v) = ex at *
  generalize dirY (lonI v) (latI v) = ey at *
  generalize cosI (latI v) = C at *
  generalize sinI (latI v) = S at *
  generalize cosI (lonI v) = c at *
  generalize sinI (lonI v) = s at *
  generalize flatI v = F at *
  obtain ⟨X, Y, Z⟩ := v
  dsimp only at *
  clear h
  have e1 : (F + 1) * (F + 1) = F * F + 2 * F + 1 := by grind
  have hZ := sq_nn Z
  have bF2 : F ≤ 1001000 := by have := sq_bd2 (a := F) (b := 1001000) (by omega) (by omega); omega
  -- how high
  obtain ⟨n, hnn⟩ : ∃ n, n = C * C + S * S := ⟨_, rfl⟩
  obtain ⟨m, hm⟩ : ∃ n, n = c * c + s * s := ⟨_, rfl⟩
  obtain ⟨re2, hre2⟩ : ∃ n, n = F * C + Z * S := ⟨_, rfl⟩
  obtain ⟨im2, him2⟩ : ∃ n, n = Z * C - F * S := ⟨_, rfl⟩
  obtain ⟨re1, hre1⟩ : ∃ n, n = X * c + Y * s := ⟨_, rfl⟩
  obtain ⟨im1, him1⟩ : ∃ n, n = Y * c - X * s := ⟨_, rfl⟩
  rw [← hnn] at nb i1
  rw [← hm] at nl i2
  rw [← hre2] at f1 i1
  rw [← him2] at f1 i1
  rw [← hre1] at f2 i2
  rw [← him1] at f2 i2
  have b2 := sq_bd2 (a := im2) (b := 22300000) (by omega) (by omega)
  have u1 : (F * F + Z * Z) * n ≤ 1000270000000 * 1000081000000 := Int.mul_le_mul (by omega) nb.2 (by omega) (by omega)
  have u2 : 999727000000 * 999919000000 ≤ (F * F + Z * Z) * n := Int.mul_le_mul (by omega) nb.1 (by omega) (by omega)
  have u3 := sq_nn im2
  have a1 := sq_lt (a := re2) (b := 1000180000000) (by omega) (by omega)
  have a2 := sq_ge (a := re2) (b := 999820000000) f1.2 (by omega)
  have v1 : n * (C - F) = (n - re2) * C + im2 * S := by rw [hnn, hre2, him2]; grind
  have v2 : n * (S - Z) = (n - re2) * S - im2 * C := by rw [hnn, hre2, him2]; grind
  have w1 : (n * (C - F)) * (n * (C - F)) + (n * (S - Z)) * (n * (S - Z)) = ((n - re2) * (n - re2) + im2 * im2) * n := by
    rw [v1, v2, hnn]; grind
  have w2 := mul_in (A := 261000000) (B := 261000000) (a := n - re2) (b := n - re2) (by omega) (by omega)
  have w3 := mul_in (A := 22300000) (B := 22300000) b2 b2
  have hQ : (C - F) * (C - F) + (S - Z) * (S - Z) ≤ 262 * 262 := by
    have e2 : (n * (C - F)) * (n * (C - F)) + (n * (S - Z)) * (n * (S - Z)) = n * (n * ((C - F) * (C - F) + (S - Z) * (S - Z))) := by grind
    have e3 : ((n - re2) * (n - re2) + im2 * im2) * n = n * ((n - re2) * (n - re2) + im2 * im2) := Int.mul_comm _ _
    rw [e2, e3] at w1
    have e4 := Int.eq_of_mul_eq_mul_left (show n ≠ 0 by omega) w1
    rcases Int.lt_or_le (262 * 262) ((C - F) * (C - F) + (S - Z) * (S - Z)) with hlt | hle
    · exfalso
      have : 999919000000 * 68645 ≤ n * ((C - F) * (C - F) + (S - Z) * (S - Z)) := Int.mul_le_mul nb.1 (by omega) (by omega) (by omega)
      omega
    · exact hle
  have hCF := sq_bd2 (a := C - F) (b := 262) (by omega) (by have := sq_nn (S - Z); omega)
  -- how far around
  have b1 : im1 * im1 ≤ 22300000 * 22300000 := by
    have : (F + 1) * (F + 1) ≤ 1001001 * 1001001 := Int.mul_le_mul (by omega) (by omega) (by omega) (by omega)
    omega
  have t1 : re1 ≤ 1000041 * (F + 1) := by
    refine sq_lt (by omega) ?_
    have k1 : (X * X + Y * Y) * m ≤ ((F + 1) * (F + 1)) * 1000081000000 := Int.mul_le_mul (by omega) nl.2 (by omega) (sq_nn _)
    have k2 := sq_nn im1
    have k3 : 1000041 * (F + 1) * (1000041 * (F + 1)) = 1000082001681 * ((F + 1) * (F + 1)) := by grind
    have k4 := sq_nn (F + 1)
    omega
  have t2 : 999950 * F ≤ re1 := by
    refine sq_lt f2.2 ?_
    have k1 : (F * F) * 999919000000 ≤ (X * X + Y * Y) * m := Int.mul_le_mul hr.1 nl.1 (by omega) hG0
    have k3 : 999950 * F * (999950 * F) = 999900002500 * (F * F) := by grind
    have k4 := sq_nn F
    by_cases hF0 : F = 0
    · subst hF0
      have := sq_nn re1
      omega
    · have k5 : 1 * F ≤ F * F := Int.mul_le_mul_of_nonneg_right (by omega) (by omega)
      omega
  have p1 := mul_in (A := 262) (B := 1000081000000) (a := C - F) (b := m) hCF (by omega)
  have p2 := mul_in (A := 1001000) (B := 81000000) (a := F) (b := m - 1000000000000) (by omega) (by omega)
  obtain ⟨g, hg⟩ : ∃ g, g = C * m - 1000000 * re1 := ⟨_, rfl⟩
  have hgb : -397000000000000 ≤ g ∧ g ≤ 397000000000000 := by
    have e2 : g = (C - F) * m + F * (m - 1000000000000) + 1000000 * (1000000 * F - re1) := by rw [hg]; grind
    rw [e2]
    omega
  have v3 : m * (C * c - 1000000 * X) = g * c + 1000000 * im1 * s := by rw [hg, hm, hre1, him1]; grind
  have v4 : m * (C * s - 1000000 * Y) = g * s - 1000000 * im1 * c := by rw [hg, hm, hre1, him1]; grind
  have w4 : (m * (C * c - 1000000 * X)) * (m * (C * c - 1000000 * X)) + (m * (C * s - 1000000 * Y)) * (m * (C * s - 1000000 * Y)) = (g * g + 1000000000000 * (im1 * im1)) * m := by
    rw [v3, v4, hm]; grind
  have w5 := mul_in hgb hgb
  have hR : (C * c - 1000000 * X) * (C * c - 1000000 * X) + (C * s - 1000000 * Y) * (C * s - 1000000 * Y) ≤ 398000000 * 398000000 := by
    have e2 : (m * (C * c - 1000000 * X)) * (m * (C * c - 1000000 * X)) + (m * (C * s - 1000000 * Y)) * (m * (C * s - 1000000 * Y)) = m * (m * ((C * c - 1000000 * X) * (C * c - 1000000 * X) + (C * s - 1000000 * Y) * (C * s - 1000000 * Y))) := by grind
    have e3 : (g * g + 1000000000000 * (im1 * im1)) * m = m * (g * g + 1000000000000 * (im1 * im1)) := Int.mul_comm _ _
    rw [e2, e3] at w4
    have e4 := Int.eq_of_mul_eq_mul_left (show m ≠ 0 by omega) w4
    generalize (C * c - 1000000 * X) * (C * c - 1000000 * X) + (C * s - 1000000 * Y) * (C * s - 1000000 * Y) = T at *
    rcases Int.lt_or_le (398000000 * 398000000) T with hlt | hle
    · exfalso
      have : 999919000000 * (398000000 * 398000000) ≤ m * T := Int.mul_le_mul nl.1 (by omega) (by omega) (by omega)
      omega
    · exact hle
  -- rounded
  have hE := mink (a := C * c - 1000000 * X) (b := C * s - 1000000 * Y) (c := 0) (p := 1000000 * ex - C * c) (q := 1000000 * ey - C * s) (r := 0) (A := 398000000) (B := 870000) (by omega) (by omega) (by omega)
    (sq_small3 (B := 500000) r1 r2 (by omega) (by omega))
  have e5 : C * c - 1000000 * X + (1000000 * ex - C * c) = 1000000 * (ex - X) := by omega
  have e6 : C * s - 1000000 * Y + (1000000 * ey - C * s) = 1000000 * (ey - Y) := by omega
  rw [e5, e6] at hE
  have e7 : 1000000 * (ex - X) * (1000000 * (ex - X)) + 1000000 * (ey - Y) * (1000000 * (ey - Y)) + (0 + 0) * (0 + 0) = 1000000000000 * ((ex - X) * (ex - X) + (ey - Y) * (ey - Y)) := by grind
  rw [e7] at hE
  have := sq_nn (C - F)
  omega
end Go.Proofs.YtpnfhienffekoaaGreatDoor
namespace Go.Proofs.YtpnfhienffekoaaGreatDoor
set_option linter.unusedVariables false
set_option linter.unusedSimpArgs false
/-- the direction of the star at a place -/
def dirAt (l : List Sta) (i : Nat) : V3 := match l[i]? with
  | some x => x.dir
  | none => ⟨0, 0, 0⟩
theorem dirAt_at {l : List Sta} {i : Nat} {x : Sta} (h : l[i]? = some x) : dirAt l i = x.dir := by rw [dirAt, h]
theorem dirAt_sm (l : List Sta) (i : Nat) : (dirAt l i).sm := by
  unfold dirAt
  split
  · exact dirV_sm _ _
  · exact ⟨by decide, by decide, by decide⟩
/-- the sums of the first directions -/
def cenX (l : List Sta) (E : List Int) : Nat → Int
  | 0 => 0
  | k + 1 => cenX l E k + (dirAt l (gt E k).toNat).x
def cenY (l : List Sta) (E : List Int) : Nat → Int
  | 0 => 0
  | k + 1 => cenY l E k + (dirAt l (gt E k).toNat).y
def cenZ (l : List Sta) (E : List Int) : Nat → Int
  | 0 => 0
  | k + 1 => cenZ l E k + (dirAt l (gt E k).toNat).z
theorem cen_bd (l : List Sta) (E : List Int) (k : Nat) : (-1000000 * (k : Int) ≤ cenX l E k ∧ cenX l E k ≤ 1000000 * k) ∧ (-1000000 * (k : Int) ≤ cenY l E k ∧ cenY l E k ≤ 1000000 * k) ∧ (-1000000 * (k : Int) ≤ cenZ l E k ∧ cenZ l E k ≤ 1000000 * k) := by
  induction k with
  | zero => simp [cenX, cenY, cenZ]
  | succ k ih =>
    obtain ⟨h1, h2, h3⟩ := dirAt_sm l (gt E k).toNat
    rw [cenX, cenY, cenZ]
    refine ⟨⟨?_, ?_⟩, ⟨?_, ?_⟩, ?_, ?_⟩ <;> omega
theorem cen_at {l : List Sta} {E : List Int} {k u : Nat} {x : Sta} (hk : E[k]? = some (u : Int)) (hx : l[u]? = some x) : cenX l E (k + 1) = cenX l E k + x.dir.x ∧ cenY l E (k + 1) = cenY l E k + x.dir.y ∧ cenZ l E (k + 1) = cenZ l E k + x.dir.z := by
  rw [cenX, cenY, cenZ, gt_at hk, Int.toNat_natCast, dirAt_at hx]
  exact ⟨rfl, rfl, rfl⟩
/-- their mean -/
def meanV (l : List Sta) (E : List Int) : V3 := ⟨rnd (cenX l E E.length) E.length, rnd (cenY l E E.length) E.length, rnd (cenZ l E E.length) E.length⟩
theorem meanV_sm {l : List Sta} {E : List Int} (h : 0 < E.length) : (meanV l E).sm := by
  obtain ⟨h1, h2, h3⟩ := cen_bd l E E.length
  exact ⟨rnd_between _ _ _ _ (by omega) (by omega) (by omega), rnd_between _ _ _ _ (by omega) (by omega) (by omega), rnd_between _ _ _ _ (by omega) (by omega) (by omega)⟩
/-- what FigureCentre answers -/
def centO (nm : ByteArray) (L : List (List Int)) (l : List Sta) : Int × Int × Int := if vFig nm L l then (if (setI (endsL L)).length = 0 then (0, 0, 6) else anglesO (meanV l (setI (endsL L)))) else (0, 0, 1)
theorem centO_no {nm : ByteArray} {L : List (List Int)} {l : List Sta} (h : vFig nm L l = false) : centO nm L l = (0, 0, 1) := by simp [centO, h]
theorem centO_none {nm : ByteArray} {L : List (List Int)} {l : List Sta} (h : vFig nm L l = true) (h2 : (setI (endsL L)).length = 0) : centO nm L l = (0, 0, 6) := by rw [centO, if_pos h, if_pos h2]
theorem centO_yes {nm : ByteArray} {L : List (List Int)} {l : List Sta} (h : vFig nm L l = true) (h2 : ¬ (setI (endsL L)).length = 0) : centO nm L l = anglesO (meanV l (setI (endsL L))) := by rw [centO, if_pos h, if_neg h2]
end Go.Proofs.YtpnfhienffekoaaGreatDoor
namespace Go.Proofs.YtpnfhienffekoaaGreatDoor
set_option linter.unusedVariables false
set_option linter.unusedSimpArgs false
theorem itoa_tiny {a : Int} (h0 : 0 ≤ a) (h1 : a < 1000) : (Lib.itoa a).length ≤ 3 := by
  unfold Lib.itoa
  rw [if_neg (by omega)]
  exact (decDigits_len3 (r := a.toNat) (by omega)).2
theorem figT_upto {nm : List UInt8} {L : List (List Int)} (h : vLines 24 L = true) (hn : isName nm = true) : ∀ k, k ≤ L.length → (figT nm (L.take k)).length ≤ 10 + 8 * k
  | 0, _ => by
    rw [List.take_zero, figT_nil]
    have := isName_len nm hn
    omega
  | k + 1, hk => by
    have ih := figT_upto h hn k (by omega)
    have hx : L[k]? = some L[k] := List.getElem?_eq_getElem (by omega)
    obtain ⟨a, b, e, h0, h1, h2⟩ := lineOk_two (vLines_ok h hx)
    rw [e] at hx
    rw [figT_snoc hx]
    have ia := itoa_tiny (a := a) h0 (by omega)
    have ib := itoa_tiny (a := b) (by omega) (by omega)
    simp only [List.length_append, List.length_cons, List.length_nil]
    omega
theorem figT_len {nm : List UInt8} {L : List (List Int)} (h : vLines 24 L = true) (hn : isName nm = true) : (figT nm L).length ≤ 1048576 := by
  have h1 := figT_upto h hn L.length (Nat.le_refl _)
  have h2 := vLines_len h
  rw [List.take_length] at h1
  omega
theorem lineOk_mono {n m : Int} (hnm : n ≤ m) {x : List Int} (h : lineOk n x = true) : lineOk m x = true := by
  simp only [lineOk, Bool.and_eq_true, decide_eq_true_eq] at h ⊢
  omega
theorem lnAt_mono {n m : Int} (hnm : n ≤ m) {L : List (List Int)} {i : Nat} (h : lnAt n L i = true) : lnAt m L i = true := by
  unfold lnAt at h ⊢
  cases hx : L[i]? with
  | none => rfl
  | some x =>
    rw [hx] at h
    simp only [Bool.and_eq_true] at h ⊢
    exact ⟨lineOk_mono hnm h.1, h.2⟩
theorem vLines_mono {n m : Int} (hnm : n ≤ m) {L : List (List Int)} (h : vLines n L = true) : vLines m L = true :=
  by
    have h1 := vLines_len h
    refine vLines_yes h1 ?_
    rw [lnUpto, List.all_eq_true]
    intro k hk
    exact lnAt_mono hnm (vLines_at h (List.mem_range.1 hk))
theorem vFig_name {nm : ByteArray} {L : List (List Int)} {l : List Sta} (h : vFig nm L l = true) : isName nm.data.toList = true := by
  simp only [vFig, Bool.and_eq_true] at h; exact h.2.1
theorem vFig_24 {nm : ByteArray} {L : List (List Int)} {l : List Sta} (h : vFig nm L l = true) : vLines 24 L = true :=
  vLines_mono (by have := vStars_len (vFig_stars h); omega) (vFig_lines h)
/-- the text of a figure is read back -/
theorem fig_back {nm : ByteArray} {L : List (List Int)} {l : List Sta} (h : vFig nm L l = true) : readFigR (figTO nm.data.toList L) = some (nm.data.toList, L) ∧ (figTO nm.data.toList L).length ≤ 1048576 := by
  have h1 := vFig_name h
  have h2 := vFig_24 h
  rw [figTO_yes h1 h2]
  exact ⟨(readFigR_iff _ (nm.data.toList, L)).2 ⟨by simp [figOk, h1, h2], rfl⟩, figT_len h2 h1⟩
/-- where the middle lies -/
theorem cent_bd {nm : ByteArray} {L : List (List Int)} {l : List Sta} (h : vFig nm L l = true) : (centO nm L l).2.2 = 6 ∨ ((centO nm L l).2.2 = 0 ∧ (0 ≤ (centO nm L l).1 ∧ (centO nm L l).1 < 360000) ∧ -90000 ≤ (centO nm L l).2.1 ∧ (centO nm L l).2.1 ≤ 90000) := by
  by_cases h2 : (setI (endsL L)).length = 0
  · rw [centO_none h h2]; exact .inl rfl
  · rw [centO_yes h h2]
    cases hz : zeroV (meanV l (setI (endsL L))) with
    | true => rw [anglesO_zero hz]; exact .inl rfl
    | false =>
      rw [anglesO_yes hz]
      exact .inr ⟨rfl, lonI_bd (meanV_sm (by omega)).md, lat_bd _⟩
/-- which lines are seen -/
theorem vis_cases (nm : ByteArray) (L : List (List Int)) (l : List Sta) (tn : List UInt8) (lo la s : Int) :
    ((visO nm L l tn lo la s).2 ≠ 0 ∧ (visO nm L l tn lo la s).1 = []) ∨ ((visO nm L l tn lo la s).2 = 0 ∧ vFig nm L l = true ∧ (∀ x ∈ (visO nm L l tn lo la s).1, 0 ≤ x ∧ x < (L.length : Int)) ∧ (visO nm L l tn lo la s).1.Pairwise (· < ·)) := by
  cases h1 : vFig nm L l with
  | false => rw [visO_no h1]; exact .inl ⟨by decide, rfl⟩
  | true =>
    cases h2 : vSite tn lo la with
    | false => rw [visO_no2 h2]; exact .inl ⟨by decide, rfl⟩
    | true =>
      cases h3 : inB s 0 359999 with
      | false => rw [visO_turn h1 h2 h3]; exact .inl ⟨by decide, rfl⟩
      | true =>
        rw [visO_yes h1 h2 h3]
        obtain ⟨a, b⟩ := visL_rise l la s L L.length
        exact .inr ⟨rfl, rfl, b, a⟩
/-- the numbers of a figure -/
theorem fig_nums {nm : ByteArray} {L : List (List Int)} {l : List Sta} (h : vFig nm L l = true) :
    (flenO nm L l).2 = 0 ∧ (figO nm L l).2 = 0 ∧ (partO nm L l (upFrom 0 l.length)).2 = 0 ∧ (spanO nm L l).2 = 0 ∧ (figO nm L l).1.length ≤ 32 ∧ (∀ x ∈ (figO nm L l).1, 0 ≤ x ∧ x < (l.length : Int)) ∧ (figO nm L l).1.Pairwise (· < ·) ∧ (0 ≤ (partO nm L l (upFrom 0 l.length)).1 ∧ (partO nm L l (upFrom 0 l.length)).1 ≤ ((figO nm L l).1.length : Int)) ∧ (0 ≤ (flenO nm L l).1 ∧ (flenO nm L l).1 ≤ 1000000000000) ∧ L.length ≤ 16 := by
  have hv := vFig_lines h
  have hp := parts_le h
  have h16 := vLines_len hv
  rw [flenO_yes h, figO_yes h, spanO_yes h]
  refine ⟨rfl, rfl, by rw [partO_yes h], rfl, ends_len hv, fun x hx => endsL_bd hv ((setI_mem _ _).1 hx), setI_rise _, hp, ?_, h16⟩
  have := lenSum_bd l L L.length
  dsimp only
  omega
end Go.Proofs.YtpnfhienffekoaaGreatDoor
