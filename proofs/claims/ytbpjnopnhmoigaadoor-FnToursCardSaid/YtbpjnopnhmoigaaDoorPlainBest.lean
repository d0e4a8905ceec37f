/- Plain functions: the search of the shortest tour, and its law. Nothing of the program is named here. -/
import Derived.Test.YtbpjnopnhmoigaaDoorNTour
import Derived.Test.YtbpjnopnhmoigaaDoorFigLen
import Derived.Test.YtbpjnopnhmoigaaDoorGrpList
namespace Go.Proofs.YtbpjnopnhmoigaaDoor
set_option linter.unusedVariables false
set_option linter.unusedSimpArgs false
/-- what a search has found: a tour, its length (-1: none yet), and how many steps are left -/
structure Srch where
  best : List Int
  least : Int
  left : Int
/-- the way from the last star to that one -/
def wayB (l : List Sta) (ord : List Int) (k : Nat) : Int := gapL l (gt ord (ord.length - 1)).toNat k
theorem wayB_bd (l : List Sta) (ord : List Int) (k : Nat) : 0 ≤ wayB l ord k ∧ wayB l ord k < 360000 := gapL_bd _ _ _
/-- one round: that star is tried -/
def tryB (l : List Sta) (rec : List Int → Int → Srch → Option Srch) (ord : List Int) (len : Int) (k : Nat) (s : Srch) : Option Srch :=
  if hasI ord (k : Int) = true then some s
  else if 0 ≤ s.least ∧ s.least ≤ len + wayB l ord k then some s
  else if s.left = 0 then none
  else rec (ord ++ [(k : Int)]) (len + wayB l ord k) ⟨s.best, s.least, s.left - 1⟩
/-- the first rounds -/
def loopB (l : List Sta) (rec : List Int → Int → Srch → Option Srch) (ord : List Int) (len : Int) (s : Srch) : Nat → Option Srch
  | 0 => some s
  | k + 1 => (loopB l rec ord len s k).bind (tryB l rec ord len k)
/-- the search, with so many stars to come -/
def extB (l : List Sta) : Nat → List Int → Int → Srch → Option Srch
  | 0, ord, len, s => some ⟨ord, len, s.left⟩
  | d + 1, ord, len, s => loopB l (extB l d) ord len s l.length
section
variable {l : List Sta} {rec : List Int → Int → Srch → Option Srch} {ord : List Int} {len : Int} {s s' : Srch} {k : Nat}
theorem try_has (h : hasI ord (k : Int) = true) : tryB l rec ord len k s = some s := by rw [tryB, if_pos h]
theorem try_far (h : hasI ord (k : Int) = false) (h2 : 0 ≤ s.least) (h3 : s.least ≤ len + wayB l ord k) : tryB l rec ord len k s = some s := by rw [tryB, h, if_neg (by simp), if_pos ⟨h2, h3⟩]
theorem try_full (h : hasI ord (k : Int) = false) (h2 : s.least < 0 ∨ len + wayB l ord k < s.least) (h3 : s.left = 0) : tryB l rec ord len k s = none := by
  rw [tryB, h, if_neg (by simp), if_neg (by omega), if_pos h3]
theorem try_go (h : hasI ord (k : Int) = false) (h2 : s.least < 0 ∨ len + wayB l ord k < s.least) (h3 : s.left ≠ 0) : tryB l rec ord len k s = rec (ord ++ [(k : Int)]) (len + wayB l ord k) ⟨s.best, s.least, s.left - 1⟩ := by
  rw [tryB, h, if_neg (by simp), if_neg (by omega), if_neg h3]
theorem loopB_succ (h : loopB l rec ord len s k = some s') : loopB l rec ord len s (k + 1) = tryB l rec ord len k s' := by rw [loopB, h]; rfl
theorem loopB_none (h : loopB l rec ord len s k = none) : ∀ m : Nat, k ≤ m → loopB l rec ord len s m = none
  | 0, hm => by obtain rfl : k = 0 := by omega
                exact h
  | m + 1, hm => by
    by_cases e : k = m + 1
    · subst e; exact h
    · rw [loopB, loopB_none h m (by omega)]; rfl
theorem loopB_some {m : Nat} (h : loopB l rec ord len s m = some s') (hk : k ≤ m) : ∃ t, loopB l rec ord len s k = some t := by
  cases e : loopB l rec ord len s k with
  | some t => exact ⟨t, rfl⟩
  | none => rw [loopB_none e m hk] at h; cases h
end
/-- sensible numbers of a search -/
def SrchOk (b : Int) (s : Srch) : Prop := -1 ≤ s.least ∧ s.least ≤ 360000000 ∧ 0 ≤ s.left ∧ s.left ≤ b
theorem extB_ok (l : List Sta) : ∀ (d : Nat) (ord : List Int) (len : Int) (s s' : Srch) (b : Int), extB l d ord len s = some s' → 0 ≤ len → len + 360000 * d ≤ 360000000 → SrchOk b s → SrchOk b s'
  | 0, ord, len, s, s', b, h, h0, h1, hs => by
    simp only [extB, Option.some.injEq] at h
    subst h
    unfold SrchOk at *
    dsimp only at *
    omega
  | d + 1, ord, len, s, s', b, h, h0, h1, hs => by
    have key : ∀ (m : Nat) (t : Srch), loopB l (extB l d) ord len s m = some t → SrchOk b t := by
      intro m
      induction m with
      | zero => intro t ht; simp only [loopB, Option.some.injEq] at ht; subst ht; exact hs
      | succ m ih =>
        intro t ht
        obtain ⟨u, hu⟩ := loopB_some ht (Nat.le_succ m)
        rw [loopB_succ hu] at ht
        have hub := ih u hu
        have hw := wayB_bd l ord m
        unfold tryB at ht
        split at ht
        · cases ht; exact hub
        · split at ht
          · cases ht; exact hub
          · split at ht
            · cases ht
            · next hl =>
              refine extB_ok l d _ _ _ t b ht (by omega) (by omega) ?_
              unfold SrchOk at *
              dsimp only at *
              omega
    exact key l.length s' h
/-- the least one falls -/
def Falls (s s' : Srch) : Prop := 0 ≤ s.least → 0 ≤ s'.least ∧ s'.least ≤ s.least
theorem Falls.refl (s : Srch) : Falls s s := fun h => ⟨h, Int.le_refl _⟩
theorem Falls.trans {a b c : Srch} (h : Falls a b) (k : Falls b c) : Falls a c := fun ha => by
  have h1 := h ha
  have h2 := k h1.1
  omega
theorem extB_falls (l : List Sta) : ∀ (d : Nat) (ord : List Int) (len : Int) (s s' : Srch), extB l d ord len s = some s' → 0 ≤ len → (s.least < 0 ∨ len ≤ s.least) → Falls s s'
  | 0, ord, len, s, s', h, h0, h1 => by
    simp only [extB, Option.some.injEq] at h
    subst h
    intro hs
    dsimp only
    omega
  | d + 1, ord, len, s, s', h, h0, h1 => by
    have key : ∀ (m : Nat) (t : Srch), loopB l (extB l d) ord len s m = some t → Falls s t := by
      intro m
      induction m with
      | zero => intro t ht; simp only [loopB, Option.some.injEq] at ht; subst ht; exact Falls.refl _
      | succ m ih =>
        intro t ht
        obtain ⟨u, hu⟩ := loopB_some ht (Nat.le_succ m)
        rw [loopB_succ hu] at ht
        have hub := ih u hu
        have hw := wayB_bd l ord m
        unfold tryB at ht
        split at ht
        · cases ht; exact hub
        · split at ht
          · cases ht; exact hub
          · split at ht
            · cases ht
            · next hp _ =>
              have := extB_falls l d _ _ _ t ht (by omega) (by dsimp only; omega)
              exact hub.trans this
    exact key l.length s' h
theorem loopB_falls (l : List Sta) (d : Nat) (ord : List Int) (len : Int) (s : Srch) (h0 : 0 ≤ len) : ∀ (m k : Nat) (t u : Srch), k ≤ m → loopB l (extB l d) ord len s k = some t → loopB l (extB l d) ord len s m = some u → Falls t u
  | 0, k, t, u, hk, ht, hu => by
    obtain rfl : k = 0 := by omega
    rw [ht] at hu; cases hu; exact Falls.refl _
  | m + 1, k, t, u, hk, ht, hu => by
    by_cases e : k = m + 1
    · subst e; rw [ht] at hu; cases hu; exact Falls.refl _
    · obtain ⟨v, hv⟩ := loopB_some hu (Nat.le_succ m)
      have h1 := loopB_falls l d ord len s h0 m k t v (by omega) ht hv
      rw [loopB_succ hv] at hu
      have hw := wayB_bd l ord m
      unfold tryB at hu
      split at hu
      · cases hu; exact h1
      · split at hu
        · cases hu; exact h1
        · split at hu
          · cases hu
          · next hp _ =>
            have h2 : Falls ⟨v.best, v.least, v.left - 1⟩ u := extB_falls l d _ _ _ u hu (by omega) (by dsimp only; omega)
            exact h1.trans h2
/-- the length of a list's ways -/
theorem tourSum_snoc {l : List Sta} {ord : List Int} {k : Nat} (h : 0 < ord.length) (hk : k < l.length) (hb : ∀ (j : Nat) i, ord[j]? = some i → 0 ≤ i ∧ i < l.length) : tourSum l (ord ++ [(k : Int)]) ord.length = tourSum l ord (ord.length - 1) + wayB l ord k := by
  have pre : ∀ m : Nat, m < ord.length → tourSum l (ord ++ [(k : Int)]) m = tourSum l ord m := by
    intro m
    induction m with
    | zero => intro _; rfl
    | succ m ih =>
      intro hm
      rw [tourSum, tourSum, ih (by omega)]
      congr 1
      unfold legI
      rw [List.getElem?_append_left (by omega), List.getElem?_append_left (by omega)]
  obtain ⟨m, hm⟩ : ∃ m, ord.length = m + 1 := ⟨ord.length - 1, by omega⟩
  rw [hm, tourSum, pre m (by omega), Nat.add_sub_cancel]
  congr 1
  obtain ⟨i, hi⟩ : ∃ i, ord[m]? = some i := ⟨ord[m], List.getElem?_eq_getElem (by omega)⟩
  obtain ⟨h0, h1⟩ := hb m i hi
  obtain ⟨i, rfl⟩ : ∃ j : Nat, i = j := ⟨i.toNat, by omega⟩
  obtain ⟨x, hx⟩ := at_lt (l := l) (k := i) (by omega)
  obtain ⟨y, hy⟩ := at_lt (l := l) (k := k) hk
  have e1 : (ord ++ [(k : Int)])[m]? = some (i : Int) := by rw [List.getElem?_append_left (by omega)]; exact hi
  have e2 : (ord ++ [(k : Int)])[m + 1]? = some (k : Int) := by rw [List.getElem?_append_right (by omega), hm, Nat.sub_self]; rfl
  rw [legI_at e1 e2 hx hy, wayB, hm, Nat.add_sub_cancel, gt_at hi, Int.toNat_natCast, gapL_at hx hy]
theorem tourSum_pre {l : List Sta} {ord rest : List Int} : ∀ m : Nat, m < ord.length → tourSum l (ord ++ rest) m = tourSum l ord m
  | 0, _ => rfl
  | m + 1, hm => by
    rw [tourSum, tourSum, tourSum_pre m (by omega)]
    congr 1
    unfold legI
    rw [List.getElem?_append_left (by omega), List.getElem?_append_left (by omega)]
theorem tourSum_up (l : List Sta) (p : List Int) : ∀ (m k : Nat), k ≤ m → tourSum l p k ≤ tourSum l p m
  | 0, k, h => by obtain rfl : k = 0 := by omega
                  exact Int.le_refl _
  | m + 1, k, h => by
    by_cases e : k = m + 1
    · subst e; exact Int.le_refl _
    · have := tourSum_up l p m k (by omega)
      have := legI_bd l p m
      rw [tourSum]; omega
/-- the part of a tour that a search holds -/
structure Part (l : List Sta) (start : Int) (ord : List Int) : Prop where
  pos : 0 < ord.length
  head : ord[0]? = some start
  bd : ∀ (j : Nat) i, ord[j]? = some i → 0 ≤ i ∧ i < l.length
  nodup : ord.Nodup
theorem Part.snoc {l : List Sta} {start : Int} {ord : List Int} {k : Nat} (h : Part l start ord) (hk : k < l.length) (hn : hasI ord (k : Int) = false) : Part l start (ord ++ [(k : Int)]) := by
  refine ⟨by simp, by rw [List.getElem?_append_left h.pos]; exact h.head, fun j i hi => ?_, ?_⟩
  · by_cases hj : j < ord.length
    · rw [List.getElem?_append_left hj] at hi; exact h.bd j i hi
    · rw [List.getElem?_append_right (by omega)] at hi
      have hj0 : j - ord.length = 0 := by
        by_cases e : j - ord.length = 0
        · exact e
        · rw [List.getElem?_eq_none (by simp; omega)] at hi; cases hi
      rw [hj0] at hi
      simp only [List.getElem?_cons_zero, Option.some.injEq] at hi
      omega
  · rw [List.nodup_append]
    refine ⟨h.nodup, by simp, fun a ha b hb => ?_⟩
    simp only [List.mem_singleton] at hb
    subst hb
    rintro rfl
    have := hasI_iff.2 ha
    rw [hn] at this; cases this
theorem Part.tour {l : List Sta} {start : Int} {ord : List Int} (h : Part l start ord) (hl : ord.length = l.length) : isTour l.length ord = true := by
  refine isTour_yes hl ?_
  rw [goodUpto, List.all_eq_true]
  intro k hk
  rw [List.mem_range] at hk
  have hi : ord[k]? = some ord[k] := List.getElem?_eq_getElem hk
  rw [goodAt_eq hi, Bool.and_eq_true, inB_iff]
  have hb := h.bd k _ hi
  refine ⟨by omega, ?_⟩
  rw [Bool.not_eq_true', List.contains_eq_mem, decide_eq_false_iff_not]
  intro hm
  obtain ⟨j, hj, e⟩ := List.getElem_of_mem hm
  rw [List.length_take] at hj
  rw [List.getElem_take] at e
  exact (List.pairwise_iff_getElem.1 h.nodup) j k (by omega) hk (by omega) e
/-- what has been found is a tour with that length -/
def Found (l : List Sta) (start : Int) (s : Srch) : Prop := 0 ≤ s.least → isTour l.length s.best = true ∧ s.best[0]? = some start ∧ tourSum l s.best (s.best.length - 1) = s.least
theorem extB_found (l : List Sta) (start : Int) : ∀ (d : Nat) (ord : List Int) (len : Int) (s s' : Srch), extB l d ord len s = some s' → Part l start ord → ord.length + d = l.length → len = tourSum l ord (ord.length - 1) → Found l start s → Found l start s'
  | 0, ord, len, s, s', h, hp, hl, he, hf => by
    simp only [extB, Option.some.injEq] at h
    subst h
    intro _
    exact ⟨hp.tour (by omega), hp.head, he.symm⟩
  | d + 1, ord, len, s, s', h, hp, hl, he, hf => by
    have key : ∀ (m : Nat) (t : Srch), m ≤ l.length → loopB l (extB l d) ord len s m = some t → Found l start t := by
      intro m
      induction m with
      | zero => intro t _ ht; simp only [loopB, Option.some.injEq] at ht; subst ht; exact hf
      | succ m ih =>
        intro t hm ht
        obtain ⟨u, hu⟩ := loopB_some ht (Nat.le_succ m)
        rw [loopB_succ hu] at ht
        have hub := ih u (by omega) hu
        unfold tryB at ht
        split at ht
        · cases ht; exact hub
        · next hh =>
          have hh' : hasI ord (m : Int) = false := by simpa using hh
          split at ht
          · cases ht; exact hub
          · split at ht
            · cases ht
            · refine extB_found l start d _ _ _ t ht (hp.snoc (by omega) hh') (by simp; omega) ?_ hub
              rw [List.length_append, List.length_singleton, Nat.add_sub_cancel, tourSum_snoc hp.pos (by omega) hp.bd, he]
    exact key l.length s' (Nat.le_refl _) h
/-- no tour that goes on from here is shorter than what is found -/
theorem extB_least (l : List Sta) (start : Int) : ∀ (d : Nat) (ord : List Int) (len : Int) (s s' : Srch) (rest : List Int), extB l d ord len s = some s' → Part l start ord → ord.length + d = l.length → len = tourSum l ord (ord.length - 1) → Part l start (ord ++ rest) → rest.length = d → 0 ≤ s'.least ∧ s'.least ≤ tourSum l (ord ++ rest) (l.length - 1)
  | 0, ord, len, s, s', rest, h, hp, hl, he, hq, hr => by
    simp only [extB, Option.some.injEq] at h
    subst h
    have e : rest = [] := List.eq_nil_of_length_eq_zero hr
    subst e
    rw [List.append_nil]
    dsimp only
    have := tourSum_bd l ord (ord.length - 1)
    rw [show l.length - 1 = ord.length - 1 by omega, ← he]
    omega
  | d + 1, ord, len, s, s', rest, h, hp, hl, he, hq, hr => by
    have hlen0 : 0 ≤ len := by have := tourSum_bd l ord (ord.length - 1); omega
    cases rest with
    | nil => simp at hr
    | cons k rest =>
      simp only [List.length_cons, Nat.add_right_cancel_iff] at hr
      have hk : (ord ++ k :: rest)[ord.length]? = some k := by rw [List.getElem?_append_right (Nat.le_refl _), Nat.sub_self]; rfl
      obtain ⟨k0, k1⟩ := hq.bd _ _ hk
      obtain ⟨k, rfl⟩ : ∃ j : Nat, k = j := ⟨k.toNat, by omega⟩
      have hkl : k < l.length := by omega
      have hnew : hasI ord (k : Int) = false := by
        cases hc : hasI ord (k : Int) with
        | false => rfl
        | true =>
          have hm := hasI_iff.1 hc
          have := hq.nodup
          rw [List.nodup_append] at this
          exact absurd rfl (this.2.2 _ hm _ (List.mem_cons_self ..))
      have happ : ord ++ (k : Int) :: rest = (ord ++ [(k : Int)]) ++ rest := by simp
      have hsum := tourSum_snoc hp.pos hkl hp.bd
      have hh : extB l (d + 1) ord len s = loopB l (extB l d) ord len s l.length := rfl
      rw [hh] at h
      obtain ⟨u, hu⟩ := loopB_some h (show k ≤ l.length by omega)
      obtain ⟨v, hv⟩ := loopB_some h (show k + 1 ≤ l.length by omega)
      have hfall := loopB_falls l d ord len s hlen0 l.length (k + 1) v s' (by omega) hv h
      rw [loopB_succ hu] at hv
      have hge : len + wayB l ord k ≤ tourSum l (ord ++ (k : Int) :: rest) (l.length - 1) := by
        rw [he, ← hsum, happ, ← tourSum_pre (rest := rest) (ord := ord ++ [(k : Int)]) ord.length (by simp)]
        exact tourSum_up _ _ _ _ (by omega)
      have hv2 : 0 ≤ v.least ∧ v.least ≤ tourSum l (ord ++ (k : Int) :: rest) (l.length - 1) := by
        unfold tryB at hv
        rw [if_neg (by rw [hnew]; simp)] at hv
        split at hv
        · next hc => cases hv; omega
        · split at hv
          · cases hv
          · rw [happ]
            refine extB_least l start d _ _ _ v rest hv (hp.snoc hkl hnew) (by simp; omega) ?_ (by rw [← happ]; exact hq) hr
            rw [List.length_append, List.length_singleton, Nat.add_sub_cancel, hsum, he]
      have := hfall hv2.1
      omega
/-- what BestTour answers -/
def bestO (l : List Sta) (s b : Int) : List Int × Int × Int := if vStars l then (if inB s 0 ((l.length : Int) - 1) && inB b 1 20000 then (match extB l (l.length - 1) [s] 0 ⟨[], -1, b⟩ with
  | some t => (t.best, t.least, 0)
  | none => ([], 0, 5)) else ([], 0, 2)) else ([], 0, 1)
theorem bestO_no {l : List Sta} {s b : Int} (h : vStars l = false) : bestO l s b = ([], 0, 1) := by simp [bestO, h]
theorem bestO_bad {l : List Sta} {s b : Int} (h : vStars l = true) (h2 : inB s 0 ((l.length : Int) - 1) = false ∨ inB b 1 20000 = false) : bestO l s b = ([], 0, 2) := by
  have : (inB s 0 ((l.length : Int) - 1) && inB b 1 20000) = false := by
    rcases h2 with h2 | h2
    · rw [h2]; rfl
    · rw [h2, Bool.and_false]
  rw [bestO, if_pos h, this]; rfl
theorem bestO_full {l : List Sta} {s b : Int} (h : vStars l = true) (h2 : inB s 0 ((l.length : Int) - 1) = true) (h3 : inB b 1 20000 = true) (h4 : extB l (l.length - 1) [s] 0 ⟨[], -1, b⟩ = none) : bestO l s b = ([], 0, 5) := by
  rw [bestO, if_pos h, h2, h3]; simp [h4]
theorem bestO_yes {l : List Sta} {s b : Int} {t : Srch} (h : vStars l = true) (h2 : inB s 0 ((l.length : Int) - 1) = true) (h3 : inB b 1 20000 = true) (h4 : extB l (l.length - 1) [s] 0 ⟨[], -1, b⟩ = some t) : bestO l s b = (t.best, t.least, 0) := by
  rw [bestO, if_pos h, h2, h3]; simp [h4]
theorem extB_len (l : List Sta) : ∀ (d : Nat) (ord : List Int) (len : Int) (s s' : Srch), extB l d ord len s = some s' → s.best.length ≤ l.length → ord.length + d = l.length → s'.best.length ≤ l.length
  | 0, ord, len, s, s', h, hs, hl => by
    simp only [extB, Option.some.injEq] at h
    subst h
    dsimp only
    omega
  | d + 1, ord, len, s, s', h, hs, hl => by
    have key : ∀ (m : Nat) (t : Srch), loopB l (extB l d) ord len s m = some t → t.best.length ≤ l.length := by
      intro m
      induction m with
      | zero => intro t ht; simp only [loopB, Option.some.injEq] at ht; subst ht; exact hs
      | succ m ih =>
        intro t ht
        obtain ⟨u, hu⟩ := loopB_some ht (Nat.le_succ m)
        rw [loopB_succ hu] at ht
        have hub := ih u hu
        unfold tryB at ht
        split at ht
        · cases ht; exact hub
        · split at ht
          · cases ht; exact hub
          · split at ht
            · cases ht
            · exact extB_len l d _ _ _ t ht hub (by simp; omega)
    exact key l.length s' h
theorem bestO_len (l : List Sta) (s b : Int) : (bestO l s b).1.length ≤ 24 := by
  unfold bestO
  split
  · next h =>
    have := vStars_len h
    split
    · next h2 =>
      simp only [Bool.and_eq_true, inB_iff] at h2
      split
      · next t ht =>
        have := extB_len l _ _ _ _ t ht (by simp) (by simp; omega)
        dsimp only; omega
      · simp
    · simp
  · simp
end Go.Proofs.YtbpjnopnhmoigaaDoor
