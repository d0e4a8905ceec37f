/- Texts that belong together, as one: PlainStars, PlainFig, PlainSort, PlainIns, PlainAdd, PlainPut. -/
import Derived.Test.YtpnfhienffekoaaGreatDoorGrpPure
import Derived.WalkKit
import Derived.Lib.SlicesCompact
section
namespace Go.Proofs.YtpnfhienffekoaaGreatDoor
set_option linter.unusedVariables false
set_option linter.unusedSimpArgs false
/-- a star -/
structure Sta where
  id : ByteArray
  ri : Int
  de : Int
  ma : Int
  co : Int
/-- is it valid -/
def Sta.ok (x : Sta) : Bool := vStar x.id.data.toList x.ri x.de x.ma x.co
/-- one name before another -/
def ltS (a b : ByteArray) : Bool := Op.bytesLess a.toList b.toList
/-- what is asked of the star at place i -/
def okAt (l : List Sta) (i : Nat) : Bool := match l[i]? with
  | none => true
  | some x => x.ok && (match i with
    | 0 => true
    | j + 1 => match l[j]? with
      | none => true
      | some y => ltS y.id x.id)
def okUpto (l : List Sta) (n : Nat) : Bool := (List.range n).all (okAt l)
/-- is a list of stars valid -/
def vStars (l : List Sta) : Bool := decide (l.length ≤ 24) && okUpto l l.length
theorem okUpto_zero (l : List Sta) : okUpto l 0 = true := rfl
theorem okUpto_succ (l : List Sta) (n : Nat) : okUpto l (n + 1) = (okUpto l n && okAt l n) := by
  rw [okUpto, List.range_succ, List.all_append]; simp [okUpto]
theorem okAt_zero {l : List Sta} {x : Sta} (h : l[0]? = some x) : okAt l 0 = x.ok := by simp [okAt, h]
theorem okAt_succ {l : List Sta} {k : Nat} {x y : Sta} (h : l[k + 1]? = some x) (h' : l[k]? = some y) : okAt l (k + 1) = (x.ok && ltS y.id x.id) := by simp [okAt, h, h']
theorem okUpto_no {l : List Sta} {k n : Nat} (h : okAt l k = false) (hk : k < n) : okUpto l n = false := by
  rw [okUpto, List.all_eq_false]; exact ⟨k, List.mem_range.2 hk, by simp [h]⟩
theorem vStars_long {l : List Sta} (h : 24 < l.length) : vStars l = false := by
  have : ¬ l.length ≤ 24 := by omega
  simp [vStars, this]
theorem vStars_no {l : List Sta} {k : Nat} (hk : k < l.length) (h : okAt l k = false) : vStars l = false := by
  simp [vStars, okUpto_no h hk]
theorem vStars_yes {l : List Sta} (h : l.length ≤ 24) (hk : okUpto l l.length = true) : vStars l = true := by
  simp [vStars, h, hk]
theorem vStars_len {l : List Sta} (h : vStars l = true) : l.length ≤ 24 := by
  simp only [vStars, Bool.and_eq_true, decide_eq_true_eq] at h; exact h.1
theorem vStars_okAt {l : List Sta} (h : vStars l = true) {k : Nat} (hk : k < l.length) : okAt l k = true := by
  simp only [vStars, Bool.and_eq_true, okUpto, List.all_eq_true] at h
  exact h.2 k (List.mem_range.2 hk)
theorem vStars_ok {l : List Sta} (h : vStars l = true) {k : Nat} {x : Sta} (hx : l[k]? = some x) : x.ok = true := by
  have hk : k < l.length := (List.getElem?_eq_some_iff.1 hx).1
  have := vStars_okAt h hk
  rcases k with _ | j
  · rwa [okAt_zero hx] at this
  · have hj : l[j]? = some l[j] := List.getElem?_eq_getElem (by omega)
    rw [okAt_succ hx hj, Bool.and_eq_true] at this
    exact this.1
theorem vStars_lt {l : List Sta} (h : vStars l = true) {k : Nat} {x y : Sta} (hx : l[k + 1]? = some x) (hy : l[k]? = some y) : ltS y.id x.id = true := by
  have hk : k + 1 < l.length := (List.getElem?_eq_some_iff.1 hx).1
  have := vStars_okAt h hk
  rw [okAt_succ hx hy, Bool.and_eq_true] at this
  exact this.2
theorem at_lt {α : Type} {l : List α} {k : Nat} (h : k < l.length) : ∃ x, l[k]? = some x := ⟨l[k], List.getElem?_eq_getElem h⟩
end Go.Proofs.YtpnfhienffekoaaGreatDoor
end
section
namespace Go.Proofs.YtpnfhienffekoaaGreatDoor
set_option linter.unusedVariables false
set_option linter.unusedSimpArgs false
/-- is it a line between two of n stars -/
def lineOk (n : Int) (x : List Int) : Bool := decide (x.length = 2) && (decide (0 ≤ x.getD 0 0) && (decide (x.getD 0 0 < x.getD 1 0) && decide (x.getD 1 0 < n)))
/-- one line before another -/
def lineLt (y x : List Int) : Bool := decide (y.getD 0 0 < x.getD 0 0) || (decide (y.getD 0 0 = x.getD 0 0) && decide (y.getD 1 0 < x.getD 1 0))
/-- what is asked of the line at place i -/
def lnAt (n : Int) (L : List (List Int)) (i : Nat) : Bool := match L[i]? with
  | none => true
  | some x => lineOk n x && (match i with
    | 0 => true
    | j + 1 => match L[j]? with
      | none => true
      | some y => lineLt y x)
def lnUpto (n : Int) (L : List (List Int)) (k : Nat) : Bool := (List.range k).all (lnAt n L)
/-- are these the lines of a figure of n stars -/
def vLines (n : Int) (L : List (List Int)) : Bool := decide (L.length ≤ 16) && lnUpto n L L.length
/-- is it a figure -/
def vFig (nm : ByteArray) (L : List (List Int)) (l : List Sta) : Bool := vStars l && (isName nm.data.toList && vLines l.length L)
theorem lnUpto_zero (n : Int) (L : List (List Int)) : lnUpto n L 0 = true := rfl
theorem lnUpto_succ (n : Int) (L : List (List Int)) (k : Nat) : lnUpto n L (k + 1) = (lnUpto n L k && lnAt n L k) := by
  rw [lnUpto, List.range_succ, List.all_append]; simp [lnUpto]
theorem lnAt_zero {n : Int} {L : List (List Int)} {x : List Int} (h : L[0]? = some x) : lnAt n L 0 = lineOk n x := by simp [lnAt, h]
theorem lnAt_succ {n : Int} {L : List (List Int)} {k : Nat} {x y : List Int} (h : L[k + 1]? = some x) (h' : L[k]? = some y) : lnAt n L (k + 1) = (lineOk n x && lineLt y x) := by simp [lnAt, h, h']
theorem lnUpto_no {n : Int} {L : List (List Int)} {k m : Nat} (h : lnAt n L k = false) (hk : k < m) : lnUpto n L m = false := by
  rw [lnUpto, List.all_eq_false]; exact ⟨k, List.mem_range.2 hk, by simp [h]⟩
theorem vLines_long {n : Int} {L : List (List Int)} (h : 16 < L.length) : vLines n L = false := by
  have : ¬ L.length ≤ 16 := by omega
  simp [vLines, this]
theorem vLines_no {n : Int} {L : List (List Int)} {k : Nat} (hk : k < L.length) (h : lnAt n L k = false) : vLines n L = false := by simp [vLines, lnUpto_no h hk]
theorem vLines_yes {n : Int} {L : List (List Int)} (h : L.length ≤ 16) (hk : lnUpto n L L.length = true) : vLines n L = true := by simp [vLines, h, hk]
theorem vLines_len {n : Int} {L : List (List Int)} (h : vLines n L = true) : L.length ≤ 16 := by
  simp only [vLines, Bool.and_eq_true, decide_eq_true_eq] at h; exact h.1
theorem vLines_at {n : Int} {L : List (List Int)} (h : vLines n L = true) {k : Nat} (hk : k < L.length) : lnAt n L k = true := by
  simp only [vLines, Bool.and_eq_true, lnUpto, List.all_eq_true] at h
  exact h.2 k (List.mem_range.2 hk)
theorem vLines_ok {n : Int} {L : List (List Int)} (h : vLines n L = true) {k : Nat} {x : List Int} (hx : L[k]? = some x) : lineOk n x = true := by
  have hk : k < L.length := (List.getElem?_eq_some_iff.1 hx).1
  have := vLines_at h hk
  rcases k with _ | j
  · rwa [lnAt_zero hx] at this
  · have hj : L[j]? = some L[j] := List.getElem?_eq_getElem (by omega)
    rw [lnAt_succ hx hj, Bool.and_eq_true] at this
    exact this.1
theorem lnUpto_ok {n : Int} {L : List (List Int)} {m : Nat} (h : lnUpto n L m = true) {k : Nat} (hk : k < m) {x : List Int} (hx : L[k]? = some x) : lineOk n x = true := by
  rw [lnUpto, List.all_eq_true] at h
  have := h k (List.mem_range.2 hk)
  rcases k with _ | j
  · rwa [lnAt_zero hx] at this
  · have hjl : j < L.length := by have h1 := (List.getElem?_eq_some_iff.1 hx).1; omega
    have hj : L[j]? = some L[j] := List.getElem?_eq_getElem hjl
    rw [lnAt_succ hx hj, Bool.and_eq_true] at this
    exact this.1
/-- a line is two numbers -/
theorem lineOk_two {n : Int} {x : List Int} (h : lineOk n x = true) : ∃ a b : Int, x = [a, b] ∧ 0 ≤ a ∧ a < b ∧ b < n := by
  simp only [lineOk, Bool.and_eq_true, decide_eq_true_eq] at h
  obtain ⟨h0, h1, h2, h3⟩ := h
  match x, h0 with
  | [a, b], _ => exact ⟨a, b, rfl, by simpa using h1, by simpa using h2, by simpa using h3⟩
theorem lineOk_mk (n a b : Int) : lineOk n [a, b] = (decide (0 ≤ a) && (decide (a < b) && decide (b < n))) := by simp [lineOk]
theorem lineLt_mk (a b c d : Int) : lineLt [a, b] [c, d] = (decide (a < c) || (decide (a = c) && decide (b < d))) := by simp [lineLt]
theorem lineOk_len {n : Int} {x : List Int} (h : x.length ≠ 2) : lineOk n x = false := by simp [lineOk, h]
/-- all numbers of a list of lists -/
def tot (L : List (List Int)) : Nat := (L.map List.length).sum
theorem tot_take {L : List (List Int)} {k : Nat} {x : List Int} (h : L[k]? = some x) : tot (L.take (k + 1)) = tot (L.take k) + x.length := by
  rw [List.take_add_one, h]; simp [tot]
theorem tot_all {L : List (List Int)} {k : Nat} (h : L.length ≤ k) : tot (L.take k) = tot L := by rw [List.take_of_length_le h]
theorem tot_le (L : List (List Int)) (k : Nat) : tot (L.take k) ≤ tot L := by
  have h := List.take_append_drop k L
  have e : tot (L.take k ++ L.drop k) = tot (L.take k) + tot (L.drop k) := by simp only [tot, List.map_append, List.sum_append]
  rw [h] at e
  omega
end Go.Proofs.YtpnfhienffekoaaGreatDoor
end
section
namespace Go.Proofs.YtpnfhienffekoaaGreatDoor
set_option linter.unusedVariables false
set_option linter.unusedSimpArgs false
/-- one number before another: by the key, then by itself -/
def lx (ky : Int → Int) (a b : Int) : Prop := ky a < ky b ∨ (ky a = ky b ∧ a < b)
theorem lx_trans {ky : Int → Int} {a b c : Int} (h : lx ky a b) (k : lx ky b c) : lx ky a c := by unfold lx at *; omega
theorem lx_irrefl {ky : Int → Int} {a : Int} (h : lx ky a a) : False := by unfold lx at h; omega
theorem lx_asymm {ky : Int → Int} {a b : Int} (h : lx ky a b) (k : lx ky b a) : False := lx_irrefl (lx_trans h k)
theorem lx_lt {ky : Int → Int} {a b : Int} (h : ky a < ky b) : lx ky a b := .inl h
theorem lx_ge {ky : Int → Int} {a b : Int} (h : ¬ ky b < ky a) (k : a < b) : lx ky a b := by unfold lx; omega
def gt (l : List Int) (i : Nat) : Int := l.getD i 0
theorem gt_at {l : List Int} {i : Nat} {x : Int} (h : l[i]? = some x) : gt l i = x := by simp [gt, List.getD, h]
theorem at_gt {l : List Int} {i : Nat} (h : i < l.length) : l[i]? = some (gt l i) := by simp [gt, List.getD, h]
theorem gt_set_self {l : List Int} {i : Nat} {x : Int} (h : i < l.length) : gt (l.set i x) i = x := by simp [gt, List.getD, h]
theorem gt_set_ne {l : List Int} {i j : Nat} {x : Int} (h : i ≠ j) : gt (l.set i x) j = gt l j := by simp [gt, List.getD, List.getElem?_set_ne h]
/-- two numbers change their places -/
def swp (l : List Int) (i j : Nat) : List Int := (l.set i (gt l j)).set j (gt l i)
theorem swp_length (l : List Int) (i j : Nat) : (swp l i j).length = l.length := by simp [swp]
theorem gt_swp {l : List Int} {i j : Nat} (hi : i < l.length) (hj : j < l.length) (p : Nat) : gt (swp l i j) p = if p = j then gt l i else if p = i then gt l j else gt l p := by
  unfold swp
  by_cases h : p = j
  · subst h; rw [if_pos rfl, gt_set_self (by simpa using hj)]
  · rw [if_neg h, gt_set_ne (Ne.symm h)]
    by_cases h2 : p = i
    · subst h2; rw [if_pos rfl, gt_set_self hi]
    · rw [if_neg h2, gt_set_ne (Ne.symm h2)]
/-- rising by the order from a to b -/
def Srt (ky : Int → Int) (l : List Int) (a b : Nat) : Prop := ∀ i j, a ≤ i → i < j → j < b → lx ky (gt l i) (gt l j)
/-- the numbers of the first part are less than those of the second -/
def Lss (l : List Int) (a m b : Nat) : Prop := ∀ i j, a ≤ i → i < m → m ≤ j → j < b → gt l i < gt l j
/-- the same numbers in a window, the rest untouched -/
structure Sme (l l' : List Int) (a b : Nat) : Prop where
  len : l'.length = l.length
  out : ∀ i, (i < a ∨ b ≤ i) → gt l' i = gt l i
  to : ∀ i, a ≤ i → i < b → ∃ j, a ≤ j ∧ j < b ∧ gt l' i = gt l j
  back : ∀ i, a ≤ i → i < b → ∃ j, a ≤ j ∧ j < b ∧ gt l i = gt l' j
theorem Sme.refl (l : List Int) (a b : Nat) : Sme l l a b := ⟨rfl, fun _ _ => rfl, fun i h k => ⟨i, h, k, rfl⟩, fun i h k => ⟨i, h, k, rfl⟩⟩
theorem Sme.trans {l l1 l2 : List Int} {a b : Nat} (h : Sme l l1 a b) (k : Sme l1 l2 a b) : Sme l l2 a b :=
  ⟨k.len.trans h.len, fun i hi => (k.out i hi).trans (h.out i hi),
   fun i h1 h2 => by obtain ⟨j, a1, a2, a3⟩ := k.to i h1 h2; obtain ⟨q, b1, b2, b3⟩ := h.to j a1 a2; exact ⟨q, b1, b2, a3.trans b3⟩,
   fun i h1 h2 => by obtain ⟨j, a1, a2, a3⟩ := h.back i h1 h2; obtain ⟨q, b1, b2, b3⟩ := k.back j a1 a2; exact ⟨q, b1, b2, a3.trans b3⟩⟩
theorem Sme.mono {l l' : List Int} {a b a' b' : Nat} (h : Sme l l' a b) (ha : a' ≤ a) (hb : b ≤ b') : Sme l l' a' b' :=
  ⟨h.len, fun i hi => h.out i (by omega),
   fun i h1 h2 => by
     by_cases hi : a ≤ i ∧ i < b
     · obtain ⟨j, a1, a2, a3⟩ := h.to i hi.1 hi.2; exact ⟨j, by omega, by omega, a3⟩
     · exact ⟨i, h1, h2, h.out i (by omega)⟩,
   fun i h1 h2 => by
     by_cases hi : a ≤ i ∧ i < b
     · obtain ⟨j, a1, a2, a3⟩ := h.back i hi.1 hi.2; exact ⟨j, by omega, by omega, a3⟩
     · exact ⟨i, h1, h2, (h.out i (by omega)).symm⟩⟩
theorem Sme.swp {l : List Int} {a b i j : Nat} (hi : i < l.length) (hj : j < l.length) (h1 : a ≤ i) (h2 : i < b) (h3 : a ≤ j) (h4 : j < b) : Sme l (swp l i j) a b := by
  refine ⟨swp_length l i j, fun p hp => ?_, fun p hp hq => ?_, fun p hp hq => ?_⟩
  · rw [gt_swp hi hj, if_neg (by omega), if_neg (by omega)]
  · rw [gt_swp hi hj]
    by_cases e : p = j
    · exact ⟨i, h1, h2, by rw [if_pos e]⟩
    · by_cases e2 : p = i
      · exact ⟨j, h3, h4, by rw [if_neg e, if_pos e2]⟩
      · exact ⟨p, hp, hq, by rw [if_neg e, if_neg e2]⟩
  · by_cases e : p = j
    · subst e
      refine ⟨i, h1, h2, ?_⟩
      rw [gt_swp hi hj]
      by_cases e2 : i = p
      · rw [if_pos e2, e2]
      · rw [if_neg e2, if_pos rfl]
    · by_cases e2 : p = i
      · subst e2; exact ⟨j, h3, h4, by rw [gt_swp hi hj, if_pos rfl]⟩
      · exact ⟨p, hp, hq, by rw [gt_swp hi hj, if_neg e, if_neg e2]⟩
/-- two rising lists of the same numbers are one -/
theorem srt_uniq {ky : Int → Int} {l l' : List Int} (hs : Srt ky l 0 l.length) (hs' : Srt ky l' 0 l'.length) (hm : Sme l l' 0 l.length) : l' = l := by
  have hlen := hm.len
  have key : ∀ n i, i < n → i < l.length → gt l' i = gt l i := by
    intro n
    induction n with
    | zero => intro i h; omega
    | succ n ih =>
      intro i hi hil
      obtain ⟨j, _, hj, ej⟩ := hm.to i (by omega) hil
      obtain ⟨k, _, hk, ek⟩ := hm.back i (by omega) hil
      by_cases hji : j < i
      · have := ih j (by omega) hj
        have h2 := hs' j i (by omega) hji (by omega)
        rw [this, ← ej] at h2
        exact absurd h2 lx_irrefl
      · by_cases hki : k < i
        · have := ih k (by omega) hk
          have h2 := hs k i (by omega) hki hil
          rw [← this, ← ek] at h2
          exact absurd h2 lx_irrefl
        · by_cases e1 : j = i
          · rw [ej, e1]
          · by_cases e2 : k = i
            · rw [ek, e2]
            · have a1 := hs i j (by omega) (by omega) hj
              have a2 := hs' i k (by omega) (by omega) (by omega)
              rw [← ej, ek] at a1
              exact absurd a2 (fun h => lx_asymm h a1)
  apply List.ext_getElem?
  intro i
  by_cases h : i < l.length
  · rw [at_gt h, at_gt (by omega), key (i + 1) i (by omega) h]
  · rw [List.getElem?_eq_none (by omega), List.getElem?_eq_none (by omega)]
/-- inside an insertion: the number at place j is on its way down -/
structure Ins (ky : Int → Int) (l : List Int) (a j i : Nat) : Prop where
  s1 : ∀ p q, a ≤ p → p < q → q ≤ i → p ≠ j → q ≠ j → lx ky (gt l p) (gt l q)
  s2 : ∀ q, j < q → q ≤ i → lx ky (gt l j) (gt l q)
  big : ∀ p, a ≤ p → p ≤ i → p ≠ j → gt l p < gt l j
theorem Ins.start {ky : Int → Int} {l : List Int} {a i : Nat} (hs : Srt ky l a i) (hb : ∀ p, a ≤ p → p < i → gt l p < gt l i) : Ins ky l a i i :=
  ⟨fun p q h1 h2 h3 h4 h5 => hs p q h1 h2 (by omega), fun q h1 h2 => by omega, fun p h1 h2 h3 => hb p h1 (by omega)⟩
theorem Ins.done {ky : Int → Int} {l : List Int} {a j i : Nat} (h : Ins ky l a j i) (hd : j = a ∨ ¬ ky (gt l j) < ky (gt l (j - 1))) (haj : a ≤ j) (hji : j ≤ i) : Srt ky l a (i + 1) := by
  intro p q h1 h2 h3
  by_cases e1 : p = j
  · subst e1; exact h.s2 q h2 (by omega)
  · by_cases e2 : q = j
    · subst e2
      rcases hd with e | hd
      · omega
      · have h4 : lx ky (gt l (q - 1)) (gt l q) := lx_ge hd (h.big (q - 1) (by omega) (by omega) (by omega))
        by_cases e3 : p = q - 1
        · rw [e3]; exact h4
        · exact lx_trans (h.s1 p (q - 1) h1 (by omega) (by omega) e1 (by omega)) h4
    · exact h.s1 p q h1 h2 (by omega) e1 e2
theorem Ins.step {ky : Int → Int} {l : List Int} {a j i : Nat} (h : Ins ky l a j i) (hd : ky (gt l j) < ky (gt l (j - 1))) (haj : a < j) (hji : j ≤ i) (hi : i < l.length) : Ins ky (swp l j (j - 1)) a (j - 1) i := by
  have hj : j < l.length := by omega
  have hj1 : j - 1 < l.length := by omega
  have G := fun p => gt_swp hj hj1 p
  have lj : lx ky (gt l j) (gt l (j - 1)) := lx_lt hd
  refine ⟨fun p q h1 h2 h3 h4 h5 => ?_, fun q h1 h2 => ?_, fun p h1 h2 h3 => ?_⟩
  · rw [G p, G q, if_neg h4, if_neg h5]
    by_cases e1 : p = j
    · subst e1
      rw [if_pos rfl, if_neg (by omega)]
      exact h.s1 (p - 1) q (by omega) (by omega) h3 (by omega) (by omega)
    · rw [if_neg e1]
      by_cases e2 : q = j
      · subst e2
        rw [if_pos rfl]
        exact h.s1 p (q - 1) h1 (by omega) (by omega) e1 (by omega)
      · rw [if_neg e2]; exact h.s1 p q h1 h2 h3 e1 e2
  · rw [G (j - 1), G q, if_pos rfl, if_neg (by omega)]
    by_cases e : q = j
    · rw [if_pos e]; exact lj
    · rw [if_neg e]; exact h.s2 q (by omega) h2
  · rw [G (j - 1), G p, if_pos rfl, if_neg h3]
    by_cases e : p = j
    · rw [if_pos e]; exact h.big (j - 1) (by omega) (by omega) (by omega)
    · rw [if_neg e]; exact h.big p h1 h2 e
/-- what a turn of two neighbouring parts leaves -/
structure Rot (l l' : List Int) (a m b : Nat) : Prop where
  len : l'.length = l.length
  out : ∀ p, (p < a ∨ b ≤ p) → gt l' p = gt l p
  lo : ∀ p, a ≤ p → p < a + (b - m) → gt l' p = gt l (p + (m - a))
  hi : ∀ p, a + (b - m) ≤ p → p < b → gt l' p = gt l (p - (b - m))
theorem Rot.sme {l l' : List Int} {a m b : Nat} (h : Rot l l' a m b) (h1 : a ≤ m) (h2 : m ≤ b) : Sme l l' a b := by
  refine ⟨h.len, h.out, fun p hp hq => ?_, fun p hp hq => ?_⟩
  · by_cases e : p < a + (b - m)
    · exact ⟨p + (m - a), by omega, by omega, h.lo p hp e⟩
    · exact ⟨p - (b - m), by omega, by omega, h.hi p (by omega) hq⟩
  · by_cases e : p < m
    · exact ⟨p + (b - m), by omega, by omega, by rw [h.hi (p + (b - m)) (by omega) (by omega)]; congr 1; omega⟩
    · exact ⟨p - (m - a), by omega, by omega, by rw [h.lo (p - (m - a)) (by omega) (by omega)]; congr 1; omega⟩
/-- what an exchange of two blocks of n numbers leaves -/
structure Xch (l l' : List Int) (a b n : Nat) : Prop where
  len : l'.length = l.length
  out : ∀ p, (p < a ∨ (a + n ≤ p ∧ p < b) ∨ b + n ≤ p) → gt l' p = gt l p
  lo : ∀ p, a ≤ p → p < a + n → gt l' p = gt l (p - a + b)
  hi : ∀ p, b ≤ p → p < b + n → gt l' p = gt l (p - b + a)
theorem Xch.start (l : List Int) (a b : Nat) (h : a ≤ b) : Xch l l a b 0 := ⟨rfl, fun _ _ => rfl, fun p h1 h2 => by omega, fun p h1 h2 => by omega⟩
theorem Xch.step {l l' : List Int} {a b n : Nat} (h : Xch l l' a b n) (hab : a + n < b) (hb : b + n < l.length) : Xch l (swp l' (a + n) (b + n)) a b (n + 1) := by
  have hl := h.len
  have G := fun p => gt_swp (l := l') (i := a + n) (j := b + n) (by omega) (by omega) p
  refine ⟨(swp_length _ _ _).trans hl, fun p hp => ?_, fun p h1 h2 => ?_, fun p h1 h2 => ?_⟩
  · rw [G, if_neg (by omega), if_neg (by omega)]; exact h.out p (by omega)
  · rw [G, if_neg (by omega)]
    by_cases e : p = a + n
    · subst e; rw [if_pos rfl, h.out (b + n) (by omega)]; congr 1; omega
    · rw [if_neg e]; exact h.lo p h1 (by omega)
  · rw [G]
    by_cases e : p = b + n
    · subst e; rw [if_pos rfl, h.out (a + n) (by omega)]; congr 1; omega
    · rw [if_neg e, if_neg (by omega)]; exact h.hi p h1 (by omega)
/-- where each number will be when two neighbouring parts have been turned -/
def rt (l : List Int) (a m b p : Nat) : Int := if p < a ∨ b ≤ p then gt l p else if p < a + (b - m) then gt l (p + (m - a)) else gt l (p - (b - m))
theorem Rot.of {l l' : List Int} {a m b : Nat} (h1 : a ≤ m) (h2 : m ≤ b) (hl : l'.length = l.length) (h : ∀ p, gt l' p = rt l a m b p) : Rot l l' a m b := by
  refine ⟨hl, fun p hp => ?_, fun p hp hq => ?_, fun p hp hq => ?_⟩
  · rw [h, rt, if_pos hp]
  · rw [h, rt, if_neg (by omega), if_pos hq]
  · rw [h, rt, if_neg (by omega), if_neg (by omega)]
theorem Rot.triv {l : List Int} {a m b : Nat} (h : ¬ (a < m ∧ m < b)) (h1 : a ≤ m) (h2 : m ≤ b) : Rot l l a m b := by
  refine ⟨rfl, fun _ _ => rfl, fun p hp hq => ?_, fun p hp hq => ?_⟩
  · congr 1; omega
  · congr 1; omega
/-- the way of the turn: what is left to be turned is the window m - i, m, m + j -/
structure Tng (T : Nat → Int) (n : Nat) (l : List Int) (m i j : Nat) : Prop where
  len : l.length = n
  lo : ∀ p, p < m - i → gt l p = T p
  hi : ∀ p, m + j ≤ p → gt l p = T p
  w1 : ∀ p, m - i ≤ p → p < m - i + j → gt l (p + i) = T p
  w2 : ∀ p, m - i + j ≤ p → p < m + j → gt l (p - j) = T p
theorem Tng.start {l : List Int} {a m b : Nat} (h1 : a ≤ m) (h2 : m ≤ b) : Tng (rt l a m b) l.length l m (m - a) (b - m) := by
  refine ⟨rfl, fun p hp => ?_, fun p hp => ?_, fun p hp hq => ?_, fun p hp hq => ?_⟩
  · rw [rt, if_pos (by omega)]
  · rw [rt, if_pos (by omega)]
  · rw [rt, if_neg (by omega), if_pos (by omega)]
  · rw [rt, if_neg (by omega), if_neg (by omega)]
theorem Tng.more {T : Nat → Int} {n : Nat} {l l' : List Int} {m i j : Nat} (h : Tng T n l m i j) (hij : j < i) (him : i ≤ m) (hx : Xch l l' (m - i) m j) : Tng T n l' m (i - j) j := by
  refine ⟨hx.len.trans h.len, fun p hp => ?_, fun p hp => ?_, fun p hp hq => ?_, fun p hp hq => ?_⟩
  · by_cases e : p < m - i
    · rw [hx.out p (by omega)]; exact h.lo p e
    · rw [hx.lo p (by omega) (by omega), ← h.w1 p (by omega) (by omega)]; congr 1; omega
  · rw [hx.out p (by omega)]; exact h.hi p hp
  · rw [hx.hi _ (by omega) (by omega), ← h.w2 p (by omega) (by omega)]; congr 1; omega
  · rw [hx.out _ (by omega)]; exact h.w2 p (by omega) (by omega)
theorem Tng.less {T : Nat → Int} {n : Nat} {l l' : List Int} {m i j : Nat} (h : Tng T n l m i j) (hij : i < j) (him : i ≤ m) (hx : Xch l l' (m - i) (m + j - i) i) : Tng T n l' m i (j - i) := by
  refine ⟨hx.len.trans h.len, fun p hp => ?_, fun p hp => ?_, fun p hp hq => ?_, fun p hp hq => ?_⟩
  · rw [hx.out p (by omega)]; exact h.lo p hp
  · by_cases e : m + j ≤ p
    · rw [hx.out p (by omega)]; exact h.hi p e
    · rw [hx.hi p (by omega) (by omega), ← h.w2 p (by omega) (by omega)]; congr 1; omega
  · rw [hx.out _ (by omega)]; exact h.w1 p (by omega) (by omega)
  · rw [hx.lo _ (by omega) (by omega), ← h.w1 p (by omega) (by omega)]; congr 1; omega
theorem Tng.last {T : Nat → Int} {n : Nat} {l l' : List Int} {m i : Nat} (h : Tng T n l m i i) (him : i ≤ m) (hx : Xch l l' (m - i) m i) : l'.length = n ∧ ∀ p, gt l' p = T p := by
  refine ⟨hx.len.trans h.len, fun p => ?_⟩
  by_cases e1 : p < m - i
  · rw [hx.out p (by omega)]; exact h.lo p e1
  · by_cases e2 : p < m
    · rw [hx.lo p (by omega) (by omega), ← h.w1 p (by omega) (by omega)]; congr 1; omega
    · by_cases e3 : p < m + i
      · rw [hx.hi p (by omega) (by omega), ← h.w2 p (by omega) (by omega)]; congr 1; omega
      · rw [hx.out p (by omega)]; exact h.hi p (by omega)
/-- the first number sinks into the second part -/
theorem Rot.up {l l' : List Int} {a k : Nat} (h : Rot l l' a (a + 1) (k + 1)) (hak : a ≤ k) (hk : k + 1 < l.length) : Rot l (swp l' k (k + 1)) a (a + 1) (k + 2) := by
  have hl := h.len
  have G := fun p => gt_swp (l := l') (i := k) (j := k + 1) (by omega) (by omega) p
  have e0 : gt l' k = gt l a := by rw [h.hi k (by omega) (by omega)]; congr 1; omega
  have e1 : gt l' (k + 1) = gt l (k + 1) := h.out _ (by omega)
  refine ⟨(swp_length _ _ _).trans hl, fun p hp => ?_, fun p hp hq => ?_, fun p hp hq => ?_⟩
  · rw [G, if_neg (by omega), if_neg (by omega)]; exact h.out p (by omega)
  · rw [G, if_neg (by omega)]
    by_cases e : p = k
    · subst e; rw [if_pos rfl, e1]; congr 1; omega
    · rw [if_neg e]; exact h.lo p hp (by omega)
  · obtain rfl : p = k + 1 := by omega
    rw [G, if_pos rfl, e0]; congr 1; omega
/-- the last number climbs into the first part -/
theorem Rot.down {l l' : List Int} {k m : Nat} (h : Rot l l' (k + 1) m (m + 1)) (hkm : k + 1 ≤ m) (hm : m < l.length) : Rot l (swp l' (k + 1) k) k m (m + 1) := by
  have hl := h.len
  have G := fun p => gt_swp (l := l') (i := k + 1) (j := k) (by omega) (by omega) p
  have e0 : gt l' (k + 1) = gt l m := by rw [h.lo (k + 1) (by omega) (by omega)]; congr 1; omega
  have e1 : gt l' k = gt l k := h.out _ (by omega)
  refine ⟨(swp_length _ _ _).trans hl, fun p hp => ?_, fun p hp hq => ?_, fun p hp hq => ?_⟩
  · rw [G, if_neg (by omega), if_neg (by omega)]; exact h.out p (by omega)
  · obtain rfl : p = k := by omega
    rw [G, if_pos rfl, e0]; congr 1; omega
  · rw [G, if_neg (by omega)]
    by_cases e : p = k + 1
    · subst e; rw [if_pos rfl, e1]; congr 1; omega
    · rw [if_neg e]; exact h.hi p (by omega) hq
section
variable {ky : Int → Int} {l l' : List Int} {a m b : Nat}
/-- the place of the first number among the second part is found -/
theorem one_first (hs : Srt ky l (a + 1) b) {i : Nat} (hi1 : a + 1 ≤ i) (hi2 : i ≤ b) (h1 : ∀ q, a + 1 ≤ q → q < i → lx ky (gt l q) (gt l a)) (h2 : ∀ q, i ≤ q → q < b → lx ky (gt l a) (gt l q)) (hr : Rot l l' a (a + 1) i) : Srt ky l' a b := by
  have val : ∀ p, a ≤ p → p < b → gt l' p = (if p < i - 1 then gt l (p + 1) else if p = i - 1 then gt l a else gt l p) := by
    intro p hp hq
    by_cases e : p < i - 1
    · rw [if_pos e, hr.lo p hp (by omega)]; congr 1; omega
    · rw [if_neg e]
      by_cases e2 : p = i - 1
      · rw [if_pos e2, hr.hi p (by omega) (by omega)]; congr 1; omega
      · rw [if_neg e2, hr.out p (by omega)]
  intro p q hp hpq hq
  rw [val p hp (by omega), val q (by omega) hq]
  by_cases e1 : p < i - 1
  · rw [if_pos e1]
    by_cases e2 : q < i - 1
    · rw [if_pos e2]; exact hs _ _ (by omega) (by omega) (by omega)
    · rw [if_neg e2]
      by_cases e3 : q = i - 1
      · rw [if_pos e3]; exact h1 _ (by omega) (by omega)
      · rw [if_neg e3]; exact hs _ _ (by omega) (by omega) (by omega)
  · rw [if_neg e1, if_neg (show ¬ q < i - 1 by omega), if_neg (show ¬ q = i - 1 by omega)]
    by_cases e3 : p = i - 1
    · rw [if_pos e3]; exact h2 _ (by omega) hq
    · rw [if_neg e3]; exact hs _ _ (by omega) hpq hq
/-- the place of the last number among the first part is found -/
theorem one_last (hs : Srt ky l a m) {i : Nat} (hi1 : a ≤ i) (hi2 : i ≤ m) (h1 : ∀ q, a ≤ q → q < i → lx ky (gt l q) (gt l m)) (h2 : ∀ q, i ≤ q → q < m → lx ky (gt l m) (gt l q)) (hr : Rot l l' i m (m + 1)) : Srt ky l' a (m + 1) := by
  have val : ∀ p, a ≤ p → p < m + 1 → gt l' p = (if p < i then gt l p else if p = i then gt l m else gt l (p - 1)) := by
    intro p hp hq
    by_cases e : p < i
    · rw [if_pos e, hr.out p (by omega)]
    · rw [if_neg e]
      by_cases e2 : p = i
      · rw [if_pos e2, hr.lo p (by omega) (by omega)]; congr 1; omega
      · rw [if_neg e2, hr.hi p (by omega) (by omega)]; congr 1; omega
  intro p q hp hpq hq
  rw [val p hp (by omega), val q (by omega) hq]
  by_cases e1 : p < i
  · rw [if_pos e1]
    by_cases e2 : q < i
    · rw [if_pos e2]; exact hs _ _ hp hpq (by omega)
    · rw [if_neg e2]
      by_cases e3 : q = i
      · rw [if_pos e3]; exact h1 _ hp e1
      · rw [if_neg e3]; exact hs _ _ hp (by omega) (by omega)
  · rw [if_neg e1, if_neg (show ¬ q < i by omega), if_neg (show ¬ q = i by omega)]
    by_cases e3 : p = i
    · rw [if_pos e3]; exact h2 _ (by omega) (by omega)
    · rw [if_neg e3]; exact hs _ _ (by omega) (by omega) (by omega)
/-- the search of the place where two parts are cut: n is the sum of the middle and m -/
structure Fnd (ky : Int → Int) (l : List Int) (n lo hi s r : Nat) : Prop where
  o1 : lo ≤ s
  o2 : s ≤ r
  o3 : r ≤ hi
  c1 : ∀ c, lo ≤ c → c < s → lx ky (gt l c) (gt l (n - 1 - c))
  c2 : ∀ c, r ≤ c → c < hi → lx ky (gt l (n - 1 - c)) (gt l c)
/-- the bounds of the search -/
structure Bnd (a m b n lo hi : Nat) : Prop where
  b1 : a ≤ lo
  b2 : hi ≤ m
  b3 : lo ≤ hi
  b4 : hi + m ≤ n
  b5 : n ≤ lo + b
theorem Fnd.up {n lo hi s r c : Nat} (hB : Bnd a m b n lo hi) (hs1 : Srt ky l a m) (hs2 : Srt ky l m b) (hl : Lss l a m b) (h : Fnd ky l n lo hi s r) (h1 : s ≤ c) (h2 : c < r) (hc : ¬ ky (gt l (n - 1 - c)) < ky (gt l c)) : Fnd ky l n lo hi (c + 1) r := by
  obtain ⟨b1, b2, b3, b4, b5⟩ := hB
  obtain ⟨o1, o2, o3, c1, c2⟩ := h
  have k : lx ky (gt l c) (gt l (n - 1 - c)) := lx_ge hc (hl c (n - 1 - c) (by omega) (by omega) (by omega) (by omega))
  refine ⟨by omega, by omega, o3, fun q h3 h4 => ?_, c2⟩
  by_cases e : q = c
  · rw [e]; exact k
  · exact lx_trans (hs1 q c (by omega) (by omega) (by omega)) (lx_trans k (hs2 (n - 1 - c) (n - 1 - q) (by omega) (by omega) (by omega)))
theorem Fnd.down {n lo hi s r c : Nat} (hB : Bnd a m b n lo hi) (hs1 : Srt ky l a m) (hs2 : Srt ky l m b) (h : Fnd ky l n lo hi s r) (h1 : s ≤ c) (h2 : c < r) (hc : ky (gt l (n - 1 - c)) < ky (gt l c)) : Fnd ky l n lo hi s c := by
  obtain ⟨b1, b2, b3, b4, b5⟩ := hB
  obtain ⟨o1, o2, o3, c1, c2⟩ := h
  have k : lx ky (gt l (n - 1 - c)) (gt l c) := lx_lt hc
  refine ⟨o1, h1, by omega, c1, fun q h3 h4 => ?_⟩
  by_cases e : q = c
  · rw [e]; exact k
  · exact lx_trans (hs2 (n - 1 - q) (n - 1 - c) (by omega) (by omega) (by omega)) (lx_trans k (hs1 c q (by omega) (by omega) (by omega)))
/-- behind the turn two smaller tasks are left, and all of the first half comes before all of the second -/
theorem cut_done {mid n lo hi s : Nat} (hB : Bnd a m b n lo hi) (hn : n = mid + m) (ham : a ≤ m) (hmb : m ≤ b) (hmid : a ≤ mid ∧ mid ≤ b) (hlo : lo = a ∨ lo + b = n) (hhi : hi = m ∨ hi = mid) (hs1 : Srt ky l a m) (hs2 : Srt ky l m b) (hl : Lss l a m b) (h : Fnd ky l n lo hi s s)
    (hr : Rot l l' s m (n - s)) : s ≤ mid ∧ mid ≤ n - s ∧ n - s ≤ b ∧ a ≤ s ∧ Srt ky l' a s ∧ Srt ky l' s mid ∧ Srt ky l' mid (n - s) ∧ Srt ky l' (n - s) b ∧ Lss l' a s mid ∧ Lss l' mid (n - s) b ∧ (∀ p q, a ≤ p → p < mid → mid ≤ q → q < b → lx ky (gt l' p) (gt l' q)) := by
  obtain ⟨b1, b2, b3, b4, b5⟩ := hB
  obtain ⟨o1, _, o3, c1, c2⟩ := h
  have hsm : s ≤ mid := by omega
  -- the four pieces
  have v1 : ∀ p, a ≤ p → p < s → gt l' p = gt l p := fun p h1 h2 => hr.out p (.inl h2)
  have v2 : ∀ p, s ≤ p → p < mid → gt l' p = gt l (p + (m - s)) := fun p h1 h2 => hr.lo p h1 (by omega)
  have v3 : ∀ p, mid ≤ p → p < n - s → gt l' p = gt l (p - (n - s - m)) := fun p h1 h2 => hr.hi p (by omega) h2
  have v4 : ∀ p, n - s ≤ p → p < b → gt l' p = gt l p := fun p h1 h2 => hr.out p (.inr h1)
  refine ⟨hsm, by omega, by omega, by omega, fun p q h1 h2 h3 => ?_, fun p q h1 h2 h3 => ?_, fun p q h1 h2 h3 => ?_, fun p q h1 h2 h3 => ?_, fun p q h1 h2 h3 h4 => ?_, fun p q h1 h2 h3 h4 => ?_, fun p q h1 h2 h3 h4 => ?_⟩
  · rw [v1 p h1 (by omega), v1 q (by omega) h3]; exact hs1 p q h1 h2 (by omega)
  · rw [v2 p h1 (by omega), v2 q (by omega) h3]; exact hs2 _ _ (by omega) (by omega) (by omega)
  · rw [v3 p h1 (by omega), v3 q (by omega) h3]; exact hs1 _ _ (by omega) (by omega) (by omega)
  · rw [v4 p h1 (by omega), v4 q (by omega) h3]; exact hs2 p q (by omega) h2 h3
  · rw [v1 p h1 h2, v2 q h3 h4]; exact hl _ _ (by omega) (by omega) (by omega) (by omega)
  · rw [v3 p h1 h2, v4 q h3 h4]; exact hl _ _ (by omega) (by omega) (by omega) (by omega)
  · by_cases e1 : p < s
    · rw [v1 p h1 e1]
      by_cases e2 : q < n - s
      · rw [v3 q h3 e2]; exact hs1 _ _ (by omega) (by omega) (by omega)
      · rw [v4 q (by omega) h4]
        have hlos : lo < s := by omega
        have k := c1 (s - 1) (by omega) (by omega)
        have k1 : lx ky (gt l p) (gt l (n - 1 - (s - 1))) := by
          by_cases e : p = s - 1
          · rw [e]; exact k
          · exact lx_trans (hs1 p (s - 1) h1 (by omega) (by omega)) k
        by_cases e : q = n - 1 - (s - 1)
        · rw [e]; exact k1
        · exact lx_trans k1 (hs2 _ _ (by omega) (by omega) h4)
    · rw [v2 p (by omega) h2]
      by_cases e2 : q < n - s
      · rw [v3 q h3 e2]
        have hshi : s < hi := by omega
        have k := c2 s (by omega) hshi
        have k1 : lx ky (gt l (p + (m - s))) (gt l s) := by
          by_cases e : p + (m - s) = n - 1 - s
          · rw [e]; exact k
          · exact lx_trans (hs2 _ _ (by omega) (by omega) (by omega)) k
        by_cases e : q - (n - s - m) = s
        · rw [e]; exact k1
        · exact lx_trans k1 (hs1 _ _ (by omega) (by omega) (by omega))
      · rw [v4 q (by omega) h4]; exact hs2 _ _ (by omega) (by omega) h4
/-- the two halves are sorted: so is the whole -/
theorem halves {l1 l2 l3 : List Int} {mid : Nat} (ha : a ≤ mid) (hb : mid ≤ b) (hx : ∀ p q, a ≤ p → p < mid → mid ≤ q → q < b → lx ky (gt l1 p) (gt l1 q)) (h2 : Sme l1 l2 a mid) (s2 : Srt ky l2 a mid) (h3 : Sme l2 l3 mid b) (s3 : Srt ky l3 mid b) : Srt ky l3 a b := by
  intro p q h4 h5 h6
  by_cases e1 : q < mid
  · rw [h3.out p (by omega), h3.out q (by omega)]; exact s2 p q h4 h5 e1
  · by_cases e2 : p < mid
    · rw [h3.out p (by omega)]
      obtain ⟨i, i1, i2, i3⟩ := h2.to p h4 e2
      obtain ⟨j, j1, j2, j3⟩ := h3.to q (by omega) h6
      rw [i3, j3, h2.out j (by omega)]; exact hx i j i1 i2 j1 j2
    · exact s3 p q (by omega) h5 h6
theorem Srt.keep {l1 l2 : List Int} {c d : Nat} (h : Srt ky l1 c d) (hs : Sme l1 l2 a b) (hd : d ≤ a ∨ b ≤ c) : Srt ky l2 c d := fun p q h1 h2 h3 => by
  rw [hs.out p (by omega), hs.out q (by omega)]; exact h p q h1 h2 h3
theorem Lss.keep {l1 l2 : List Int} {c d e : Nat} (h : Lss l1 c d e) (hs : Sme l1 l2 a b) (hd : e ≤ a ∨ b ≤ c) : Lss l2 c d e := fun p q h1 h2 h3 h4 => by
  rw [hs.out p (by omega), hs.out q (by omega)]; exact h p q h1 h2 h3 h4
theorem Lss.sme {l1 l2 l3 : List Int} {c d e : Nat} (h : Lss l1 c d e) (h1 : Sme l1 l2 c d) (h2 : Sme l2 l3 d e) : Lss l3 c d e := fun p q a1 a2 a3 a4 => by
  obtain ⟨i, i1, i2, i3⟩ := h1.to p a1 a2
  obtain ⟨j, j1, j2, j3⟩ := h2.to q a3 a4
  rw [h2.out p (.inl a2), i3, j3, h1.out j (.inr j1)]; exact h i j i1 i2 j1 j2
end
end Go.Proofs.YtpnfhienffekoaaGreatDoor
end
section
namespace Go.Proofs.YtpnfhienffekoaaGreatDoor
set_option linter.unusedVariables false
set_option linter.unusedSimpArgs false
/-- how many numbers stand before the place of i -/
def posK (ky : Int → Int) (i : Int) : List Int → Nat
  | [] => 0
  | x :: l => if ky x ≤ ky i then posK ky i l + 1 else 0
/-- a number put behind all whose key is not greater -/
def insK (ky : Int → Int) (i : Int) (l : List Int) : List Int := l.take (posK ky i l) ++ i :: l.drop (posK ky i l)
def sortL (ky : Int → Int) (xs : List Int) : List Int := xs.foldl (fun o i => insK ky i o) []
theorem posK_le (ky : Int → Int) (i : Int) : ∀ l : List Int, posK ky i l ≤ l.length
  | [] => Nat.le_refl _
  | x :: l => by
    have := posK_le ky i l
    rw [posK]; split <;> simp only [List.length_cons] <;> omega
theorem posK_lo (ky : Int → Int) (i : Int) : ∀ (l : List Int) (j : Nat), j < posK ky i l → ky (gt l j) ≤ ky i
  | [], j, h => by simp [posK] at h
  | x :: l, j, h => by
    rw [posK] at h
    split at h
    · next hx =>
      cases j with
      | zero => exact hx
      | succ j => have := posK_lo ky i l j (by omega); simpa [gt] using this
    · omega
theorem posK_at (ky : Int → Int) (i : Int) : ∀ (l : List Int), posK ky i l < l.length → ky i < ky (gt l (posK ky i l))
  | [], h => by simp at h
  | x :: l, h => by
    rw [posK] at h ⊢
    split
    · next hx =>
      rw [if_pos hx] at h
      have := posK_at ky i l (by simpa using h)
      simpa [gt] using this
    · next hx => show ky i < ky x; omega
/-- the keys of a rising list do not fall -/
theorem srt_key {ky : Int → Int} {l : List Int} {a b : Nat} (h : Srt ky l a b) {i j : Nat} (h1 : a ≤ i) (h2 : i ≤ j) (h3 : j < b) : ky (gt l i) ≤ ky (gt l j) := by
  by_cases e : i = j
  · rw [e]; omega
  · have := h i j h1 (by omega) h3
    unfold lx at this; omega
/-- the place that is found from behind is that place -/
theorem posK_uniq {ky : Int → Int} {i : Int} {l : List Int} (h : Srt ky l 0 l.length) {k : Nat} (hk : k ≤ l.length) (h1 : ∀ j, k ≤ j → j < l.length → ky i < ky (gt l j)) (h2 : k = 0 ∨ ky (gt l (k - 1)) ≤ ky i) : k = posK ky i l := by
  have hp := posK_le ky i l
  rcases Nat.lt_trichotomy k (posK ky i l) with hlt | e | hlt
  · have a := h1 k (Nat.le_refl _) (by omega)
    have b := posK_lo ky i l k hlt
    omega
  · exact e
  · have a := posK_at ky i l (by omega)
    rcases h2 with h2 | h2
    · omega
    · have b := srt_key h (Nat.zero_le _) (show posK ky i l ≤ k - 1 by omega) (by omega)
      omega
theorem insK_length (ky : Int → Int) (i : Int) (l : List Int) : (insK ky i l).length = l.length + 1 := by
  have := posK_le ky i l
  simp only [insK, List.length_append, List.length_take, List.length_cons, List.length_drop]; omega
theorem insK_mem (ky : Int → Int) (i x : Int) (l : List Int) : x ∈ insK ky i l ↔ x = i ∨ x ∈ l := by
  have h := List.take_append_drop (posK ky i l) l
  have hm : x ∈ l ↔ x ∈ l.take (posK ky i l) ∨ x ∈ l.drop (posK ky i l) := by
    conv => lhs; rw [← h]
    exact List.mem_append
  rw [insK, List.mem_append, List.mem_cons, hm]
  constructor
  · rintro (h | h | h)
    · exact .inr (.inl h)
    · exact .inl h
    · exact .inr (.inr h)
  · rintro (h | h | h)
    · exact .inr (.inl h)
    · exact .inl h
    · exact .inr (.inr h)
theorem gt_insK (ky : Int → Int) (i : Int) (l : List Int) (j : Nat) (hj : j < l.length + 1) : gt (insK ky i l) j = if j < posK ky i l then gt l j else if j = posK ky i l then i else gt l (j - 1) := by
  have hp := posK_le ky i l
  by_cases h1 : j < posK ky i l
  · rw [if_pos h1]
    have : (insK ky i l)[j]? = l[j]? := by
      rw [insK, List.getElem?_append_left (by rw [List.length_take]; omega), List.getElem?_take, if_pos h1]
    rw [gt, gt, List.getD, List.getD, this]
  · rw [if_neg h1]
    have hl : (l.take (posK ky i l)).length = posK ky i l := by rw [List.length_take]; omega
    by_cases h2 : j = posK ky i l
    · rw [if_pos h2]
      apply gt_at
      rw [insK, List.getElem?_append_right (by omega), hl, h2]; simp
    · rw [if_neg h2]
      have : (insK ky i l)[j]? = l[j - 1]? := by
        rw [insK, List.getElem?_append_right (by omega), hl]
        obtain ⟨r, hr⟩ : ∃ r, j - posK ky i l = r + 1 := ⟨j - posK ky i l - 1, by omega⟩
        rw [hr, List.getElem?_cons_succ, List.getElem?_drop]
        congr 1; omega
      rw [gt, gt, List.getD, List.getD, this]
theorem insK_srt {ky : Int → Int} {i : Int} {l : List Int} (h : Srt ky l 0 l.length) (hb : ∀ x ∈ l, x < i) : Srt ky (insK ky i l) 0 (insK ky i l).length := by
  have hp := posK_le ky i l
  rw [insK_length]
  have hmem : ∀ j, j < l.length → gt l j < i := fun j hj => hb _ (List.mem_of_getElem? (at_gt hj))
  have lo : ∀ j, j < posK ky i l → lx ky (gt l j) i := fun j hj => lx_ge (by have := posK_lo ky i l j hj; omega) (hmem j (by omega))
  have hi : ∀ j, posK ky i l ≤ j → j < l.length → lx ky i (gt l j) := fun j hj hl => lx_lt (by
    have a := posK_at ky i l (by omega)
    have b := srt_key h (Nat.zero_le _) hj hl
    omega)
  intro p q h1 h2 h3
  rw [gt_insK ky i l p (by omega), gt_insK ky i l q h3]
  by_cases e1 : p < posK ky i l
  · rw [if_pos e1]
    by_cases e2 : q < posK ky i l
    · rw [if_pos e2]; exact h p q h1 h2 (by omega)
    · rw [if_neg e2]
      by_cases e3 : q = posK ky i l
      · rw [if_pos e3]; exact lo p e1
      · rw [if_neg e3]; exact h p (q - 1) h1 (by omega) (by omega)
  · rw [if_neg e1, if_neg (show ¬ q < posK ky i l by omega), if_neg (show ¬ q = posK ky i l by omega)]
    by_cases e3 : p = posK ky i l
    · rw [if_pos e3]; exact hi (q - 1) (by omega) (by omega)
    · rw [if_neg e3]; exact h (p - 1) (q - 1) (by omega) (by omega) (by omega)
theorem sortL_snoc (ky : Int → Int) (xs : List Int) (i : Int) : sortL ky (xs ++ [i]) = insK ky i (sortL ky xs) := by simp [sortL, List.foldl_append]
theorem sortL_all (ky : Int → Int) (xs : List Int) (h : xs.Pairwise (· < ·)) : (sortL ky xs).length = xs.length ∧ (∀ x, x ∈ sortL ky xs ↔ x ∈ xs) ∧ Srt ky (sortL ky xs) 0 (sortL ky xs).length := by
  obtain ⟨n, hn⟩ : ∃ n, n = xs.length := ⟨_, rfl⟩
  induction n generalizing xs with
  | zero =>
    obtain rfl : xs = [] := List.eq_nil_of_length_eq_zero hn.symm
    exact ⟨rfl, fun x => Iff.rfl, fun i j h1 h2 h3 => by simp [sortL] at h3⟩
  | succ n ih =>
    obtain ⟨ys, i, rfl⟩ : ∃ (ys : List Int) (i : Int), xs = ys ++ [i] := by
      rcases List.eq_nil_or_concat xs with e | ⟨ys, i, e⟩
      · rw [e] at hn; simp at hn
      · exact ⟨ys, i, by simpa using e⟩
    rw [List.pairwise_append] at h
    obtain ⟨h1, h2, h3⟩ := ih ys h.1 (by simp at hn; omega)
    rw [sortL_snoc]
    refine ⟨by rw [insK_length, h1, List.length_append]; rfl, fun x => ?_, insK_srt h3 (fun x hx => h.2.2 x ((h2 x).1 hx) i (by simp))⟩
    rw [insK_mem, h2, List.mem_append, List.mem_singleton]
    exact Or.comm
/-- a rising list of the same numbers is the one that the insertions make -/
theorem sortL_uniq {ky : Int → Int} {xs l : List Int} (h : xs.Pairwise (· < ·)) (hs : Srt ky l 0 xs.length) (hm : Sme xs l 0 xs.length) : l = sortL ky xs := by
  obtain ⟨h1, h2, h3⟩ := sortL_all ky xs h
  have hlen := hm.len
  have idx : ∀ x, x ∈ xs → ∃ j, j < xs.length ∧ gt xs j = x := fun x hx => by
    obtain ⟨j, hj, e⟩ := List.getElem_of_mem hx
    exact ⟨j, hj, gt_at (by rw [List.getElem?_eq_getElem hj, e])⟩
  have idx2 : ∀ x, x ∈ sortL ky xs → ∃ j, j < xs.length ∧ gt (sortL ky xs) j = x := fun x hx => by
    obtain ⟨j, hj, e⟩ := List.getElem_of_mem hx
    exact ⟨j, by omega, gt_at (by rw [List.getElem?_eq_getElem hj, e])⟩
  refine srt_uniq (ky := ky) h3 (by rw [hlen]; exact hs) ⟨by rw [h1]; exact hlen, fun i hi => ?_, fun i _ hi => ?_, fun i _ hi => ?_⟩
  · have hi' : xs.length ≤ i := by rw [h1] at hi; omega
    rw [gt, gt, List.getD, List.getD, List.getElem?_eq_none (by omega), List.getElem?_eq_none (by omega)]
  · obtain ⟨j, _, j2, j3⟩ := hm.to i (by omega) (by omega)
    obtain ⟨p, p1, p2⟩ := idx2 (gt xs j) ((h2 _).2 (List.mem_of_getElem? (at_gt j2)))
    exact ⟨p, by omega, by omega, by rw [j3, p2]⟩
  · have hx : gt (sortL ky xs) i ∈ xs := (h2 _).1 (List.mem_of_getElem? (at_gt hi))
    obtain ⟨j, j1, j2⟩ := idx _ hx
    obtain ⟨p, _, p2, p3⟩ := hm.back j (by omega) j1
    exact ⟨p, by omega, by omega, by rw [← j2, p3]⟩
end Go.Proofs.YtpnfhienffekoaaGreatDoor
end
section
namespace Go.Proofs.YtpnfhienffekoaaGreatDoor
set_option linter.unusedVariables false
set_option linter.unusedSimpArgs false
theorem bl_irrefl : ∀ a : List UInt8, Op.bytesLess a a = false
  | [] => rfl
  | x :: a => by
    have h : ¬ x < x := by simp [UInt8.lt_irrefl]
    simp [Op.bytesLess, h, bl_irrefl a]
theorem bl_trans : ∀ {a b c : List UInt8}, Op.bytesLess a b = true → Op.bytesLess b c = true → Op.bytesLess a c = true
  | _, [], _, h, _ => by simp [Op.bytesLess] at h
  | _, _ :: _, [], _, h => by simp [Op.bytesLess] at h
  | [], _ :: _, _ :: _, _, _ => rfl
  | x :: a, y :: b, z :: c, h1, h2 => by
    simp only [Op.bytesLess, Bool.or_eq_true, decide_eq_true_eq, Bool.and_eq_true, beq_iff_eq] at h1 h2 ⊢
    rcases h1 with h1 | ⟨rfl, h1⟩
    · rcases h2 with h2 | ⟨rfl, h2⟩
      · exact .inl (UInt8.lt_trans h1 h2)
      · exact .inl h1
    · rcases h2 with h2 | ⟨rfl, h2⟩
      · exact .inl h2
      · exact .inr ⟨rfl, bl_trans h1 h2⟩
theorem bl_tri : ∀ {a b : List UInt8}, Op.bytesLess a b = false → Op.bytesLess b a = false → a = b
  | [], [], _, _ => rfl
  | [], _ :: _, h, _ => by simp [Op.bytesLess] at h
  | _ :: _, [], _, h => by simp [Op.bytesLess] at h
  | x :: a, y :: b, h1, h2 => by
    simp only [Op.bytesLess, Bool.or_eq_false_iff, decide_eq_false_iff_not, Bool.and_eq_false_iff, beq_eq_false_iff_ne] at h1 h2
    have e : x = y := by
      have a1 := UInt8.not_lt.1 h1.1
      have a2 := UInt8.not_lt.1 h2.1
      exact UInt8.le_antisymm a2 a1
    subst e
    have e := bl_tri (a := a) (b := b) (by rcases h1.2 with h | h; exact absurd rfl h; exact h) (by rcases h2.2 with h | h; exact absurd rfl h; exact h)
    rw [e]
theorem ltS_irrefl (a : ByteArray) : ltS a a = false := bl_irrefl _
theorem ltS_trans {a b c : ByteArray} (h : ltS a b = true) (k : ltS b c = true) : ltS a c = true := bl_trans h k
/-- the place where a name belongs -/
def IsAt (l : List Sta) (id : ByteArray) (k : Nat) : Prop := k ≤ l.length ∧ (∀ j x, j < k → l[j]? = some x → ltS x.id id = true) ∧ (∀ x, l[k]? = some x → ltS x.id id = false)
theorem IsAt.uniq {l : List Sta} {id : ByteArray} {k k' : Nat} (h : IsAt l id k) (h' : IsAt l id k') : k = k' := by
  obtain ⟨a1, a2, a3⟩ := h
  obtain ⟨b1, b2, b3⟩ := h'
  rcases Nat.lt_trichotomy k k' with hlt | e | hlt
  · obtain ⟨x, hx⟩ := at_lt (l := l) (k := k) (by omega)
    have := b2 k x hlt hx
    rw [a3 x hx] at this; cases this
  · exact e
  · obtain ⟨x, hx⟩ := at_lt (l := l) (k := k') (by omega)
    have := a2 k' x hlt hx
    rw [b3 x hx] at this; cases this
def addK (id : ByteArray) : List Sta → Nat
  | [] => 0
  | x :: l => if ltS x.id id then addK id l + 1 else 0
theorem addK_is (id : ByteArray) : ∀ l : List Sta, IsAt l id (addK id l)
  | [] => ⟨Nat.le_refl _, fun j x hj _ => absurd hj (by simp [addK]), fun x hx => by simp at hx⟩
  | y :: l => by
    obtain ⟨a1, a2, a3⟩ := addK_is id l
    rw [addK]
    cases hy : ltS y.id id with
    | true =>
      rw [if_pos rfl]
      refine ⟨by simp; exact a1, fun j x hj hx => ?_, fun x hx => a3 x (by simpa using hx)⟩
      cases j with
      | zero => simp only [List.getElem?_cons_zero, Option.some.injEq] at hx; subst hx; exact hy
      | succ j => exact a2 j x (by omega) (by simpa using hx)
    | false =>
      refine ⟨Nat.zero_le _, fun j x hj _ => absurd hj (by simp), fun x hx => ?_⟩
      simp only [Bool.false_eq_true, if_false, List.getElem?_cons_zero, Option.some.injEq] at hx
      subst hx; exact hy
theorem vStars_lt2 {l : List Sta} (h : vStars l = true) {i j : Nat} {x y : Sta} (hij : i < j) (hx : l[i]? = some x) (hy : l[j]? = some y) : ltS x.id y.id = true := by
  induction j generalizing y with
  | zero => omega
  | succ j ih =>
    have hj : j + 1 < l.length := (List.getElem?_eq_some_iff.1 hy).1
    obtain ⟨z, hz⟩ := at_lt (l := l) (k := j) (by omega)
    have h1 := vStars_lt h hy hz
    by_cases e : i = j
    · subst e
      rw [hx] at hz; cases hz; exact h1
    · exact ltS_trans (ih (by omega) hz) h1
end Go.Proofs.YtpnfhienffekoaaGreatDoor
end
section
namespace Go.Proofs.YtpnfhienffekoaaGreatDoor
set_option linter.unusedVariables false
set_option linter.unusedSimpArgs false
/-- a number put to its place among rising ones, once -/
def putI (n : Int) : List Int → List Int
  | [] => [n]
  | x :: l => if x < n then x :: putI n l else if x = n then x :: l else n :: x :: l
theorem putI_mem {n x : Int} : ∀ {l : List Int}, x ∈ putI n l ↔ x = n ∨ x ∈ l
  | [] => by simp [putI]
  | y :: l => by
    rw [putI]
    by_cases h : y < n
    · rw [if_pos h, List.mem_cons, putI_mem, List.mem_cons]
      constructor
      · rintro (h | h | h)
        · exact .inr (.inl h)
        · exact .inl h
        · exact .inr (.inr h)
      · rintro (h | h | h)
        · exact .inr (.inl h)
        · exact .inl h
        · exact .inr (.inr h)
    · rw [if_neg h]
      by_cases h2 : y = n
      · rw [if_pos h2, h2]; simp
      · rw [if_neg h2]; simp
theorem putI_rise {n : Int} : ∀ {l : List Int}, l.Pairwise (· < ·) → (putI n l).Pairwise (· < ·)
  | [], _ => by simp [putI]
  | y :: l, h => by
    rw [List.pairwise_cons] at h
    rw [putI]
    by_cases h1 : y < n
    · rw [if_pos h1, List.pairwise_cons]
      refine ⟨fun x hx => ?_, putI_rise h.2⟩
      rcases putI_mem.1 hx with rfl | hx
      · exact h1
      · exact h.1 x hx
    · rw [if_neg h1]
      by_cases h2 : y = n
      · rw [if_pos h2, List.pairwise_cons]; exact h
      · rw [if_neg h2, List.pairwise_cons, List.pairwise_cons]
        refine ⟨fun x hx => ?_, h⟩
        rcases List.mem_cons.1 hx with rfl | hx
        · omega
        · have := h.1 x hx; omega
theorem putI_len (n : Int) : ∀ l : List Int, (putI n l).length ≤ l.length + 1
  | [] => by simp [putI]
  | y :: l => by
    have := putI_len n l
    rw [putI]
    split
    · simp only [List.length_cons]; omega
    · split
      · simp only [List.length_cons]; omega
      · simp only [List.length_cons]; omega
/-- so far all are less -/
theorem putI_less {n : Int} {l : List Int} {k : Nat} {x : Int} (ha : ∀ y ∈ l.take k, y < n) (hx : l[k]? = some x) (h : n ≤ x) : putI n l = l.take k ++ (if n < x then [n] else []) ++ l.drop k := by
  induction l generalizing k with
  | nil => simp at hx
  | cons y l ih =>
    cases k with
    | zero =>
      simp only [List.getElem?_cons_zero, Option.some.injEq] at hx
      subst hx
      rw [putI, if_neg (by omega)]
      by_cases e : y = n
      · rw [if_pos e, if_neg (by omega)]; simp
      · rw [if_neg e, if_pos (by omega)]; simp
    | succ k =>
      rw [putI, if_pos (ha y (by simp)), ih (k := k) (fun z hz => ha z (by simp [hz])) (by simpa using hx)]
      simp
theorem putI_end {n : Int} {l : List Int} (ha : ∀ y ∈ l, y < n) : putI n l = l ++ [n] := by
  induction l with
  | nil => rfl
  | cons y l ih => rw [putI, if_pos (ha y (by simp)), ih (fun z hz => ha z (by simp [hz]))]; rfl
/-- two strictly rising lists with the same members are one -/
theorem rise_ext : ∀ {l l' : List Int}, l.Pairwise (· < ·) → l'.Pairwise (· < ·) → (∀ x, x ∈ l ↔ x ∈ l') → l = l'
  | [], [], _, _, _ => rfl
  | [], b :: t, _, _, h => by have := (h b).2 (by simp); cases this
  | a :: t, [], _, _, h => by have := (h a).1 (by simp); cases this
  | a :: t, b :: t', h1, h2, h => by
    rw [List.pairwise_cons] at h1 h2
    have e : a = b := by
      have ha := (h a).1 (by simp)
      have hb := (h b).2 (by simp)
      rcases List.mem_cons.1 ha with e | ha
      · exact e
      · rcases List.mem_cons.1 hb with e | hb
        · exact e.symm
        · have := h1.1 b hb; have := h2.1 a ha; omega
    subst e
    rw [rise_ext h1.2 h2.2 (fun x => ?_)]
    have hx := h x
    simp only [List.mem_cons] at hx
    constructor
    · intro hm
      have hlt := h1.1 x hm
      rcases hx.1 (.inr hm) with e | hm'
      · omega
      · exact hm'
    · intro hm
      have hlt := h2.1 x hm
      rcases hx.2 (.inr hm) with e | hm'
      · omega
      · exact hm'
theorem rise_nodup {l : List Int} (h : l.Pairwise (· < ·)) : l.Nodup := h.imp (fun {a b} hab => by omega)
open Go.Lib
theorem compact_mem (d : Array Int) (x : Int) : ∀ m : Nat, x ∈ compactUpTo d m ↔ ∃ j, j < m ∧ d[j]! = x
  | 0 => by simp [compactUpTo]
  | m + 1 => by
    rw [compactUpTo_succ, List.mem_append, compact_mem d x m]
    constructor
    · rintro (⟨j, hj, e⟩ | h)
      · exact ⟨j, by omega, e⟩
      · split at h
        · simp only [List.mem_singleton] at h; exact ⟨m, by omega, h.symm⟩
        · cases h
    · rintro ⟨j, hj, e⟩
      by_cases hjm : j < m
      · exact .inl ⟨j, hjm, e⟩
      · obtain rfl : j = m := by omega
        by_cases hk : keeps d j = true
        · rw [if_pos hk]; exact .inr (by simp [e])
        · have h0 : ¬ (j = 0 ∨ d[j]! ≠ d[j - 1]!) := by simpa [keeps] using hk
          have h1 : j ≠ 0 := fun h => h0 (.inl h)
          have h2 : d[j]! = d[j - 1]! := Classical.byContradiction fun h => h0 (.inr h)
          exact .inl ⟨j - 1, by omega, by rw [← h2]; exact e⟩
theorem compact_rise {d : Array Int} (hs : ∀ j, j + 1 < d.size → d[j]! ≤ d[j + 1]!) : ∀ m : Nat, m ≤ d.size → (compactUpTo d m).Pairwise (· < ·) ∧ ∀ x ∈ compactUpTo d m, 0 < m ∧ x ≤ d[m - 1]!
  | 0, _ => by simp [compactUpTo]
  | m + 1, hm => by
    obtain ⟨h1, h2⟩ := compact_rise hs m (by omega)
    have hle : ∀ x ∈ compactUpTo d m, x ≤ d[m]! := fun x hx => by
      obtain ⟨a, b⟩ := h2 x hx
      have := hs (m - 1) (by omega)
      rw [show m - 1 + 1 = m by omega] at this
      omega
    rw [compactUpTo_succ]
    refine ⟨?_, fun x hx => ⟨by omega, ?_⟩⟩
    · rw [List.pairwise_append]
      refine ⟨h1, by split <;> simp, fun x hx y hy => ?_⟩
      by_cases hk : keeps d m = true
      · rw [if_pos hk, List.mem_singleton] at hy
        subst hy
        obtain ⟨a, b⟩ := h2 x hx
        have := hs (m - 1) (by omega)
        rw [show m - 1 + 1 = m by omega] at this
        have h0 : m = 0 ∨ d[m]! ≠ d[m - 1]! := by simpa [keeps] using hk
        rcases h0 with h0 | h0
        · omega
        · omega
      · rw [if_neg hk] at hy; cases hy
    · rw [Nat.add_sub_cancel]
      rcases List.mem_append.1 hx with hx | hx
      · exact hle x hx
      · split at hx
        · simp only [List.mem_singleton] at hx; omega
        · cases hx
/-- the sorted list made compact -/
def sortI (l : List Int) : List Int := l.mergeSort fun x y => decide (x ≤ y)
theorem sortI_mem (l : List Int) (x : Int) : x ∈ sortI l ↔ x ∈ l := (List.mergeSort_perm l _).mem_iff
theorem sortI_length (l : List Int) : (sortI l).length = l.length := (List.mergeSort_perm l _).length_eq
theorem sortI_rise (l : List Int) : (sortI l).Pairwise (· ≤ ·) := by
  have h := List.pairwise_mergeSort (le := fun (x y : Int) => decide (x ≤ y)) (fun a b c h1 h2 => by simp only [decide_eq_true_eq] at *; omega) (fun a b => by simp only [Bool.or_eq_true, decide_eq_true_eq]; omega) l
  exact h.imp (fun {a b} hab => by simpa using hab)
/-- the numbers of a list, rising and once each -/
def setI (l : List Int) : List Int := l.foldl (fun o n => putI n o) []
theorem fold_rise (l : List Int) : ∀ o : List Int, o.Pairwise (· < ·) → (l.foldl (fun o n => putI n o) o).Pairwise (· < ·) := by
  induction l with
  | nil => intro o h; exact h
  | cons x l ih => intro o h; exact ih _ (putI_rise h)
theorem fold_mem (l : List Int) (x : Int) : ∀ o : List Int, x ∈ l.foldl (fun o n => putI n o) o ↔ x ∈ l ∨ x ∈ o := by
  induction l with
  | nil => intro o; simp
  | cons y l ih =>
    intro o
    rw [List.foldl_cons, ih, putI_mem, List.mem_cons]
    constructor
    · rintro (h | h | h)
      · exact .inl (.inr h)
      · exact .inl (.inl h)
      · exact .inr h
    · rintro ((h | h) | h)
      · exact .inr (.inl h)
      · exact .inl h
      · exact .inr (.inr h)
theorem setI_rise (l : List Int) : (setI l).Pairwise (· < ·) := fold_rise l [] .nil
theorem setI_mem (l : List Int) (x : Int) : x ∈ setI l ↔ x ∈ l := by rw [setI, fold_mem]; simp
theorem fold_len (l : List Int) : ∀ o : List Int, (l.foldl (fun o n => putI n o) o).length ≤ o.length + l.length := by
  induction l with
  | nil => intro o; simp
  | cons y l ih => intro o; have h1 := ih (putI y o); have h2 := putI_len y o; rw [List.foldl_cons]; simp only [List.length_cons]; omega
theorem setI_len (l : List Int) : (setI l).length ≤ l.length := by have := fold_len l []; simpa [setI] using this
theorem setI_snoc (l : List Int) (n : Int) : setI (l ++ [n]) = putI n (setI l) := by simp [setI, List.foldl_append]
theorem compact_setI (l : List Int) : compactUpTo (sortI l).toArray (sortI l).toArray.size = setI l := by
  have hs : ∀ j, j + 1 < (sortI l).toArray.size → (sortI l).toArray[j]! ≤ (sortI l).toArray[j + 1]! := by
    intro j hj
    have hj' : j + 1 < (sortI l).length := by simpa using hj
    have := List.pairwise_iff_getElem.1 (sortI_rise l) j (j + 1) (by omega) hj' (by omega)
    rw [getElem!_pos _ j (by simpa using (show j < (sortI l).length by omega)), getElem!_pos _ (j + 1) hj]
    simpa using this
  refine rise_ext (compact_rise hs _ (Nat.le_refl _)).1 (setI_rise l) (fun x => ?_)
  rw [compact_mem, setI_mem, ← sortI_mem l x]
  constructor
  · rintro ⟨j, hj, e⟩
    rw [getElem!_pos _ j hj] at e
    rw [← e]; simp
  · intro h
    obtain ⟨j, hj, e⟩ := List.getElem_of_mem h
    exact ⟨j, by simpa using hj, by rw [getElem!_pos _ j (by simpa using hj)]; simpa using e⟩
/-- all ends of the lines -/
def endsL (L : List (List Int)) : List Int := L.flatten
theorem endsL_take {L : List (List Int)} {k : Nat} {x : List Int} (h : L[k]? = some x) : endsL (L.take (k + 1)) = endsL (L.take k) ++ x := by
  rw [List.take_add_one, h]; simp [endsL]
theorem endsL_len {n : Int} {L : List (List Int)} (h : vLines n L = true) (k : Nat) (hk : k ≤ L.length) : (endsL (L.take k)).length = 2 * k := by
  induction k with
  | zero => rfl
  | succ k ih =>
    obtain ⟨x, hx⟩ := at_lt (l := L) (k := k) (by omega)
    obtain ⟨a, b, rfl, _⟩ := lineOk_two (vLines_ok h hx)
    rw [endsL_take hx, List.length_append, ih (by omega)]
    simp; omega
theorem endsL_bd {n : Int} {L : List (List Int)} (h : vLines n L = true) {x : Int} (hx : x ∈ endsL L) : 0 ≤ x ∧ x < n := by
  obtain ⟨y, hy, hxy⟩ := List.mem_flatten.1 hx
  obtain ⟨k, hk, e⟩ := List.getElem_of_mem hy
  obtain ⟨a, b, rfl, h1, h2, h3⟩ := lineOk_two (vLines_ok h (k := k) (x := y) (by rw [List.getElem?_eq_getElem hk, e]))
  simp only [List.mem_cons, List.not_mem_nil, or_false] at hxy
  rcases hxy with rfl | rfl <;> omega
end Go.Proofs.YtpnfhienffekoaaGreatDoor
end
