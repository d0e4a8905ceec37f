/- Plain laws on catalogues: a star put in and taken out, the nearest star, the brightest first. Nothing of the program is named here. -/
import Derived.Test.YtpnfhienffekoaaGreatDoorDrawS
import Derived.Test.YtpnfhienffekoaaGreatDoorDrop
import Derived.Test.YtpnfhienffekoaaGreatDoorNearStar
import Derived.Test.YtpnfhienffekoaaGreatDoorWithin
import Derived.Test.YtpnfhienffekoaaGreatDoorBright
import Derived.Test.YtpnfhienffekoaaGreatDoorSame
namespace Go.Proofs.YtpnfhienffekoaaGreatDoor
set_option linter.unusedVariables false
set_option linter.unusedSimpArgs false
def newId : ByteArray := ⟨#[110, 101, 119]⟩
theorem new_far : ∀ y ∈ drawNames, (y.toList == newId.toList) = false := by decide +kernel
theorem new_none {l : List Sta} (h : FromN l) : ¬ 0 ≤ findS newId l 0 := fun h0 => by
  obtain ⟨j, y, hy, hi⟩ := findS_at h0
  have := new_far y.id (h y (List.mem_of_getElem? hy))
  unfold isId at hi
  rw [hi] at this; cases this
theorem new_ok {a b m : Int} (ha : 0 ≤ a ∧ a < 60000) (hb : 0 ≤ b ∧ b < 60000) (hm : 0 ≤ m ∧ m < 200) : (⟨newId, 6 * a, 3 * b - 90000, m, 0⟩ : Sta).ok = true := by
  have e : isName newId.data.toList = true := by decide +kernel
  simp [Sta.ok, vStar, e, vDir, inB]
  omega
theorem findS_lo {id : ByteArray} {l : List Sta} {k : Nat} {x : Sta} (hx : l[k]? = some x) (hi : isId id x = true) (hlo : ∀ j y, j < k → l[j]? = some y → isId id y = false) : findS id l 0 = (k : Int) := by
  have key : ∀ j, j ≤ k → findS id l 0 = findS id (l.drop j) j := fun j => by
    induction j with
    | zero => intro _; rfl
    | succ j ih =>
      intro hj
      obtain ⟨y, hy⟩ : ∃ y, l[j]? = some y := ⟨l[j]'(by have := (List.getElem?_eq_some_iff.1 hx).1; omega), List.getElem?_eq_getElem _⟩
      rw [ih (by omega), findS_next hy (hlo j y (by omega) hy)]
  rw [key k (Nat.le_refl _), findS_yes hx hi]
theorem isId_self (x : Sta) : isId x.id x = true := by simp [isId]
/-- a star put in and taken out -/
theorem add_drop {l : List Sta} {x : Sta} (hv : vStars l = true) (hx : x.ok = true) (hn : ¬ 0 ≤ findS x.id l 0) (h24 : l.length < 24) : ∃ m, addO l x = (m, 0) ∧ dropO m x.id = (l, 0) ∧ vStars m = true ∧ m.length = l.length + 1 := by
  have hk := addK_is x.id l
  have hl1 := hk.1
  have hm : vStars (l.take (addK x.id l) ++ ([x] ++ l.drop (addK x.id l))) = true := vStars_put hv hx hn h24 hk
  refine ⟨_, addO_yes hv hx hn (by omega) hk, ?_, hm, by simp; omega⟩
  have hat := fun i => put_at (x := x) hl1 i
  have hf : findS x.id (l.take (addK x.id l) ++ ([x] ++ l.drop (addK x.id l))) 0 = (addK x.id l : Int) := by
    refine findS_lo (x := x) ?_ (isId_self x) (fun j y hj hy => ?_)
    · rw [hat, if_neg (by omega), if_pos rfl]
    · rw [hat, if_pos hj] at hy
      have h1 := hk.2.1 j y hj hy
      cases hi : isId x.id y with
      | false => rfl
      | true =>
        have := isId_lt (y := y) hi
        rw [ltS_irrefl] at this
        rw [this] at h1; cases h1
  rw [dropO_yes hm hf]
  have e : (l.take (addK x.id l) ++ ([x] ++ l.drop (addK x.id l))).eraseIdx (addK x.id l) = l := by
    rw [List.eraseIdx_append_of_length_le (by simp; omega)]
    have : addK x.id l - (l.take (addK x.id l)).length = 0 := by simp; omega
    rw [this]
    simp
  rw [e]
theorem same_self (l : List Sta) : sameStas l l = true := by
  refine sameStas_yes rfl ?_
  rw [sameUpto, List.all_eq_true]
  intro i hi
  rw [List.mem_range] at hi
  rw [List.getElem?_eq_getElem hi]
  simp [sameSta]
theorem apart_bd (x : Sta) (r d : Int) : 0 ≤ apartI x r d ∧ apartI x r d ≤ 180000 := by
  refine ⟨(sepI_bd _ _).1, ?_⟩
  unfold apartI sepI
  split
  · have h0 : 0 ≤ lenV (crV (dirV r d) x.dir) := rootI_nonneg _
    generalize lenV (crV (dirV r d) x.dir) = y at *
    generalize dotV (dirV r d) x.dir = u at *
    have := arcB_bd (absI y) (absI u)
    unfold arcI
    split
    · omega
    · first | omega | (rw [if_pos h0]; omega)
  · omega
/-- the nearest star is one of them, and none is nearer -/
theorem near_all {l : List Sta} {r d : Int} : ∀ k, k < l.length → ∃ (i : Nat) (x : Sta), (nearAt l r d k).1 = (i : Int) ∧ i ≤ k ∧ l[i]? = some x ∧ apartI x r d = (nearAt l r d k).2 ∧ (∀ j y, j ≤ k → l[j]? = some y → (nearAt l r d k).2 ≤ apartI y r d)
  | 0, hk => by
    have hx := List.getElem?_eq_getElem hk
    rw [nearAt_zero hx]
    exact ⟨0, _, rfl, Nat.le_refl _, hx, rfl, fun j y hj hy => by
      obtain rfl : j = 0 := by omega
      rw [hx] at hy; cases hy; exact Int.le_refl _⟩
  | k + 1, hk => by
    obtain ⟨i, x, e, hi, hx, ha, hmin⟩ := near_all (l := l) (r := r) (d := d) k (by omega)
    have hy := List.getElem?_eq_getElem hk
    generalize l[k + 1] = y at hy
    by_cases h : apartI y r d < (nearAt l r d k).2
    · rw [nearAt_yes hy h]
      refine ⟨k + 1, y, by simp, Nat.le_refl _, hy, rfl, fun j z hj hz => ?_⟩
      by_cases e : j = k + 1
      · subst e; rw [hy] at hz; cases hz; exact Int.le_refl _
      · have := hmin j z (by omega) hz
        show apartI y r d ≤ _
        omega
    · rw [nearAt_no hy h]
      refine ⟨i, x, e, by omega, hx, ha, fun j z hj hz => ?_⟩
      by_cases e : j = k + 1
      · subst e; rw [hy] at hz; cases hz; omega
      · exact hmin j z (by omega) hz
theorem wi_mem {l : List Sta} {r d rad : Int} : ∀ (k i : Nat) (x : Sta), i < k → l[i]? = some x → apartI x r d ≤ rad → (i : Int) ∈ wiUpto l r d rad k
  | 0, i, x, hi, _, _ => by omega
  | k + 1, i, x, hi, hx, ha => by
    by_cases e : i = k
    · subst e
      rw [wiUpto_yes hx ha]; simp
    · have ih := wi_mem k i x (by omega) hx ha
      rw [wiUpto]
      split
      · split
        · simp [ih]
        · exact ih
      · exact ih
theorem wi_full {l : List Sta} {r d : Int} : ∀ k, k ≤ l.length → (wiUpto l r d 180000 k).length = k
  | 0, _ => rfl
  | k + 1, hk => by
    have ih := wi_full (l := l) (r := r) (d := d) k (by omega)
    have hx : l[k]? = some l[k] := List.getElem?_eq_getElem (by omega)
    rw [wiUpto_yes hx (apart_bd _ _ _).2]
    simp [ih]
theorem wi_none {l : List Sta} {r d rad : Int} (h : ∀ (i : Nat) (x : Sta), l[i]? = some x → rad < apartI x r d) : ∀ k, wiUpto l r d rad k = []
  | 0 => rfl
  | k + 1 => by
    have ih := wi_none h k
    rw [wiUpto]
    split
    · next x hx =>
      rw [if_neg (by have := h k x hx; omega)]; exact ih
    · exact ih
/-- the nearest star, and those within a distance -/
theorem cat_near {l : List Sta} {r d : Int} (hv : vStars l = true) (hd : vDir r d = true) (h0 : 0 < l.length) : ∃ (i : Nat) (least : Int), nearO l r d = ((i : Int), least, 0) ∧ i < l.length ∧ 0 ≤ least ∧ least ≤ 180000 ∧ (wiO l r d least).2 = 0 ∧ (i : Int) ∈ (wiO l r d least).1 ∧ (wiO l r d 180000).2 = 0 ∧ (wiO l r d 180000).1.length = l.length ∧ (least ≠ 0 → wiO l r d (least - 1) = ([], 0)) := by
  obtain ⟨i, x, e, hi, hx, ha, hmin⟩ := near_all (l := l) (r := r) (d := d) (l.length - 1) (by omega)
  have hb := apart_bd x r d
  rw [ha] at hb
  rw [nearO_yes hv hd (by omega), e]
  generalize (nearAt l r d (l.length - 1)).2 = least at *
  have i1 : inB least 0 180000 = true := (inB_iff _ _ _).2 hb
  have i2 : inB 180000 0 180000 = true := by decide
  refine ⟨i, least, rfl, by omega, hb.1, hb.2, by rw [wiO_yes hv hd i1], ?_, by rw [wiO_yes hv hd i2], by rw [wiO_yes hv hd i2]; exact wi_full _ (Nat.le_refl _), fun hne => ?_⟩
  · rw [wiO_yes hv hd i1]
    exact wi_mem l.length i x (by omega) hx (by omega)
  · have i3 : inB (least - 1) 0 180000 = true := (inB_iff _ _ _).2 (by omega)
    rw [wiO_yes hv hd i3, wi_none (fun j y hy => ?_)]
    have := hmin j y (by have := (List.getElem?_eq_some_iff.1 hy).1; omega) hy
    omega
/-- the brightest first -/
theorem cat_order {l : List Sta} (hv : vStars l = true) : (brO l).2 = 0 ∧ (brO l).1.length = l.length ∧ ∀ k x, (brO l).1[k]? = some x → ∃ (i : Nat) (s : Sta), x = (i : Int) ∧ l[i]? = some s ∧ (∀ j y, j < k → (brO l).1[j]? = some y → y ≠ x) ∧ (∀ y, 0 < k → (brO l).1[k - 1]? = some y → ∃ (j : Nat) (t : Sta), y = (j : Int) ∧ l[j]? = some t ∧ t.ma ≤ s.ma) := by
  rw [brO_yes hv]
  dsimp only
  obtain ⟨h1, h2, h3⟩ := sortL_all (magK l) (upFrom 0 l.length) (upFrom_rise 0 l.length)
  rw [upFrom_length] at h1
  have hmem : ∀ x, x ∈ sortL (magK l) (upFrom 0 l.length) → ∃ (i : Nat) (s : Sta), x = (i : Int) ∧ l[i]? = some s := fun x hx => by
    obtain ⟨k, hk, e⟩ := List.getElem_of_mem ((h2 x).1 hx)
    have hk' := hk
    rw [upFrom_length] at hk'
    have h4 := upFrom_at 0 l.length k hk'
    rw [List.getElem?_eq_getElem hk, e] at h4
    injection h4 with h4
    exact ⟨k, l[k], by omega, List.getElem?_eq_getElem hk'⟩
  refine ⟨rfl, h1, fun k x hx => ?_⟩
  have hk : k < (sortL (magK l) (upFrom 0 l.length)).length := (List.getElem?_eq_some_iff.1 hx).1
  obtain ⟨i, s, e, hs⟩ := hmem x (List.mem_of_getElem? hx)
  refine ⟨i, s, e, hs, fun j y hj hy exy => ?_, fun y h0 hy => ?_⟩
  · have := h3 j k (by omega) hj hk
    rw [gt_at hx, gt_at hy, exy] at this
    unfold lx at this; omega
  · obtain ⟨j, t, e2, ht⟩ := hmem y (List.mem_of_getElem? hy)
    have := h3 (k - 1) k (by omega) (by omega) hk
    rw [gt_at hx, gt_at hy, e, e2] at this
    unfold lx at this
    rw [magK_at hs, magK_at ht] at this
    exact ⟨j, t, e2, ht, by omega⟩
end Go.Proofs.YtpnfhienffekoaaGreatDoor
