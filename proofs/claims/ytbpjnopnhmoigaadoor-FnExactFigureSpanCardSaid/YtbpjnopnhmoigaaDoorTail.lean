/- A region that draws its order, whose last operation waits for all others, the others quiet in a class of worlds: one walk of the text's order, then the last operation by itself. Nothing of the program is named here. -/
import Derived.Test.YtbpjnopnhmoigaaDoorLater
namespace Go.Proofs.YtbpjnopnhmoigaaDoor
set_option linter.unusedVariables false
set_option linter.unusedSimpArgs false
open Go.RowKit
/-- the last operation waits for each of the others, and for none besides -/
def lastWaits (l : List Oper) (o : Oper) : Bool := ((List.range l.length).all fun i => o.after.any fun e => Region.binds .any e && e.on == i) && o.after.all fun e => decide (e.on < l.length)
/-- no operation waits for a later one, none is guarded -/
def plainOps (l : List Oper) : Bool := (List.range l.length).all fun k => match l[k]? with
  | some p => p.guard.isNone && p.after.all fun e => decide (e.on < k)
  | none => true
theorem wanted_free {p : Oper} (h : p.guard.isNone = true) (f : Nat → Option Bool) : Region.wanted p f = true := by
  have : p.guard = none := Option.isNone_iff_eq_none.1 h
  simp [Region.wanted, this]
theorem plainOps_at {l : List Oper} (h : plainOps l = true) {k : Nat} {p : Oper} (hp : l[k]? = some p) : p.guard.isNone = true ∧ ∀ e ∈ p.after, e.on < k := by
  have hk : k < l.length := (List.getElem?_eq_some_iff.1 hp).1
  have := List.all_eq_true.1 h k (List.mem_range.2 hk)
  rw [hp] at this
  simp only [Bool.and_eq_true] at this
  refine ⟨this.1, fun e he => ?_⟩
  have h2 := Array.all_eq_true'.1 this.2 e he
  simpa using h2
theorem getD_push_false (L : Array Bool) (j : Nat) : (L.push false).getD j false = L.getD j false := by
  rw [Array.getD_eq_getD_getElem?, Array.getD_eq_getD_getElem?, Array.getElem?_push]
  split
  · next h => subst h; simp
  · rfl
theorem getD_push_lt (L : Array Bool) {j : Nat} (h : j < L.size) : (L.push false).getD j true = L.getD j true := by
  rw [Array.getD_eq_getD_getElem?, Array.getD_eq_getD_getElem?, Array.getElem?_push, if_neg (by omega)]
theorem getD_push_eq (L : Array Bool) : (L.push false).getD L.size true = false := by
  rw [Array.getD_eq_getD_getElem?, Array.getElem?_push, if_pos rfl]; rfl
theorem getD_lt_both (L : Array Bool) {j : Nat} (h : j < L.size) : L.getD j true = L.getD j false := by
  rw [Array.getD_eq_getD_getElem?, Array.getD_eq_getD_getElem?, Array.getElem?_eq_getElem h]; rfl
section
variable {l : List Oper} {o : Oper} {L : Array Bool}
theorem snoc_lt {i : Nat} (h : i < l.length) : ((l ++ [o]).toArray)[i]? = l[i]? := by simp [List.getElem?_append, h]
theorem snoc_eq : ((l ++ [o]).toArray)[l.length]? = some o := by simp
theorem ready_snoc_lt (hL : L.size = l.length) {i : Nat} (h : i < l.length) (hi : i ∈ Region.ready .any (l ++ [o]).toArray (L.push false)) : i ∈ Region.ready .any l.toArray L := by
  obtain ⟨h1, p, hp, h2⟩ := mem_ready.1 hi
  rw [getD_push_lt L (by omega)] at h1
  rw [snoc_lt h] at hp
  exact mem_ready.2 ⟨h1, p, by simpa using hp, fun e he hb => by rw [← getD_push_false]; exact h2 e he hb⟩
theorem ready_snoc_of (hL : L.size = l.length) {i : Nat} (hi : i ∈ Region.ready .any l.toArray L) : i ∈ Region.ready .any (l ++ [o]).toArray (L.push false) := by
  obtain ⟨h1, p, hp, h2⟩ := mem_ready.1 hi
  have hp' : l[i]? = some p := by simpa using hp
  have hl : i < l.length := (List.getElem?_eq_some_iff.1 hp').1
  exact mem_ready.2 ⟨by rw [getD_push_lt L (by omega)]; exact h1, p, by rw [snoc_lt hl]; exact hp', fun e he hb => by rw [getD_push_false]; exact h2 e he hb⟩
/-- where nothing may come up all has come up -/
theorem all_listed (hl : plainOps l = true) (hL : L.size = l.length) (h : Region.ready .any l.toArray L = []) : ∀ i, i < l.length → L.getD i false = true := by
  intro i
  induction i using Nat.strongRecOn with
  | ind i ih =>
    intro hi
    obtain ⟨p, hp⟩ : ∃ p, l[i]? = some p := ⟨l[i], List.getElem?_eq_getElem hi⟩
    cases hg : L.getD i false with
    | true => rfl
    | false =>
      exfalso
      have : i ∈ Region.ready .any l.toArray L := mem_ready.2 ⟨by rw [getD_lt_both L (by omega)]; exact hg, p, by simpa using hp, fun e he _ => ih e.on ((plainOps_at hl hp).2 e he) (by have := (plainOps_at hl hp).2 e he; omega)⟩
      rw [h] at this; cases this
theorem ready_none (hL : L.size = l.length) (h : ∀ i, i < l.length → L.getD i false = true) : Region.ready .any l.toArray L = [] := by
  apply List.eq_nil_iff_forall_not_mem.2
  intro i hi
  obtain ⟨h1, p, hp, _⟩ := mem_ready.1 hi
  have hp' : l[i]? = some p := by simpa using hp
  have hlt : i < l.length := (List.getElem?_eq_some_iff.1 hp').1
  rw [getD_lt_both L (by omega), h i hlt] at h1; cases h1
theorem wpAny_all_done {P : Program} {ops : Array Oper} {Q : Exit → Act → World → Prop} {a : Act} {w : World} (h : Region.ready .any ops L = []) (q : Q .normal a w) : ∀ fuel, wpAny P .any ops Q fuel L a w
  | 0 => ⟨h, q⟩
  | _ + 1 => ⟨fun _ => q, fun i hi => by rw [h] at hi; cases hi⟩
theorem last_listed (hw : lastWaits l o = true) (h : ∀ e ∈ o.after, Region.binds .any e = true → L.getD e.on false = true) : ∀ i, i < l.length → L.getD i false = true := by
  intro i hi
  simp only [lastWaits, Bool.and_eq_true] at hw
  obtain ⟨e, he, hb⟩ := Array.any_eq_true'.1 (List.all_eq_true.1 hw.1 i (List.mem_range.2 hi))
  simp only [Bool.and_eq_true, beq_iff_eq] at hb
  rw [← hb.2]; exact h e he hb.1
end
theorem set_push (L : Array Bool) {i : Nat} (h : i < L.size) : (L.push false).setIfInBounds i true = (L.setIfInBounds i true).push false := by
  apply Array.ext_getElem?
  intro j
  simp only [Array.getElem?_setIfInBounds, Array.getElem?_push, Array.size_push, Array.size_setIfInBounds]
  by_cases h1 : i = j
  · subst h1
    have h2 : ¬ i = L.size := by omega
    have h3 : i < L.size + 1 := by omega
    simp [h, h2, h3]
  · simp [h1]
theorem listed_end (L : Array Bool) {l : List Oper} {o : Oper} (hL : L.size = l.length) (h : ∀ i, i < l.length → L.getD i false = true) : Region.ready .any (l ++ [o]).toArray ((L.push false).setIfInBounds l.length true) = [] := by
  apply List.eq_nil_iff_forall_not_mem.2
  intro i hi
  obtain ⟨h1, p, hp, _⟩ := mem_ready.1 hi
  have hi' : i < (l ++ [o]).length := by have := (Array.getElem?_eq_some_iff.1 hp).1; simpa using this
  simp only [List.length_append, List.length_cons, List.length_nil] at hi'
  rw [Array.getD_eq_getD_getElem?, Array.getElem?_setIfInBounds] at h1
  by_cases he : l.length = i
  · subst he; simp [hL] at h1
  · rw [if_neg he, Array.getElem?_push, if_neg (by omega), ← Array.getD_eq_getD_getElem?, getD_lt_both L (by omega), h i (by omega)] at h1
    cases h1
theorem last_step {P : Program} {Q : Exit → Act → World → Prop} {l : List Oper} {o : Oper} {L : Array Bool} {a : Act} {w : World} (fuel : Nat) (hL : L.size = l.length) (h : ∀ i, i < l.length → L.getD i false = true)
    (hq : wpList P (l ++ [o]).toArray Q [o] a w) : wpOp P (l ++ [o]).toArray Q l.length (wpAny P .any (l ++ [o]).toArray Q fuel ((L.push false).setIfInBounds l.length true)) a w := by
  have hd : ∀ a w, Q .normal a w → wpAny P .any (l ++ [o]).toArray Q fuel ((L.push false).setIfInBounds l.length true) a w := fun a w q => wpAny_all_done (listed_end L hL h) q fuel
  unfold wpOp
  rw [snoc_eq]
  simp only [wpList] at hq
  by_cases hw : Region.wanted o (yielded (l ++ [o]).toArray a.tmps) = true
  · rw [if_pos hw] at hq
    simp only [hw, if_true]
    exact hq.imp (Oper.wp_mono hd) id
  · rw [if_neg hw] at hq
    simp only [hw, if_false]
    exact hd _ _ hq
theorem any_last {P : Program} {C : World → Prop} {Qa : Act → Prop} {Q : Exit → Act → World → Prop} {l : List Oper} {o : Oper} (hl : plainOps l = true) (hw : lastWaits l o = true)
    (hK : ∀ a w, C w → Qa a → wpList P (l ++ [o]).toArray Q [o] a w) :
    ∀ (fuel : Nat) (L : Array Bool) (a : Act) (w : World), L.size = l.length → C w → wpAnyQ P .any l.toArray C Qa fuel L a → wpAny P .any (l ++ [o]).toArray Q (fuel + 1) (L.push false) a w := by
  have hback : ∀ e ∈ o.after, e.on < l.length := by
    simp only [lastWaits, Bool.and_eq_true] at hw
    intro e he
    simpa using Array.all_eq_true'.1 hw.2 e he
  -- the last operation may come up as soon as all others have
  have hnever : ∀ L : Array Bool, L.size = l.length → Region.ready .any (l ++ [o]).toArray (L.push false) ≠ [] := by
    intro L hL h0
    have h1 : Region.ready .any l.toArray L = [] := List.eq_nil_iff_forall_not_mem.2 fun i hi => by
      have := ready_snoc_of (o := o) hL hi
      rw [h0] at this; cases this
    have hall := all_listed hl hL h1
    have : l.length ∈ Region.ready .any (l ++ [o]).toArray (L.push false) := mem_ready.2 ⟨by rw [← hL]; exact getD_push_eq L, o, snoc_eq, fun e he _ => by rw [getD_push_false]; exact hall _ (hback e he)⟩
    rw [h0] at this; cases this
  have hlast : ∀ L : Array Bool, l.length ∈ Region.ready .any (l ++ [o]).toArray (L.push false) → ∀ i, i < l.length → L.getD i false = true := by
    intro L h
    obtain ⟨_, p, hp, h2⟩ := mem_ready.1 h
    rw [snoc_eq] at hp
    obtain rfl := Option.some.inj hp
    exact last_listed hw fun e he hb => by rw [← getD_push_false]; exact h2 e he hb
  have hcase : ∀ (L : Array Bool) (i : Nat), i ∈ Region.ready .any (l ++ [o]).toArray (L.push false) → i = l.length ∨ i < l.length := by
    intro L i h
    obtain ⟨_, p, hp, _⟩ := mem_ready.1 h
    have hi' : i < (l ++ [o]).length := by have := (Array.getElem?_eq_some_iff.1 hp).1; simpa using this
    simp only [List.length_append, List.length_cons, List.length_nil] at hi'
    omega
  intro fuel
  induction fuel with
  | zero =>
    intro L a w hL hC h
    refine ⟨fun h0 => absurd h0 (hnever L hL), fun i hi => ?_⟩
    rcases hcase L i hi with rfl | hlt
    · exact last_step 0 hL (hlast L hi) (hK a w hC h.2)
    · have := ready_snoc_lt hL hlt hi
      rw [h.1] at this; cases this
  | succ fuel ih =>
    intro L a w hL hC h
    refine ⟨fun h0 => absurd h0 (hnever L hL), fun i hi => ?_⟩
    rcases hcase L i hi with rfl | hlt
    · exact last_step (fuel + 1) hL (hlast L hi) (hK a w hC (h.1 (ready_none hL (hlast L hi))))
    · have hr := ready_snoc_lt hL hlt hi
      have h2 := h.2 i hr
      obtain ⟨p, hp⟩ : ∃ p, l[i]? = some p := ⟨l[i], List.getElem?_eq_getElem hlt⟩
      have hg := (plainOps_at hl hp).1
      unfold qOp at h2
      unfold wpOp
      rw [snoc_lt hlt, hp]
      rw [show l.toArray[i]? = some p by simpa using hp] at h2
      simp only [wanted_free hg, if_true] at h2 ⊢
      refine .inl (Oper.wp_of_quiet hC (fun a' w' hw' hk => ?_) h2)
      rw [set_push L (by omega)]
      exact ih _ a' w' (by simpa using hL) hw' hk
/-- one walk of the text's order, then the last operation -/
theorem wp_region_last {P : Program} {C : World → Prop} {id : Nat} {Q : Exit → Act → World → Prop} {a : Act} {w : World} {l : List Oper} {o : Oper} (hm : P.follows .mixedOrders = true) (hB : Region.lexB .any l.toArray = true)
    (hl : plainOps l = true) (hw : lastWaits l o = true) (hC : C { w with drawn := w.drawn + 1 })
    (h : wpQuiet P l.toArray C (fun a' => ∀ w', C w' → wpList P (l ++ [o]).toArray Q [o] a' w') l a) : (Code.region id (l ++ [o]).toArray true).wp P Q a w := by
  simp only [Region.lexB, Bool.and_eq_true] at hB
  refine wp_region_any hm ?_
  have h1 := wpAnyQ_lex (C := C) (md := .any) hB.1 l 0 (Array.replicate l.toArray.size false) a (by simp) (by simpa using hB.2) h
  have h2 := any_last (Q := Q) (o := o) (Qa := fun a' => ∀ w', C w' → wpList P (l ++ [o]).toArray Q [o] a' w') hl hw (fun a w hC hQ => hQ w hC) l.length (Array.replicate l.length false) a { w with drawn := w.drawn + 1 } (by simp) hC (by simpa using h1)
  have e : (Array.replicate l.length false).push false = Array.replicate (l ++ [o]).toArray.size false := by simp [Array.replicate_succ]
  rw [e] at h2
  have e2 : (l ++ [o]).toArray.size = l.length + 1 := by simp
  rw [e2] at h2 ⊢
  exact h2
def lastWaitsAt (n : Nat) (L : List Oper) : Bool := match L.drop n with
  | [o] => lastWaits (L.take n) o
  | _ => false
/-- the same over the whole list of the operations, n of them ahead of the last, in the class of worlds that came later than w0 -/
theorem wp_region_later_last {P : Program} {id : Nat} {Q : Exit → Act → World → Prop} {a : Act} {w0 : World} {y : Later w0} {L : List Oper} (n : Nat) (hm : P.follows .mixedOrders = true) (hB : Region.lexB .any (L.take n).toArray = true)
    (hl : plainOps (L.take n) = true) (hw : lastWaitsAt n L = true)
    (h : wpQuiet P (L.take n).toArray (fun w' => ∃ x : Later w0, w' = x.w) (fun a' => ∀ w', (∃ x : Later w0, w' = x.w) → wpList P L.toArray Q (L.drop n) a' w') (L.take n) a) : (Code.region id L.toArray true).wp P Q a y.w := by
  have e : L = L.take n ++ L.drop n := (List.take_append_drop n L).symm
  obtain ⟨o, ho⟩ : ∃ o, L.drop n = [o] := by
    unfold lastWaitsAt at hw
    split at hw
    · next o ho => exact ⟨o, ho⟩
    · cases hw
  have hw' : lastWaits (L.take n) o = true := by unfold lastWaitsAt at hw; rw [ho] at hw; exact hw
  rw [ho] at h e
  generalize L.take n = l at *
  subst e
  exact wp_region_last (C := fun w' => ∃ x : Later w0, w' = x.w) hm hB hl hw' y.drew h
end Go.Proofs.YtbpjnopnhmoigaaDoor
