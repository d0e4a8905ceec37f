/- How texts of stars, sites, planets and figures are written and read, plainly: the program's reading and the reference's give the same. -/
import Derived.Test.YtpnfhienffekoaaGreatDoorPlainText
import Derived.Test.YtpnfhienffekoaaGreatDoorGrpList
namespace Go.Proofs.YtpnfhienffekoaaGreatDoor
set_option linter.unusedVariables false
set_option linter.unusedSimpArgs false
open Go.Lib

/-- all words as numbers -/
def numsL : List (List UInt8) → Option (List Int)
  | [] => some []
  | w :: r => match numL w, numsL r with
    | some a, some b => some (a :: b)
    | _, _ => none
theorem numsL_cons {w : List UInt8} {r : List (List UInt8)} {a : Int} {b : List Int} (h : numL w = some a) (h2 : numsL r = some b) : numsL (w :: r) = some (a :: b) := by simp only [numsL, h, h2]
theorem numsL_head {w : List UInt8} {r : List (List UInt8)} (h : numL w = none) : numsL (w :: r) = none := by simp only [numsL, h]
theorem numsL_tail {w : List UInt8} {r : List (List UInt8)} (h : numsL r = none) : numsL (w :: r) = none := by cases hw : numL w <;> simp only [numsL, h, hw]
theorem numsL_some : ∀ {ws : List (List UInt8)} {ns : List Int}, numsL ws = some ns → ws = ns.map itoa ∧ ∀ n ∈ ns, n.natAbs < 1000000000000000000
  | [], ns, h => by simp only [numsL, Option.some.injEq] at h; subst h; exact ⟨rfl, fun n hn => by cases hn⟩
  | w :: r, ns, h => by
    cases hw : numL w with
    | none => rw [numsL_head hw] at h; cases h
    | some a =>
      cases hr : numsL r with
      | none => rw [numsL_tail hr] at h; cases h
      | some b =>
        rw [numsL_cons hw hr] at h
        injection h with h
        subst h
        obtain ⟨h1, h2⟩ := numsL_some hr
        obtain ⟨h3, h4, _⟩ := numL_itoa hw
        refine ⟨by rw [List.map_cons, h3, ← h1], fun n hn => ?_⟩
        rcases List.mem_cons.1 hn with rfl | hn
        · exact h4
        · exact h2 n hn
theorem numsL_itoa : ∀ {ns : List Int}, (∀ n ∈ ns, n.natAbs < 1000000000000000000) → numsL (ns.map itoa) = some ns
  | [], _ => rfl
  | n :: r, h => numsL_cons (itoa_numL n (h n (List.mem_cons_self ..))) (numsL_itoa fun x hx => h x (List.mem_cons_of_mem _ hx))
theorem numsL_snoc : ∀ {ws : List (List UInt8)} {w : List UInt8} {ns : List Int} {n : Int}, numsL ws = some ns → numL w = some n → numsL (ws ++ [w]) = some (ns ++ [n])
  | [], w, ns, n, h, hw => by simp only [numsL, Option.some.injEq] at h; subst h; exact numsL_cons hw rfl
  | v :: r, w, ns, n, h, hw => by
    cases hv : numL v with
    | none => rw [numsL_head hv] at h; cases h
    | some a =>
      cases hr : numsL r with
      | none => rw [numsL_tail hr] at h; cases h
      | some b =>
        rw [numsL_cons hv hr] at h
        injection h with h
        subst h
        exact numsL_cons hv (numsL_snoc hr hw)
theorem numsL_none : ∀ {ws : List (List UInt8)} {w : List UInt8}, w ∈ ws → numL w = none → numsL ws = none
  | [], w, h, _ => by cases h
  | v :: r, w, h, hw => by
    rcases List.mem_cons.1 h with rfl | h
    · exact numsL_head hw
    · exact numsL_tail (numsL_none h hw)
theorem numsL_length {ws : List (List UInt8)} {ns : List Int} (h : numsL ws = some ns) : ns.length = ws.length := by rw [(numsL_some h).1, List.length_map]
theorem itoa_free (n : Int) (c : UInt8) (hc : c ≠ 45) (hd : isD c = false) : ∀ b ∈ itoa n, b ≠ c := by
  have hall : ∀ u : Nat, ∀ b ∈ decDigits u, b ≠ c := fun u b hb e => by
    have := List.all_eq_true.1 (decDigits_all u) b hb
    rw [e, hd] at this; cases this
  intro b hb
  unfold itoa at hb
  split at hb
  · rcases List.mem_cons.1 hb with rfl | hb
    · exact Ne.symm hc
    · exact hall _ b hb
  · exact hall _ b hb
theorem itoa_free45 (n : Int) (h : 0 ≤ n) : ∀ b ∈ itoa n, b ≠ 45 := by
  intro b hb e
  unfold itoa at hb
  rw [if_neg (by omega)] at hb
  have := List.all_eq_true.1 (decDigits_all _) b hb
  rw [e] at this; exact absurd this (by decide)
theorem itoa_ne (n : Int) : itoa n ≠ [] := by
  unfold itoa; split
  · simp
  · exact decDigits_ne _
theorem name_free {l : List UInt8} (h : isName l = true) (c : UInt8) (hc : nameCh c = false) : ∀ b ∈ l, b ≠ c := by
  intro b hb e
  cases l with
  | nil => cases hb
  | cons x r =>
    simp only [isName, Bool.and_eq_true] at h
    have := List.all_eq_true.1 h.2 b hb
    rw [e, hc] at this; cases this
theorem name_ne {l : List UInt8} (h : isName l = true) : l ≠ [] := by intro e; subst e; cases h
theorem joinC_cons (c : UInt8) (p : List UInt8) : ∀ ps : List (List UInt8), joinC c (p :: ps) = p ++ ps.flatMap (fun q => c :: q)
  | [] => by simp [joinC]
  | q :: r => by show p ++ c :: joinC c (q :: r) = _; rw [joinC_cons c q r]; simp
theorem joinC_mem (c x : UInt8) : ∀ ps : List (List UInt8), (∀ p ∈ ps, ∀ b ∈ p, b ≠ x) → c ≠ x → ∀ b ∈ joinC c ps, b ≠ x
  | [], _, _, b, hb => by cases hb
  | [p], h, _, b, hb => h p (List.mem_cons_self ..) b hb
  | p :: q :: r, h, hc, b, hb => by
    have hb : b ∈ p ++ c :: joinC c (q :: r) := hb
    rcases List.mem_append.1 hb with hb | hb
    · exact h p (List.mem_cons_self ..) b hb
    · rcases List.mem_cons.1 hb with rfl | hb
      · exact hc
      · exact joinC_mem c x (q :: r) (fun y hy => h y (List.mem_cons_of_mem _ hy)) hc b hb
theorem filter_full {ps : List (List UInt8)} (h : ∀ p ∈ ps, p ≠ []) : ps.filter (fun p => !p.isEmpty) = ps :=
  List.filter_eq_self.2 fun p hp => by have := h p hp; cases p with | nil => exact absurd rfl this | cons => rfl
theorem opt_ext {α : Type} {a b : Option α} (h : ∀ x, a = some x ↔ b = some x) : a = b := by
  cases a with
  | none =>
    cases b with
    | none => rfl
    | some y => exact ((h y).2 rfl)
  | some x => exact ((h x).1 rfl).symm

/-! stars -/
def starT (id : List UInt8) (n : List Int) : List UInt8 := joinC 32 (id :: n.map itoa)
def mkStar (ws : List (List UInt8)) : Option (List UInt8 × List Int) :=
  if ws.length = 5 then match numsL ws.tail with
    | some n => if vStar (ws.headD []) (n.getD 0 0) (n.getD 1 0) (n.getD 2 0) (n.getD 3 0) = true then some (ws.headD [], n) else none
    | none => none
  else none
def readStarR (l : List UInt8) : Option (List UInt8 × List Int) := mkStar (partsL 32 l)
def wordsL (l : List UInt8) : List (List UInt8) := (partsL 32 l).filter (fun p => !p.isEmpty)
def readStarI (l : List UInt8) : Option (List UInt8 × List Int) := match mkStar (wordsL l) with
  | some (id, n) => if starT id n = l then some (id, n) else none
  | none => none
def StarText (l : List UInt8) (id : List UInt8) (n : List Int) : Prop := n.length = 4 ∧ vStar id (n.getD 0 0) (n.getD 1 0) (n.getD 2 0) (n.getD 3 0) = true ∧ starT id n = l
theorem mkStar_some {ws : List (List UInt8)} {id : List UInt8} {n : List Int} (h : mkStar ws = some (id, n)) : ws = id :: n.map itoa ∧ n.length = 4 ∧ vStar id (n.getD 0 0) (n.getD 1 0) (n.getD 2 0) (n.getD 3 0) = true := by
  unfold mkStar at h
  split at h
  · rename_i hl
    cases ws with
    | nil => simp at hl
    | cons w r =>
      rw [List.tail_cons] at h
      cases hn : numsL r with
      | none => rw [hn] at h; cases h
      | some ns =>
        rw [hn] at h
        simp only at h
        split at h
        · rename_i hv
          injection h with h
          injection h with h1 h2
          subst h2
          have h1 : w = id := h1
          subst h1
          have := numsL_length hn
          rw [List.length_cons] at hl
          exact ⟨by rw [(numsL_some hn).1], by omega, hv⟩
        · cases h
  · cases h
theorem vStar_parts {s : List UInt8} {r d m c : Int} (h : vStar s r d m c = true) : isName s = true ∧ (0 ≤ r ∧ r ≤ 359999) ∧ (-90000 ≤ d ∧ d ≤ 90000) ∧ (-200 ≤ m ∧ m ≤ 800) ∧ (-50 ≤ c ∧ c ≤ 250) := by
  simpa only [vStar, vDir, inB, Bool.and_eq_true, decide_eq_true_eq, and_assoc] using h
theorem four {n : List Int} (h : n.length = 4) : ∃ a b c d, n = [a, b, c, d] := by
  match n, h with
  | [a, b, c, d], _ => exact ⟨a, b, c, d, rfl⟩
theorem three {n : List Int} (h : n.length = 3) : ∃ a b c, n = [a, b, c] := by
  match n, h with
  | [a, b, c], _ => exact ⟨a, b, c, rfl⟩
theorem star_small {id : List UInt8} {n : List Int} (h4 : n.length = 4) (hv : vStar id (n.getD 0 0) (n.getD 1 0) (n.getD 2 0) (n.getD 3 0) = true) : ∀ x ∈ n, x.natAbs < 1000000000000000000 := by
  obtain ⟨a, b, c, d, rfl⟩ := four h4
  obtain ⟨_, h1, h2, h3, h5⟩ := vStar_parts hv
  simp only [List.getD_cons_zero, List.getD_cons_succ] at h1 h2 h3 h5
  intro x hx
  simp only [List.mem_cons, List.not_mem_nil, or_false] at hx
  rcases hx with rfl | rfl | rfl | rfl <;> omega
theorem mkStar_of {id : List UInt8} {n : List Int} (h4 : n.length = 4) (hv : vStar id (n.getD 0 0) (n.getD 1 0) (n.getD 2 0) (n.getD 3 0) = true) : mkStar (id :: n.map itoa) = some (id, n) := by
  unfold mkStar
  rw [if_pos (by simp [h4]), List.tail_cons, numsL_itoa (star_small h4 hv)]
  simp only [List.headD_cons, hv, if_true]
theorem starT_parts {id : List UInt8} {n : List Int} (hn : isName id = true) : partsL 32 (starT id n) = id :: n.map itoa :=
  parts_join 32 _ (by simp) fun p hp => by
    rcases List.mem_cons.1 hp with rfl | hp
    · exact name_free hn 32 (by decide)
    · obtain ⟨x, _, rfl⟩ := List.mem_map.1 hp
      exact itoa_free x 32 (by decide) (by decide)
theorem starT_words {id : List UInt8} {n : List Int} (hn : isName id = true) : wordsL (starT id n) = id :: n.map itoa := by
  unfold wordsL
  rw [starT_parts hn]
  refine filter_full fun p hp => ?_
  rcases List.mem_cons.1 hp with rfl | hp
  · exact name_ne hn
  · obtain ⟨x, _, rfl⟩ := List.mem_map.1 hp
    exact itoa_ne x
theorem readStarR_iff (l id : List UInt8) (n : List Int) : readStarR l = some (id, n) ↔ StarText l id n := by
  constructor
  · intro h
    obtain ⟨h1, h2, h3⟩ := mkStar_some h
    exact ⟨h2, h3, by unfold starT; rw [← h1, joinC_parts]⟩
  · rintro ⟨h1, h2, rfl⟩
    unfold readStarR
    rw [starT_parts (vStar_parts h2).1, mkStar_of h1 h2]
theorem readStarI_iff (l id : List UInt8) (n : List Int) : readStarI l = some (id, n) ↔ StarText l id n := by
  constructor
  · intro h
    unfold readStarI at h
    split at h
    · rename_i id' n' hm
      split at h
      · rename_i ht
        injection h with h
        injection h with e1 e2
        subst e1 e2
        obtain ⟨_, h2, h3⟩ := mkStar_some hm
        exact ⟨h2, h3, ht⟩
      · cases h
    · cases h
  · rintro ⟨h1, h2, rfl⟩
    unfold readStarI
    rw [starT_words (vStar_parts h2).1, mkStar_of h1 h2]
    simp only [if_true]
theorem readStar_eq (l : List UInt8) : readStarI l = readStarR l := opt_ext fun ⟨id, n⟩ => (readStarI_iff l id n).trans (readStarR_iff l id n).symm

/-! angles and sites -/
def pad3 (r : Nat) : List UInt8 := List.replicate (3 - (decDigits r).length) 48 ++ decDigits r
def angT (a : Int) : List UInt8 := (if a < 0 then [45] else []) ++ (decDigits (a.natAbs / 1000) ++ 46 :: pad3 (a.natAbs % 1000))
def angText (a : Int) : List UInt8 := if inB a (-359999) 359999 = true then angT a else []
theorem decDigits_len3 {r : Nat} (h : r < 1000) : 1 ≤ (decDigits r).length ∧ (decDigits r).length ≤ 3 := by
  rw [decDigits_length]
  refine ⟨nDigits_pos r, ?_⟩
  by_cases h1 : r < 10
  · rw [nDigits_small h1]; omega
  · rw [nDigits_big h1]
    by_cases h2 : r / 10 < 10
    · rw [nDigits_small h2]; omega
    · rw [nDigits_big h2, nDigits_small (by omega)]; omega
theorem pad3_len {r : Nat} (h : r < 1000) : (pad3 r).length = 3 := by
  have := decDigits_len3 h
  unfold pad3; rw [List.length_append, List.length_replicate]; omega
theorem valD_acc : ∀ (l : List UInt8) (acc : Nat), valD acc l = acc * 10 ^ l.length + valD 0 l
  | [], acc => by
    show acc = acc * 10 ^ 0 + 0
    rw [Nat.pow_zero]; omega
  | c :: r, acc => by
    show valD (acc * 10 + (c.toNat - 48)) r = _ + valD (0 * 10 + (c.toNat - 48)) r
    rw [valD_acc r (acc * 10 + (c.toNat - 48)), valD_acc r (0 * 10 + (c.toNat - 48)), List.length_cons, Nat.pow_succ, Nat.add_mul, Nat.add_mul, Nat.mul_comm (10 ^ r.length) 10, Nat.mul_assoc]
    omega
theorem valD_zeros : ∀ (k : Nat) (l : List UInt8), valD 0 (List.replicate k 48 ++ l) = valD 0 l
  | 0, l => by simp
  | k + 1, l => by
    rw [List.replicate_succ, List.cons_append]
    have h : valD 0 (48 :: (List.replicate k 48 ++ l)) = valD 0 (List.replicate k 48 ++ l) := rfl
    rw [h, valD_zeros k l]
theorem pad3_all (r : Nat) : (pad3 r).all isD = true := by
  unfold pad3
  rw [List.all_append, decDigits_all, Bool.and_true, List.all_eq_true]
  intro x hx
  rw [(List.mem_replicate.1 hx).2]; decide
theorem pad3_val (r : Nat) : valD 0 (pad3 r) = r := by unfold pad3; rw [valD_zeros, decDigits_val]
theorem ang_val (u : Nat) : valD 0 (decDigits (u / 1000) ++ pad3 (u % 1000)) = u := by
  rw [valD_append, valD_acc, decDigits_val, pad3_len (Nat.mod_lt _ (by omega)), pad3_val]
  omega
theorem ang_all (u : Nat) : (decDigits (u / 1000) ++ pad3 (u % 1000)).all isD = true := by rw [List.all_append, decDigits_all, pad3_all]; rfl
def AngText (l : List UInt8) (a : Int) : Prop := inB a (-359999) 359999 = true ∧ angT a = l
/-- as the reference reads an angle -/
def angTl (l : List UInt8) : List UInt8 := if l.head? = some 45 then l.tail else l
def angDs (t : List UInt8) : List UInt8 := t.take (t.length - 4) ++ t.drop (t.length - 3)
def angVal (l : List UInt8) : Int := if l.head? = some 45 then -(valD 0 (angDs (angTl l)) : Int) else (valD 0 (angDs (angTl l)) : Int)
def angR (l : List UInt8) : Option Int :=
  if (angTl l).length < 5 ∨ 7 < (angTl l).length ∨ (angTl l)[(angTl l).length - 4]? ≠ some 46 then none
  else if (angDs (angTl l)).all isD = true then (if inB (angVal l) (-359999) 359999 = true ∧ angT (angVal l) = l then some (angVal l) else none) else none
/-- as the program reads an angle -/
def angI (l : List UInt8) : Option Int :=
  if indexByte l 46 < 0 ∨ (l.length : Int) ≠ indexByte l 46 + 4 then none
  else match parseIntB 64 (l.take (indexByte l 46).toNat ++ l.drop ((indexByte l 46).toNat + 1)) with
    | .ok n => if angText n = l then some n else none
    | _ => none
theorem angT_head (a : Int) : (angT a).head? = some 45 ↔ a < 0 := by
  unfold angT
  by_cases h : a < 0
  · rw [if_pos h]; simp [h]
  · rw [if_neg h, List.nil_append, head_append (decDigits_ne _)]
    simp only [h, iff_false]
    exact (head_digit (decDigits_all _)).1
theorem angR_iff (l : List UInt8) (a : Int) : angR l = some a ↔ AngText l a := by
  constructor
  · intro h
    unfold angR at h
    by_cases h1 : (angTl l).length < 5 ∨ 7 < (angTl l).length ∨ (angTl l)[(angTl l).length - 4]? ≠ some 46
    · rw [if_pos h1] at h; cases h
    · rw [if_neg h1] at h
      by_cases h2 : (angDs (angTl l)).all isD = true
      · rw [if_pos h2] at h
        by_cases h3 : inB (angVal l) (-359999) 359999 = true ∧ angT (angVal l) = l
        · rw [if_pos h3] at h
          injection h with h
          rw [h] at h3
          exact h3
        · rw [if_neg h3] at h; cases h
      · rw [if_neg h2] at h; cases h
  · rintro ⟨hb, rfl⟩
    rw [inB_iff] at hb
    obtain ⟨q, p, hq, hp, hlq, hlp, hall, hval, hform⟩ : ∃ q p : List UInt8, q = decDigits (a.natAbs / 1000) ∧ p = pad3 (a.natAbs % 1000) ∧ (1 ≤ q.length ∧ q.length ≤ 3) ∧ p.length = 3 ∧ (q ++ p).all isD = true ∧ valD 0 (q ++ p) = a.natAbs ∧ angT a = (if a < 0 then [45] else []) ++ (q ++ 46 :: p) :=
      ⟨_, _, rfl, rfl, decDigits_len3 (by omega), pad3_len (Nat.mod_lt _ (by omega)), ang_all _, ang_val _, rfl⟩
    have ht : angTl (angT a) = q ++ 46 :: p := by
      unfold angTl
      by_cases h : a < 0
      · rw [if_pos ((angT_head a).2 h), hform, if_pos h]; rfl
      · rw [if_neg (fun e => h ((angT_head a).1 e)), hform, if_neg h]; rfl
    have hl : (q ++ 46 :: p).length = q.length + 4 := by rw [List.length_append, List.length_cons, hlp]
    have hds : angDs (q ++ 46 :: p) = q ++ p := by
      unfold angDs
      rw [hl, show q.length + 4 - 4 = q.length by omega, List.take_left, show q.length + 4 - 3 = (q ++ [46]).length by simp, show q ++ 46 :: p = (q ++ [46]) ++ p by simp, List.drop_left]
    have hat : (q ++ 46 :: p)[(q ++ 46 :: p).length - 4]? = some 46 := by
      rw [hl, show q.length + 4 - 4 = q.length by omega, List.getElem?_append_right (Nat.le_refl _), Nat.sub_self]; rfl
    have ha : angVal (angT a) = a := by
      unfold angVal
      rw [ht, hds, hval]
      by_cases h : a < 0
      · rw [if_pos ((angT_head a).2 h)]; omega
      · rw [if_neg (fun e => h ((angT_head a).1 e))]; omega
    have h1 : ¬ ((angTl (angT a)).length < 5 ∨ 7 < (angTl (angT a)).length ∨ (angTl (angT a))[(angTl (angT a)).length - 4]? ≠ some 46) := by
      rw [ht]
      rintro (h | h | h)
      · omega
      · omega
      · exact h hat
    have h2 : (angDs (angTl (angT a))).all isD = true := by rw [ht, hds]; exact hall
    unfold angR
    rw [if_neg h1, if_pos h2, ha, if_pos ⟨(inB_iff _ _ _).2 hb, rfl⟩]
theorem indexByte_at (c : UInt8) : ∀ (a r : List UInt8), (∀ b ∈ a, b ≠ c) → indexByte (a ++ c :: r) c = (a.length : Int)
  | [], r, _ => by simp [indexByte]
  | b :: a, r, h => by
    have ih := indexByte_at c a r (fun x hx => h x (List.mem_cons_of_mem _ hx))
    have hb := h b (List.mem_cons_self ..)
    rw [List.cons_append, indexByte, if_neg (by simpa using hb), ih, if_neg (by rw [beq_iff_eq]; omega)]
    simp
theorem parse_digits {ds : List UInt8} (hne : ds ≠ []) (hall : ds.all isD = true) (hv : valD 0 ds < 1000000000) : parseIntB 64 ds = .ok (valD 0 ds : Int) ∧ parseIntB 64 (45 :: ds) = .ok (-(valD 0 ds : Int)) := by
  have hM : (2 : Nat) ^ 64 - 1 = 18446744073709551615 := by decide
  have h63 : (2 : Nat) ^ (64 - 1) = 9223372036854775808 := by decide
  have hp : parseUintB 64 ds = .ok (valD 0 ds) := by
    unfold parseUintB
    rw [if_neg hne, hM, parseM_digits _ (by omega) _ 0 hall (by omega)]
  constructor
  · have hh := head_digit hall
    generalize valD 0 ds = u at *
    cases ds with
    | nil => exact absurd rfl hne
    | cons c r =>
      rw [parseIntB_plain 64 c r (fun e => hh.2 (by show some c = some 43; congr 1; exact UInt8.toNat_inj.1 e)) (fun e => hh.1 (by show some c = some 45; congr 1; exact UInt8.toNat_inj.1 e)), hp, signlessC, h63, if_neg (by omega)]
  · rw [parseIntB_minus, hp, signedC, h63, if_neg (by omega)]
theorem angI_iff (l : List UInt8) (a : Int) : angI l = some a ↔ AngText l a := by
  constructor
  · intro h
    unfold angI at h
    split at h
    · cases h
    · rename_i hd
      split at h
      · split at h
        · rename_i n hp ht
          injection h with h
          subst h
          unfold angText at ht
          split at ht
          · rename_i hb
            exact ⟨hb, ht⟩
          · exfalso
            subst ht
            exact hd (.inl (by decide))
        · cases h
      · cases h
  · rintro ⟨hb, rfl⟩
    have hb' := (inB_iff _ _ _).1 hb
    obtain ⟨q, p, hq, hp, hlq, hlp, hall, hval, hform⟩ : ∃ q p : List UInt8, q = decDigits (a.natAbs / 1000) ∧ p = pad3 (a.natAbs % 1000) ∧ (1 ≤ q.length ∧ q.length ≤ 3) ∧ p.length = 3 ∧ (q ++ p).all isD = true ∧ valD 0 (q ++ p) = a.natAbs ∧ angT a = ((if a < 0 then [45] else []) ++ q) ++ 46 :: p :=
      ⟨_, _, rfl, rfl, decDigits_len3 (by omega), pad3_len (Nat.mod_lt _ (by omega)), ang_all _, ang_val _, by unfold angT; rw [List.append_assoc]⟩
    have hqall : q.all isD = true := by rw [hq]; exact decDigits_all _
    have hfree : ∀ b ∈ (if a < 0 then [45] else []) ++ q, b ≠ (46 : UInt8) := by
      intro b hb e
      rcases List.mem_append.1 hb with hb | hb
      · split at hb
        · rw [show b = 45 by simpa using hb] at e; exact absurd e (by decide)
        · cases hb
      · have := List.all_eq_true.1 hqall b hb
        rw [e] at this; exact absurd this (by decide)
    have hix := indexByte_at 46 _ p hfree
    rw [← hform] at hix
    have hlen : ((angT a).length : Int) = indexByte (angT a) 46 + 4 := by rw [hix, hform, List.length_append, List.length_cons, hlp]; omega
    have hcut : (angT a).take (indexByte (angT a) 46).toNat ++ (angT a).drop ((indexByte (angT a) 46).toNat + 1) = (if a < 0 then [45] else []) ++ (q ++ p) := by
      rw [hix, Int.toNat_natCast, hform, List.take_left, ← List.append_assoc (if a < 0 then [45] else []) q p]
      generalize (if a < 0 then [45] else []) ++ q = z
      rw [show z ++ 46 :: p = (z ++ [46]) ++ p by simp, show z.length + 1 = (z ++ [46]).length by simp, List.drop_left]
    have hqp : q ++ p ≠ [] := by intro e; have h9 := congrArg List.length e; rw [List.length_append, hlp, List.length_nil] at h9; omega
    have hpd := parse_digits hqp hall (by rw [hval]; omega)
    rw [hval] at hpd
    have hpar : parseIntB 64 ((if a < 0 then [45] else []) ++ (q ++ p)) = .ok a := by
      by_cases h : a < 0
      · rw [if_pos h]; rw [show ([45] : List UInt8) ++ (q ++ p) = 45 :: (q ++ p) from rfl, hpd.2]; congr 1; omega
      · rw [if_neg h, List.nil_append, hpd.1]; congr 1; omega
    have hnot : ¬ (indexByte (angT a) 46 < 0 ∨ ((angT a).length : Int) ≠ indexByte (angT a) 46 + 4) := by
      rintro (h | h)
      · rw [hix] at h; omega
      · exact h hlen
    unfold angI
    rw [if_neg hnot, hcut, hpar]
    simp only [angText, hb, if_true]
theorem ang_eq (l : List UInt8) : angI l = angR l := opt_ext fun a => (angI_iff l a).trans (angR_iff l a).symm
theorem angT_free (a : Int) (c : UInt8) (h45 : c ≠ 45) (h46 : c ≠ 46) (hd : isD c = false) : ∀ b ∈ angT a, b ≠ c := by
  intro b hb e
  have hall : ∀ (l : List UInt8), l.all isD = true → b ∈ l → False := fun l hl hb => by
    have := List.all_eq_true.1 hl b hb
    rw [e, hd] at this; cases this
  unfold angT at hb
  rcases List.mem_append.1 hb with hb | hb
  · split at hb
    · rw [show b = 45 by simpa using hb] at e; exact h45 e.symm
    · cases hb
  · rcases List.mem_append.1 hb with hb | hb
    · exact hall _ (decDigits_all _) hb
    · rcases List.mem_cons.1 hb with rfl | hb
      · exact h46 e.symm
      · exact hall _ (pad3_all _) hb
theorem angT_ne (a : Int) : angT a ≠ [] := by
  unfold angT; intro e
  have := congrArg List.length e
  simp at this
def siteT (nm : List UInt8) (lo la : Int) : List UInt8 := joinC 32 [nm, angT lo, angT la]
def mkSite (rd : List UInt8 → Option Int) (ws : List (List UInt8)) : Option (List UInt8 × Int × Int) :=
  if ws.length = 3 then match rd (ws.getD 1 []), rd (ws.getD 2 []) with
    | some lo, some la => if vSite (ws.headD []) lo la = true then some (ws.headD [], lo, la) else none
    | _, _ => none
  else none
def readSiteR (l : List UInt8) : Option (List UInt8 × Int × Int) := mkSite angR (partsL 32 l)
def readSiteI (l : List UInt8) : Option (List UInt8 × Int × Int) := match mkSite angI (wordsL l) with
  | some (nm, lo, la) => if siteT nm lo la = l then some (nm, lo, la) else none
  | none => none
def SiteText (l : List UInt8) (x : List UInt8 × Int × Int) : Prop := vSite x.1 x.2.1 x.2.2 = true ∧ siteT x.1 x.2.1 x.2.2 = l
theorem vSite_parts {s : List UInt8} {a b : Int} (h : vSite s a b = true) : isName s = true ∧ (-180000 ≤ a ∧ a ≤ 180000) ∧ (-90000 ≤ b ∧ b ≤ 90000) := by
  simpa only [vSite, inB, Bool.and_eq_true, decide_eq_true_eq, and_assoc] using h
theorem mkSite_some {rd : List UInt8 → Option Int} (hrd : ∀ l a, rd l = some a ↔ AngText l a) {ws : List (List UInt8)} {x : List UInt8 × Int × Int} (h : mkSite rd ws = some x) : ws = [x.1, angT x.2.1, angT x.2.2] ∧ vSite x.1 x.2.1 x.2.2 = true := by
  unfold mkSite at h
  split at h
  · rename_i hl
    match ws, hl with
    | [w0, w1, w2], _ =>
      change (match rd w1, rd w2 with | some lo, some la => if vSite w0 lo la = true then some (w0, lo, la) else none | _, _ => none) = some x at h
      cases h1 : rd w1 with
      | none => rw [h1] at h; cases h
      | some lo =>
        cases h2 : rd w2 with
        | none => rw [h1, h2] at h; cases h
        | some la =>
          rw [h1, h2] at h
          simp only at h
          by_cases hv : vSite w0 lo la = true
          · rw [if_pos hv] at h
            injection h with h
            subst h
            exact ⟨by rw [((hrd _ _).1 h1).2, ((hrd _ _).1 h2).2], hv⟩
          · rw [if_neg hv] at h; cases h
  · cases h
theorem mkSite_of {rd : List UInt8 → Option Int} (hrd : ∀ l a, rd l = some a ↔ AngText l a) {x : List UInt8 × Int × Int} (hv : vSite x.1 x.2.1 x.2.2 = true) : mkSite rd [x.1, angT x.2.1, angT x.2.2] = some x := by
  obtain ⟨_, h1, h2⟩ := vSite_parts hv
  have e1 : rd (angT x.2.1) = some x.2.1 := (hrd _ _).2 ⟨(inB_iff _ _ _).2 (by omega), rfl⟩
  have e2 : rd (angT x.2.2) = some x.2.2 := (hrd _ _).2 ⟨(inB_iff _ _ _).2 (by omega), rfl⟩
  unfold mkSite
  simp only [List.length_cons, List.length_nil, List.getD_cons_zero, List.getD_cons_succ, List.headD_cons, e1, e2, hv, if_true]
theorem siteT_parts {nm : List UInt8} {lo la : Int} (hn : isName nm = true) : partsL 32 (siteT nm lo la) = [nm, angT lo, angT la] :=
  parts_join 32 _ (by simp) fun p hp => by
    simp only [List.mem_cons, List.not_mem_nil, or_false] at hp
    rcases hp with rfl | rfl | rfl
    · exact name_free hn 32 (by decide)
    · exact angT_free lo 32 (by decide) (by decide) (by decide)
    · exact angT_free la 32 (by decide) (by decide) (by decide)
theorem siteT_words {nm : List UInt8} {lo la : Int} (hn : isName nm = true) : wordsL (siteT nm lo la) = [nm, angT lo, angT la] := by
  unfold wordsL
  rw [siteT_parts hn]
  refine filter_full fun p hp => ?_
  simp only [List.mem_cons, List.not_mem_nil, or_false] at hp
  rcases hp with rfl | rfl | rfl
  · exact name_ne hn
  · exact angT_ne lo
  · exact angT_ne la
theorem readSiteR_iff (l : List UInt8) (x : List UInt8 × Int × Int) : readSiteR l = some x ↔ SiteText l x := by
  constructor
  · intro h
    obtain ⟨h1, h2⟩ := mkSite_some angR_iff h
    exact ⟨h2, by unfold siteT; rw [← h1, joinC_parts]⟩
  · rintro ⟨h1, rfl⟩
    unfold readSiteR
    rw [siteT_parts (vSite_parts h1).1, mkSite_of angR_iff h1]
theorem readSiteI_iff (l : List UInt8) (x : List UInt8 × Int × Int) : readSiteI l = some x ↔ SiteText l x := by
  constructor
  · intro h
    unfold readSiteI at h
    split at h
    · rename_i nm lo la hm
      split at h
      · rename_i ht
        injection h with h
        subst h
        exact ⟨(mkSite_some angI_iff hm).2, ht⟩
      · cases h
    · cases h
  · rintro ⟨h1, rfl⟩
    unfold readSiteI
    rw [siteT_words (vSite_parts h1).1, mkSite_of angI_iff h1]
    simp only [if_true]
theorem readSite_eq (l : List UInt8) : readSiteI l = readSiteR l := opt_ext fun x => (readSiteI_iff l x).trans (readSiteR_iff l x).symm

/-! lists of numbers and planets -/
def fitsL (n : List Int) : Bool := n.all fun x => inB x (-1000000000000) 1000000000000
def listR (l : List UInt8) : Option (List Int) :=
  if l = [45] then some []
  else if 64 < (partsL 44 l).length then none
  else match numsL (partsL 44 l) with
    | some n => if fitsL n = true then some n else none
    | none => none
def planT (id : List UInt8) (n : List Int) : List UInt8 := joinC 32 [id, joinC 44 (n.map itoa)]
def mkPlan (id rest : List UInt8) : Option (List UInt8 × List Int) := match listR rest with
  | some n => if n.length = 3 then (if vPlanet id (n.getD 0 0) (n.getD 1 0) (n.getD 2 0) = true then some (id, n) else none) else none
  | none => none
def readPlanR (l : List UInt8) : Option (List UInt8 × List Int) := if (partsL 32 l).length = 2 then mkPlan ((partsL 32 l).headD []) ((partsL 32 l).getD 1 []) else none
def readPlanI (l : List UInt8) : Option (List UInt8 × List Int) := match mkPlan ((partsL 32 l).headD []) (joinC 32 (partsL 32 l).tail) with
  | some (id, n) => if planT id n = l then some (id, n) else none
  | none => none
def PlanText (l : List UInt8) (x : List UInt8 × List Int) : Prop := x.2.length = 3 ∧ vPlanet x.1 (x.2.getD 0 0) (x.2.getD 1 0) (x.2.getD 2 0) = true ∧ planT x.1 x.2 = l
theorem vPlanet_parts {s : List UInt8} {a b c : Int} (h : vPlanet s a b c = true) : isName s = true ∧ (1000 ≤ a ∧ a ≤ 100000000) ∧ (1 ≤ b ∧ b ≤ 50000) ∧ (0 ≤ c ∧ c ≤ 359999) := by
  simpa only [vPlanet, inB, Bool.and_eq_true, decide_eq_true_eq, and_assoc] using h
theorem mkPlan_some {id rest : List UInt8} {x : List UInt8 × List Int} (h : mkPlan id rest = some x) : x.1 = id ∧ rest = joinC 44 (x.2.map itoa) ∧ x.2.length = 3 ∧ vPlanet x.1 (x.2.getD 0 0) (x.2.getD 1 0) (x.2.getD 2 0) = true := by
  unfold mkPlan at h
  cases hl : listR rest with
  | none => rw [hl] at h; cases h
  | some n =>
    rw [hl] at h
    simp only at h
    split at h
    · rename_i h3
      split at h
      · rename_i hv
        injection h with h
        subst h
        refine ⟨rfl, ?_, h3, hv⟩
        unfold listR at hl
        split at hl
        · injection hl with hl; subst hl; cases h3
        · split at hl
          · cases hl
          · cases hn : numsL (partsL 44 rest) with
            | none => rw [hn] at hl; cases hl
            | some m =>
              rw [hn] at hl
              simp only at hl
              split at hl
              · injection hl with hl
                subst hl
                show rest = joinC 44 (m.map itoa)
                rw [← (numsL_some hn).1, joinC_parts]
              · cases hl
      · cases h
    · cases h
theorem mkPlan_of {x : List UInt8 × List Int} (h3 : x.2.length = 3) (hv : vPlanet x.1 (x.2.getD 0 0) (x.2.getD 1 0) (x.2.getD 2 0) = true) : mkPlan x.1 (joinC 44 (x.2.map itoa)) = some x := by
  obtain ⟨id, n⟩ := x
  obtain ⟨a, b, c, rfl⟩ := three h3
  obtain ⟨_, h1, h2, h4⟩ := vPlanet_parts hv
  simp only [List.getD_cons_zero, List.getD_cons_succ] at h1 h2 h4
  have hsm : ∀ x ∈ [a, b, c], x.natAbs < 1000000000000000000 := by
    intro x hx
    simp only [List.mem_cons, List.not_mem_nil, or_false] at hx
    rcases hx with rfl | rfl | rfl <;> omega
  have hp : partsL 44 (joinC 44 ([a, b, c].map itoa)) = [a, b, c].map itoa := parts_join 44 _ (by simp) fun p hp => by
    obtain ⟨x, _, rfl⟩ := List.mem_map.1 hp
    exact itoa_free x 44 (by decide) (by decide)
  have hne : joinC 44 ([a, b, c].map itoa) ≠ [45] := by
    intro e
    rw [e] at hp
    have h1 := congrArg List.length hp
    have h2 : (partsL 44 [45]).length = 1 := by decide
    have h3 : ([a, b, c].map itoa).length = 3 := rfl
    omega
  unfold mkPlan listR
  rw [if_neg hne, hp, if_neg (by simp), numsL_itoa hsm]
  have hf : fitsL [a, b, c] = true := by
    simp only [fitsL, List.all_cons, List.all_nil, Bool.and_true, Bool.and_eq_true, inB_iff]; omega
  simp only [hf, if_true, List.length_cons, List.length_nil]
  rw [if_pos hv]
theorem planT_parts {id : List UInt8} {n : List Int} (hn : isName id = true) : partsL 32 (planT id n) = [id, joinC 44 (n.map itoa)] :=
  parts_join 32 _ (by simp) fun p hp => by
    simp only [List.mem_cons, List.not_mem_nil, or_false] at hp
    rcases hp with rfl | rfl
    · exact name_free hn 32 (by decide)
    · exact joinC_mem 44 32 _ (fun p hp => by
        obtain ⟨x, _, rfl⟩ := List.mem_map.1 hp
        exact itoa_free x 32 (by decide) (by decide)) (by decide)
theorem readPlanR_iff (l : List UInt8) (x : List UInt8 × List Int) : readPlanR l = some x ↔ PlanText l x := by
  constructor
  · intro h
    unfold readPlanR at h
    split at h
    · rename_i h2
      obtain ⟨h1, h3, h4, h5⟩ := mkPlan_some h
      refine ⟨h4, h5, ?_⟩
      have hj := joinC_parts 32 l
      generalize partsL 32 l = ps at *
      match ps, h2 with
      | [w0, w1], _ =>
        unfold planT
        rw [h1, ← h3]; exact hj
    · cases h
  · rintro ⟨h1, h2, rfl⟩
    unfold readPlanR
    rw [planT_parts (vPlanet_parts h2).1]
    exact (if_pos rfl).trans (mkPlan_of h1 h2)
theorem readPlanI_iff (l : List UInt8) (x : List UInt8 × List Int) : readPlanI l = some x ↔ PlanText l x := by
  constructor
  · intro h
    unfold readPlanI at h
    split at h
    · rename_i id n hm
      split at h
      · rename_i ht
        injection h with h
        subst h
        obtain ⟨_, _, h3, h4⟩ := mkPlan_some hm
        exact ⟨h3, h4, ht⟩
      · cases h
    · cases h
  · rintro ⟨h1, h2, rfl⟩
    unfold readPlanI
    rw [planT_parts (vPlanet_parts h2).1]
    have := mkPlan_of h1 h2
    simp only [List.headD_cons, List.tail_cons, joinC, this, if_true]
theorem readPlan_eq (l : List UInt8) : readPlanI l = readPlanR l := opt_ext fun x => (readPlanI_iff l x).trans (readPlanR_iff l x).symm

/-! figures -/
def lineT (x : List Int) : List UInt8 := joinC 45 (x.map itoa)
def figT (nm : List UInt8) (L : List (List Int)) : List UInt8 := joinC 32 (nm :: L.map lineT)
/-- a line as the reference reads it -/
def lineR (w : List UInt8) : Option (List Int) := if (partsL 45 w).length = 2 then numsL (partsL 45 w) else none
/-- a line as the program reads it -/
def lineI (w : List UInt8) : Option (List Int) := numsL [(partsL 45 w).headD [], joinC 45 (partsL 45 w).tail]
def linesL (rd : List UInt8 → Option (List Int)) : List (List UInt8) → Option (List (List Int))
  | [] => some []
  | w :: r => match rd w, linesL rd r with
    | some a, some b => some (a :: b)
    | _, _ => none
theorem linesL_cons {rd : List UInt8 → Option (List Int)} {w : List UInt8} {r : List (List UInt8)} {a : List Int} {b : List (List Int)} (h : rd w = some a) (h2 : linesL rd r = some b) : linesL rd (w :: r) = some (a :: b) := by simp only [linesL, h, h2]
theorem linesL_head {rd : List UInt8 → Option (List Int)} {w : List UInt8} {r : List (List UInt8)} (h : rd w = none) : linesL rd (w :: r) = none := by simp only [linesL, h]
theorem linesL_tail {rd : List UInt8 → Option (List Int)} {w : List UInt8} {r : List (List UInt8)} (h : linesL rd r = none) : linesL rd (w :: r) = none := by cases hw : rd w <;> simp only [linesL, h, hw]
theorem linesL_snoc {rd : List UInt8 → Option (List Int)} : ∀ {ws : List (List UInt8)} {w : List UInt8} {L : List (List Int)} {x : List Int}, linesL rd ws = some L → rd w = some x → linesL rd (ws ++ [w]) = some (L ++ [x])
  | [], w, L, x, h, hw => by simp only [linesL, Option.some.injEq] at h; subst h; exact linesL_cons hw rfl
  | v :: r, w, L, x, h, hw => by
    cases hv : rd v with
    | none => rw [linesL_head hv] at h; cases h
    | some a =>
      cases hr : linesL rd r with
      | none => rw [linesL_tail hr] at h; cases h
      | some b =>
        rw [linesL_cons hv hr] at h
        injection h with h
        subst h
        exact linesL_cons hv (linesL_snoc hr hw)
theorem linesL_none {rd : List UInt8 → Option (List Int)} : ∀ {ws : List (List UInt8)} {w : List UInt8}, w ∈ ws → rd w = none → linesL rd ws = none
  | [], w, h, _ => by cases h
  | v :: r, w, h, hw => by
    rcases List.mem_cons.1 h with rfl | h
    · exact linesL_head hw
    · exact linesL_tail (linesL_none h hw)
theorem linesL_text {rd : List UInt8 → Option (List Int)} (hrd : ∀ w x, rd w = some x → lineT x = w) : ∀ {ws : List (List UInt8)} {L : List (List Int)}, linesL rd ws = some L → ws = L.map lineT
  | [], L, h => by simp only [linesL, Option.some.injEq] at h; subst h; rfl
  | v :: r, L, h => by
    cases hv : rd v with
    | none => rw [linesL_head hv] at h; cases h
    | some a =>
      cases hr : linesL rd r with
      | none => rw [linesL_tail hr] at h; cases h
      | some b =>
        rw [linesL_cons hv hr] at h
        injection h with h
        subst h
        rw [List.map_cons, hrd v a hv, ← linesL_text hrd hr]
theorem linesL_of {rd : List UInt8 → Option (List Int)} : ∀ {L : List (List Int)}, (∀ x ∈ L, rd (lineT x) = some x) → linesL rd (L.map lineT) = some L
  | [], _ => rfl
  | x :: r, h => linesL_cons (h x (List.mem_cons_self ..)) (linesL_of fun y hy => h y (List.mem_cons_of_mem _ hy))
def figOk (nm : List UInt8) (L : List (List Int)) : Bool := isName nm && vLines 24 L
def readFigR (l : List UInt8) : Option (List UInt8 × List (List Int)) := match linesL lineR (partsL 32 l).tail with
  | some L => if figOk ((partsL 32 l).headD []) L = true then some ((partsL 32 l).headD [], L) else none
  | none => none
def readFigI (l : List UInt8) : Option (List UInt8 × List (List Int)) := if wordsL l = [] then none else match linesL lineI (wordsL l).tail with
  | some L => if (if figOk ((wordsL l).headD []) L = true then figT ((wordsL l).headD []) L else []) = l then some ((wordsL l).headD [], L) else none
  | none => none
def FigText (l : List UInt8) (x : List UInt8 × List (List Int)) : Prop := figOk x.1 x.2 = true ∧ figT x.1 x.2 = l
theorem lineR_text (w : List UInt8) (x : List Int) (h : lineR w = some x) : lineT x = w := by
  unfold lineR at h
  split at h
  · unfold lineT; rw [← (numsL_some h).1, joinC_parts]
  · cases h
theorem line_parts {n : Int} {x : List Int} (h : lineOk n x = true) : partsL 45 (lineT x) = x.map itoa := by
  obtain ⟨a, b, rfl, h0, h1, _⟩ := lineOk_two h
  refine parts_join 45 _ (by simp) fun p hp => ?_
  simp only [List.map_cons, List.map_nil, List.mem_cons, List.not_mem_nil, or_false] at hp
  rcases hp with rfl | rfl
  · exact itoa_free45 a h0
  · exact itoa_free45 b (by omega)
theorem line_nums {x : List Int} (h : lineOk 24 x = true) : numsL (x.map itoa) = some x := by
  obtain ⟨a, b, rfl, h0, h1, h2⟩ := lineOk_two h
  refine numsL_itoa fun y hy => ?_
  simp only [List.mem_cons, List.not_mem_nil, or_false] at hy
  rcases hy with rfl | rfl <;> omega
theorem lineR_of {x : List Int} (h : lineOk 24 x = true) : lineR (lineT x) = some x := by
  unfold lineR
  rw [line_parts h, line_nums h, if_pos]
  obtain ⟨a, b, rfl, _⟩ := lineOk_two h; rfl
theorem lineI_of {x : List Int} (h : lineOk 24 x = true) : lineI (lineT x) = some x := by
  unfold lineI
  rw [line_parts h]
  have := line_nums h
  obtain ⟨a, b, rfl, _⟩ := lineOk_two h
  exact this
theorem line_free {n : Int} {x : List Int} (h : lineOk n x = true) : ∀ b ∈ lineT x, b ≠ 32 :=
  joinC_mem 45 32 _ (fun p hp => by
    obtain ⟨y, _, rfl⟩ := List.mem_map.1 hp
    exact itoa_free y 32 (by decide) (by decide)) (by decide)
theorem line_ne {n : Int} {x : List Int} (h : lineOk n x = true) : lineT x ≠ [] := by
  obtain ⟨a, b, rfl, _⟩ := lineOk_two h
  show itoa a ++ 45 :: itoa b ≠ []
  simp
theorem vLines_mem {n : Int} {L : List (List Int)} (h : vLines n L = true) : ∀ x ∈ L, lineOk n x = true := fun x hx => by
  obtain ⟨k, hk⟩ := List.getElem?_of_mem hx
  exact vLines_ok h hk
theorem figOk_parts {nm : List UInt8} {L : List (List Int)} (h : figOk nm L = true) : isName nm = true ∧ vLines 24 L = true := by simpa only [figOk, Bool.and_eq_true] using h
theorem figT_parts {nm : List UInt8} {L : List (List Int)} (h : figOk nm L = true) : partsL 32 (figT nm L) = nm :: L.map lineT :=
  parts_join 32 _ (by simp) fun p hp => by
    rcases List.mem_cons.1 hp with rfl | hp
    · exact name_free (figOk_parts h).1 32 (by decide)
    · obtain ⟨x, hx, rfl⟩ := List.mem_map.1 hp
      exact line_free (vLines_mem (figOk_parts h).2 x hx)
theorem figT_words {nm : List UInt8} {L : List (List Int)} (h : figOk nm L = true) : wordsL (figT nm L) = nm :: L.map lineT := by
  unfold wordsL
  rw [figT_parts h]
  refine filter_full fun p hp => ?_
  rcases List.mem_cons.1 hp with rfl | hp
  · exact name_ne (figOk_parts h).1
  · obtain ⟨x, hx, rfl⟩ := List.mem_map.1 hp
    exact line_ne (vLines_mem (figOk_parts h).2 x hx)
theorem readFigR_iff (l : List UInt8) (x : List UInt8 × List (List Int)) : readFigR l = some x ↔ FigText l x := by
  constructor
  · intro h
    unfold readFigR at h
    obtain ⟨p, ps, hp⟩ := partsL_cons 32 l
    rw [hp] at h
    change (match linesL lineR ps with | some L => if figOk p L = true then some (p, L) else none | none => none) = some x at h
    cases hL : linesL lineR ps with
    | none => rw [hL] at h; cases h
    | some L =>
      rw [hL] at h
      simp only at h
      by_cases hv : figOk p L = true
      · rw [if_pos hv] at h
        injection h with h
        subst h
        refine ⟨hv, ?_⟩
        show joinC 32 (p :: L.map lineT) = l
        rw [← linesL_text lineR_text hL, ← hp, joinC_parts]
      · rw [if_neg hv] at h; cases h
  · obtain ⟨nm, L⟩ := x
    rintro ⟨h1, rfl⟩
    unfold readFigR
    have h1 : figOk nm L = true := h1
    rw [figT_parts h1]
    simp only [List.headD_cons, List.tail_cons]
    rw [linesL_of fun x hx => lineR_of (vLines_mem (figOk_parts h1).2 x hx)]
    simp only [h1, if_true]
theorem readFigI_iff (l : List UInt8) (x : List UInt8 × List (List Int)) : readFigI l = some x ↔ FigText l x := by
  constructor
  · intro h
    unfold readFigI at h
    by_cases hw : wordsL l = []
    · rw [if_pos hw] at h; cases h
    · rw [if_neg hw] at h
      cases hL : linesL lineI (wordsL l).tail with
      | none => rw [hL] at h; cases h
      | some L =>
        rw [hL] at h
        simp only at h
        by_cases ht : (if figOk ((wordsL l).headD []) L = true then figT ((wordsL l).headD []) L else []) = l
        · rw [if_pos ht] at h
          injection h with h
          subst h
          by_cases hv : figOk ((wordsL l).headD []) L = true
          · rw [if_pos hv] at ht; exact ⟨hv, ht⟩
          · rw [if_neg hv] at ht
            exfalso
            subst ht
            exact hw (by decide)
        · rw [if_neg ht] at h; cases h
  · obtain ⟨nm, L⟩ := x
    rintro ⟨h1, rfl⟩
    have h1 : figOk nm L = true := h1
    unfold readFigI
    rw [figT_words h1, if_neg (by simp)]
    simp only [List.headD_cons, List.tail_cons]
    rw [linesL_of fun x hx => lineI_of (vLines_mem (figOk_parts h1).2 x hx)]
    simp only [h1, if_true]
theorem readFig_eq (l : List UInt8) : readFigI l = readFigR l := opt_ext fun x => (readFigI_iff l x).trans (readFigR_iff l x).symm
end Go.Proofs.YtpnfhienffekoaaGreatDoor
