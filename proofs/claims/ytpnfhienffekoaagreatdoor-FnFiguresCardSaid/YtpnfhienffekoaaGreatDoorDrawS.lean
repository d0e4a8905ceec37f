/- Contracts of the functions that draw lists of stars. -/
import Derived.Test.YtpnfhienffekoaaGreatDoorDraw
namespace Go.Proofs.YtpnfhienffekoaaGreatDoor
set_option linter.unusedVariables false
set_option linter.unusedSimpArgs false
open Go.RowKit
theorem put_at {l : List Sta} {x : Sta} {k : Nat} (hk : k ≤ l.length) (i : Nat) : (l.take k ++ ([x] ++ l.drop k))[i]? = if i < k then l[i]? else if i = k then some x else l[i - 1]? := by
  by_cases h : i < k
  · rw [if_pos h, List.getElem?_append_left (by simp; omega), List.getElem?_take, if_pos h]
  · rw [if_neg h, List.getElem?_append_right (by simp; omega), List.length_take, Nat.min_eq_left hk]
    by_cases e : i = k
    · subst e; simp
    · rw [if_neg e]
      obtain ⟨j, rfl⟩ : ∃ j, i = k + 1 + j := ⟨i - (k + 1), by omega⟩
      rw [show k + 1 + j - k = j + 1 by omega, show k + 1 + j - 1 = k + j by omega]
      simp
theorem vStars_put {l : List Sta} {x : Sta} {k : Nat} (hv : vStars l = true) (hx : x.ok = true) (hn : ¬ 0 ≤ findS x.id l 0) (h24 : l.length < 24) (hk : IsAt l x.id k) : vStars (l.take k ++ ([x] ++ l.drop k)) = true := by
  have hlen : (l.take k ++ ([x] ++ l.drop k)).length = l.length + 1 := by have := hk.1; simp; omega
  have hat := fun i => put_at (x := x) hk.1 i
  refine vStars_yes (by omega) ?_
  rw [okUpto, List.all_eq_true]
  intro i hi
  rw [List.mem_range, hlen] at hi
  have hget : ∀ i, i < l.length → ∃ y, l[i]? = some y := fun i h => ⟨l[i], List.getElem?_eq_getElem h⟩
  have hlk : ∀ y, l[k]? = some y → ltS x.id y.id = true := fun y hy => by
    cases h : ltS x.id y.id with
    | true => rfl
    | false =>
      have h2 := hk.2.2 y hy
      have e := bl_tri h2 h
      exact absurd ((has_at hv hk).2 ⟨y, hy, by simp [isId, e]⟩) hn
  have hk1 := hk.1
  rcases i with _ | j
  · by_cases h : 0 < k
    · obtain ⟨y, hy⟩ := hget 0 (by omega)
      rw [okAt_zero (x := y) (by rw [hat, if_pos h]; exact hy)]
      exact vStars_ok hv hy
    · rw [okAt_zero (x := x) (by rw [hat, if_neg h, if_pos (by omega)])]; exact hx
  · by_cases h : j + 1 < k
    · obtain ⟨y, hy⟩ := hget (j + 1) (by omega)
      obtain ⟨z, hz⟩ := hget j (by omega)
      rw [okAt_succ (x := y) (y := z) (by rw [hat, if_pos h]; exact hy) (by rw [hat, if_pos (by omega)]; exact hz), vStars_ok hv hy, vStars_lt hv hy hz]; rfl
    · by_cases e : j + 1 = k
      · obtain ⟨z, hz⟩ := hget j (by omega)
        rw [okAt_succ (x := x) (y := z) (by rw [hat, if_neg h, if_pos e]) (by rw [hat, if_pos (by omega)]; exact hz), hx, hk.2.1 j z (by omega) hz]; rfl
      · by_cases e2 : j = k
        · obtain ⟨y, hy⟩ := hget k (by omega)
          rw [okAt_succ (x := y) (y := x) (by rw [hat, if_neg h, if_neg e, show j + 1 - 1 = k by omega]; exact hy) (by rw [hat, if_neg (by omega), if_pos e2]), vStars_ok hv hy, hlk y hy]; rfl
        · obtain ⟨y, hy⟩ := hget j (by omega)
          obtain ⟨z, hz⟩ := hget (j - 1) (by omega)
          rw [okAt_succ (x := y) (y := z) (by rw [hat, if_neg h, if_neg e, show j + 1 - 1 = j by omega]; exact hy) (by rw [hat, if_neg (by omega), if_neg e2]; exact hz), vStars_ok hv hy, vStars_lt hv (k := j - 1) (by rw [show j - 1 + 1 = j by omega]; exact hy) hz]; rfl
theorem addO_ok {l : List Sta} {x : Sta} (hv : vStars l = true) (hx : x.ok = true) (h24 : l.length < 24) (h0 : (addO l x).2 = 0) : vStars (addO l x).1 = true ∧ (addO l x).1.length = l.length + 1 := by
  by_cases hn : 0 ≤ findS x.id l 0
  · rw [addO_has hv hx hn] at h0; cases h0
  · have hk := addK_is x.id l
    rw [addO_yes hv hx hn (by omega) hk]
    exact ⟨vStars_put hv hx hn h24 hk, by have := hk.1; simp; omega⟩
theorem addO_code {l : List Sta} {x : Sta} : (addO l x).2 = 0 ∨ 0 < (addO l x).2 := by
  unfold addO
  split
  · split
    · simp
    · split <;> simp
  · simp
theorem OwnS.form2 {w : World} {base : Nat} {v : Value} {l : List Sta} (h : OwnS w base v l) : ∃ A c, v = .slice A l.length c ∧ Stars w A l ∧ l.length ≤ c ∧ c ≤ 9223372036854775807 ∧ (A = none → c = 0 ∧ l.length = 0) ∧ (A = none ∨ ∃ b o, A = some ⟨b, o, none⟩) := by
  rcases h.blk with ⟨rfl, rfl⟩ | ⟨g, cap, cs, rfl, hb, hB, h2, h3, h4, h5⟩
  · exact ⟨none, 0, rfl, fun h => absurd h (by simp), by simp, by omega, fun _ => ⟨rfl, rfl⟩, .inl rfl⟩
  · obtain ⟨A, c, e, hI⟩ := h.form
    injection e with e1 e2 e3
    subst e1 e3
    exact ⟨_, _, rfl, hI, by omega, by unfold maxLen at *; omega, fun h => (by cases h), .inr ⟨g, 0, rfl⟩⟩
/-- all names are those that are drawn -/
def FromN (l : List Sta) : Prop := ∀ x ∈ l, x.id ∈ drawNames
theorem FromN.add {l : List Sta} {x : Sta} (h : FromN l) (hx : x.id ∈ drawNames) : FromN (addO l x).1 := by
  unfold addO
  split
  · split
    · intro y hy; cases hy
    · split
      · intro y hy; cases hy
      · intro y hy
        simp only [List.mem_append, List.mem_cons, List.not_mem_nil, or_false] at hy
        rcases hy with hy | rfl | hy
        · exact h y (List.mem_of_mem_take hy)
        · exact hx
        · exact h y (List.mem_of_mem_drop hy)
  · intro y hy; cases hy
/-- what drawing stars leaves -/
def DrawnS (g a B : Nat) (w : World) (e : Ending) (w' : World) : Prop := ∃ (v : Value) (l : List Sta), e = .returned v ∧ OwnS w' w.heap.size v l ∧ vStars l = true ∧ l.length ≤ 6 ∧ FromN l ∧ Src w' g a B ∧ w.grownBy w' (some g)
set_option maxHeartbeats 2000000 in
theorem l05Draw_any (g a B : Nat) (w : World) (h : Src w g a B) (ha : a ≤ 999999000) (hB : B ≤ w.heap.size) :
    Calls Tryz.prog 66 #[.pointer (some ⟨g, 0, none⟩)] w (DrawnS g (a + 100) B w) := by
  have hE := OwnS.empty w w.heap.size (Nat.le_refl _)
  have hb1 := below_alloc (Below.refl w.heap.size w) (.cells #[] 46)
  have hS1 := h.keep hb1
  have hG1 := grown_of_below hb1 (some g)
  have hgl := h.lt
  go_enter Tryz.func66, Tryz.ntmps66
  go_wp2_with (fail)
  refine calls_named ?_
  intro W1 e1
  rw [← e1] at hE hS1 hG1
  clear e1 hb1
  refine (pick_any g a B 7 W1 hS1 (by omega) (by omega)).mono ?_
  rintro e w2 ⟨k0, rfl, hk0, hS2, hg2⟩
  have hO2 := hE.only hg2 (fun p hp hq => by have := hE.lt p hp; injection hq with hq; omega)
  have hG2 := grown_trans0 hG1 hg2
  have hk0' : k0 ≤ 6 := by omega
  clear hk0 hE hS1 hG1 hg2
  go_wp2_with (fail)
  go_loopw [3, 4] (fun s3 s4 wr => ∃ (k : Nat) (v : Value) (l : List Sta), k ≤ 6 ∧ s4 = .int .i64 (k : Int) ∧ v = s3 ∧ OwnS wr w.heap.size v l ∧ vStars l = true ∧ l.length + k ≤ 6 ∧ FromN l ∧ Src wr g (a + 100 - 10 * k) B ∧ w.grownBy wr (some g)) (fun _ s4 _ => (intOf s4).toNat)
  case atStart => exact ⟨k0, _, [], hk0', rfl, rfl, hO2, rfl, by simpa using hk0', fun y hy => (by cases hy), hS2.mono (by omega), hG2⟩
  case round =>
    clear hO2 hS2 hG2
    obtain ⟨k, v, l, hk, rfl, rfl, hO, hV, hlk, hFN, hS, hG⟩ := hrel
    have HFN := Lib.hid hFN
    clear hFN
    by_cases h0 : 0 < k
    · have h0' : (0 : Int) < (k : Int) := by omega
      go_wp2_with (fail)
      refine (l05DrawOne_any g (a + 100 - 10 * k) B wr hS (by omega) (by have := hG.size; omega)).mono ?_
      rintro e w4 ⟨x, rfl, hxok, hxn, hS4, hg4⟩
      have HFA := Lib.hid (HFN.out.add hxn)
      clear hxn
      have hO4 := hO.only hg4 (fun p hp hq => by have := hO.lt p hp; injection hq with hq; omega)
      have hG4 := grown_trans0 hG hg4
      clear hO hS hG hg4
      obtain ⟨A, c, rfl, hA, hc1, hc2, hc3, hc4⟩ := hO4.form2
      go_wp2_with (fail)
      refine (sAddStar_any A l.length c l x w4 rfl (by omega) hc1 hc2 hc3 hc4 hA).mono ?_
      rintro e w5 ⟨v5, rfl, hO5, hb5⟩
      have hO6 := hO4.below hb5
      have hS6 := hS4.keep hb5
      have hG6 := grown_trans0 hG4 (grown_of_below hb5 (some g))
      have hAO := fun h => addO_ok hV hxok (by omega : l.length < 24) h
      rcases addO_code (l := l) (x := x) with hcode | hcode
      · obtain ⟨hV5, hl5⟩ := hAO hcode
        have hb9 : w.heap.size ≤ w4.heap.size := hG4.size
        generalize (addO l x).1 = l5 at *
        generalize (addO l x).2 = code at *
        subst hcode
        go_wp2_with (fail)
        go_roundw
        case rel => exact ⟨k - 1, v5, l5, by omega, by go_num, rfl, hO5.base_le hb9, hV5, by omega, HFA.out, hS6.mono (by omega), hG6⟩
        case measure => simp [intOf]; omega
      · generalize (addO l x).1 = l5 at *
        generalize (addO l x).2 = code at *
        have hc0 : ¬ code = 0 := by omega
        have hc0' : (code == 0) = false := by simpa using hc0
        go_wp2_with (fail)
        go_roundw
        case rel => exact ⟨k - 1, _, l, by omega, by go_num, rfl, hO6, hV, by omega, HFN.out, hS6.mono (by omega), hG6⟩
        case measure => simp [intOf]; omega
    · obtain rfl : k = 0 := by omega
      go_wp2_with (fail)
      go_ret
      exact ⟨v, l, rfl, hO, hV, by omega, HFN.out, hS.mono (by omega), hG⟩
/-- what drawing stars from bytes leaves -/
def R8StarsPost (w : World) (e : Ending) (w' : World) : Prop := ∃ (v : Value) (l : List Sta), e = .returned v ∧ OwnS w' w.heap.size v l ∧ vStars l = true ∧ l.length ≤ 6 ∧ FromN l ∧ Below w.heap.size w w'
set_option maxHeartbeats 1000000 in
theorem R8Stars_any (A : Option Addr) (n c : Nat) (bs : List Int) (w : World) (hl : bs.length = n) (hn : n ≤ 1048576) (hA : Bytes w A bs) (hok : ∀ x ∈ bs, ByteOk x) :
    Calls Tryz.prog 19 #[.slice A n c] w (R8StarsPost w) := by
  go_enter Tryz.func19, Tryz.ntmps19
  go_wp2_with (fail)
  refine (l00From_any A n c bs w hl hn hA hok).mono ?_
  rintro e w1 ⟨rfl, hS1, hb1⟩
  have hlt := hS1.lt
  go_wp2_with (fail)
  refine (l05Draw_any w.heap.size 0 (w.heap.size + 1) w1 hS1 (by omega) hlt).mono ?_
  rintro e w2 ⟨v, l, rfl, hO, hV, hl6, hFN, hS2, hg2⟩
  go_wp2_with (fail)
  go_ret
  exact ⟨v, l, rfl, hO.base_le (by omega), hV, hl6, hFN, below_of_grown hb1 hg2 hb1.size (fun q hq => by injection hq with hq; omega)⟩
end Go.Proofs.YtpnfhienffekoaaGreatDoor
