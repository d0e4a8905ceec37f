/- Texts that belong together, as one: Ends, Put, FigSt. -/
import Derived.Test.YtpnfhienffekoaaGreatDoorShelf
import Derived.Test.YtpnfhienffekoaaGreatDoorGrpList
import Derived.Test.YtpnfhienffekoaaGreatDoorMgM
import Derived.Test.YtpnfhienffekoaaGreatDoorGrpFigs
section
namespace Go.Proofs.YtpnfhienffekoaaGreatDoor
set_option linter.unusedVariables false
set_option linter.unusedSimpArgs false
open Go.RowKit
open Go.Sort (Holds putRow grow)
theorem getBang {l : List Int} {j : Nat} {x : Int} (h : l[j]? = some x) : l.toArray[j]! = x := by
  have hj : j < l.length := (List.getElem?_eq_some_iff.1 h).1
  rw [getElem!_pos _ j (by simpa using hj)]
  have := List.getElem?_eq_some_iff.1 h
  simpa using this.2
theorem Blk.holds {w : World} {g : Nat} {t : TypeId} {cs : List Value} {l : List Int} (h : Blk w g t cs) (hc : cs.take l.length = numCells l) : Holds (Value.int .i64) w g 0 l.toArray := fun j hj => by
  have hj' : j < l.length := by simpa using hj
  obtain ⟨x, hx⟩ := at_lt hj'
  refine ⟨?_, by rw [Nat.zero_add]; exact h.frozen j⟩
  rw [h.cell, Nat.zero_add, getBang hx]
  have h2 := numCells_at hx
  rw [← hc, List.getElem?_take, if_pos hj'] at h2
  exact h2
/-- what the library's laws say of a row that was written, in the words used here -/
theorem Blk.put {w : World} {g n : Nat} {t : TypeId} {cs : List Value} {d : List Int} (os : Array Obj) (h : Blk w g t cs) (hd : d.length ≤ cs.length) :
    Blk (grow (putRow (Value.int .i64) (Go.Sort.ahead w n) g 0 d.toArray) os) g t (numCells d ++ cs.drop d.length) ∧ w.grownBy (grow (putRow (Value.int .i64) (Go.Sort.ahead w n) g 0 d.toArray) os) (some g) := by
  have hl := h.lt
  constructor
  · unfold Blk at h ⊢
    simp only [grow, putRow, Go.Sort.mapBlock, Go.Sort.ahead]
    rw [Array.getElem?_append_left (by simpa using hl), Array.getElem?_modify, if_pos rfl, h]
    simp only [Option.map_some, Go.Sort.onCells]
    congr 2
    apply Array.ext_getElem?
    intro k
    simp only [Go.Sort.putCells, Array.getElem?_mapIdx, List.getElem?_toArray, List.size_toArray]
    by_cases hk : k < d.length
    · obtain ⟨x, hx⟩ := at_lt hk
      rw [List.getElem?_append_left (by rw [numCells_length]; exact hk), numCells_at hx]
      obtain ⟨c, hc⟩ := at_lt (l := cs) (k := k) (by omega)
      rw [hc]
      simp only [Option.map_some, Nat.zero_add, Nat.zero_le, true_and, Nat.sub_zero]
      rw [if_pos hk, getBang hx]
    · rw [List.getElem?_append_right (by rw [numCells_length]; omega), numCells_length, List.getElem?_drop, show d.length + (k - d.length) = k by omega]
      cases hc : cs[k]? with
      | none => rfl
      | some c => simp only [Option.map_some, Nat.zero_add, Nat.zero_le, true_and]; rw [if_neg hk]
  · refine ⟨rfl, rfl, rfl, ?_, fun k hk hne => ?_⟩
    · simp [grow, putRow, Go.Sort.mapBlock, Go.Sort.ahead]
    · simp only [grow, putRow, Go.Sort.mapBlock, Go.Sort.ahead]
      rw [Array.getElem?_append_left (by simpa using hk), Array.getElem?_modify, if_neg (fun e => hne (by rw [e]))]
theorem OwnI.row {w : World} {base : Nat} {v : Value} {l : List Int} (h : OwnI w base v l) : (v = .slice none 0 0 ∧ l = []) ∨ ∃ g cap cs, v = .slice (some ⟨g, 0, none⟩) l.length cap ∧ base ≤ g ∧ Blk w g 2 cs ∧ cap ≤ maxLen ∧ l.length ≤ cap ∧ cs.length = cap ∧ cs.take l.length = numCells l := by
  rcases h.2 with ⟨hv, hn⟩ | ⟨g, cap, cur, hv, hb, hg, h1, h2, h3, h4⟩
  · exact .inl ⟨hv, List.eq_nil_of_length_eq_zero hn⟩
  · exact .inr ⟨g, cap, cur.toList, hv, hb, by rw [Blk]; simpa using hg, h2, h1, by simp; omega, by simpa using h4⟩
theorem sortI_any (base : Nat) (v : Value) (l : List Int) (w : World) (h : OwnI w base v l) (hl : l.length ≤ 1000000) :
    Calls Tryz.prog 122 #[v] w fun e w' => e = .returned (.tuple #[]) ∧ OwnI w' base v (sortI l) ∧ w.grownBy w' v.ownBlock := by
  rcases h.row with ⟨rfl, rfl⟩ | ⟨g, cap, cs, rfl, hb, hB, h1, h2, h3, h4⟩
  · refine Calls.mono (AnyM.slices_Sort_int_none Tryz.laysSort none 0 w) ?_
    rintro e w' ⟨rfl, rfl⟩
    exact ⟨rfl, by rw [show sortI [] = [] by simp [sortI]]; exact OwnI.nil _ _, grown_of_below (Below.refl _ _) _⟩
  · refine Calls.mono (AnyM.slices_Sort_int Tryz.laysSort g 0 cap l w (hB.holds h4) hB.lt (by omega)) ?_
    rintro e w' ⟨rfl, n, os, rfl⟩
    have hs : (sortI l).length = l.length := sortI_length l
    obtain ⟨p1, p2⟩ := hB.put (d := sortI l) (n := n) os (by omega)
    refine ⟨rfl, ?_, p2⟩
    have := OwnI.of_blk (cap := cap) (l := sortI l) hb p1 (by omega) h1 (by rw [List.length_append, numCells_length, List.length_drop]; omega) (by rw [List.take_append_of_le_length (by rw [numCells_length]; exact Nat.le_refl _), List.take_of_length_le (by rw [numCells_length]; exact Nat.le_refl _)])
    rw [hs] at this
    exact this
set_option maxHeartbeats 400000 in
theorem compact_none (w : World) : Calls Tryz.prog 123 #[.slice none 0 0] w fun e w' => e = .returned (.slice none 0 0) ∧ w = w' := by
  go_enter Tryz.func123, Tryz.ntmps123
  go_wp2
  go_ret
  exact ⟨rfl, rfl⟩
theorem zeroNum (w : World) : (zeroValue 2).run Tryz.prog w = .ok (.int .i64 0) w := by kernel_rfl
theorem compactI_any (base : Nat) (v : Value) (l : List Int) (w : World) (h : OwnI w base v (sortI l)) (hl : l.length ≤ 1000000) :
    Calls Tryz.prog 123 #[v] w fun e w' => ∃ v', e = .returned v' ∧ OwnI w' base v' (setI l) ∧ w.grownBy w' v.ownBlock := by
  rcases h.row with ⟨rfl, he⟩ | ⟨g, cap, cs, rfl, hb, hB, h1, h2, h3, h4⟩
  · refine (compact_none w).mono ?_
    rintro e w' ⟨rfl, rfl⟩
    have hl0 : l = [] := List.eq_nil_of_length_eq_zero (by rw [← sortI_length l, he]; rfl)
    subst hl0
    exact ⟨_, rfl, OwnI.nil _ _, grown_of_below (Below.refl _ _) _⟩
  · have hC := AnyE.slices_Compact Tryz.laysComp (Value.int .i64) (fun x => rfl) (EqlAt.intD _ _ .i64) (NeqAt.intD _ _ .i64) 0 (fun w => zeroNum w) g 0 cap (sortI l).toArray w (hB.holds h4) (by rw [List.size_toArray, sortI_length]; omega) (by rw [List.size_toArray]; exact h2)
    rw [List.size_toArray] at hC
    refine Calls.mono hC ?_
    rintro e w' ⟨rfl, q, rfl⟩
    have hcs := compact_setI l
    rw [List.size_toArray] at hcs
    rw [hcs]
    have hsl : (setI l).length ≤ (sortI l).length := by rw [sortI_length]; exact setI_len l
    have p0 := hB.put (d := setI l ++ List.replicate ((sortI l).length - (setI l).length) 0) (n := q) #[] (by rw [List.length_append, List.length_replicate]; omega)
    simp only [Go.Sort.grow_empty] at p0
    obtain ⟨p1, p2⟩ := p0
    refine ⟨_, rfl, ?_, p2⟩
    refine OwnI.of_blk (cap := cap) (l := setI l) hb p1 (by omega) h1 ?_ ?_
    · simp only [List.length_append, numCells_length, List.length_drop, List.length_replicate]; omega
    · rw [List.take_append_of_le_length (by rw [numCells_length, List.length_append]; omega)]
      simp only [numCells, List.map_append]
      rw [List.take_append_of_le_length (by simp), List.take_of_length_le (by simp)]
set_option maxRecDepth 100000 in
set_option maxHeartbeats 2000000 in
theorem endsOf_any (m : Int) (nm : ByteArray) (B : Option Addr) (p q : Nat) (L : List (List Int)) (w : World) (hp : L.length = p) (hv : vLines m L = true) (hB : Lists w B L) :
    Calls Tryz.prog 86 #[.agg #[.string nm, .slice B p q]] w fun e w' => ∃ v, e = .returned v ∧ OwnI w' w.heap.size v (setI (endsL L)) ∧ Below w.heap.size w w' := by
  have HP := Lib.hid hp; clear hp
  have h16 : p ≤ 16 := by have := vLines_len hv; have := HP.out; omega
  have HV := Lib.hid hv; clear hv
  have hb0 : Below w.heap.size w (w.alloc (.cells #[.string nm, .slice B p q] 63)) := below_alloc (Below.refl _ _) _
  go_enter Tryz.func86, Tryz.ntmps86
  go_wp2_with (fail)
  go_loopw [3, 5, 9] (fun s3 _ s9 wr => ∃ (k : Nat) (v : Value), k ≤ p ∧ s9 = .int .i64 (k : Int) ∧ v = s3 ∧ OwnI wr w.heap.size v (endsL (L.take k)) ∧ Below w.heap.size w wr) (fun _ _ s9 _ => p - (intOf s9).toNat)
  case atStart => exact ⟨0, _, by omega, rfl, rfl, OwnI.nil _ _, hb0⟩
  case round =>
    obtain ⟨k, v, hk, rfl, rfl, hO, hb⟩ := hrel
    by_cases hlt : k < p
    · obtain ⟨x, hx⟩ := at_lt (l := L) (k := k) (by have := HP.out; omega)
      obtain ⟨b, o, rfl, hc⟩ := hB.below hb (by have := HP.out; omega)
      obtain ⟨A1, c1, e0, e1, e2, e3, e4⟩ := hc k x hx
      have HE := Lib.hid (endsL_take hx)
      have HN : Hid ((endsL (L.take k)).length + x.length ≤ 1099511627776) := Lib.hid (by
        have h1 := endsL_len HV.out k (by have := HP.out; omega)
        obtain ⟨u, v, rfl, _⟩ := lineOk_two (vLines_ok HV.out hx)
        rw [h1]; simp; omega)
      have H3 := Lib.hid e3
      clear hc hx e1 e2 e3
      go_wp2_with (at_builtin; refine wpList_app_ints rfl (.tmp 13) (.tmp 14) rfl w.heap.size v (endsL (L.take k)) x A1 x.length c1 rfl rfl hO rfl e4 H3.out HN.out hb.size ?_; intro v2 w2 hO2 hg2)
      go_roundw
      case rel => exact ⟨k + 1, v2, by omega, by go_num, rfl, by rw [HE.out]; exact hO2, below_of_grown hb hg2 hb.size (fun q hq => (hO.lt q hq).1)⟩
      case measure => simp [intOf]; omega
    · obtain rfl : k = p := by omega
      have HA : Hid (endsL (L.take k) = endsL L) := Lib.hid (by rw [List.take_of_length_le (by have := HP.out; omega)])
      rw [HA.out] at hO
      have HN : Hid ((endsL L).length ≤ 1000000) := Lib.hid (by have := endsL_len HV.out k (by have := HP.out; omega); rw [HA.out] at this; omega)
      go_wp2_with (first | (go_at_call 122; refine (sortI_any w.heap.size v (endsL L) _ hO HN.out).mono ?_; rintro e2 w2 ⟨rfl, hO2, hg2⟩; have hb2 := below_of_grown hb hg2 hb.size (fun q hq => (hO.lt q hq).1)) | (go_at_call 123; refine (compactI_any w.heap.size v (endsL L) _ hO2 HN.out).mono ?_; rintro e3 w3 ⟨v3, rfl, hO3, hg3⟩))
      go_ret
      exact ⟨v3, rfl, hO3, below_of_grown hb2 hg3 hb2.size (fun q hq => (hO2.lt q hq).1)⟩
end Go.Proofs.YtpnfhienffekoaaGreatDoor
end
section
namespace Go.Proofs.YtpnfhienffekoaaGreatDoor
set_option linter.unusedVariables false
set_option linter.unusedSimpArgs false
open Go.RowKit
theorem drop_at2 {l : List Int} {k : Nat} {x : Int} (h : l[k]? = some x) : l.drop k = x :: l.drop (k + 1) := by
  obtain ⟨hk, e⟩ := List.getElem?_eq_some_iff.1 h
  rw [List.drop_eq_getElem_cons hk, e]
/-- on the way of l00Put -/
def PutRel (x : Int) (l : List Int) (k : Nat) (d : Bool) (lo : List Int) : Prop := lo.length ≤ k + 1 ∧ ((d = false ∧ lo = l.take k ∧ ∀ y ∈ l.take k, y < x) ∨ (d = true ∧ lo ++ l.drop k = putI x l))
theorem PutRel.start (x : Int) (l : List Int) : PutRel x l 0 false [] := ⟨by simp, .inl ⟨rfl, by simp, by simp⟩⟩
theorem PutRel.on {x : Int} {l : List Int} {k : Nat} {lo : List Int} {y : Int} (h : PutRel x l k true lo) (hy : l[k]? = some y) : PutRel x l (k + 1) true (lo ++ [y]) := by
  rcases h with ⟨h0, ⟨h, _⟩ | ⟨_, h⟩⟩
  · cases h
  · exact ⟨by simp; omega, .inr ⟨rfl, by rw [drop_at2 hy] at h; rw [← h]; simp⟩⟩
theorem PutRel.less {x : Int} {l : List Int} {k : Nat} {lo : List Int} {y : Int} (h : PutRel x l k false lo) (hy : l[k]? = some y) (hl : y < x) : PutRel x l (k + 1) false (lo ++ [y]) := by
  rcases h with ⟨h0, ⟨_, h1, h2⟩ | ⟨h, _⟩⟩
  · refine ⟨by simp; omega, .inl ⟨rfl, by rw [List.take_add_one, hy, h1]; rfl, fun z hz => ?_⟩⟩
    rw [List.take_add_one, hy] at hz
    rcases List.mem_append.1 hz with hz | hz
    · exact h2 z hz
    · simp at hz; omega
  · cases h
theorem PutRel.same {x : Int} {l : List Int} {k : Nat} {lo : List Int} {y : Int} (h : PutRel x l k false lo) (hy : l[k]? = some y) (hl : y = x) : PutRel x l (k + 1) true (lo ++ [y]) := by
  rcases h with ⟨h0, ⟨_, h1, h2⟩ | ⟨h, _⟩⟩
  · refine ⟨by simp; omega, .inr ⟨rfl, ?_⟩⟩
    rw [putI_less h2 hy (by omega), if_neg (by omega), h1, drop_at2 hy]; simp
  · cases h
theorem PutRel.more {x : Int} {l : List Int} {k : Nat} {lo : List Int} {y : Int} (h : PutRel x l k false lo) (hy : l[k]? = some y) (hl : x < y) : PutRel x l (k + 1) true (lo ++ [x] ++ [y]) := by
  rcases h with ⟨h0, ⟨_, h1, h2⟩ | ⟨h, _⟩⟩
  · have hk : k < l.length := (List.getElem?_eq_some_iff.1 hy).1
    refine ⟨?_, .inr ⟨rfl, ?_⟩⟩
    · rw [h1]; simp; omega
    · rw [putI_less h2 hy (by omega), if_pos hl, h1, drop_at2 hy]; simp
  · cases h
theorem PutRel.fin {x : Int} {l : List Int} {k : Nat} {lo : List Int} (h : PutRel x l k false lo) (hk : l.length ≤ k) : lo ++ [x] = putI x l := by
  rcases h with ⟨h0, ⟨_, h1, h2⟩ | ⟨h, _⟩⟩
  · rw [List.take_of_length_le hk] at h1 h2
    rw [h1, putI_end h2]
  · cases h
theorem PutRel.fin2 {x : Int} {l : List Int} {k : Nat} {lo : List Int} (h : PutRel x l k true lo) (hk : l.length ≤ k) : lo = putI x l := by
  rcases h with ⟨h0, ⟨h, _⟩ | ⟨_, h⟩⟩
  · cases h
  · rw [List.drop_eq_nil_of_le hk, List.append_nil] at h; exact h
end Go.Proofs.YtpnfhienffekoaaGreatDoor
end
section
namespace Go.Proofs.YtpnfhienffekoaaGreatDoor
set_option linter.unusedVariables false
set_option linter.unusedSimpArgs false
open Go.RowKit
/-- what FigureStars answers -/
def figO (nm : ByteArray) (L : List (List Int)) (l : List Sta) : List Int × Int := if vFig nm L l then (setI (endsL L), 0) else ([], 1)
theorem figO_no {nm : ByteArray} {L : List (List Int)} {l : List Sta} (h : vFig nm L l = false) : figO nm L l = ([], 1) := by simp [figO, h]
theorem figO_yes {nm : ByteArray} {L : List (List Int)} {l : List Sta} (h : vFig nm L l = true) : figO nm L l = (setI (endsL L), 0) := by simp [figO, h]
theorem ends_len {m : Int} {L : List (List Int)} (h : vLines m L = true) : (setI (endsL L)).length ≤ 32 := by
  have h1 := setI_len (endsL L)
  have h2 := endsL_len h L.length (Nat.le_refl _)
  have h3 := vLines_len h
  rw [List.take_of_length_le (Nat.le_refl _)] at h2
  omega
theorem figO_len (nm : ByteArray) (L : List (List Int)) (l : List Sta) : (figO nm L l).1.length ≤ 32 := by
  unfold figO
  split
  · next h => exact ends_len (vFig_lines h)
  · simp
theorem setEnds_succ {m : Int} {L : List (List Int)} {k : Nat} {u v : Int} (hx : L[k]? = some [u, v]) : setI (endsL (L.take (k + 1))) = putI v (putI u (setI (endsL (L.take k)))) := by
  rw [endsL_take hx, show [u, v] = [u] ++ [v] from rfl, ← List.append_assoc, setI_snoc, setI_snoc]
set_option maxHeartbeats 1000000 in
theorem FigureStars_any (nm : ByteArray) (B : Option Addr) (p q : Nat) (L : List (List Int)) (A : Option Addr) (n c : Nat) (l : List Sta) (w : World) (hp : L.length = p) (hp2 : p ≤ 9223372036854775807) (hB : Lists w B L) (hl : l.length = n) (hn : n ≤ 9223372036854775807) (hS : Stars w A l) :
    Calls Tryz.prog 34 #[.agg #[.string nm, .slice B p q], .slice A n c] w fun e w' => ∃ v : Value, e = .returned (.tuple #[v, .int .i64 (figO nm L l).2]) ∧ OwnI w' w.heap.size v (figO nm L l).1 ∧ Below w.heap.size w w' := by
  have hb0 : Below w.heap.size w (w.alloc (.cells #[.string nm, .slice B p q] 63)) := below_alloc (Below.refl _ _) _
  have hX0 : Blk (w.alloc (.cells #[.string nm, .slice B p q] 63)) w.heap.size 63 (figCells nm B p q) := Blk.new _ _ _
  have C := Lib.hid (ValidFigure_any nm B p q L A n c l _ hp hp2 (hB.below hb0) hl hn (hS.below hb0))
  have HP := Lib.hid hp; clear hp
  cases hv : vFig nm L l with
  | false =>
    have HO := Lib.hid (figO_no hv)
    rw [hv] at C
    clear hv hB hS hl
    go_enter Tryz.func34, Tryz.ntmps34
    go_wp2_with (refine C.out.mono ?_; rintro e w1 ⟨rfl, hb1⟩)
    go_ret2
    exact ⟨.slice none 0 0, by rw [HO.out]; rfl, by rw [HO.out]; exact OwnI.nil _ _, below_step hb0 hb1⟩
  | true =>
    have HO := Lib.hid (figO_yes hv)
    have HV := Lib.hid (vFig_lines hv)
    rw [hv] at C
    clear hv hS hl
    go_enter Tryz.func34, Tryz.ntmps34
    go_wp2_with (first | (go_at_call 84; refine C.out.mono ?_; rintro e w1 ⟨rfl, hb1⟩; have hX1 := (hX0.keep hb1).fig; obtain ⟨x0, x1⟩ := hX1; have hB1 := (hB.below hb0).below hb1) | (go_at_call 86; refine (endsOf_any _ nm B p q L _ HP.out HV.out hB1).mono ?_; rintro e w2 ⟨v2, rfl, hO2, hb2⟩))
    go_ret2
    exact ⟨v2, by rw [HO.out]; rfl, by rw [HO.out]; exact hO2.base_le (below_step hb0 hb1).size, below_step (below_step hb0 hb1) hb2⟩
end Go.Proofs.YtpnfhienffekoaaGreatDoor
end
