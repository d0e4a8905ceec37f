/- Contracts of the functions that read numbers and words. -/
import Derived.Test.YtngkdolohokcoaaDoorListT
import Derived.Lib.ParseIntBTie
namespace Go.Proofs.YtngkdolohokcoaaDoor
set_option linter.unusedVariables false
set_option linter.unusedSimpArgs false
open Go.RowKit
theorem cell_below {w w' : World} {b o : Nat} {v : Value} (h : w.cell? ⟨b, o, none⟩ = some v) (hb : Below w.heap.size w w') : w'.cell? ⟨b, o, none⟩ = some v := (hb.cell (p := ⟨b, o, none⟩) (World.block_lt_of_cell? w _ h)).trans h
/-- a variable that holds an error -/
def ErrAt (w : World) (g : Nat) : Prop := ∃ ev, w.cell? ⟨g, 0, none⟩ = some ev ∧ (ev = .nilIface ∨ ∃ te pe, ev = .iface te pe)
theorem ErrAt.below {w w' : World} {g : Nat} (h : ErrAt w g) (hb : Below w.heap.size w w') : ErrAt w' g := by
  obtain ⟨ev, h1, h2⟩ := h
  exact ⟨ev, cell_below h1 hb, h2⟩
def IntAt (w : World) (g : Nat) : Prop := ∃ m : Int, w.cell? ⟨g, 0, none⟩ = some (.int .i64 m)
theorem IntAt.below {w w' : World} {g : Nat} (h : IntAt w g) (hb : Below w.heap.size w w') : IntAt w' g := by
  obtain ⟨m, h1⟩ := h
  exact ⟨m, cell_below h1 hb⟩
theorem eqs_yes {a b : ByteArray} (h : a = b) : (a.toList == b.toList) = true := by rw [h]; simp
theorem eqs_no {a b : ByteArray} (h : a ≠ b) : (a.toList == b.toList) = false := by
  rw [beq_eq_false_iff_ne]
  intro e
  rw [ByteArray.toList_eq, ByteArray.toList_eq] at e
  exact h (ba_ext e)
theorem tx_ne {a : ByteArray} {l : List UInt8} (h : l ≠ a.data.toList) : tx l ≠ a := fun e => h (by rw [← e, tx_data])
theorem tx_eq2 {a : ByteArray} {l : List UInt8} (h : l = a.data.toList) : tx l = a := by rw [h, tx_self]
/-! reading a number as the program does -/
theorem num_len0 {l : List UInt8} (h : (Lib.trimPrefix l [45]).length < 1) : numL l = none := by
  rw [← decI_numL]; unfold decI; rw [if_neg (by omega)]
theorem num_len18 {l : List UInt8} (h : 18 < (Lib.trimPrefix l [45]).length) : numL l = none := by
  rw [← decI_numL]; unfold decI; rw [if_neg (by omega)]
theorem num_parse {l : List UInt8} {n : Int} (h1 : 1 ≤ (Lib.trimPrefix l [45]).length) (h2 : (Lib.trimPrefix l [45]).length ≤ 18) (h : Lib.parseIntB 64 l = .ok n) : numL l = if Lib.itoa n = l then some n else none := by
  rw [← decI_numL]; unfold decI; rw [if_pos ⟨h1, h2⟩, h]
theorem num_fail {l : List UInt8} (h : ∀ n, Lib.parseIntB 64 l ≠ .ok n) : numL l = none := by
  rw [← decI_numL]; unfold decI
  split
  · split
    · rename_i n hn; exact absurd hn (h n)
    · rfl
  · rfl
theorem parse_i64 {l : List UInt8} {n : Int} (h : Lib.parseIntB 64 l = .ok n) : I64 n := by
  have := Lib.parseIntB_bounds h
  have h63 : (2 : Nat) ^ (64 - 1) = 9223372036854775808 := by decide
  rw [h63] at this
  exact ⟨by omega, by omega⟩
theorem num_i64 {l : List UInt8} {n : Int} (h : numL l = some n) : -1000000000000000000 < n ∧ n < 1000000000000000000 := by
  have := (numL_itoa h).2.1; omega
/-- what the library's functions on texts ask of its variables -/
structure TxtOk (w : World) : Prop where
  pow : PowOk w
  maxl : IntAt w 0
  syn : ErrAt w 2
  rng : ErrAt w 3
theorem TxtOk.below {w w' : World} (h : TxtOk w) (hb : Below w.heap.size w w') : TxtOk w' := ⟨h.pow.below hb, h.maxl.below hb, h.syn.below hb, h.rng.below hb⟩
theorem TxtOk.later {w : World} (h : TxtOk w) (y : Later w) : TxtOk y.w := h.below y.below
theorem ParseInt_ok (s : ByteArray) (v : Int) (w : World) (hs : s.size ≤ 1048576) (h : Lib.parseIntB 64 s.data.toList = .ok v) :
    Calls Tryd.prog 97 #[.string s, .int .i64 10, .int .i64 64] w fun e w' => e = .returned (.tuple #[.int .i64 v, .nilIface]) ∧ Below w.heap.size w w' :=
  (Any.strconv_ParseInt_10_at64_ok Tryd.laysPar s (by omega) v h w).mono fun e w' ⟨he, hw⟩ => ⟨he, by
    rcases hw with rfl | ⟨t, rfl⟩
    · exact Below.refl _ _
    · exact Lib.bytesWorld_below _ _ _⟩
def ParseBad (w : World) (e : Ending) (w' : World) : Prop := ∃ (x : Int) (N : Nat), e = .returned (.tuple #[.int .i64 x, .iface (Tryd.laysPar_ren.t 168) (.pointer (some ⟨N, 0, none⟩))]) ∧ Below w.heap.size w w'
theorem ParseInt_bad (s : ByteArray) (w : World) (hs : s.size ≤ 1048576) (h : ∀ v, Lib.parseIntB 64 s.data.toList ≠ .ok v) (hT : TxtOk w) :
    Calls Tryd.prog 97 #[.string s, .int .i64 10, .int .i64 64] w (ParseBad w) := by
  rcases hp : Lib.parseIntB 64 s.data.toList with v | _ | _
  · exact absurd hp (h v)
  · skip
    obtain ⟨ev, h1, h2⟩ := hT.syn
    exact (Any.strconv_ParseInt_10_at64_syntax Tryd.laysPar s (by omega) hp ev w h1 h2).mono fun e w' ⟨N, he, _, _, hb⟩ => ⟨_, N, he, hb⟩
  · skip
    obtain ⟨ev, h1, h2⟩ := hT.rng
    exact (Any.strconv_ParseInt_10_at64_range Tryd.laysPar s (by omega) hp ev w h1 h2).mono fun e w' ⟨N, he, _, _, hb⟩ => ⟨_, N, he, hb⟩
set_option maxHeartbeats 2000000 in
theorem ReadDecimal_any (s : ByteArray) (w : World) (hs : s.size ≤ 1048576) (hT : TxtOk w) :
    Calls Tryd.prog 94 #[.string s] w fun e w' => e = .returned (.tuple #[.int .i64 (numV s.data.toList), .bool (numB s.data.toList)]) ∧ Below w.heap.size w w' := by
  obtain ⟨D, hD⟩ : ∃ D, D = tx (Lib.trimPrefix s.data.toList [45]) := ⟨_, rfl⟩
  have hDl : D.size = (Lib.trimPrefix s.data.toList [45]).length := by rw [hD, tx_size]
  have CT : Hid (∀ W, Calls Tryd.prog 107 #[.string s, .string ⟨#[45]⟩] W fun e w' => e = .returned (.string D) ∧ W = w') := Lib.hid (fun W => (Any.strings_TrimPrefix Tryd.laysTrim s ⟨#[45]⟩ W).mono fun e w' ⟨he, hw⟩ => ⟨by rw [he, hD]; rfl, hw.symm⟩)
  clear hD
  have hDs : D.size ≤ 1000000000000 := by
    rw [hDl]
    have : (Lib.trimPrefix s.data.toList [45]).length ≤ s.data.toList.length := by
      unfold Lib.trimPrefix; split
      · rw [List.length_drop]; omega
      · exact Nat.le_refl _
    rw [len_data] at this; omega
  by_cases c1 : D.size < 1
  · have HO := Lib.hid (numV_none (num_len0 (l := s.data.toList) (by omega)))
    clear hDl
    go_enter Tryd.func94, Tryd.ntmps94
    go_wp2_with (refine (CT.out _).mono ?_; rintro e w1 ⟨rfl, rfl⟩)
    go_ret2
    exact ⟨by rw [HO.out.1, HO.out.2]; rfl, Below.refl _ _⟩
  by_cases c2 : 18 < D.size
  · have HO := Lib.hid (numV_none (num_len18 (l := s.data.toList) (by omega)))
    clear hDl
    go_enter Tryd.func94, Tryd.ntmps94
    go_wp2_with (refine (CT.out _).mono ?_; rintro e w1 ⟨rfl, rfl⟩)
    go_ret2
    exact ⟨by rw [HO.out.1, HO.out.2]; rfl, Below.refl _ _⟩
  rcases hp : Lib.parseIntB 64 s.data.toList with n | _ | _
  · skip
    have hn := num_parse (by omega) (by omega) hp
    have hi := parse_i64 hp
    have CP := Lib.hid (fun W => ParseInt_ok s n W hs hp)
    obtain ⟨T, hTx⟩ : ∃ T, T = tx (Lib.itoa n) := ⟨_, rfl⟩
    have CD : Hid (∀ W, Below w.heap.size w W → Calls Tryd.prog 44 #[.int .i64 n] W fun e w' => e = .returned (.string T) ∧ Below W.heap.size W w') := Lib.hid (fun W hb => by rw [hTx]; exact Decimal_any n W hi (hT.pow.below hb))
    by_cases he : Lib.itoa n = s.data.toList
    · rw [if_pos he] at hn
      have HO := Lib.hid (numV_some hn)
      have hq := eqs_yes (hTx.trans (tx_eq2 he))
      clear hDl hp hn hTx he
      go_enter Tryd.func94, Tryd.ntmps94
      go_wp2_with (first | (go_at_call 107; refine (CT.out _).mono ?_; rintro e w1 ⟨rfl, rfl⟩) | (go_at_call 97; refine (CP.out _).mono ?_; rintro e w2 ⟨rfl, hb2⟩) | (go_at_call 44; refine (CD.out _ hb2).mono ?_; rintro e w3 ⟨rfl, hb3⟩))
      go_ret2
      exact ⟨by rw [HO.out.1, HO.out.2]; rfl, below_step hb2 hb3⟩
    · rw [if_neg he] at hn
      have HO := Lib.hid (numV_none hn)
      have hq := eqs_no (a := T) (b := s) (by rw [hTx]; exact tx_ne he)
      clear hDl hp hn hTx he
      go_enter Tryd.func94, Tryd.ntmps94
      go_wp2_with (first | (go_at_call 107; refine (CT.out _).mono ?_; rintro e w1 ⟨rfl, rfl⟩) | (go_at_call 97; refine (CP.out _).mono ?_; rintro e w2 ⟨rfl, hb2⟩) | (go_at_call 44; refine (CD.out _ hb2).mono ?_; rintro e w3 ⟨rfl, hb3⟩))
      go_ret2
      exact ⟨by rw [HO.out.1, HO.out.2]; rfl, below_step hb2 hb3⟩
  · skip
    have hno : ∀ v, Lib.parseIntB 64 s.data.toList ≠ .ok v := fun v e => by rw [hp] at e; cases e
    have HO := Lib.hid (numV_none (num_fail hno))
    have CP := Lib.hid (ParseInt_bad s w hs hno hT)
    clear hDl hp hno
    go_enter Tryd.func94, Tryd.ntmps94
    go_wp2_with (first | (go_at_call 107; refine (CT.out _).mono ?_; rintro e w1 ⟨rfl, rfl⟩) | (go_at_call 97; refine CP.out.mono ?_; rintro e w2 ⟨x, N, rfl, hb2⟩))
    go_ret2
    exact ⟨by rw [HO.out.1, HO.out.2]; rfl, hb2⟩
  · skip
    have hno : ∀ v, Lib.parseIntB 64 s.data.toList ≠ .ok v := fun v e => by rw [hp] at e; cases e
    have HO := Lib.hid (numV_none (num_fail hno))
    have CP := Lib.hid (ParseInt_bad s w hs hno hT)
    clear hDl hp hno
    go_enter Tryd.func94, Tryd.ntmps94
    go_wp2_with (first | (go_at_call 107; refine (CT.out _).mono ?_; rintro e w1 ⟨rfl, rfl⟩) | (go_at_call 97; refine CP.out.mono ?_; rintro e w2 ⟨x, N, rfl, hb2⟩))
    go_ret2
    exact ⟨by rw [HO.out.1, HO.out.2]; rfl, hb2⟩
theorem split_data (s : ByteArray) (c : UInt8) : Lib.splitB ⟨#[c]⟩ 0 (Lib.countB s ⟨#[c]⟩) s = (partsL c s.data.toList).map tx := by
  have h := Lib.splitB_data ⟨#[c]⟩ 0 (Lib.countB s ⟨#[c]⟩) s
  have h2 : Lib.splitK [c] 0 (Lib.count s.data.toList [c]) s.data.toList = partsL c s.data.toList := splitK_parts c _ _ rfl
  have h3 : (Lib.splitB ⟨#[c]⟩ 0 (Lib.countB s ⟨#[c]⟩) s).map (·.data.toList) = partsL c s.data.toList := h.trans h2
  rw [← h3, List.map_map]
  conv => lhs; rw [← List.map_id (Lib.splitB ⟨#[c]⟩ 0 (Lib.countB s ⟨#[c]⟩) s)]
  congr 1
theorem Split_any (s : ByteArray) (c : UInt8) (w : World) (hs : s.size ≤ 1048576) (hT : IntAt w 0) :
    Calls Tryd.prog 93 #[.string s, .string ⟨#[c]⟩] w fun e w' => e = .returned (.slice (some ⟨w.heap.size, 0, none⟩) (partsL c s.data.toList).length (partsL c s.data.toList).length) ∧ Blk w' w.heap.size 9 (strCells ((partsL c s.data.toList).map tx)) ∧ Below w.heap.size w w' := by
  obtain ⟨m, hm⟩ := hT
  refine (Any.strings_Split { Tryd.laysSpl with } Tryd.laysSpl.i9 s ⟨#[c]⟩ m w (by omega) hm (by show 1 ≤ 1; omega)).mono ?_
  rintro e w' ⟨rfl, rfl⟩
  have hd := split_data s c
  have hl : Lib.countB s ⟨#[c]⟩ + 1 = (partsL c s.data.toList).length := by
    rw [← Lib.splitB_all ⟨#[c]⟩ (by show 1 ≤ 1; omega) 0 (Lib.countB s ⟨#[c]⟩) s rfl, hd, List.length_map]
  rw [hd, hl]
  exact ⟨rfl, Blk.new _ _ _, below_alloc (Below.refl _ _) _⟩
/-- the words of a line -/
theorem word_yes {p : List UInt8} (h : p ≠ []) : (tx p).toList.isEmpty = false := by
  rw [ByteArray.toList_eq, tx_data]
  cases p with
  | nil => exact absurd rfl h
  | cons a r => rfl
theorem words_step {ps : List (List UInt8)} {k : Nat} {p : List UInt8} (h : ps[k]? = some p) : ((ps.take (k + 1)).filter (fun p => !p.isEmpty)).map tx = ((ps.take k).filter (fun p => !p.isEmpty)).map tx ++ (if p = [] then [] else [tx p]) := by
  rw [filter_snoc _ h, List.map_append]
  cases p with
  | nil => simp
  | cons a r => simp
set_option maxHeartbeats 2000000 in
theorem SplitWords_any (s : ByteArray) (w : World) (hs : s.size ≤ 1048576) (hT : IntAt w 0) :
    Calls Tryd.prog 62 #[.string s] w fun e w' => ∃ v : Value, e = .returned v ∧ OwnT w' w.heap.size v ((wordsL s.data.toList).map tx) ∧ Below w.heap.size w w' := by
  have CS := Lib.hid (Split_any s 32 w hs hT)
  have hn := parts_length 32 s.data.toList
  rw [len_data] at hn
  have HW : Hid (wordsL s.data.toList = (partsL 32 s.data.toList).filter (fun p => !p.isEmpty)) := Lib.hid rfl
  generalize partsL 32 s.data.toList = ps at *
  obtain ⟨n, hnl⟩ : ∃ n, n = ps.length := ⟨_, rfl⟩
  rw [← hnl] at CS hn
  have HN := Lib.hid hnl
  clear hnl
  go_enter Tryd.func62, Tryd.ntmps62
  go_wp2_with (refine CS.out.mono ?_; rintro e w1 ⟨rfl, hB1, hb1⟩)
  have hE := OwnT.nil w1 w1.heap.size
  go_loopw [3, 5, 9] (fun s3 _ s9 wr => ∃ (k : Nat) (v : Value), k ≤ n ∧ s9 = .int .i64 (k : Int) ∧ v = s3 ∧ OwnT wr w1.heap.size v (((ps.take k).filter (fun p => !p.isEmpty)).map tx) ∧ Below w1.heap.size w1 wr) (fun _ _ s9 _ => n - (intOf s9).toNat)
  case atStart => exact ⟨0, _, by omega, rfl, rfl, by rw [List.take_zero]; exact hE, Below.refl _ _⟩
  case round =>
    clear hE
    obtain ⟨k, v, hk, rfl, rfl, hO, hb⟩ := hrel
    by_cases hlt : k < n
    · obtain ⟨p, hp⟩ := at_lt (l := ps) (k := k) (by have := HN.out; omega)
      have hB := hB1.keep hb
      have c0 : wr.cell? ⟨w.heap.size, k, none⟩ = some (.string (tx p)) := by
        rw [hB.cell]; exact strCells_at (by simp [hp])
      have hgl := hB.lt
      have HS := Lib.hid (words_step hp)
      have hln : (((ps.take k).filter (fun p => !p.isEmpty)).map tx).length ≤ 1048577 := by
        rw [List.length_map]
        have := List.length_filter_le (fun p : List UInt8 => !p.isEmpty) (ps.take k)
        rw [List.length_take] at this
        omega
      have HL1 : Hid ((((ps.take k).filter (fun p => !p.isEmpty)).map tx).length ≤ 1099511627776) := Lib.hid (by omega)
      have hsz1 := hb1.size
      have hsz := hb.size
      have hlt2 := fun q hq => hO.lt q hq
      clear hp hln
      by_cases hnil : p = []
      · subst hnil
        have HS2 : Hid (((ps.take (k + 1)).filter (fun p => !p.isEmpty)).map tx = ((ps.take k).filter (fun p => !p.isEmpty)).map tx) := Lib.hid (by rw [HS.out]; simp)
        have he : (tx []) = ⟨#[]⟩ := rfl
        rw [he] at c0
        go_wp2_with (fail)
        go_roundw
        case rel => exact ⟨k + 1, v, by omega, by go_num, rfl, by rw [HS2.out]; exact hO, hb⟩
        case measure => simp [intOf]; omega
      · have HS2 : Hid (((ps.take (k + 1)).filter (fun p => !p.isEmpty)).map tx = ((ps.take k).filter (fun p => !p.isEmpty)).map tx ++ [tx p]) := Lib.hid (by rw [HS.out, if_neg hnil])
        have hq := word_yes hnil
        clear hnil
        generalize tx p = y at *
        go_wp2_with (at_builtin; refine wpList_app_str rfl (.tmp 15) (.tmp 17) rfl w1.heap.size v _ y wr.heap.size 1 rfl rfl (hO.alloc _) (by simp [go_sem]) HL1.out (by simp; omega) ?_; intro v6 w6 hO6 hg6 _)
        have hb6 := below_of_grown (below_alloc hb _) hg6 (by simp; omega) (fun k hk => (hlt2 k hk).1)
        go_roundw
        case rel => exact ⟨k + 1, v6, by omega, by go_num, rfl, by rw [HS2.out]; exact hO6, hb6⟩
        case measure => simp [intOf]; omega
    · have HF : Hid ((ps.take k).filter (fun p => !p.isEmpty) = wordsL s.data.toList) := Lib.hid (by rw [HW.out, List.take_of_length_le (by have := HN.out; omega)])
      rw [HF.out] at hO
      go_wp2_with (fail)
      go_ret
      exact ⟨v, rfl, hO.base_le hb1.size, below_step hb1 hb⟩
end Go.Proofs.YtngkdolohokcoaaDoor
