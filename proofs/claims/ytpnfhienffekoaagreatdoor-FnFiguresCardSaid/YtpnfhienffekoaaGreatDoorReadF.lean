/- Contracts of the functions that read figures. -/
import Derived.Test.YtpnfhienffekoaaGreatDoorReadPl
import Derived.Test.YtpnfhienffekoaaGreatDoorMgN
namespace Go.Proofs.YtpnfhienffekoaaGreatDoor
set_option linter.unusedVariables false
set_option linter.unusedSimpArgs false
open Go.RowKit
attribute [local go_sem ↓] Go.wp_at_zero Go.wp_at_succ
theorem fgI_nil {l : List UInt8} (h : wordsL l = []) : readFigR l = none := by rw [← readFig_eq]; unfold readFigI; rw [if_pos h]
theorem fgI_none {l p : List UInt8} {r : List (List UInt8)} (h : wordsL l = p :: r) (h2 : linesL lineI r = none) : readFigR l = none := by
  rw [← readFig_eq]; unfold readFigI; rw [h, if_neg (by simp), List.tail_cons, h2]
theorem fgI_some {l p : List UInt8} {r : List (List UInt8)} {L : List (List Int)} (h : wordsL l = p :: r) (h2 : linesL lineI r = some L) : readFigR l = if figTO p L = l then some (p, L) else none := by
  rw [← readFig_eq]; unfold readFigI; rw [h, if_neg (by simp), List.tail_cons, h2]; rfl
theorem fgR_none {l p : List UInt8} {r : List (List UInt8)} (h : partsL 32 l = p :: r) (h2 : linesL lineR r = none) : readFigR l = none := by
  unfold readFigR; rw [h, List.tail_cons, h2]
theorem fgR_some {l p : List UInt8} {r : List (List UInt8)} {L : List (List Int)} (h : partsL 32 l = p :: r) (h2 : linesL lineR r = some L) : readFigR l = if figOk p L = true then some (p, L) else none := by
  unfold readFigR; rw [h, List.tail_cons, h2]; rfl
def figNm (o : Option (List UInt8 × List (List Int))) : List UInt8 := match o with | some x => x.1 | none => []
def figLn (o : Option (List UInt8 × List (List Int))) : List (List Int) := match o with | some x => x.2 | none => []
theorem figLn_16 (l : List UInt8) : (figLn (readFigR l)).length ≤ 16 := by
  cases h : readFigR l with
  | none => show (0 : Nat) ≤ 16; omega
  | some x => exact vLines_16 (figOk_parts ((readFigR_iff l x).1 h).1).2
theorem nums_two {a b : List UInt8} {x : List Int} (h : numsL [a, b] = some x) : x.length = 2 := by
  have := congrArg List.length (numsL_some h).1
  simpa using this.symm
def FigRet (o : Option (List UInt8 × List (List Int))) (w : World) (e : Ending) (w' : World) : Prop := ∃ v, e = .returned (.tuple #[.agg #[.string (tx (figNm o)), v], .bool o.isSome]) ∧ LinesOwn w' w.heap.size v (figLn o) ∧ Below w.heap.size w w'
def zeroFig : List Value := [.string ⟨#[]⟩, .slice none 0 0]
theorem Blk.two {w : World} {g : Nat} {t : TypeId} {a b : Value} (h : Blk w g t [a, b]) : (w.cell? ⟨g, 0, none⟩ = some a ∧ w.cell? ⟨g, 1, none⟩ = some b) ∧ w.frozen? ⟨g, 0, none⟩ = false ∧ w.frozen? ⟨g, 1, none⟩ = false :=
  ⟨⟨by rw [h.cell]; rfl, by rw [h.cell]; rfl⟩, h.frozen 0, h.frozen 1⟩
theorem fig_end {W w : World} {g : Nat} {t : TypeId} {u0 u1 : Value} (hZ : Blk W g t [u0, u1]) (hb : Below w.heap.size w W) (hg : w.heap.size ≤ g) (v0 v1 : Value) :
    ∃ WF, WF = ((W.setCell ⟨g, 0, none⟩ v0).setCell ⟨g, 1, none⟩ v1) ∧ Below w.heap.size w WF ∧ WF.cell? ⟨g, 0, none⟩ = some v0 ∧ WF.cell? ⟨g, 1, none⟩ = some v1 := by
  have h := (hZ.set_ 0 v0).set_ 1 v1
  refine ⟨_, rfl, below_setCell0 (below_setCell0 hb hg _) hg _, ?_, ?_⟩ <;> (rw [h.cell]; rfl)
theorem fig_endL {W w : World} {g base : Nat} {t : TypeId} {u0 u1 v : Value} {L : List (List Int)} {qs : List Nat} (hZ : Blk W g t [u0, u1]) (hb : Below w.heap.size w W) (hg : w.heap.size ≤ g) (hL : LinesIn W base v L qs) (hgb : g < base) (v0 v1 : Value) :
    ∃ WF, WF = ((W.setCell ⟨g, 0, none⟩ v0).setCell ⟨g, 1, none⟩ v1) ∧ Below w.heap.size w WF ∧ WF.cell? ⟨g, 0, none⟩ = some v0 ∧ WF.cell? ⟨g, 1, none⟩ = some v1 ∧ LinesIn WF w.heap.size v L qs := by
  have h := (hZ.set_ 0 v0).set_ 1 v1
  refine ⟨_, rfl, below_setCell0 (below_setCell0 hb hg _) hg _, ?_, ?_, ((hL.set hgb _).set hgb _).base_le (by omega)⟩ <;> (rw [h.cell]; rfl)
/-- two words read as numbers: the row lies in the first block that is new -/
def NumsBlk (ws : List (List UInt8)) (n : Nat) (w : World) (e : Ending) (w' : World) : Prop := Below w.heap.size w w' ∧ ((numsL ws = none ∧ e = .returned (.tuple #[.slice none 0 0, .bool false])) ∨ ∃ (ns : List Int), numsL ws = some ns ∧ e = .returned (.tuple #[.slice (some ⟨w.heap.size, 0, none⟩) n n, .bool true]) ∧ Blk w' w.heap.size 2 (numCells ns))
set_option maxHeartbeats 2000000 in
theorem readNumbers_blk (A : Option Addr) (n c : Nat) (ws : List (List UInt8)) (w : World) (hl : ws.length = n) (hn : n ≤ 1048576) (hS : Strs w A (ws.map tx)) (hsz : ∀ p ∈ ws, p.length ≤ 1048576) (hT : TxtOk w) :
    Calls Tryz.prog 74 #[.slice A n c] w (NumsBlk ws n w) := by
  have HL := Lib.hid hl
  have HZ := Lib.hid hsz
  clear hl hsz
  obtain ⟨i0, hi0, hz0, hz1, hz2⟩ := info_parts info_num
  have hmk := fun W : World => run_make (P := Tryz.prog) W 55 2 i0 _ Tryz.underlying55 hi0 hz0 .i64 .i64 (n : Int) (n : Int) (by omega) (by omega) (by rw [hz2]; omega) (by omega)
  simp only [Int.toNat_natCast, hz1] at hmk
  clear hi0 hz0 hz1 hz2
  go_enter Tryz.func74, Tryz.ntmps74
  go_wp2
  rw [← Nat.mul_one n, zeroNums_made _ rfl n, Nat.mul_one]
  have hz : Blk (w.alloc (.cells (numCells (List.replicate n 0)).toArray 2)) w.heap.size 2 (numCells (List.replicate n 0)) := Blk.new _ _ _
  have hb0 : Below w.heap.size w (w.alloc (.cells (numCells (List.replicate n 0)).toArray 2)) := (by repeat (first | exact Below.refl _ _ | refine below_alloc ?_ _ | refine below_drewN0 ?_ _ | refine below_drew0 ?_ | refine below_step ?_ (by assumption) | refine below_later ?_ _ | refine below_setCell0 ?_ (by first | exact Nat.le_refl _ | (simp; done) | omega | (simp; omega)) _))
  generalize w.alloc (.cells (numCells (List.replicate n 0)).toArray 2) = W1 at *
  go_loopw [5, 6, 7, 8, 14] (fun _ _ _ _ i wr => ∃ (k : Nat) (ns ys : List Int), k ≤ n ∧ i = .int .i64 (k : Int) ∧ numsL (ws.take k) = some ns ∧ ys.length = n ∧ ys.take k = ns ∧ Blk wr w.heap.size 2 (numCells ys) ∧ Below w.heap.size w wr) (fun _ _ _ _ i _ => n - (intOf i).toNat)
  case atStart => exact ⟨0, [], List.replicate n 0, by omega, rfl, by rw [List.take_zero]; rfl, by simp, by rw [List.take_zero], hz, hb0⟩
  case round =>
    obtain ⟨k, ns, ys, hk, rfl, hns, hyl, hyt, hB, hb⟩ := hrel
    have HNS := Lib.hid hns
    have HY := Lib.hid hyl
    have HT := Lib.hid hyt
    clear hns hyl hyt
    by_cases hlt : k < n
    · obtain ⟨p, hp⟩ := at_lt (l := ws) (k := k) (by have := HL.out; omega)
      obtain ⟨z, hz⟩ := at_lt (l := ys) (k := k) (by have := HY.out; omega)
      obtain ⟨b, o, rfl, hc⟩ := hS.below hb (by rw [List.length_map]; have := HL.out; omega)
      have c0 : wr.cell? ⟨b, o + k, none⟩ = some (.string (tx p)) := hc k (tx p) (by simp [hp])
      have hpl : (tx p).size ≤ 1048576 := by rw [tx_size]; exact HZ.out p (List.mem_of_getElem? hp)
      have CD := Lib.hid (ReadDecimal_any (tx p) wr hpl (hT.below hb))
      rw [tx_data] at CD
      have HTK : Hid (ws.take (k + 1) = ws.take k ++ [p]) := Lib.hid (by rw [List.take_add_one, hp]; rfl)
      have HMEM := Lib.hid (List.mem_of_getElem? hp)
      have hgl := hB.lt
      have hsz1 := hb.size
      clear hp hc hS hpl
      cases hnum : numL p with
      | none =>
        have HO := Lib.hid (numV_none hnum)
        have HNO := Lib.hid (numsL_none HMEM.out hnum)
        rw [HO.out.1, HO.out.2] at CD
        clear hnum hz
        generalize tx p = y at *
        go_wp2_with (refine CD.out.mono ?_; rintro e w2 ⟨rfl, hb2⟩)
        go_ret2
        exact ⟨below_step hb hb2, .inl ⟨HNO.out, rfl⟩⟩
      | some m =>
        have HO := Lib.hid (numV_some hnum)
        have HNS2 := Lib.hid (numsL_snoc HNS.out hnum)
        rw [← HTK.out] at HNS2
        rw [HO.out.1, HO.out.2] at CD
        clear hnum
        generalize tx p = y at *
        go_wp2_with (refine CD.out.mono ?_; rintro e w2 ⟨rfl, hb2⟩; have hB2 := hB.keep hb2; have d0 : w2.cell? ⟨w.heap.size, k, none⟩ = some (.int .i64 z) := (by rw [hB2.cell]; exact numCells_at hz); have f0 := hB2.frozen k; have hgl2 := hB2.lt)
        go_roundw
        case rel => exact ⟨k + 1, ns ++ [m], ys.set k m, by omega, by go_num, HNS2.out, by have := HY.out; simpa using this, by rw [List.take_add_one, List.getElem?_set_self (by have := HY.out; omega), List.take_set, List.set_eq_of_length_le (by simp; omega), HT.out]; rfl, by rw [← numCells_set]; exact hB2.set_ k _, below_setCell0 (below_step hb hb2) (Nat.le_refl _) _⟩
        case measure => simp [intOf]; omega
    · have e : ys = ns := by
        have h1 := HT.out
        rwa [List.take_of_length_le (by have := HY.out; omega)] at h1
      subst e
      have HNF : Hid (numsL ws = some ys) := Lib.hid (by have := HNS.out; rwa [List.take_of_length_le (by have := HL.out; omega)] at this)
      go_wp2
      go_ret2
      exact ⟨hb, .inr ⟨ys, HNF.out, rfl, hB⟩⟩
set_option maxRecDepth 100000 in
set_option maxHeartbeats 4000000 in
theorem ReadFigure_any (s : ByteArray) (w : World) (hs : s.size ≤ 1048576) (hT : TxtOk w) :
    Calls Tryz.prog 41 #[.string s] w (FigRet (readFigR s.data.toList) w) := by
  have hZ0 : Blk (w.alloc (.cells #[.string ⟨#[]⟩, .slice none 0 0] 63)) w.heap.size 63 zeroFig := Blk.new _ _ _
  have hb0 : Below w.heap.size w (w.alloc (.cells #[.string ⟨#[]⟩, .slice none 0 0] 63)) := below_alloc (Below.refl _ _) _
  have HW : Hid (∀ p ∈ wordsL s.data.toList, p.length ≤ 1048576) := Lib.hid (fun p hp => words_mem hp hs)
  have HWL : Hid ((wordsL s.data.toList).length ≤ 1048577) := Lib.hid (by
    have h1 := List.length_filter_le (fun p : List UInt8 => !p.isEmpty) (partsL 32 s.data.toList)
    have h2 := parts_length 32 s.data.toList
    rw [len_data] at h2
    show ((partsL 32 s.data.toList).filter (fun p : List UInt8 => !p.isEmpty)).length ≤ _
    omega)
  have HI0 := Lib.hid (fun h => fgI_nil (l := s.data.toList) h)
  have HI := Lib.hid (fun p r h h2 => fgI_none (l := s.data.toList) (p := p) (r := r) h h2)
  have HJ := Lib.hid (fun p r L h h2 => fgI_some (l := s.data.toList) (p := p) (r := r) (L := L) h h2)
  have HT := Lib.hid hT
  clear hT
  go_enter Tryz.func41, Tryz.ntmps41
  go_wp2_with (fail)
  refine calls_named ?_
  intro W0 e0
  have hZ : Blk W0 w.heap.size 63 zeroFig := by rw [e0]; exact hZ0
  have hbW : Below w.heap.size w W0 := by rw [e0]; exact hb0
  clear e0 hZ0 hb0
  refine (SplitWords_any s W0 hs (HT.out.below hbW).maxl).mono ?_
  rintro e w1 ⟨v, rfl, hO, hb1⟩
  replace hZ := hZ.keep hb1
  replace hbW := below_step hbW hb1
  clear hb1
  generalize wordsL s.data.toList = ws at *
  obtain ⟨A, c, rfl, hA, hc1, hc2, hc3, hc4⟩ := hO.form
  have hN : (ws.map tx).length = ws.length := List.length_map ..
  obtain ⟨⟨t0, t1⟩, f0, f1⟩ := hZ.two
  have hgz := hZ.lt
  cases ws with
  | nil =>
    have HO := Lib.hid (HI0.out rfl)
    rw [hN]
    clear hA hO hN hc3 hc4 hc1
    simp only [List.length_nil]
    go_wp2_with (fail)
    obtain ⟨WF, hWF, hbF, z0, z1⟩ := fig_end hZ hbW (Nat.le_refl _) (.string ⟨#[]⟩) (.slice none 0 0)
    rw [← hWF]
    clear hWF hZ t0 t1 f0 f1
    refine bodyPost_ret (v := .tuple #[.agg #[.string ⟨#[]⟩, .slice none 0 0], .bool false]) (by simp [results, Tryz.results41, go_sem, *]) rfl ⟨_, by rw [HO.out]; rfl, by rw [HO.out]; exact ⟨[], LinesIn.nil _ _⟩, hbF⟩
  | cons p0 r =>
    obtain ⟨n, hn⟩ : ∃ n, n = r.length := ⟨_, rfl⟩
    have hws : (p0 :: r).length = n + 1 := by rw [hn]; rfl
    have hn6 : n ≤ 1048576 := by have := HWL.out; omega
    rw [hN, hws] at hc1 ⊢
    have hA0 : ∃ g, A = some ⟨g, 0, none⟩ := by
      rcases hc4 with rfl | h
      · have := (hc3 rfl).2; rw [hN, hws] at this; omega
      · exact h
    obtain ⟨g, rfl⟩ := hA0
    have hAd := hA.drop 1 (c := c) (by rw [hN, hws]; exact hc1)
    simp only [List.map_cons, List.drop_succ_cons, List.drop_zero, Nat.zero_add] at hAd
    have w0c : w1.cell? ⟨g, 0, none⟩ = some (.string (tx p0)) := by
      obtain ⟨b, o, e, h⟩ := hA (by rw [hN, hws]; omega)
      injection e with e; injection e with e1 e2
      subst e1 e2
      have := h 0 (tx p0) rfl
      simpa using this
    have HI2 := Lib.hid (fun h2 => HI.out p0 r rfl h2)
    have HJ2 := Lib.hid (fun L h2 => HJ.out p0 r L rfl h2)
    have HN := Lib.hid hn
    have HAD := Lib.hid hAd
    have HW2 : Hid (∀ p ∈ r, p.length ≤ 1048576) := Lib.hid (fun p hp => HW.out p (List.mem_cons_of_mem _ hp))
    clear hA hO hN hws hc3 hc4 hAd hn HW HWL HI0 HI HJ
    have HZE := Lib.hid (Blk.new w1 63 [.string (tx p0), .slice none 0 0])
    have HBE : Hid (Below w1.heap.size w1 (w1.alloc (.cells #[.string (tx p0), .slice none 0 0] 63))) := Lib.hid (below_alloc (Below.refl _ _) _)
    go_wp2_with (fail)
    all_goals
      have hBE := HBE.out
      have hZE : Blk (w1.alloc (.cells #[.string (tx p0), .slice none 0 0] 63)) w1.heap.size 63 [.string (tx p0), .slice none 0 0] := HZE.out
      clear HZE HBE
      have hAd := HAD.out
      first
      | rw [if_pos (by assumption)] at hAd
      | rw [if_neg (by assumption)] at hAd
      have HAD2 := Lib.hid hAd
      clear hAd HAD
      generalize w1.alloc (.cells #[.string (tx p0), .slice none 0 0] 63) = W2 at *
      obtain ⟨gf, hgf⟩ : ∃ gf, gf = w1.heap.size := ⟨_, rfl⟩
      rw [← hgf] at hZE ⊢
      have HGF := Lib.hid hgf
      have hzgf : w.heap.size < gf := by omega
      clear hgf hgz t0 t1 f0 f1
      go_loopw [7, 8, 9, 10, 11, 12, 26] (fun _ _ _ _ _ _ i wr => ∃ (k : Nat) (v : Value) (L : List (List Int)) (qs : List Nat), k ≤ n ∧ i = .int .i64 (k : Int) ∧ linesL lineI (r.take k) = some L ∧ L.length = k ∧ Blk wr gf 63 [.string (tx p0), v] ∧ LinesIn wr (gf + 1) v L qs ∧ Below w1.heap.size w1 wr) (fun _ _ _ _ _ _ i _ => n - (intOf i).toNat)
      case atStart => exact ⟨0, _, [], [], by omega, rfl, rfl, rfl, hZE, LinesIn.nil _ _, hBE⟩
      case round =>
        clear hZE hBE W2
        obtain ⟨k, v, L, qs, hk, rfl, hL, hLk, hF, hQ, hb⟩ := hrel
        replace hZ := hZ.keep hb
        replace hbW := below_step hbW hb
        have HLL := Lib.hid hL
        have HLK := Lib.hid hLk
        have HQ := Lib.hid hQ
        clear hL hLk
        by_cases hlt : k < n
        · try (exfalso; omega)
          all_goals
            obtain ⟨p, hp⟩ := at_lt (l := r) (k := k) (by have := HN.out; omega)
            obtain ⟨b, o, e, hc⟩ := HAD2.out.below hb (by rw [List.length_map]; have := HN.out; omega)
            injection e with e; injection e with e1 e2
            subst e1 e2
            have c0 : wr.cell? ⟨g, 1 + k, none⟩ = some (.string (tx p)) := hc k (tx p) (by simp [hp])
            have hpl : p.length ≤ 1048576 := HW2.out p (List.mem_of_getElem? hp)
            have CC := Lib.hid (Cut_any (tx p) 45 wr (by rw [tx_size]; exact hpl) (HT.out.below hbW).maxl)
            unfold CutRet at CC
            rw [tx_data] at CC
            have hcl := cut_tail p 45
            have hcd : ((partsL 45 p).headD []).length ≤ p.length := by
              obtain ⟨q0, qr, hq⟩ := partsL_cons 45 p
              rw [hq]
              exact parts_mem 45 p q0 (by rw [hq]; exact List.mem_cons_self ..)
            have HLI : Hid (lineI p = numsL [(partsL 45 p).headD [], joinC 45 (partsL 45 p).tail]) := Lib.hid rfl
            have HTK := (Lib.hid (by rw [List.take_add_one, hp]; rfl) : Hid (r.take (k + 1) = r.take k ++ [p]))
            have HMEM := Lib.hid (List.mem_of_getElem? hp)
            have HL2 := Lib.hid (fun x h => linesL_snoc (x := x) HLL.out (h : lineI p = some x))
            rw [← HTK.out] at HL2
            have HLN := Lib.hid (fun (h : lineI p = none) => HI2.out (linesL_none HMEM.out h))
            clear hp hc HMEM HTK
            generalize (partsL 45 p).headD [] = pa at *
            generalize joinC 45 (partsL 45 p).tail = pb at *
            have hgl := hF.lt
            go_wp2_with (fail)
            refine CC.out.mono ?_
            rintro e w3 ⟨bc, rfl, hb3⟩
            have hST : Strs (w3.alloc (.cells #[.string (tx pa), .string (tx pb)] 9)) (some ⟨w3.heap.size, 0, none⟩) [tx pa, tx pb] := (Blk.new w3 9 (strCells [tx pa, tx pb])).strs
            have hb4 : Below w3.heap.size w3 (w3.alloc (.cells #[.string (tx pa), .string (tx pb)] 9)) := below_alloc (Below.refl _ _) _
            have CN := Lib.hid (readNumbers_blk (some ⟨w3.heap.size, 0, none⟩) 2 2 [pa, pb] _ rfl (by omega) hST (fun q hq => by
              simp only [List.mem_cons, List.not_mem_nil, or_false] at hq
              rcases hq with rfl | rfl <;> omega) (HT.out.below (below_step hbW (below_step hb3 hb4))))
            have hb34 := below_step hb3 hb4
            clear CC hST hb3 hb4
            go_wp2_with (fail)
            refine CN.out.mono ?_
            rintro e w5 ⟨hb5, hcase⟩
            have hb35 := below_step hb34 hb5
            have hbF := below_step hb hb35
            replace hZ := hZ.keep hb35
            replace hbW := below_step hbW hb35
            replace hF := hF.keep hb35
            have HQ5 := Lib.hid (HQ.out.below hb35)
            clear CN
            rcases hcase with ⟨hno, rfl⟩ | ⟨x, hx, rfl, hB⟩
            · have HO := Lib.hid (HLN.out (HLI.out.trans hno))
              obtain ⟨⟨t0, t1⟩, f0, f1⟩ := hZ.two
              have hgz := hZ.lt
              clear hno
              go_wp2_with (fail)
              obtain ⟨WF, hWF, hbE, z0, z1⟩ := fig_end hZ hbW (Nat.le_refl _) (.string ⟨#[]⟩) (.slice none 0 0)
              rw [← hWF]
              clear hWF hZ t0 t1 f0 f1
              refine bodyPost_ret (v := .tuple #[.agg #[.string ⟨#[]⟩, .slice none 0 0], .bool false]) (by simp [results, Tryz.results41, go_sem, *]) rfl ⟨_, by rw [HO.out]; rfl, by rw [HO.out]; exact ⟨[], LinesIn.nil _ _⟩, hbE⟩
            · have HX := Lib.hid hx
              have hx2 := nums_two hx
              have HL3 := Lib.hid (HL2.out x (HLI.out.trans hx))
              clear hx HLN HL2
              obtain ⟨⟨t0, t1⟩, f0, f1⟩ := hF.two
              have hgl5 := hF.lt
              have hq5 := hB.lt
              have hqs := fun q hq => (HQ.out.qlt (q := q) hq)
              have hvo := fun q hq => (HQ.out.vlt q hq)
              have hs34 := hb34.size
              have hs3 := hb.size
              have hs5 := hb5.size
              simp only [World.size_alloc] at hB hq5 hs34 hs5
              have HL1 : Hid (L.length ≤ 1048577) := Lib.hid (by rw [HLK.out]; omega)
              have HB := Lib.hid hB
              have hvne : v.ownBlock ≠ some (w3.heap.size + 1) := fun e => by have := hvo _ e; omega
              have hqlt : ∀ p ∈ qs, p < w3.heap.size + 1 := fun p hp => by have := hqs p hp; omega
              go_wp2_with (at_builtin; refine wpList_app_line rfl (.tmp 47) (.tmp 49) rfl (gf + 1) v L qs x (w3.heap.size + 1) w5.heap.size 1 rfl rfl (HQ5.out.below (below_alloc (Below.refl _ _) _)) (by simp [go_sem, rowVal]) (HB.out.alloc _) hx2 (by omega) hqlt hvne HL1.out (by simp; omega) ?_; intro v6 w6 hQ6 hg6; obtain ⟨A6, c6, e6, _⟩ := hQ6.cells; rw [List.length_append, HLK.out] at e6; change v6 = .slice A6 (k + 1) c6 at e6; subst e6; have hF6 := (hF.alloc (.cells #[.slice (some ⟨w3.heap.size + 1, 0, none⟩) 2 2] 55)).grown2 hg6 (fun q hq => by have := hvo q hq; omega); have hgl6 := hF6.lt; have ff6 := hF6.frozen 1; have cc6 : w6.cell? ⟨gf, 1, none⟩ = some v := (by rw [hF6.cell]; rfl))
              have hb6 := below_setCell0 (p := ⟨gf, 1, none⟩) (below_of_grown (below_alloc hbF (.cells #[.slice (some ⟨w3.heap.size + 1, 0, none⟩) 2 2] 55)) hg6 (by simp; omega) (fun q hq => by have := hvo q hq; have := HGF.out; omega)) (by have := HGF.out; show w1.heap.size ≤ gf; omega) (.slice A6 (k + 1) c6)
              go_roundw
              case rel => exact ⟨k + 1, .slice A6 (k + 1) c6, L ++ [x], qs ++ [w3.heap.size + 1], by omega, by go_num, HL3.out, by rw [List.length_append, HLK.out]; rfl, hF6.set_ 1 _, hQ6.set (by show gf < gf + 1; omega) _, hb6⟩
              case measure => simp [intOf]; omega
        · obtain rfl : k = n := by omega
          have hLF : linesL lineI r = some L := by
            have := HLL.out
            rwa [List.take_of_length_le (by have := HN.out; omega)] at this
          have HJ3 := Lib.hid (HJ2.out L hLF)
          obtain ⟨A6, c6, e6, hLs, hl1, hl2, _⟩ := HQ.out.lists
          rw [HLK.out] at e6 hl1
          subst e6
          have CT := Lib.hid (FigureText_any (tx p0) A6 k c6 L wr HLK.out (by omega) hLs (HT.out.below hbW).pow)
          rw [tx_data] at CT
          obtain ⟨T, hTx⟩ : ∃ T, T = tx (figTO p0 L) := ⟨_, rfl⟩
          rw [← hTx] at CT
          have HTX := Lib.hid hTx
          obtain ⟨⟨t0, t1⟩, f0, f1⟩ := hF.two
          have hgl5 := hF.lt
          clear hTx hLs hLF
          go_wp2_with (fail)
          refine CT.out.mono ?_
          rintro e w5 ⟨rfl, hb5⟩
          replace hZ := hZ.keep hb5
          replace hbW := below_step hbW hb5
          replace hF := hF.keep hb5
          have HQ5 := Lib.hid (HQ.out.below hb5)
          clear hb5 CT t0 t1 f0 f1 hgl5
          obtain ⟨⟨t0, t1⟩, f0, f1⟩ := hZ.two
          have hgz := hZ.lt
          by_cases he : figTO p0 L = s.data.toList
          · have hq := eqs_yes (a := T) (b := s) (by rw [HTX.out]; exact tx_eq2 he)
            have hms := HJ3.out
            rw [if_pos he] at hms
            have HO := Lib.hid hms
            obtain ⟨⟨x0, x1⟩, _, _⟩ := hF.two
            have hgx := hF.lt
            clear hms he
            go_wp2_with (fail)
            obtain ⟨WF, hWF, hbE, z0, z1, hQE⟩ := fig_endL hZ hbW (Nat.le_refl _) HQ5.out (by omega) (.string (tx p0)) (.slice A6 k c6)
            rw [← hWF]
            clear hWF hZ t0 t1 f0 f1 x0 x1
            refine bodyPost_ret (v := .tuple #[.agg #[.string (tx p0), .slice A6 k c6], .bool true]) (by simp [results, Tryz.results41, go_sem, *]) rfl ⟨_, by rw [HO.out]; rfl, by rw [HO.out]; exact ⟨qs, hQE⟩, hbE⟩
          · have hq := eqs_no (a := T) (b := s) (by rw [HTX.out]; exact tx_ne he)
            have hms := HJ3.out
            rw [if_neg he] at hms
            have HO := Lib.hid hms
            clear hms he
            go_wp2_with (fail)
            obtain ⟨WF, hWF, hbE, z0, z1⟩ := fig_end hZ hbW (Nat.le_refl _) (.string ⟨#[]⟩) (.slice none 0 0)
            rw [← hWF]
            clear hWF hZ t0 t1 f0 f1
            refine bodyPost_ret (v := .tuple #[.agg #[.string ⟨#[]⟩, .slice none 0 0], .bool false]) (by simp [results, Tryz.results41, go_sem, *]) rfl ⟨_, by rw [HO.out]; rfl, by rw [HO.out]; exact ⟨[], LinesIn.nil _ _⟩, hbE⟩
end Go.Proofs.YtpnfhienffekoaaGreatDoor
