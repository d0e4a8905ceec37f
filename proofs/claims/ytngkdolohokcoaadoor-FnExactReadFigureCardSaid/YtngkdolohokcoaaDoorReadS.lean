/- Contracts of the functions that read stars. -/
import Derived.Test.YtngkdolohokcoaaDoorRead
import Derived.Test.YtngkdolohokcoaaDoorStarT
namespace Go.Proofs.YtngkdolohokcoaaDoor
set_option linter.unusedVariables false
set_option linter.unusedSimpArgs false
open Go.RowKit
attribute [local go_sem ↓] Go.wp_at_zero Go.wp_at_succ
theorem mk_len {ws : List (List UInt8)} (h : ws.length ≠ 5) : mkStar ws = none := by unfold mkStar; rw [if_neg h]
theorem mk_nums {ws : List (List UInt8)} (h : ws.length = 5) (h2 : numsL ws.tail = none) : mkStar ws = none := by unfold mkStar; rw [if_pos h, h2]
theorem mk_bad {w0 : List UInt8} {r : List (List UInt8)} {a b c d : Int} (h : (w0 :: r).length = 5) (h2 : numsL r = some [a, b, c, d]) (h3 : vStar w0 a b c d = false) : mkStar (w0 :: r) = none := by
  unfold mkStar; rw [if_pos h, List.tail_cons, h2]
  simp only [List.headD_cons, List.getD_cons_zero, List.getD_cons_succ, h3]
  rfl
theorem mk_ok {w0 : List UInt8} {r : List (List UInt8)} {a b c d : Int} (h : (w0 :: r).length = 5) (h2 : numsL r = some [a, b, c, d]) (h3 : vStar w0 a b c d = true) : mkStar (w0 :: r) = some (w0, [a, b, c, d]) := by
  unfold mkStar; rw [if_pos h, List.tail_cons, h2]
  simp only [List.headD_cons, List.getD_cons_zero, List.getD_cons_succ, h3, if_true]
theorem rdI_none {l : List UInt8} (h : mkStar (wordsL l) = none) : readStarR l = none := by rw [← readStar_eq]; unfold readStarI; rw [h]
theorem rdI_some {l id : List UInt8} {n : List Int} (h : mkStar (wordsL l) = some (id, n)) : readStarR l = if starT id n = l then some (id, n) else none := by rw [← readStar_eq]; unfold readStarI; rw [h]
/-- the value of a star that was read -/
def starOf (o : Option (List UInt8 × List Int)) : Value := match o with
  | some (id, [a, b, c, d]) => .agg #[.string (tx id), .int .i64 a, .int .i64 b, .int .i64 c, .int .i64 d]
  | _ => .agg #[.string ⟨#[]⟩, .int .i64 0, .int .i64 0, .int .i64 0, .int .i64 0]
def StarRet (o : Option (List UInt8 × List Int)) (w : World) (e : Ending) (w' : World) : Prop := e = .returned (.tuple #[starOf o, .bool o.isSome]) ∧ Below w.heap.size w w'
theorem words_mem {s : ByteArray} {p : List UInt8} (h : p ∈ wordsL s.data.toList) (hs : s.size ≤ 1048576) : p.length ≤ 1048576 := by
  have h2 : p ∈ partsL 32 s.data.toList := (List.mem_filter.1 h).1
  have := parts_mem 32 s.data.toList p h2
  rw [len_data] at this; omega
theorem num_all {ws : List (List UInt8)} {ns : List Int} (h : numsL ws = some ns) : ∀ n ∈ ns, -1000000000000000000 < n ∧ n < 1000000000000000000 := fun n hn => by
  have := (numsL_some h).2 n hn; omega
theorem cons_of {α : Type} {l : List α} {n : Nat} (h : l.length = n + 1) : ∃ a r, l = a :: r ∧ r.length = n := by
  cases l with
  | nil => simp at h
  | cons a r => exact ⟨a, r, rfl, by simpa using h⟩
/-- words read as numbers -/
def NumsRet (ws : List (List UInt8)) (w : World) (e : Ending) (w' : World) : Prop := Below w.heap.size w w' ∧ ((numsL ws = none ∧ e = .returned (.tuple #[.slice none 0 0, .bool false])) ∨ ∃ (ns : List Int) (v : Value), numsL ws = some ns ∧ e = .returned (.tuple #[v, .bool true]) ∧ OwnI w' w.heap.size v ns)
set_option maxHeartbeats 2000000 in
theorem readNumbers_any (A : Option Addr) (n c : Nat) (ws : List (List UInt8)) (w : World) (hl : ws.length = n) (hn : n ≤ 1048576) (hS : Strs w A (ws.map tx)) (hsz : ∀ p ∈ ws, p.length ≤ 1048576) (hT : TxtOk w) :
    Calls Tryd.prog 63 #[.slice A n c] w (NumsRet ws w) := by
  have HL := Lib.hid hl
  have HZ := Lib.hid hsz
  clear hl hsz
  obtain ⟨i0, hi0, hz0, hz1, hz2⟩ := info_parts info_num
  have hmk := fun W : World => run_make (P := Tryd.prog) W 79 2 i0 _ Tryd.underlying79 hi0 hz0 .i64 .i64 (n : Int) (n : Int) (by omega) (by omega) (by rw [hz2]; omega) (by omega)
  simp only [Int.toNat_natCast, hz1] at hmk
  clear hi0 hz0 hz1 hz2
  go_enter Tryd.func63, Tryd.ntmps63
  go_wp2
  rw [← Nat.mul_one n, zeroNums_made _ rfl n, Nat.mul_one]
  have hz : Blk (w.alloc (.cells (numCells (List.replicate n 0)).toArray 2)) w.heap.size 2 (numCells (List.replicate n 0)) := Blk.new _ _ _
  have hb0 : Below w.heap.size w (w.alloc (.cells (numCells (List.replicate n 0)).toArray 2)) := (by repeat (first | exact Below.refl _ _ | refine below_alloc ?_ _ | refine below_drewN0 ?_ _ | refine below_drew0 ?_ | refine below_step ?_ (by assumption) | refine below_later ?_ _ | refine below_setCell0 ?_ (by first | exact Nat.le_refl _ | (simp; done) | omega | (simp; omega)) _))
  generalize w.alloc (.cells (numCells (List.replicate n 0)).toArray 2) = W1 at *
  go_loopw [5, 6, 7, 8, 14] (fun _ _ _ _ i wr => ∃ (k : Nat) (ns ys : List Int), k ≤ n ∧ i = .int .i64 (k : Int) ∧ numsL (ws.take k) = some ns ∧ ys.length = n ∧ ys.take k = ns ∧ Blk wr w.heap.size 2 (numCells ys) ∧ Below w.heap.size w wr) (fun _ _ _ _ i _ => n - (intOf i).toNat)
  case atStart => exact ⟨0, [], List.replicate n 0, by omega, rfl, by rw [List.take_zero]; rfl, by simp, by rw [List.take_zero], hz, hb0⟩
  case round =>
    obtain ⟨k, ns, ys, hk, rfl, hns, hyl, hyt, hB, hb⟩ := hrel
    have HNS := Lib.hid hns
    have HY := Lib.hid hyl
    have HT := Lib.hid hyt
    clear hns hyl hyt
    by_cases hlt : k < n
    · obtain ⟨p, hp⟩ := at_lt (l := ws) (k := k) (by have := HL.out; omega)
      obtain ⟨z, hz⟩ := at_lt (l := ys) (k := k) (by have := HY.out; omega)
      obtain ⟨b, o, rfl, hc⟩ := hS.below hb (by rw [List.length_map]; have := HL.out; omega)
      have c0 : wr.cell? ⟨b, o + k, none⟩ = some (.string (tx p)) := hc k (tx p) (by simp [hp])
      have hpl : (tx p).size ≤ 1048576 := by rw [tx_size]; exact HZ.out p (List.mem_of_getElem? hp)
      have CD := Lib.hid (ReadDecimal_any (tx p) wr hpl (hT.below hb))
      rw [tx_data] at CD
      have HTK : Hid (ws.take (k + 1) = ws.take k ++ [p]) := Lib.hid (by rw [List.take_add_one, hp]; rfl)
      have HMEM := Lib.hid (List.mem_of_getElem? hp)
      have hgl := hB.lt
      have hsz1 := hb.size
      clear hp hc hS hpl
      cases hnum : numL p with
      | none =>
        have HO := Lib.hid (numV_none hnum)
        have HNO := Lib.hid (numsL_none HMEM.out hnum)
        rw [HO.out.1, HO.out.2] at CD
        clear hnum hz
        generalize tx p = y at *
        go_wp2_with (refine CD.out.mono ?_; rintro e w2 ⟨rfl, hb2⟩)
        go_ret2
        exact ⟨below_step hb hb2, .inl ⟨HNO.out, rfl⟩⟩
      | some m =>
        have HO := Lib.hid (numV_some hnum)
        have HNS2 := Lib.hid (numsL_snoc HNS.out hnum)
        rw [← HTK.out] at HNS2
        rw [HO.out.1, HO.out.2] at CD
        clear hnum
        generalize tx p = y at *
        go_wp2_with (refine CD.out.mono ?_; rintro e w2 ⟨rfl, hb2⟩; have hB2 := hB.keep hb2; have d0 : w2.cell? ⟨w.heap.size, k, none⟩ = some (.int .i64 z) := (by rw [hB2.cell]; exact numCells_at hz); have f0 := hB2.frozen k; have hgl2 := hB2.lt)
        go_roundw
        case rel => exact ⟨k + 1, ns ++ [m], ys.set k m, by omega, by go_num, HNS2.out, by have := HY.out; simpa using this, by rw [List.take_add_one, List.getElem?_set_self (by have := HY.out; omega), List.take_set, List.set_eq_of_length_le (by simp; omega), HT.out]; rfl, by rw [← numCells_set]; exact hB2.set_ k _, below_setCell0 (below_step hb hb2) (Nat.le_refl _) _⟩
        case measure => simp [intOf]; omega
    · have e : ys = ns := by
        have h1 := HT.out
        rwa [List.take_of_length_le (by have := HY.out; omega)] at h1
      subst e
      have hyn : n = ys.length := HY.out.symm
      have HNF : Hid (numsL ws = some ys) := Lib.hid (by have := HNS.out; rwa [List.take_of_length_le (by have := HL.out; omega)] at this)
      go_wp2
      go_ret2
      refine ⟨hb, .inr ⟨ys, _, HNF.out, rfl, ?_⟩⟩
      rw [hyn]
      exact OwnI.of_blk (cs := numCells ys) (Nat.le_refl _) hB (Nat.le_refl _) (by rw [← hyn]; unfold maxLen; omega) (numCells_length _) (by rw [← numCells_length ys, List.take_length])
set_option maxHeartbeats 1000000 in
theorem l05ReadSigned_any (s : ByteArray) (w : World) (hs : s.size ≤ 1048576) :
    Calls Tryd.prog 92 #[.string s] w fun e w' => ∃ x : Int, e = .returned (.tuple #[.int .i64 x, .bool (numB s.data.toList)]) ∧ (numB s.data.toList = true → x = numV s.data.toList) ∧ w = w' := by
  have CN : Hid (∀ W, Calls Tryd.prog 70 #[.string s] W fun e w' => e = .returned (.tuple #[.int .i64 (numV s.data.toList), .bool (numB s.data.toList)]) ∧ W = w') := Lib.hid (fun W => l01Number_any s W hs)
  by_cases h1 : 1 < s.size
  · by_cases h45 : s[0].toNat = 45
    · have HF := byte_at s 0 (by omega)
      have hE : s.data.toList = 45 :: s.data.toList.drop 1 := by
        have := drop_cons_at HF
        rw [List.drop_zero, show s[0] = 45 from UInt8.toNat_inj.1 (by rw [h45]; rfl)] at this
        exact this
      have h45' : ((s[0].toNat : Int) == 45) = true := by rw [beq_iff_eq]; omega
      have h1i : (1 : Int) < (s.size : Int) := by omega
      have hsg := signed_num hE
      have CR : Hid (∀ W, Calls Tryd.prog 70 #[.string (s.extract 1 s.size)] W fun e w' => e = .returned (.tuple #[.int .i64 (numV (s.data.toList.drop 1)), .bool (numB (s.data.toList.drop 1))]) ∧ W = w') := Lib.hid (fun W => by
        have := l01Number_any (s.extract 1 s.size) W (by simp only [ByteArray.size_extract]; omega)
        rw [extract_tx_end, tx_data] at this
        rw [extract_tx_end]
        exact this)
      cases hr : numL (s.data.toList.drop 1) with
      | none =>
        rw [hr] at hsg
        have HO := Lib.hid (numV_none hsg)
        have HR := numV_none hr
        rw [HR.1, HR.2] at CR
        clear hE HF h45 hr hsg HR CN
        go_enter Tryd.func92, Tryd.ntmps92
        go_wp2_with (refine (CR.out _).mono ?_; rintro e w1 ⟨rfl, rfl⟩)
        go_ret2
        exact ⟨_, by rw [HO.out.2]; first | rfl | (simp only [hd]; rfl), (fun h => by rw [HO.out.2] at h; cases h), rfl⟩
      | some m =>
        rw [hr] at hsg
        simp only at hsg
        have HR := numV_some hr
        have hb := num_i64 hr
        rw [HR.1, HR.2] at CR
        by_cases hm : 0 < m
        · rw [if_pos hm] at hsg
          have hd : decide (0 < m) = true := decide_eq_true hm
          have HO := Lib.hid (numV_some hsg)
          clear hE HF h45 hr hsg HR CN
          go_enter Tryd.func92, Tryd.ntmps92
          go_wp2_with (refine (CR.out _).mono ?_; rintro e w1 ⟨rfl, rfl⟩)
          go_ret2
          exact ⟨-m, by rw [HO.out.2]; first | rfl | (simp only [hd]; rfl), (fun _ => HO.out.1.symm), rfl⟩
        · rw [if_neg hm] at hsg
          have hd : decide (0 < m) = false := decide_eq_false hm
          have HO := Lib.hid (numV_none hsg)
          clear hE HF h45 hr hsg HR CN
          go_enter Tryd.func92, Tryd.ntmps92
          go_wp2_with (refine (CR.out _).mono ?_; rintro e w1 ⟨rfl, rfl⟩)
          go_ret2
          exact ⟨-m, by rw [HO.out.2]; first | rfl | (simp only [hd]; rfl), (fun h => by rw [HO.out.2] at h; cases h), rfl⟩
    · have h45' : ((s[0].toNat : Int) == 45) = false := by rw [beq_eq_false_iff_ne]; omega
      have h1i : (1 : Int) < (s.size : Int) := by omega
      clear h45
      go_enter Tryd.func92, Tryd.ntmps92
      go_wp2_with (refine (CN.out _).mono ?_; rintro e w1 ⟨rfl, rfl⟩)
      go_ret2
      exact ⟨_, rfl, fun _ => rfl, rfl⟩
  · have h1i : ¬ (1 : Int) < (s.size : Int) := by omega
    go_enter Tryd.func92, Tryd.ntmps92
    go_wp2_with (refine (CN.out _).mono ?_; rintro e w1 ⟨rfl, rfl⟩)
    go_ret2
    exact ⟨_, rfl, fun _ => rfl, rfl⟩
/-- the star's cells in a new block -/
theorem staBlk (V : World) (id : ByteArray) (a b c d : Int) : Blk (V.alloc (.cells #[.string id, .int .i64 a, .int .i64 b, .int .i64 c, .int .i64 d] 26)) V.heap.size 26 (staCells [⟨id, a, b, c, d⟩]) := Blk.new _ _ _
def zeroSta : List Value := [.string ⟨#[]⟩, .int .i64 0, .int .i64 0, .int .i64 0, .int .i64 0]
theorem Blk.zsta {w : World} {g : Nat} {t : TypeId} (h : Blk w g t zeroSta) : (w.cell? ⟨g, 0, none⟩ = some (.string ⟨#[]⟩) ∧ w.cell? ⟨g, 1, none⟩ = some (.int .i64 0) ∧ w.cell? ⟨g, 2, none⟩ = some (.int .i64 0) ∧ w.cell? ⟨g, 3, none⟩ = some (.int .i64 0) ∧ w.cell? ⟨g, 4, none⟩ = some (.int .i64 0)) ∧ (w.frozen? ⟨g, 0, none⟩ = false ∧ w.frozen? ⟨g, 1, none⟩ = false ∧ w.frozen? ⟨g, 2, none⟩ = false ∧ w.frozen? ⟨g, 3, none⟩ = false ∧ w.frozen? ⟨g, 4, none⟩ = false) :=
  ⟨⟨by rw [h.cell]; rfl, by rw [h.cell]; rfl, by rw [h.cell]; rfl, by rw [h.cell]; rfl, by rw [h.cell]; rfl⟩, h.frozen 0, h.frozen 1, h.frozen 2, h.frozen 3, h.frozen 4⟩
/-- a star stored in a block, the world under a name of its own -/
theorem star_end {W w : World} {g : Nat} {t : TypeId} {u0 u1 u2 u3 u4 : Value} (hZ : Blk W g t [u0, u1, u2, u3, u4]) (hb : Below w.heap.size w W) (hg : w.heap.size ≤ g) (v0 v1 v2 v3 v4 : Value) :
    ∃ WF, WF = (((((W.setCell ⟨g, 0, none⟩ v0).setCell ⟨g, 1, none⟩ v1).setCell ⟨g, 2, none⟩ v2).setCell ⟨g, 3, none⟩ v3).setCell ⟨g, 4, none⟩ v4) ∧ Below w.heap.size w WF ∧ WF.cell? ⟨g, 0, none⟩ = some v0 ∧ WF.cell? ⟨g, 1, none⟩ = some v1 ∧ WF.cell? ⟨g, 2, none⟩ = some v2 ∧ WF.cell? ⟨g, 3, none⟩ = some v3 ∧ WF.cell? ⟨g, 4, none⟩ = some v4 := by
  have h := ((((hZ.set_ 0 v0).set_ 1 v1).set_ 2 v2).set_ 3 v3).set_ 4 v4
  refine ⟨_, rfl, below_setCell0 (below_setCell0 (below_setCell0 (below_setCell0 (below_setCell0 hb hg _) hg _) hg _) hg _) hg _, ?_, ?_, ?_, ?_, ?_⟩ <;> (rw [h.cell]; rfl)
set_option maxRecDepth 100000 in
set_option maxHeartbeats 4000000 in
theorem ReadStar_any (s : ByteArray) (w : World) (hs : s.size ≤ 1048576) (hT : TxtOk w) :
    Calls Tryd.prog 29 #[.string s] w (StarRet (readStarR s.data.toList) w) := by
  have hZ0 : Blk (w.alloc (.cells #[.string ⟨#[]⟩, .int .i64 0, .int .i64 0, .int .i64 0, .int .i64 0] 26)) w.heap.size 26 zeroSta := Blk.new _ _ _
  have hb0 : Below w.heap.size w (w.alloc (.cells #[.string ⟨#[]⟩, .int .i64 0, .int .i64 0, .int .i64 0, .int .i64 0] 26)) := below_alloc (Below.refl _ _) _
  have HW : Hid (∀ p ∈ wordsL s.data.toList, p.length ≤ 1048576) := Lib.hid (fun p hp => words_mem hp hs)
  have HI := Lib.hid (fun h => rdI_none (l := s.data.toList) h)
  have HJ := Lib.hid (fun id n h => rdI_some (l := s.data.toList) (id := id) (n := n) h)
  have HT := Lib.hid hT
  clear hT
  go_enter Tryd.func29, Tryd.ntmps29
  go_wp2_with (fail)
  refine calls_named ?_
  intro W0 e0
  have hZ : Blk W0 w.heap.size 26 zeroSta := by rw [e0]; exact hZ0
  have hbW : Below w.heap.size w W0 := by rw [e0]; exact hb0
  clear e0 hZ0 hb0
  refine (SplitWords_any s W0 hs (HT.out.below hbW).maxl).mono ?_
  rintro e w1 ⟨v, rfl, hO, hb1⟩
  replace hZ := hZ.keep hb1
  replace hbW := below_step hbW hb1
  clear hb1
  generalize wordsL s.data.toList = ws at *
  obtain ⟨A, c, rfl, hA, hc1, hc2, hc3, hc4⟩ := hO.form
  have hN : (ws.map tx).length = ws.length := List.length_map ..
  obtain ⟨⟨t0, t1, t2, t3, t4⟩, f0, f1, f2, f3, f4⟩ := hZ.zsta
  have hgz := hZ.lt
  by_cases h5 : ws.length = 5
  · rw [hN, h5] at hc1 ⊢
    obtain ⟨p0, r, hws, hr⟩ := cons_of h5
    subst hws
    have hA0 : ∃ g, A = some ⟨g, 0, none⟩ := by
      rcases hc4 with rfl | h
      · have := (hc3 rfl).2; rw [hN, h5] at this; omega
      · exact h
    obtain ⟨g, rfl⟩ := hA0
    have hAd := hA.drop 1 (c := c) (by rw [hN, h5]; exact hc1)
    rw [if_neg (by omega)] at hAd
    simp only [List.map_cons, List.drop_succ_cons, List.drop_zero, Nat.zero_add] at hAd
    have w0c : w1.cell? ⟨g, 0, none⟩ = some (.string (tx p0)) := by
      obtain ⟨b, o, e, h⟩ := hA (by rw [hN, h5]; omega)
      injection e with e; injection e with e1 e2
      subst e1 e2
      have := h 0 (tx p0) rfl
      simpa using this
    have CR := Lib.hid (fun c' => readNumbers_any (some ⟨g, 1, none⟩) 4 c' r w1 hr (by omega) hAd (fun p hp => HW.out p (List.mem_cons_of_mem _ hp)) (HT.out.below hbW))
    have H5 := Lib.hid h5
    clear hA hO hN h5 hc3 hc4 hAd
    go_wp2_with (fail)
    refine (CR.out _).mono ?_
    rintro e w2 ⟨hb2, hcase⟩
    replace hZ := hZ.keep hb2
    replace hbW := below_step hbW hb2
    replace w0c := cell_below w0c hb2
    clear t0 t1 t2 t3 t4 f0 f1 f2 f3 f4 hgz CR hb2
    obtain ⟨⟨t0, t1, t2, t3, t4⟩, f0, f1, f2, f3, f4⟩ := hZ.zsta
    have hgz := hZ.lt
    rcases hcase with ⟨hno, rfl⟩ | ⟨ns, v, hns, rfl, hO2⟩
    · have HO := Lib.hid (HI.out (mk_nums H5.out hno))
      clear hno
      go_wp2_with (fail)
      obtain ⟨WF, hWF, hbF, z0, z1, z2, z3, z4⟩ := star_end hZ hbW (Nat.le_refl _) (.string ⟨#[]⟩) (.int .i64 0) (.int .i64 0) (.int .i64 0) (.int .i64 0)
      rw [← hWF]
      clear hWF hZ t0 t1 t2 t3 t4 f0 f1 f2 f3 f4 w0c
      refine bodyPost_ret (v := .tuple #[.agg #[.string ⟨#[]⟩, .int .i64 0, .int .i64 0, .int .i64 0, .int .i64 0], .bool false]) (by simp [results, Tryd.results29, go_sem, *]) rfl ⟨by rw [HO.out]; rfl, hbF⟩
    · have hl4 := numsL_length hns
      rw [hr] at hl4
      obtain ⟨a, b, d, m, rfl⟩ := four hl4
      obtain ⟨A2, c2, rfl, hI2, _, _, _, hs2⟩ := hO2.form2
      have hA2 : ∃ q, A2 = some ⟨q, 0, none⟩ := by
        obtain ⟨bq, oq, e, _⟩ := hI2 (by simp)
        rcases hs2 with rfl | h
        · cases e
        · exact h
      obtain ⟨q, rfl⟩ := hA2
      obtain ⟨bq, oq, eq, hq⟩ := hI2 (by simp)
      injection eq with eq; injection eq with e1 e2
      subst e1 e2
      have n0 : w2.cell? ⟨q, 0, none⟩ = some (.int .i64 a) := hq 0 a rfl
      have n1 : w2.cell? ⟨q, 1, none⟩ = some (.int .i64 b) := hq 1 b rfl
      have n2 : w2.cell? ⟨q, 2, none⟩ = some (.int .i64 d) := hq 2 d rfl
      have n3 : w2.cell? ⟨q, 3, none⟩ = some (.int .i64 m) := hq 3 m rfl
      have HNS := Lib.hid hns
      have ia := num_all hns a (by simp)
      have ib := num_all hns b (by simp)
      have id := num_all hns d (by simp)
      have im := num_all hns m (by simp)
      clear hns hq hI2 hO2 hs2
      simp only [List.length_cons, List.length_nil]
      go_wp2_with (fail)
      go_region_held3 (fun w' => w'.cell? ⟨g, 0, none⟩ = some (.string (tx p0)) ∧ w'.cell? ⟨q, 0, none⟩ = some (.int .i64 a) ∧ w'.cell? ⟨q, 1, none⟩ = some (.int .i64 b) ∧ w'.cell? ⟨q, 2, none⟩ = some (.int .i64 d) ∧ w'.cell? ⟨q, 3, none⟩ = some (.int .i64 m)) (go_keep) (fail)
      all_goals
        go_wp2_with (fail)
        refine calls_named ?_
        intro W3 e3
        have hX : Blk W3 w2.heap.size 26 [.string (tx p0), .int .i64 a, .int .i64 b, .int .i64 d, .int .i64 m] := by rw [e3]; exact Blk.new w2 _ _
        have hb3 : Below w2.heap.size w2 W3 := by rw [e3]; exact below_drew0 (below_alloc (Below.refl _ _) _)
        clear e3
        replace hZ := hZ.keep hb3
        replace hbW := below_step hbW hb3
        clear hb3 w0c n0 n1 n2 n3 t0 t1 t2 t3 t4 f0 f1 f2 f3 f4 hgz
        have CV := Lib.hid (ValidStar_any (tx p0) a b d m W3)
        have CT := Lib.hid (fun W hb => StarText_any (tx p0) a b d m W ⟨by omega, by omega⟩ ⟨by omega, by omega⟩ ⟨by omega, by omega⟩ ⟨by omega, by omega⟩ (HT.out.below (w' := W) hb).pow)
        rw [tx_data] at CV CT
        generalize w2.heap.size = q3 at *
        cases hv : vStar p0 a b d m with
        | false =>
          have HO := Lib.hid (HI.out (mk_bad H5.out HNS.out hv))
          rw [hv] at CV
          clear hv CT
          refine CV.out.mono ?_
          rintro e w4 ⟨rfl, hb4⟩
          replace hZ := hZ.keep hb4
          replace hbW := below_step hbW hb4
          obtain ⟨⟨t0, t1, t2, t3, t4⟩, f0, f1, f2, f3, f4⟩ := hZ.zsta
          have hgz := hZ.lt
          clear hb4 hX
          go_wp2_with (fail)
          obtain ⟨WF, hWF, hbF, z0, z1, z2, z3, z4⟩ := star_end hZ hbW (Nat.le_refl _) (.string ⟨#[]⟩) (.int .i64 0) (.int .i64 0) (.int .i64 0) (.int .i64 0)
          rw [← hWF]
          clear hWF hZ t0 t1 t2 t3 t4 f0 f1 f2 f3 f4
          refine bodyPost_ret (v := .tuple #[.agg #[.string ⟨#[]⟩, .int .i64 0, .int .i64 0, .int .i64 0, .int .i64 0], .bool false]) (by simp [results, Tryd.results29, go_sem, *]) rfl ⟨by rw [HO.out]; rfl, hbF⟩
        | true =>
          have HMS := Lib.hid (HJ.out _ _ (mk_ok H5.out HNS.out hv))
          rw [hv] at CV
          have HST : Hid (starO p0 a b d m = starT p0 [a, b, d, m]) := Lib.hid (by rw [starO, if_pos hv])
          clear hv
          refine CV.out.mono ?_
          rintro e w4 ⟨rfl, hb4⟩
          replace hZ := hZ.keep hb4
          replace hbW := below_step hbW hb4
          replace hX := hX.keep hb4
          have x0 : w4.cell? ⟨q3, 0, none⟩ = some (.string (tx p0)) := by rw [hX.cell]; rfl
          have x1 : w4.cell? ⟨q3, 1, none⟩ = some (.int .i64 a) := by rw [hX.cell]; rfl
          have x2 : w4.cell? ⟨q3, 2, none⟩ = some (.int .i64 b) := by rw [hX.cell]; rfl
          have x3 : w4.cell? ⟨q3, 3, none⟩ = some (.int .i64 d) := by rw [hX.cell]; rfl
          have x4 : w4.cell? ⟨q3, 4, none⟩ = some (.int .i64 m) := by rw [hX.cell]; rfl
          have hgx := hX.lt
          clear hb4
          obtain ⟨T, hTx⟩ : ∃ T, T = tx (starO p0 a b d m) := ⟨_, rfl⟩
          rw [← hTx] at CT
          have HTX := Lib.hid hTx
          clear hTx
          go_wp2_with (fail)
          refine (CT.out _ hbW).mono ?_
          rintro e w5 ⟨rfl, hb5⟩
          replace hZ := hZ.keep hb5
          replace hbW := below_step hbW hb5
          replace hX := hX.keep hb5
          clear x0 x1 x2 x3 x4 hgx hb5 CT
          obtain ⟨⟨t0, t1, t2, t3, t4⟩, f0, f1, f2, f3, f4⟩ := hZ.zsta
          have hgz := hZ.lt
          by_cases he : starT p0 [a, b, d, m] = s.data.toList
          · have hq := eqs_yes (a := T) (b := s) (by rw [HTX.out, HST.out]; exact tx_eq2 he)
            have hms := HMS.out
            rw [if_pos he] at hms
            have HO := Lib.hid hms
            have x0 : w5.cell? ⟨q3, 0, none⟩ = some (.string (tx p0)) := by rw [hX.cell]; rfl
            have x1 : w5.cell? ⟨q3, 1, none⟩ = some (.int .i64 a) := by rw [hX.cell]; rfl
            have x2 : w5.cell? ⟨q3, 2, none⟩ = some (.int .i64 b) := by rw [hX.cell]; rfl
            have x3 : w5.cell? ⟨q3, 3, none⟩ = some (.int .i64 d) := by rw [hX.cell]; rfl
            have x4 : w5.cell? ⟨q3, 4, none⟩ = some (.int .i64 m) := by rw [hX.cell]; rfl
            have hgx := hX.lt
            clear hX hms he
            go_wp2_with (fail)
            obtain ⟨WF, hWF, hbF, z0, z1, z2, z3, z4⟩ := star_end hZ hbW (Nat.le_refl _) (.string (tx p0)) (.int .i64 a) (.int .i64 b) (.int .i64 d) (.int .i64 m)
            rw [← hWF]
            clear hWF hZ t0 t1 t2 t3 t4 f0 f1 f2 f3 f4 x0 x1 x2 x3 x4
            refine bodyPost_ret (v := .tuple #[.agg #[.string (tx p0), .int .i64 a, .int .i64 b, .int .i64 d, .int .i64 m], .bool true]) (by simp [results, Tryd.results29, go_sem, *]) rfl ⟨by rw [HO.out]; rfl, hbF⟩
          · have hq := eqs_no (a := T) (b := s) (by rw [HTX.out, HST.out]; exact tx_ne he)
            have hms := HMS.out
            rw [if_neg he] at hms
            have HO := Lib.hid hms
            clear hX hms he
            go_wp2_with (fail)
            obtain ⟨WF, hWF, hbF, z0, z1, z2, z3, z4⟩ := star_end hZ hbW (Nat.le_refl _) (.string ⟨#[]⟩) (.int .i64 0) (.int .i64 0) (.int .i64 0) (.int .i64 0)
            rw [← hWF]
            clear hWF hZ t0 t1 t2 t3 t4 f0 f1 f2 f3 f4
            refine bodyPost_ret (v := .tuple #[.agg #[.string ⟨#[]⟩, .int .i64 0, .int .i64 0, .int .i64 0, .int .i64 0], .bool false]) (by simp [results, Tryd.results29, go_sem, *]) rfl ⟨by rw [HO.out]; rfl, hbF⟩
  · have HO := Lib.hid (HI.out (mk_len h5))
    have h5' : ((ws.length : Int) != 5) = true := by rw [bne_iff_ne]; omega
    rw [hN]
    clear hA hO hN hc3 hc4 hc1
    go_wp2_with (fail)
    obtain ⟨WF, hWF, hbF, z0, z1, z2, z3, z4⟩ := star_end hZ hbW (Nat.le_refl _) (.string ⟨#[]⟩) (.int .i64 0) (.int .i64 0) (.int .i64 0) (.int .i64 0)
    rw [← hWF]
    clear hWF hZ t0 t1 t2 t3 t4 f0 f1 f2 f3 f4
    refine bodyPost_ret (v := .tuple #[.agg #[.string ⟨#[]⟩, .int .i64 0, .int .i64 0, .int .i64 0, .int .i64 0], .bool false]) (by simp [results, Tryd.results29, go_sem, *]) rfl ⟨by rw [HO.out]; rfl, hbF⟩
theorem rdR_eq {l : List UInt8} : readStarR l = mkStar (partsL 32 l) := rfl
set_option maxRecDepth 100000 in
set_option maxHeartbeats 4000000 in
theorem l05Read_any (s : ByteArray) (w : World) (hs : s.size ≤ 1048576) :
    Calls Tryd.prog 61 #[.string s] w (StarRet (readStarR s.data.toList) w) := by
  have hZ0 : Blk (w.alloc (.cells #[.string ⟨#[]⟩, .int .i64 0, .int .i64 0, .int .i64 0, .int .i64 0] 26)) w.heap.size 26 zeroSta := Blk.new _ _ _
  have hb0 : Below w.heap.size w (w.alloc (.cells #[.string ⟨#[]⟩, .int .i64 0, .int .i64 0, .int .i64 0, .int .i64 0] 26)) := below_alloc (Below.refl _ _) _
  have HW : Hid (∀ p ∈ partsL 32 s.data.toList, p.length ≤ 1048576) := Lib.hid (fun p hp => by have := parts_mem 32 s.data.toList p hp; rw [len_data] at this; omega)
  have HI : Hid (readStarR s.data.toList = mkStar (partsL 32 s.data.toList)) := Lib.hid rdR_eq
  go_enter Tryd.func61, Tryd.ntmps61
  go_wp2_with (fail)
  refine calls_named ?_
  intro W0 e0
  have hZ : Blk W0 w.heap.size 26 zeroSta := by rw [e0]; exact hZ0
  have hbW : Below w.heap.size w W0 := by rw [e0]; exact hb0
  clear e0 hZ0 hb0
  refine (l01Split_any s 32 W0 hs).mono ?_
  rintro e w1 ⟨v, rfl, hO, hb1⟩
  replace hZ := hZ.keep hb1
  replace hbW := below_step hbW hb1
  clear hb1
  generalize partsL 32 s.data.toList = ws at *
  obtain ⟨A, c, rfl, hA, hc1, hc2, hc3, hc4⟩ := hO.form
  have hN : (ws.map tx).length = ws.length := List.length_map ..
  obtain ⟨⟨t0, t1, t2, t3, t4⟩, f0, f1, f2, f3, f4⟩ := hZ.zsta
  have hgz := hZ.lt
  by_cases h5 : ws.length = 5
  · rw [hN, h5] at hc1 ⊢
    obtain ⟨p0, r, hws, hr⟩ := cons_of h5
    subst hws
    have hA0 : ∃ g, A = some ⟨g, 0, none⟩ := by
      rcases hc4 with rfl | h
      · have := (hc3 rfl).2; rw [hN, h5] at this; omega
      · exact h
    obtain ⟨g, rfl⟩ := hA0
    have H5 := Lib.hid h5
    have HR := Lib.hid hr
    have hgz1 : g < w1.heap.size := by
      obtain ⟨b, o, e, h⟩ := hA (by rw [hN, h5]; omega)
      injection e with e; injection e with e1 e2
      subst e1 e2
      exact World.block_lt_of_cell? w1 _ (h 0 (tx p0) rfl)
    have HZ1 := Lib.hid hZ
    clear hO hN h5 hc3 hc4
    go_wp2_with (fail)
    have hE := OwnI.empty w1 w1.heap.size (Nat.le_refl _)
    have hb9 : Below w1.heap.size w1 (w1.alloc (.cells #[] 2)) := below_alloc (Below.refl _ _) _
    clear t0 t1 t2 t3 t4 f0 f1 f2 f3 f4
    go_loopw [5, 6, 7, 8] (fun s5 s6 _ _ wr => ∃ (k : Nat) (v : Value) (ns : List Int), k ≤ 4 ∧ s6 = .int .i64 ((k : Int) + 1) ∧ v = s5 ∧ OwnI wr w1.heap.size v ns ∧ numsL (r.take k) = some ns ∧ Below w1.heap.size w1 wr) (fun _ s6 _ _ _ => 5 - (intOf s6).toNat)
    case atStart => exact ⟨0, _, [], by omega, rfl, rfl, hE, by rw [List.take_zero]; rfl, hb9⟩
    case round =>
      clear hE hb9
      obtain ⟨k, v, ns, hk, rfl, rfl, hO2, hns, hb⟩ := hrel
      have HNS := Lib.hid hns
      have hnl := numsL_length hns
      rw [List.length_take, hr] at hnl
      clear hns
      by_cases hlt : k < 4
      · obtain ⟨p, hp⟩ := at_lt (l := r) (k := k) (by omega)
        obtain ⟨b, o, e, hc⟩ := (hA.below hb) (by simp)
        injection e with e; injection e with e1 e2
        subst e1 e2
        have c0 : wr.cell? ⟨g, k + 1, none⟩ = some (.string (tx p)) := by
          have := hc (k + 1) (tx p) (by simp [hp])
          simpa using this
        have hpl : (tx p).size ≤ 1048576 := by rw [tx_size]; exact HW.out p (List.mem_cons_of_mem _ (List.mem_of_getElem? hp))
        have CD := Lib.hid (l05ReadSigned_any (tx p) wr hpl)
        rw [tx_data] at CD
        have HTK : Hid (r.take (k + 1) = r.take k ++ [p]) := Lib.hid (by rw [List.take_add_one, hp]; rfl)
        have HMEM := Lib.hid (List.mem_of_getElem? hp)
        have hgl : g < wr.heap.size := Nat.lt_of_lt_of_le hgz1 hb.size
        have hk4 : (k : Int) + 1 < 5 := by omega
        have ht1 : ((k : Int) + 1).toNat = k + 1 := by omega
        clear hp hc hA hpl
        cases hnum : numL p with
        | none =>
          have HO := Lib.hid (numV_none hnum)
          have HNO := Lib.hid (HI.out.trans (mk_nums H5.out (numsL_none HMEM.out hnum)))
          rw [HO.out.2] at CD
          clear hnum
          generalize tx p = y at *
          replace hZ := hZ.keep hb
          replace hbW := below_step hbW hb
          obtain ⟨⟨t0, t1, t2, t3, t4⟩, f0, f1, f2, f3, f4⟩ := hZ.zsta
          have hgz2 := hZ.lt
          clear hO2 hb
          go_wp2_with (refine CD.out.mono ?_; rintro e w2 ⟨x, rfl, hx, rfl⟩)
          obtain ⟨WF, hWF, hbF, z0, z1, z2, z3, z4⟩ := star_end hZ hbW (Nat.le_refl _) (.string ⟨#[]⟩) (.int .i64 0) (.int .i64 0) (.int .i64 0) (.int .i64 0)
          rw [← hWF]
          clear hWF hZ t0 t1 t2 t3 t4 f0 f1 f2 f3 f4 c0
          refine bodyPost_ret (v := .tuple #[.agg #[.string ⟨#[]⟩, .int .i64 0, .int .i64 0, .int .i64 0, .int .i64 0], .bool false]) (by simp [results, Tryd.results61, go_sem, *]) rfl ⟨by rw [HNO.out]; rfl, hbF⟩
        | some m =>
          have HO := Lib.hid (numV_some hnum)
          have HNS2 := Lib.hid (numsL_snoc HNS.out hnum)
          rw [← HTK.out] at HNS2
          rw [HO.out.1, HO.out.2] at CD
          have HL1 : Hid (ns.length ≤ 1099511627776) := Lib.hid (by omega)
          have hlt2 := fun q hq => hO2.lt q hq
          have hszb := hb.size
          clear hnum
          generalize tx p = y at *
          go_wp2_with (first | (go_at_call 92; refine CD.out.mono ?_; rintro e w2 ⟨x, rfl, hx, rfl⟩; have hxm : m = x := (hx rfl).symm; clear hx; subst hxm) | (at_builtin; refine wpList_app_int rfl (.tmp 32) (.tmp 34) rfl w1.heap.size v ns m wr.heap.size 1 rfl rfl (hO2.alloc _) (by simp [go_sem]) HL1.out (by simp; omega) ?_; intro v6 w6 hO6 hg6))
          have hb6 := below_of_grown (below_alloc hb _) hg6 (by simp; have := hb.size; omega) (fun q hq => (hlt2 q hq).1)
          go_roundw
          case rel => exact ⟨k + 1, v6, _, by omega, by go_num, rfl, hO6, HNS2.out, hb6⟩
          case measure => simp [intOf]; omega
      · obtain rfl : k = 4 := by omega
        have hns := HNS.out
        rw [List.take_of_length_le (by omega)] at hns
        obtain ⟨a, b, d, m, rfl⟩ := four (by omega : ns.length = 4)
        obtain ⟨A2, c2, rfl, hI2, _, _, _, hs2⟩ := hO2.form2
        have hA2 : ∃ q, A2 = some ⟨q, 0, none⟩ := by
          obtain ⟨bq, oq, e, _⟩ := hI2 (by simp)
          rcases hs2 with rfl | h
          · cases e
          · exact h
        obtain ⟨q, rfl⟩ := hA2
        obtain ⟨bq, oq, eq, hq⟩ := hI2 (by simp)
        injection eq with eq; injection eq with e1 e2
        subst e1 e2
        have n0 : wr.cell? ⟨q, 0, none⟩ = some (.int .i64 a) := hq 0 a rfl
        have n1 : wr.cell? ⟨q, 1, none⟩ = some (.int .i64 b) := hq 1 b rfl
        have n2 : wr.cell? ⟨q, 2, none⟩ = some (.int .i64 d) := hq 2 d rfl
        have n3 : wr.cell? ⟨q, 3, none⟩ = some (.int .i64 m) := hq 3 m rfl
        have w0c : wr.cell? ⟨g, 0, none⟩ = some (.string (tx p0)) := by
          obtain ⟨b, o, e, h⟩ := (hA.below hb) (by simp)
          injection e with e; injection e with e1 e2
          subst e1 e2
          have := h 0 (tx p0) rfl
          simpa using this
        replace hZ := hZ.keep hb
        replace hbW := below_step hbW hb
        have HNS3 := Lib.hid hns
        have h45 : ((4 : Nat) : Int) + 1 = 5 := rfl
        rw [h45]
        clear hns hq hI2 hO2 hs2 hA hb hlt
        simp only [List.length_cons, List.length_nil]
        go_wp2_with (fail)
        go_region_held3 (fun w' => w'.cell? ⟨g, 0, none⟩ = some (.string (tx p0)) ∧ w'.cell? ⟨q, 0, none⟩ = some (.int .i64 a) ∧ w'.cell? ⟨q, 1, none⟩ = some (.int .i64 b) ∧ w'.cell? ⟨q, 2, none⟩ = some (.int .i64 d) ∧ w'.cell? ⟨q, 3, none⟩ = some (.int .i64 m)) (go_keep) (fail)
        all_goals
          go_wp2_with (fail)
          refine calls_named ?_
          intro W3 e3
          have hX : Blk W3 wr.heap.size 26 [.string (tx p0), .int .i64 a, .int .i64 b, .int .i64 d, .int .i64 m] := by rw [e3]; exact Blk.new wr _ _
          have hb3 : Below wr.heap.size wr W3 := by rw [e3]; exact below_drew0 (below_alloc (Below.refl _ _) _)
          clear e3
          replace hZ := hZ.keep hb3
          replace hbW := below_step hbW hb3
          clear hb3 w0c n0 n1 n2 n3
          have x0 : W3.cell? ⟨wr.heap.size, 0, none⟩ = some (.string (tx p0)) := by rw [hX.cell]; rfl
          have x1 : W3.cell? ⟨wr.heap.size, 1, none⟩ = some (.int .i64 a) := by rw [hX.cell]; rfl
          have x2 : W3.cell? ⟨wr.heap.size, 2, none⟩ = some (.int .i64 b) := by rw [hX.cell]; rfl
          have x3 : W3.cell? ⟨wr.heap.size, 3, none⟩ = some (.int .i64 d) := by rw [hX.cell]; rfl
          have x4 : W3.cell? ⟨wr.heap.size, 4, none⟩ = some (.int .i64 m) := by rw [hX.cell]; rfl
          have hgx := hX.lt
          have CV := Lib.hid (l05One_any wr.heap.size 0 (tx p0) a b d m W3 x0 x1 x2 x3 x4)
          rw [tx_data] at CV
          clear x0 x1 x2 x3 x4
          generalize wr.heap.size = q3 at *
          cases hv : vStar p0 a b d m with
          | false =>
            have HO := Lib.hid (HI.out.trans (mk_bad H5.out HNS3.out hv))
            rw [hv] at CV
            clear hv
            refine CV.out.mono ?_
            rintro e w4 ⟨rfl, nd, rfl⟩
            replace hZ := hZ.drewN nd
            replace hbW := below_drewN0 hbW nd
            generalize W3.drewN nd = w4 at *
            obtain ⟨⟨t0, t1, t2, t3, t4⟩, f0, f1, f2, f3, f4⟩ := hZ.zsta
            have hgz := hZ.lt
            clear hX
            go_wp2_with (fail)
            obtain ⟨WF, hWF, hbF, z0, z1, z2, z3, z4⟩ := star_end hZ hbW (Nat.le_refl _) (.string ⟨#[]⟩) (.int .i64 0) (.int .i64 0) (.int .i64 0) (.int .i64 0)
            rw [← hWF]
            clear hWF hZ t0 t1 t2 t3 t4 f0 f1 f2 f3 f4
            refine bodyPost_ret (v := .tuple #[.agg #[.string ⟨#[]⟩, .int .i64 0, .int .i64 0, .int .i64 0, .int .i64 0], .bool false]) (by simp [results, Tryd.results61, go_sem, *]) rfl ⟨by rw [HO.out]; rfl, hbF⟩
          | true =>
            have HO := Lib.hid (HI.out.trans (mk_ok H5.out HNS3.out hv))
            rw [hv] at CV
            clear hv
            refine CV.out.mono ?_
            rintro e w4 ⟨rfl, nd, rfl⟩
            replace hZ := hZ.drewN nd
            replace hX := hX.drewN nd
            replace hbW := below_drewN0 hbW nd
            generalize W3.drewN nd = w4 at *
            obtain ⟨⟨t0, t1, t2, t3, t4⟩, f0, f1, f2, f3, f4⟩ := hZ.zsta
            have hgz := hZ.lt
            have x0 : w4.cell? ⟨q3, 0, none⟩ = some (.string (tx p0)) := by rw [hX.cell]; rfl
            have x1 : w4.cell? ⟨q3, 1, none⟩ = some (.int .i64 a) := by rw [hX.cell]; rfl
            have x2 : w4.cell? ⟨q3, 2, none⟩ = some (.int .i64 b) := by rw [hX.cell]; rfl
            have x3 : w4.cell? ⟨q3, 3, none⟩ = some (.int .i64 d) := by rw [hX.cell]; rfl
            have x4 : w4.cell? ⟨q3, 4, none⟩ = some (.int .i64 m) := by rw [hX.cell]; rfl
            have hgx4 := hX.lt
            clear hX
            go_wp2_with (fail)
            obtain ⟨WF, hWF, hbF, z0, z1, z2, z3, z4⟩ := star_end hZ hbW (Nat.le_refl _) (.string (tx p0)) (.int .i64 a) (.int .i64 b) (.int .i64 d) (.int .i64 m)
            rw [← hWF]
            clear hWF hZ t0 t1 t2 t3 t4 f0 f1 f2 f3 f4 x0 x1 x2 x3 x4
            refine bodyPost_ret (v := .tuple #[.agg #[.string (tx p0), .int .i64 a, .int .i64 b, .int .i64 d, .int .i64 m], .bool true]) (by simp [results, Tryd.results61, go_sem, *]) rfl ⟨by rw [HO.out]; rfl, hbF⟩
  · have HO := Lib.hid (HI.out.trans (mk_len h5))
    have h5' : ((ws.length : Int) != 5) = true := by rw [bne_iff_ne]; omega
    rw [hN]
    clear hA hO hN hc3 hc4 hc1
    go_wp2_with (fail)
    obtain ⟨WF, hWF, hbF, z0, z1, z2, z3, z4⟩ := star_end hZ hbW (Nat.le_refl _) (.string ⟨#[]⟩) (.int .i64 0) (.int .i64 0) (.int .i64 0) (.int .i64 0)
    rw [← hWF]
    clear hWF hZ t0 t1 t2 t3 t4 f0 f1 f2 f3 f4
    refine bodyPost_ret (v := .tuple #[.agg #[.string ⟨#[]⟩, .int .i64 0, .int .i64 0, .int .i64 0, .int .i64 0], .bool false]) (by simp [results, Tryd.results61, go_sem, *]) rfl ⟨by rw [HO.out]; rfl, hbF⟩
set_option maxHeartbeats 1000000 in
theorem sReadStar_any (s : ByteArray) (w : World) (hs : s.size ≤ 1048576) :
    Calls Tryd.prog 28 #[.string s] w (StarRet (readStarR s.data.toList) w) := by
  have hZ0 : Blk (w.alloc (.cells #[.string ⟨#[]⟩, .int .i64 0, .int .i64 0, .int .i64 0, .int .i64 0] 26)) w.heap.size 26 zeroSta := Blk.new _ _ _
  have hb0 : Below w.heap.size w (w.alloc (.cells #[.string ⟨#[]⟩, .int .i64 0, .int .i64 0, .int .i64 0, .int .i64 0] 26)) := below_alloc (Below.refl _ _) _
  have CR := Lib.hid (fun W => l05Read_any s W hs)
  have HS : Hid (∃ (i : ByteArray) (a b d m : Int), starOf (readStarR s.data.toList) = .agg #[.string i, .int .i64 a, .int .i64 b, .int .i64 d, .int .i64 m]) := Lib.hid (by
    unfold starOf
    split
    · exact ⟨_, _, _, _, _, rfl⟩
    · exact ⟨_, _, _, _, _, rfl⟩)
  obtain ⟨i, a, b, d, m, he⟩ := HS.out
  have HE := Lib.hid he
  clear he
  unfold StarRet at CR ⊢
  rw [HE.out] at CR ⊢
  generalize (readStarR s.data.toList).isSome = ok at *
  go_enter Tryd.func28, Tryd.ntmps28
  go_wp2_with (fail)
  refine (CR.out _).mono ?_
  rintro e w1 ⟨rfl, hb1⟩
  have hZ := hZ0.keep hb1
  have hbW := below_step hb0 hb1
  obtain ⟨⟨t0, t1, t2, t3, t4⟩, f0, f1, f2, f3, f4⟩ := hZ.zsta
  have hgz := hZ.lt
  clear hZ0 hb0 hb1 CR
  go_wp2_with (fail)
  obtain ⟨WF, hWF, hbF, z0, z1, z2, z3, z4⟩ := star_end hZ hbW (Nat.le_refl _) (.string i) (.int .i64 a) (.int .i64 b) (.int .i64 d) (.int .i64 m)
  rw [← hWF]
  clear hWF hZ t0 t1 t2 t3 t4 f0 f1 f2 f3 f4
  refine bodyPost_ret (v := .tuple #[.agg #[.string i, .int .i64 a, .int .i64 b, .int .i64 d, .int .i64 m], .bool ok]) (by simp [results, Tryd.results28, go_sem, *]) rfl ⟨rfl, hbF⟩
end Go.Proofs.YtngkdolohokcoaaDoor
