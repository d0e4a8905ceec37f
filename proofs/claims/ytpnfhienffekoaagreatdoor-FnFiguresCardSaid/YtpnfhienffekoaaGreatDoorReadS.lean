/- Contracts of the functions that read stars. -/
import Derived.Test.YtpnfhienffekoaaGreatDoorRead
import Derived.Test.YtpnfhienffekoaaGreatDoorStarT
namespace Go.Proofs.YtpnfhienffekoaaGreatDoor
set_option linter.unusedVariables false
set_option linter.unusedSimpArgs false
open Go.RowKit
attribute [local go_sem ↓] Go.wp_at_zero Go.wp_at_succ
theorem mk_len {ws : List (List UInt8)} (h : ws.length ≠ 5) : mkStar ws = none := by unfold mkStar; rw [if_neg h]
theorem mk_nums {ws : List (List UInt8)} (h : ws.length = 5) (h2 : numsL ws.tail = none) : mkStar ws = none := by unfold mkStar; rw [if_pos h, h2]
theorem mk_bad {w0 : List UInt8} {r : List (List UInt8)} {a b c d : Int} (h : (w0 :: r).length = 5) (h2 : numsL r = some [a, b, c, d]) (h3 : vStar w0 a b c d = false) : mkStar (w0 :: r) = none := by
  unfold mkStar; rw [if_pos h, List.tail_cons, h2]
  simp only [List.headD_cons, List.getD_cons_zero, List.getD_cons_succ, h3]
  rfl
theorem mk_ok {w0 : List UInt8} {r : List (List UInt8)} {a b c d : Int} (h : (w0 :: r).length = 5) (h2 : numsL r = some [a, b, c, d]) (h3 : vStar w0 a b c d = true) : mkStar (w0 :: r) = some (w0, [a, b, c, d]) := by
  unfold mkStar; rw [if_pos h, List.tail_cons, h2]
  simp only [List.headD_cons, List.getD_cons_zero, List.getD_cons_succ, h3, if_true]
theorem rdI_none {l : List UInt8} (h : mkStar (wordsL l) = none) : readStarR l = none := by rw [← readStar_eq]; unfold readStarI; rw [h]
theorem rdI_some {l id : List UInt8} {n : List Int} (h : mkStar (wordsL l) = some (id, n)) : readStarR l = if starT id n = l then some (id, n) else none := by rw [← readStar_eq]; unfold readStarI; rw [h]
/-- the value of a star that was read -/
def starOf (o : Option (List UInt8 × List Int)) : Value := match o with
  | some (id, [a, b, c, d]) => .agg #[.string (tx id), .int .i64 a, .int .i64 b, .int .i64 c, .int .i64 d]
  | _ => .agg #[.string ⟨#[]⟩, .int .i64 0, .int .i64 0, .int .i64 0, .int .i64 0]
def StarRet (o : Option (List UInt8 × List Int)) (w : World) (e : Ending) (w' : World) : Prop := e = .returned (.tuple #[starOf o, .bool o.isSome]) ∧ Below w.heap.size w w'
theorem words_mem {s : ByteArray} {p : List UInt8} (h : p ∈ wordsL s.data.toList) (hs : s.size ≤ 1048576) : p.length ≤ 1048576 := by
  have h2 : p ∈ partsL 32 s.data.toList := (List.mem_filter.1 h).1
  have := parts_mem 32 s.data.toList p h2
  rw [len_data] at this; omega
theorem num_all {ws : List (List UInt8)} {ns : List Int} (h : numsL ws = some ns) : ∀ n ∈ ns, -1000000000000000000 < n ∧ n < 1000000000000000000 := fun n hn => by
  have := (numsL_some h).2 n hn; omega
theorem cons_of {α : Type} {l : List α} {n : Nat} (h : l.length = n + 1) : ∃ a r, l = a :: r ∧ r.length = n := by
  cases l with
  | nil => simp at h
  | cons a r => exact ⟨a, r, rfl, by simpa using h⟩
/-- words read as numbers -/
def NumsRet (ws : List (List UInt8)) (w : World) (e : Ending) (w' : World) : Prop := Below w.heap.size w w' ∧ ((numsL ws = none ∧ e = .returned (.tuple #[.slice none 0 0, .bool false])) ∨ ∃ (ns : List Int) (v : Value), numsL ws = some ns ∧ e = .returned (.tuple #[v, .bool true]) ∧ OwnI w' w.heap.size v ns)
set_option maxHeartbeats 2000000 in
theorem readNumbers_any (A : Option Addr) (n c : Nat) (ws : List (List UInt8)) (w : World) (hl : ws.length = n) (hn : n ≤ 1048576) (hS : Strs w A (ws.map tx)) (hsz : ∀ p ∈ ws, p.length ≤ 1048576) (hT : TxtOk w) :
    Calls Tryz.prog 74 #[.slice A n c] w (NumsRet ws w) := by
  have HL := Lib.hid hl
  have HZ := Lib.hid hsz
  clear hl hsz
  obtain ⟨i0, hi0, hz0, hz1, hz2⟩ := info_parts info_num
  have hmk := fun W : World => run_make (P := Tryz.prog) W 55 2 i0 _ Tryz.underlying55 hi0 hz0 .i64 .i64 (n : Int) (n : Int) (by omega) (by omega) (by rw [hz2]; omega) (by omega)
  simp only [Int.toNat_natCast, hz1] at hmk
  clear hi0 hz0 hz1 hz2
  go_enter Tryz.func74, Tryz.ntmps74
  go_wp2
  rw [← Nat.mul_one n, zeroNums_made _ rfl n, Nat.mul_one]
  have hz : Blk (w.alloc (.cells (numCells (List.replicate n 0)).toArray 2)) w.heap.size 2 (numCells (List.replicate n 0)) := Blk.new _ _ _
  have hb0 : Below w.heap.size w (w.alloc (.cells (numCells (List.replicate n 0)).toArray 2)) := (by repeat (first | exact Below.refl _ _ | refine below_alloc ?_ _ | refine below_drewN0 ?_ _ | refine below_drew0 ?_ | refine below_step ?_ (by assumption) | refine below_later ?_ _ | refine below_setCell0 ?_ (by first | exact Nat.le_refl _ | (simp; done) | omega | (simp; omega)) _))
  generalize w.alloc (.cells (numCells (List.replicate n 0)).toArray 2) = W1 at *
  go_loopw [5, 6, 7, 8, 14] (fun _ _ _ _ i wr => ∃ (k : Nat) (ns ys : List Int), k ≤ n ∧ i = .int .i64 (k : Int) ∧ numsL (ws.take k) = some ns ∧ ys.length = n ∧ ys.take k = ns ∧ Blk wr w.heap.size 2 (numCells ys) ∧ Below w.heap.size w wr) (fun _ _ _ _ i _ => n - (intOf i).toNat)
  case atStart => exact ⟨0, [], List.replicate n 0, by omega, rfl, by rw [List.take_zero]; rfl, by simp, by rw [List.take_zero], hz, hb0⟩
  case round =>
    obtain ⟨k, ns, ys, hk, rfl, hns, hyl, hyt, hB, hb⟩ := hrel
    have HNS := Lib.hid hns
    have HY := Lib.hid hyl
    have HT := Lib.hid hyt
    clear hns hyl hyt
    by_cases hlt : k < n
    · obtain ⟨p, hp⟩ := at_lt (l := ws) (k := k) (by have := HL.out; omega)
      obtain ⟨z, hz⟩ := at_lt (l := ys) (k := k) (by have := HY.out; omega)
      obtain ⟨b, o, rfl, hc⟩ := hS.below hb (by rw [List.length_map]; have := HL.out; omega)
      have c0 : wr.cell? ⟨b, o + k, none⟩ = some (.string (tx p)) := hc k (tx p) (by simp [hp])
      have hpl : (tx p).size ≤ 1048576 := by rw [tx_size]; exact HZ.out p (List.mem_of_getElem? hp)
      have CD := Lib.hid (ReadDecimal_any (tx p) wr hpl (hT.below hb))
      rw [tx_data] at CD
      have HTK : Hid (ws.take (k + 1) = ws.take k ++ [p]) := Lib.hid (by rw [List.take_add_one, hp]; rfl)
      have HMEM := Lib.hid (List.mem_of_getElem? hp)
      have hgl := hB.lt
      have hsz1 := hb.size
      clear hp hc hS hpl
      cases hnum : numL p with
      | none =>
        have HO := Lib.hid (numV_none hnum)
        have HNO := Lib.hid (numsL_none HMEM.out hnum)
        rw [HO.out.1, HO.out.2] at CD
        clear hnum hz
        generalize tx p = y at *
        go_wp2_with (refine CD.out.mono ?_; rintro e w2 ⟨rfl, hb2⟩)
        go_ret2
        exact ⟨below_step hb hb2, .inl ⟨HNO.out, rfl⟩⟩
      | some m =>
        have HO := Lib.hid (numV_some hnum)
        have HNS2 := Lib.hid (numsL_snoc HNS.out hnum)
        rw [← HTK.out] at HNS2
        rw [HO.out.1, HO.out.2] at CD
        clear hnum
        generalize tx p = y at *
        go_wp2_with (refine CD.out.mono ?_; rintro e w2 ⟨rfl, hb2⟩; have hB2 := hB.keep hb2; have d0 : w2.cell? ⟨w.heap.size, k, none⟩ = some (.int .i64 z) := (by rw [hB2.cell]; exact numCells_at hz); have f0 := hB2.frozen k; have hgl2 := hB2.lt)
        go_roundw
        case rel => exact ⟨k + 1, ns ++ [m], ys.set k m, by omega, by go_num, HNS2.out, by have := HY.out; simpa using this, by rw [List.take_add_one, List.getElem?_set_self (by have := HY.out; omega), List.take_set, List.set_eq_of_length_le (by simp; omega), HT.out]; rfl, by rw [← numCells_set]; exact hB2.set_ k _, below_setCell0 (below_step hb hb2) (Nat.le_refl _) _⟩
        case measure => simp [intOf]; omega
    · have e : ys = ns := by
        have h1 := HT.out
        rwa [List.take_of_length_le (by have := HY.out; omega)] at h1
      subst e
      have hyn : n = ys.length := HY.out.symm
      have HNF : Hid (numsL ws = some ys) := Lib.hid (by have := HNS.out; rwa [List.take_of_length_le (by have := HL.out; omega)] at this)
      go_wp2
      go_ret2
      refine ⟨hb, .inr ⟨ys, _, HNF.out, rfl, ?_⟩⟩
      rw [hyn]
      exact OwnI.of_blk (cs := numCells ys) (Nat.le_refl _) hB (Nat.le_refl _) (by rw [← hyn]; unfold maxLen; omega) (numCells_length _) (by rw [← numCells_length ys, List.take_length])
/-- the star's cells in a new block -/
theorem staBlk (V : World) (id : ByteArray) (a b c d : Int) : Blk (V.alloc (.cells #[.string id, .int .i64 a, .int .i64 b, .int .i64 c, .int .i64 d] 46)) V.heap.size 46 (staCells [⟨id, a, b, c, d⟩]) := Blk.new _ _ _
def zeroStaR : List Value := [.string ⟨#[]⟩, .int .i64 0, .int .i64 0, .int .i64 0, .int .i64 0]
theorem Blk.zsta {w : World} {g : Nat} {t : TypeId} (h : Blk w g t zeroStaR) : (w.cell? ⟨g, 0, none⟩ = some (.string ⟨#[]⟩) ∧ w.cell? ⟨g, 1, none⟩ = some (.int .i64 0) ∧ w.cell? ⟨g, 2, none⟩ = some (.int .i64 0) ∧ w.cell? ⟨g, 3, none⟩ = some (.int .i64 0) ∧ w.cell? ⟨g, 4, none⟩ = some (.int .i64 0)) ∧ (w.frozen? ⟨g, 0, none⟩ = false ∧ w.frozen? ⟨g, 1, none⟩ = false ∧ w.frozen? ⟨g, 2, none⟩ = false ∧ w.frozen? ⟨g, 3, none⟩ = false ∧ w.frozen? ⟨g, 4, none⟩ = false) :=
  ⟨⟨by rw [h.cell]; rfl, by rw [h.cell]; rfl, by rw [h.cell]; rfl, by rw [h.cell]; rfl, by rw [h.cell]; rfl⟩, h.frozen 0, h.frozen 1, h.frozen 2, h.frozen 3, h.frozen 4⟩
/-- a star stored in a block, the world under a name of its own -/
theorem star_end {W w : World} {g : Nat} {t : TypeId} {u0 u1 u2 u3 u4 : Value} (hZ : Blk W g t [u0, u1, u2, u3, u4]) (hb : Below w.heap.size w W) (hg : w.heap.size ≤ g) (v0 v1 v2 v3 v4 : Value) :
    ∃ WF, WF = (((((W.setCell ⟨g, 0, none⟩ v0).setCell ⟨g, 1, none⟩ v1).setCell ⟨g, 2, none⟩ v2).setCell ⟨g, 3, none⟩ v3).setCell ⟨g, 4, none⟩ v4) ∧ Below w.heap.size w WF ∧ WF.cell? ⟨g, 0, none⟩ = some v0 ∧ WF.cell? ⟨g, 1, none⟩ = some v1 ∧ WF.cell? ⟨g, 2, none⟩ = some v2 ∧ WF.cell? ⟨g, 3, none⟩ = some v3 ∧ WF.cell? ⟨g, 4, none⟩ = some v4 := by
  have h := ((((hZ.set_ 0 v0).set_ 1 v1).set_ 2 v2).set_ 3 v3).set_ 4 v4
  refine ⟨_, rfl, below_setCell0 (below_setCell0 (below_setCell0 (below_setCell0 (below_setCell0 hb hg _) hg _) hg _) hg _) hg _, ?_, ?_, ?_, ?_, ?_⟩ <;> (rw [h.cell]; rfl)
set_option maxRecDepth 100000 in
set_option maxHeartbeats 4000000 in
theorem ReadStar_any (s : ByteArray) (w : World) (hs : s.size ≤ 1048576) (hT : TxtOk w) :
    Calls Tryz.prog 24 #[.string s] w (StarRet (readStarR s.data.toList) w) := by
  have hZ0 : Blk (w.alloc (.cells #[.string ⟨#[]⟩, .int .i64 0, .int .i64 0, .int .i64 0, .int .i64 0] 46)) w.heap.size 46 zeroStaR := Blk.new _ _ _
  have hb0 : Below w.heap.size w (w.alloc (.cells #[.string ⟨#[]⟩, .int .i64 0, .int .i64 0, .int .i64 0, .int .i64 0] 46)) := below_alloc (Below.refl _ _) _
  have HW : Hid (∀ p ∈ wordsL s.data.toList, p.length ≤ 1048576) := Lib.hid (fun p hp => words_mem hp hs)
  have HI := Lib.hid (fun h => rdI_none (l := s.data.toList) h)
  have HJ := Lib.hid (fun id n h => rdI_some (l := s.data.toList) (id := id) (n := n) h)
  have HT := Lib.hid hT
  clear hT
  go_enter Tryz.func24, Tryz.ntmps24
  go_wp2_with (fail)
  refine calls_named ?_
  intro W0 e0
  have hZ : Blk W0 w.heap.size 46 zeroStaR := by rw [e0]; exact hZ0
  have hbW : Below w.heap.size w W0 := by rw [e0]; exact hb0
  clear e0 hZ0 hb0
  refine (SplitWords_any s W0 hs (HT.out.below hbW).maxl).mono ?_
  rintro e w1 ⟨v, rfl, hO, hb1⟩
  replace hZ := hZ.keep hb1
  replace hbW := below_step hbW hb1
  clear hb1
  generalize wordsL s.data.toList = ws at *
  obtain ⟨A, c, rfl, hA, hc1, hc2, hc3, hc4⟩ := hO.form
  have hN : (ws.map tx).length = ws.length := List.length_map ..
  obtain ⟨⟨t0, t1, t2, t3, t4⟩, f0, f1, f2, f3, f4⟩ := hZ.zsta
  have hgz := hZ.lt
  by_cases h5 : ws.length = 5
  · rw [hN, h5] at hc1 ⊢
    obtain ⟨p0, r, hws, hr⟩ := cons_of h5
    subst hws
    have hA0 : ∃ g, A = some ⟨g, 0, none⟩ := by
      rcases hc4 with rfl | h
      · have := (hc3 rfl).2; rw [hN, h5] at this; omega
      · exact h
    obtain ⟨g, rfl⟩ := hA0
    have hAd := hA.drop 1 (c := c) (by rw [hN, h5]; exact hc1)
    rw [if_neg (by omega)] at hAd
    simp only [List.map_cons, List.drop_succ_cons, List.drop_zero, Nat.zero_add] at hAd
    have w0c : w1.cell? ⟨g, 0, none⟩ = some (.string (tx p0)) := by
      obtain ⟨b, o, e, h⟩ := hA (by rw [hN, h5]; omega)
      injection e with e; injection e with e1 e2
      subst e1 e2
      have := h 0 (tx p0) rfl
      simpa using this
    have CR := Lib.hid (fun c' => readNumbers_any (some ⟨g, 1, none⟩) 4 c' r w1 hr (by omega) hAd (fun p hp => HW.out p (List.mem_cons_of_mem _ hp)) (HT.out.below hbW))
    have H5 := Lib.hid h5
    clear hA hO hN h5 hc3 hc4 hAd
    go_wp2_with (fail)
    refine (CR.out _).mono ?_
    rintro e w2 ⟨hb2, hcase⟩
    replace hZ := hZ.keep hb2
    replace hbW := below_step hbW hb2
    replace w0c := cell_below w0c hb2
    clear t0 t1 t2 t3 t4 f0 f1 f2 f3 f4 hgz CR hb2
    obtain ⟨⟨t0, t1, t2, t3, t4⟩, f0, f1, f2, f3, f4⟩ := hZ.zsta
    have hgz := hZ.lt
    rcases hcase with ⟨hno, rfl⟩ | ⟨ns, v, hns, rfl, hO2⟩
    · have HO := Lib.hid (HI.out (mk_nums H5.out hno))
      clear hno
      go_wp2_with (fail)
      obtain ⟨WF, hWF, hbF, z0, z1, z2, z3, z4⟩ := star_end hZ hbW (Nat.le_refl _) (.string ⟨#[]⟩) (.int .i64 0) (.int .i64 0) (.int .i64 0) (.int .i64 0)
      rw [← hWF]
      clear hWF hZ t0 t1 t2 t3 t4 f0 f1 f2 f3 f4 w0c
      refine bodyPost_ret (v := .tuple #[.agg #[.string ⟨#[]⟩, .int .i64 0, .int .i64 0, .int .i64 0, .int .i64 0], .bool false]) (by simp [results, Tryz.results24, go_sem, *]) rfl ⟨by rw [HO.out]; rfl, hbF⟩
    · have hl4 := numsL_length hns
      rw [hr] at hl4
      obtain ⟨a, b, d, m, rfl⟩ := four hl4
      obtain ⟨A2, c2, rfl, hI2, _, _, _, hs2⟩ := hO2.form2
      have hA2 : ∃ q, A2 = some ⟨q, 0, none⟩ := by
        obtain ⟨bq, oq, e, _⟩ := hI2 (by simp)
        rcases hs2 with rfl | h
        · cases e
        · exact h
      obtain ⟨q, rfl⟩ := hA2
      obtain ⟨bq, oq, eq, hq⟩ := hI2 (by simp)
      injection eq with eq; injection eq with e1 e2
      subst e1 e2
      have n0 : w2.cell? ⟨q, 0, none⟩ = some (.int .i64 a) := hq 0 a rfl
      have n1 : w2.cell? ⟨q, 1, none⟩ = some (.int .i64 b) := hq 1 b rfl
      have n2 : w2.cell? ⟨q, 2, none⟩ = some (.int .i64 d) := hq 2 d rfl
      have n3 : w2.cell? ⟨q, 3, none⟩ = some (.int .i64 m) := hq 3 m rfl
      have HNS := Lib.hid hns
      have ia := num_all hns a (by simp)
      have ib := num_all hns b (by simp)
      have id := num_all hns d (by simp)
      have im := num_all hns m (by simp)
      clear hns hq hI2 hO2 hs2
      simp only [List.length_cons, List.length_nil]
      go_wp2_with (fail)
      go_region_held3 (fun w' => w'.cell? ⟨g, 0, none⟩ = some (.string (tx p0)) ∧ w'.cell? ⟨q, 0, none⟩ = some (.int .i64 a) ∧ w'.cell? ⟨q, 1, none⟩ = some (.int .i64 b) ∧ w'.cell? ⟨q, 2, none⟩ = some (.int .i64 d) ∧ w'.cell? ⟨q, 3, none⟩ = some (.int .i64 m)) (go_keep) (fail)
      all_goals
        go_wp2_with (fail)
        refine calls_named ?_
        intro W3 e3
        have hX : Blk W3 w2.heap.size 46 [.string (tx p0), .int .i64 a, .int .i64 b, .int .i64 d, .int .i64 m] := by rw [e3]; exact Blk.new w2 _ _
        have hb3 : Below w2.heap.size w2 W3 := by rw [e3]; exact below_drew0 (below_alloc (Below.refl _ _) _)
        clear e3
        replace hZ := hZ.keep hb3
        replace hbW := below_step hbW hb3
        clear hb3 w0c n0 n1 n2 n3 t0 t1 t2 t3 t4 f0 f1 f2 f3 f4 hgz
        have CV := Lib.hid (ValidStar_any (tx p0) a b d m W3)
        have CT := Lib.hid (fun W hb => StarText_any (tx p0) a b d m W ⟨by omega, by omega⟩ ⟨by omega, by omega⟩ ⟨by omega, by omega⟩ ⟨by omega, by omega⟩ (HT.out.below (w' := W) hb).pow)
        rw [tx_data] at CV CT
        generalize w2.heap.size = q3 at *
        cases hv : vStar p0 a b d m with
        | false =>
          have HO := Lib.hid (HI.out (mk_bad H5.out HNS.out hv))
          rw [hv] at CV
          clear hv CT
          refine CV.out.mono ?_
          rintro e w4 ⟨rfl, hb4⟩
          replace hZ := hZ.keep hb4
          replace hbW := below_step hbW hb4
          obtain ⟨⟨t0, t1, t2, t3, t4⟩, f0, f1, f2, f3, f4⟩ := hZ.zsta
          have hgz := hZ.lt
          clear hb4 hX
          go_wp2_with (fail)
          obtain ⟨WF, hWF, hbF, z0, z1, z2, z3, z4⟩ := star_end hZ hbW (Nat.le_refl _) (.string ⟨#[]⟩) (.int .i64 0) (.int .i64 0) (.int .i64 0) (.int .i64 0)
          rw [← hWF]
          clear hWF hZ t0 t1 t2 t3 t4 f0 f1 f2 f3 f4
          refine bodyPost_ret (v := .tuple #[.agg #[.string ⟨#[]⟩, .int .i64 0, .int .i64 0, .int .i64 0, .int .i64 0], .bool false]) (by simp [results, Tryz.results24, go_sem, *]) rfl ⟨by rw [HO.out]; rfl, hbF⟩
        | true =>
          have HMS := Lib.hid (HJ.out _ _ (mk_ok H5.out HNS.out hv))
          rw [hv] at CV
          have HST : Hid (starO p0 a b d m = starT p0 [a, b, d, m]) := Lib.hid (by rw [starO, if_pos hv])
          clear hv
          refine CV.out.mono ?_
          rintro e w4 ⟨rfl, hb4⟩
          replace hZ := hZ.keep hb4
          replace hbW := below_step hbW hb4
          replace hX := hX.keep hb4
          have x0 : w4.cell? ⟨q3, 0, none⟩ = some (.string (tx p0)) := by rw [hX.cell]; rfl
          have x1 : w4.cell? ⟨q3, 1, none⟩ = some (.int .i64 a) := by rw [hX.cell]; rfl
          have x2 : w4.cell? ⟨q3, 2, none⟩ = some (.int .i64 b) := by rw [hX.cell]; rfl
          have x3 : w4.cell? ⟨q3, 3, none⟩ = some (.int .i64 d) := by rw [hX.cell]; rfl
          have x4 : w4.cell? ⟨q3, 4, none⟩ = some (.int .i64 m) := by rw [hX.cell]; rfl
          have hgx := hX.lt
          clear hb4
          obtain ⟨T, hTx⟩ : ∃ T, T = tx (starO p0 a b d m) := ⟨_, rfl⟩
          rw [← hTx] at CT
          have HTX := Lib.hid hTx
          clear hTx
          go_wp2_with (fail)
          refine (CT.out _ hbW).mono ?_
          rintro e w5 ⟨rfl, hb5⟩
          replace hZ := hZ.keep hb5
          replace hbW := below_step hbW hb5
          replace hX := hX.keep hb5
          clear x0 x1 x2 x3 x4 hgx hb5 CT
          obtain ⟨⟨t0, t1, t2, t3, t4⟩, f0, f1, f2, f3, f4⟩ := hZ.zsta
          have hgz := hZ.lt
          by_cases he : starT p0 [a, b, d, m] = s.data.toList
          · have hq := eqs_yes (a := T) (b := s) (by rw [HTX.out, HST.out]; exact tx_eq2 he)
            have hms := HMS.out
            rw [if_pos he] at hms
            have HO := Lib.hid hms
            have x0 : w5.cell? ⟨q3, 0, none⟩ = some (.string (tx p0)) := by rw [hX.cell]; rfl
            have x1 : w5.cell? ⟨q3, 1, none⟩ = some (.int .i64 a) := by rw [hX.cell]; rfl
            have x2 : w5.cell? ⟨q3, 2, none⟩ = some (.int .i64 b) := by rw [hX.cell]; rfl
            have x3 : w5.cell? ⟨q3, 3, none⟩ = some (.int .i64 d) := by rw [hX.cell]; rfl
            have x4 : w5.cell? ⟨q3, 4, none⟩ = some (.int .i64 m) := by rw [hX.cell]; rfl
            have hgx := hX.lt
            clear hX hms he
            go_wp2_with (fail)
            obtain ⟨WF, hWF, hbF, z0, z1, z2, z3, z4⟩ := star_end hZ hbW (Nat.le_refl _) (.string (tx p0)) (.int .i64 a) (.int .i64 b) (.int .i64 d) (.int .i64 m)
            rw [← hWF]
            clear hWF hZ t0 t1 t2 t3 t4 f0 f1 f2 f3 f4 x0 x1 x2 x3 x4
            refine bodyPost_ret (v := .tuple #[.agg #[.string (tx p0), .int .i64 a, .int .i64 b, .int .i64 d, .int .i64 m], .bool true]) (by simp [results, Tryz.results24, go_sem, *]) rfl ⟨by rw [HO.out]; rfl, hbF⟩
          · have hq := eqs_no (a := T) (b := s) (by rw [HTX.out, HST.out]; exact tx_ne he)
            have hms := HMS.out
            rw [if_neg he] at hms
            have HO := Lib.hid hms
            clear hX hms he
            go_wp2_with (fail)
            obtain ⟨WF, hWF, hbF, z0, z1, z2, z3, z4⟩ := star_end hZ hbW (Nat.le_refl _) (.string ⟨#[]⟩) (.int .i64 0) (.int .i64 0) (.int .i64 0) (.int .i64 0)
            rw [← hWF]
            clear hWF hZ t0 t1 t2 t3 t4 f0 f1 f2 f3 f4
            refine bodyPost_ret (v := .tuple #[.agg #[.string ⟨#[]⟩, .int .i64 0, .int .i64 0, .int .i64 0, .int .i64 0], .bool false]) (by simp [results, Tryz.results24, go_sem, *]) rfl ⟨by rw [HO.out]; rfl, hbF⟩
  · have HO := Lib.hid (HI.out (mk_len h5))
    have h5' : ((ws.length : Int) != 5) = true := by rw [bne_iff_ne]; omega
    rw [hN]
    clear hA hO hN hc3 hc4 hc1
    go_wp2_with (fail)
    obtain ⟨WF, hWF, hbF, z0, z1, z2, z3, z4⟩ := star_end hZ hbW (Nat.le_refl _) (.string ⟨#[]⟩) (.int .i64 0) (.int .i64 0) (.int .i64 0) (.int .i64 0)
    rw [← hWF]
    clear hWF hZ t0 t1 t2 t3 t4 f0 f1 f2 f3 f4
    refine bodyPost_ret (v := .tuple #[.agg #[.string ⟨#[]⟩, .int .i64 0, .int .i64 0, .int .i64 0, .int .i64 0], .bool false]) (by simp [results, Tryz.results24, go_sem, *]) rfl ⟨by rw [HO.out]; rfl, hbF⟩
end Go.Proofs.YtpnfhienffekoaaGreatDoor
