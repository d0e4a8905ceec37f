/- Contracts of the functions that count a figure's parts: the program's. -/
import Derived.Test.YtpnfhienffekoaaGreatDoorMgC
import Derived.Test.YtpnfhienffekoaaGreatDoorGrpFig
import Derived.Test.YtpnfhienffekoaaGreatDoorBright
namespace Go.Proofs.YtpnfhienffekoaaGreatDoor
set_option linter.unusedVariables false
set_option linter.unusedSimpArgs false
open Go.RowKit
/-- the ends of valid lines are indices -/
theorem ends_at {m : Int} {L : List (List Int)} (h : vLines m L = true) {k : Nat} {x : Int} (hx : (setI (endsL L))[k]? = some x) : 0 ≤ x ∧ x < m := endsL_bd h ((setI_mem _ _).1 (List.mem_of_getElem? hx))
set_option maxRecDepth 100000 in
set_option maxHeartbeats 8000000 in
theorem FigureParts_any (nm : ByteArray) (B : Option Addr) (p q : Nat) (L : List (List Int)) (A : Option Addr) (n c : Nat) (l : List Sta) (w : World) (hp : L.length = p) (hp2 : p ≤ 9223372036854775807) (hB : Lists w B L) (hl : l.length = n) (hn : n ≤ 9223372036854775807) (hS : Stars w A l) :
    Calls Tryz.prog 35 #[.agg #[.string nm, .slice B p q], .slice A n c] w fun e w' => e = .returned (.tuple #[.int .i64 (partO nm L l (upFrom 0 l.length)).1, .int .i64 (partO nm L l (upFrom 0 l.length)).2]) ∧ Below w.heap.size w w' := by
  have hb0 : Below w.heap.size w (w.alloc (.cells #[.string nm, .slice B p q] 63)) := below_alloc (Below.refl _ _) _
  have hX0 : Blk (w.alloc (.cells #[.string nm, .slice B p q] 63)) w.heap.size 63 (figCells nm B p q) := Blk.new _ _ _
  have C := Lib.hid (ValidFigure_any nm B p q L A n c l _ hp hp2 (hB.below hb0) hl hn (hS.below hb0))
  have HP := Lib.hid hp; clear hp
  have HL := Lib.hid hl; clear hl hS
  cases hv : vFig nm L l with
  | false =>
    have HO := Lib.hid (partO_no (s := upFrom 0 l.length) hv)
    rw [hv] at C
    clear hv hB
    go_enter Tryz.func35, Tryz.ntmps35
    go_wp2_with (refine C.out.mono ?_; rintro e w1 ⟨rfl, hb1⟩)
    go_ret2
    exact ⟨by rw [HO.out]; rfl, below_step hb0 hb1⟩
  | true =>
    have HO := Lib.hid (partO_yes (s := upFrom 0 l.length) hv)
    have HV := Lib.hid (vFig_lines hv)
    have h24 : n ≤ 24 := by have := vStars_len (vFig_stars hv); have := HL.out; omega
    have h16 : p ≤ 16 := by have := vLines_len HV.out; have := HP.out; omega
    rw [hv] at C
    clear hv
    obtain ⟨i0, hi0, hz0, hz1, hz2⟩ := info_parts info_num
    have hmk := fun W : World => run_make (P := Tryz.prog) W 55 2 i0 _ Tryz.underlying55 hi0 hz0 .i64 .i64 (n : Int) (n : Int) (by omega) (by omega) (by rw [hz2]; omega) (by omega)
    simp only [Int.toNat_natCast, hz1] at hmk
    clear hi0 hz0 hz1 hz2
    go_enter Tryz.func35, Tryz.ntmps35
    go_wp2_with (refine C.out.mono ?_; rintro e w1 ⟨rfl, hb1⟩)
    rw [← Nat.mul_one n, zeroNums_made _ rfl n, Nat.mul_one]
    have hX1 := hX0.keep hb1
    have hz : Blk (w1.alloc (.cells (numCells (List.replicate n 0)).toArray 2)) w1.heap.size 2 (numCells (List.replicate n 0)) := Blk.new _ _ _
    have hb2 : Below w.heap.size w (w1.alloc (.cells (numCells (List.replicate n 0)).toArray 2)) := below_alloc (below_step hb0 hb1) _
    have hX2 := hX1.alloc (.cells (numCells (List.replicate n 0)).toArray 2)
    have hXg : w.heap.size < w1.heap.size := hX1.lt
    clear hX1
    generalize w1.alloc (.cells (numCells (List.replicate n 0)).toArray 2) = W1 at *
    generalize w1.heap.size = g at *
    have hneq : w.heap.size ≠ g := Nat.ne_of_lt hXg
    have hgb : w.heap.size ≤ g := Nat.le_of_lt hXg
    clear hmk hb0 hX0 hb1 C
    go_loopw [7, 25] (fun _ s wr => ∃ (k : Nat) (ys : List Int), k ≤ n ∧ s = .int .i64 (k : Int) ∧ ys.length = n ∧ ys.take k = upFrom 0 k ∧ Blk wr g 2 (numCells ys) ∧ Blk wr w.heap.size 63 (figCells nm B p q) ∧ Below w.heap.size w wr) (fun _ s _ => n - (intOf s).toNat)
    case atStart => exact ⟨0, List.replicate n 0, by omega, rfl, by simp, rfl, hz, hX2, hb2⟩
    case round =>
      clear hz hX2 hb2
      obtain ⟨k, ys, hk, rfl, hyl, hyt, hBl, hX, hb⟩ := hrel
      have HY := Lib.hid hyl; clear hyl
      have HT := Lib.hid hyt; clear hyt
      by_cases hlt : k < n
      · obtain ⟨z, hz⟩ := at_lt (l := ys) (k := k) (by have := HY.out; omega)
        have d0 : wr.cell? ⟨g, k, none⟩ = some (.int .i64 z) := by rw [hBl.cell]; exact numCells_at hz
        have f0 := hBl.frozen k
        clear hz
        go_wp2_with (fail)
        go_roundw
        case rel => exact ⟨k + 1, ys.set k (k : Int), by omega, by go_num, by have := HY.out; simpa using this, by
          rw [take_set_any (l := upFrom 0 (k + 1)) (by rw [HT.out, upFrom_take 0 (k + 1) k (by omega)]) (by rw [upFrom_at 0 (k + 1) k (by omega)]; congr 1; omega) (by have := HY.out; omega), List.take_of_length_le (by rw [upFrom_length]; omega)], by rw [← numCells_set]; exact hBl.set_ k _, hX.far (by show w.heap.size ≠ g; exact hneq) _, below_setCell0 hb hgb _⟩
        case measure => simp [intOf]; omega
      · obtain rfl : k = n := by omega
        have he : ys = upFrom 0 k := by
          have := HT.out
          rwa [List.take_of_length_le (by have := HY.out; omega)] at this
        subst he
        obtain ⟨x0, x1⟩ := hX.fig
        have HB0 : Hid (Blk wr g 2 (numCells (partsF (upFrom 0 k) (L.take 0)))) := Lib.hid hBl
        have HX := Lib.hid hX
        clear HT HY hlt hX hBl
        go_wp2_with (fail)
        go_loopw [9, 10, 11, 12, 36] (fun _ _ _ _ s wq => ∃ j : Nat, j ≤ p ∧ s = .int .i64 (j : Int) ∧ Blk wq g 2 (numCells (partsF (upFrom 0 k) (L.take j))) ∧ Blk wq w.heap.size 63 (figCells nm B p q) ∧ Below w.heap.size w wq) (fun _ _ _ _ s _ => p - (intOf s).toNat)
        case atStart => exact ⟨0, by omega, rfl, HB0.out, HX.out, hb⟩
        case round =>
          clear HB0 HX hb x0 x1
          obtain ⟨j, hj, rfl, hBl, hX, hb⟩ := hrel
          by_cases hjl : j < p
          · obtain ⟨x, hx⟩ := at_lt (l := L) (k := j) (by have := HP.out; omega)
            obtain ⟨u, v, rfl, hu0, huv, hvn⟩ := lineOk_two (vLines_ok HV.out hx)
            rw [HL.out] at hvn
            obtain ⟨u, rfl⟩ : ∃ u' : Nat, u = u' := ⟨u.toNat, by omega⟩
            obtain ⟨v, rfl⟩ : ∃ v' : Nat, v = v' := ⟨v.toNat, by omega⟩
            have HPT : Hid (partsF (upFrom 0 k) (L.take (j + 1)) = (partsF (upFrom 0 k) (L.take j)).map (joinF (gt (partsF (upFrom 0 k) (L.take j)) v) (gt (partsF (upFrom 0 k) (L.take j)) u))) := Lib.hid (by rw [partsF_take _ hx, joinP_two])
            have HLN : Hid ((partsF (upFrom 0 k) (L.take j)).length = k) := Lib.hid (by rw [partsF_length, upFrom_length])
            obtain ⟨b, o, rfl, hc⟩ := hB.below hb (by have := HP.out; omega)
            obtain ⟨A1, c1, e0, e1, _, _, e4⟩ := hc j _ hx
            obtain ⟨b1, o1, rfl, q0, q1⟩ := ints_two e4
            simp only [List.length_cons, List.length_nil, Nat.zero_add, Nat.reduceAdd] at e0 e1
            have l0 := World.block_lt_of_cell? wr _ e0
            have l1 := World.block_lt_of_cell? wr _ q0
            have lg := hBl.lt
            dsimp only at l0 l1
            have huI : (u : Int) < (k : Int) := by omega
            have hvI : (v : Int) < (k : Int) := by omega
            have hunN : u < k := by omega
            have hvnN : v < k := by omega
            clear hc hx e4
            generalize partsF (upFrom 0 k) (L.take j) = P at *
            have p0 : wr.cell? ⟨g, u, none⟩ = some (.int .i64 (gt P u)) := by rw [hBl.cell]; exact numCells_at (at_gt (by rw [HLN.out]; exact hunN))
            have p1 : wr.cell? ⟨g, v, none⟩ = some (.int .i64 (gt P v)) := by rw [hBl.cell]; exact numCells_at (at_gt (by rw [HLN.out]; exact hvnN))
            generalize gt P u = own at *
            generalize gt P v = old at *
            go_wp2_with (fail)
            (refine later_intro_wp ?_; intro y)
            (refine wp_region_later (by kernel_rfl) (by kernel_rfl) ?_; (repeat (first | go_big_quiet_step ((fail)) | quiet_step ((fail)))); refine wpQuiet_nil ?_; rintro _ ⟨y, rfl⟩)
            have hB2 := hBl.keep y.below
            have hX2 := hX.keep y.below
            have hb2 := below_later hb y
            clear e0 q0 q1 p0 p1 l0 l1 lg hBl hX hb
            generalize y.w = W5 at *
            clear y
            go_wp2_with (fail)
            go_loopw [12, 54] (fun _ s wz => ∃ t : Nat, t ≤ k ∧ s = .int .i64 (t : Int) ∧ Blk wz g 2 (numCells (mapK (joinF old own) P t)) ∧ Blk wz w.heap.size 63 (figCells nm (some ⟨b, o, none⟩) p q) ∧ Below w.heap.size w wz) (fun _ s _ => k - (intOf s).toNat)
            case atStart => exact ⟨0, by omega, rfl, by rw [mapK_zero]; exact hB2, hX2, hb2⟩
            case round =>
              clear hB2 hX2 hb2
              obtain ⟨t, ht, rfl, hBl, hX, hb⟩ := hrel
              by_cases htl : t < k
              · obtain ⟨z, hz⟩ := at_lt (l := P) (k := t) (by have := HLN.out; omega)
                have d0 : wr.cell? ⟨g, t, none⟩ = some (.int .i64 z) := by rw [hBl.cell]; exact numCells_at ((mapK_at _ _ _).trans hz)
                have f0 := hBl.frozen t
                by_cases hzo : z = old
                · have HM : Hid (mapK (joinF old own) P (t + 1) = (mapK (joinF old own) P t).set t own) := Lib.hid (by rw [mapK_succ hz, hzo, joinF, if_pos rfl])
                  subst hzo
                  clear hz
                  go_wp2_with (fail)
                  go_roundw
                  case rel => exact ⟨t + 1, by omega, by go_num, by rw [HM.out, ← numCells_set]; exact hBl.set_ t _, hX.far (by show w.heap.size ≠ g; exact hneq) _, below_setCell0 hb hgb _⟩
                  case measure => simp [intOf]; omega
                · have HM : Hid (mapK (joinF old own) P (t + 1) = mapK (joinF old own) P t) := Lib.hid (mapK_same hz (by rw [joinF, if_neg hzo]))
                  have hzo' : (z == old) = false := by simpa using hzo
                  clear hz
                  go_wp2_with (fail)
                  go_roundw
                  case rel => exact ⟨t + 1, by omega, by go_num, by rw [HM.out]; exact hBl, hX, hb⟩
                  case measure => simp [intOf]; omega
              · obtain rfl : t = k := by omega
                have HM : Hid (mapK (joinF old own) P t = P.map (joinF old own)) := Lib.hid (mapK_end (by rw [HLN.out]; exact Nat.le_refl _))
                rw [HM.out, ← HPT.out] at hBl
                go_wp2_with (fail)
                go_roundw
                case rel => exact ⟨j + 1, by omega, by go_num, hBl, hX, hb⟩
                case measure => simp [intOf]; omega
          · obtain rfl : j = p := by omega
            have HA : Hid (partsF (upFrom 0 k) (L.take j) = partsF (upFrom 0 k) L) := Lib.hid (by rw [List.take_of_length_le (by have := HP.out; omega)])
            rw [HA.out] at hBl
            have HLN : Hid ((partsF (upFrom 0 k) L).length = k) := Lib.hid (by rw [partsF_length, upFrom_length])
            have HVk : Hid (vLines (k : Int) L = true) := Lib.hid (by rw [← HL.out]; exact HV.out)
            obtain ⟨x0, x1⟩ := hX.fig
            have C2 := Lib.hid (endsOf_any _ nm B j q L wr HP.out HV.out (hB.below hb))
            rw [HL.out] at HO
            clear HA hX
            generalize partsF (upFrom 0 k) L = P at *
            go_wp2_with (fail)
            refine C2.out.mono ?_
            rintro e w2 ⟨v2, rfl, hO2, hb2⟩
            clear x0 x1
            have hBl2 := hBl.keep hb2
            have hgw : g < w2.heap.size := hBl2.lt
            have hbb := below_step hb hb2
            have hlen : Hid ((setI (endsL L)).length ≤ 32) := Lib.hid (ends_len HV.out)
            have HEA : Hid (∀ (k2 : Nat) (x : Int), (setI (endsL L))[k2]? = some x → 0 ≤ x ∧ x < (k : Int)) := Lib.hid (fun k2 x hx => ends_at HVk.out hx)
            clear hBl hb hb2 C2 HVk
            generalize setI (endsL L) = E at *
            obtain ⟨A2, c2, rfl, hI2, _, _, _, _⟩ := hO2.form2
            clear hO2
            have hlenE := hlen.out
            generalize hnE : E.length = ne at *
            have HNE := Lib.hid hnE
            clear hnE
            go_wp2_with (fail)
            go_loopw [13, 15, 72] (fun s13 _ s wq => ∃ (t : Nat) (v : Value), t ≤ ne ∧ s = .int .i64 (t : Int) ∧ v = s13 ∧ OwnI wq w2.heap.size v (dedI (kindsL P (E.take t))) ∧ Below w2.heap.size w2 wq) (fun _ _ s _ => ne - (intOf s).toNat)
            case atStart => exact ⟨0, _, by omega, rfl, rfl, OwnI.nil _ _, Below.refl _ _⟩
            case round =>
              obtain ⟨t, v, ht, rfl, rfl, hO, hb3⟩ := hrel
              have HDL : Hid ((dedI (kindsL P (E.take t))).length ≤ 32) := Lib.hid (by have h1 := dedI_le (kindsL P (E.take t)); simp only [kindsL, List.length_map, List.length_take] at h1 ⊢; have := HNE.out; omega)
              by_cases htl : t < ne
              · obtain ⟨x, hx⟩ := at_lt (l := E) (k := t) (by have := HNE.out; omega)
                obtain ⟨hx0, hxk⟩ := HEA.out t x hx
                obtain ⟨i, rfl⟩ : ∃ i : Nat, x = i := ⟨x.toNat, by omega⟩
                have HK : Hid (dedI (kindsL P (E.take (t + 1))) = if hasI (dedI (kindsL P (E.take t))) (gt P i) then dedI (kindsL P (E.take t)) else dedI (kindsL P (E.take t)) ++ [gt P i]) := Lib.hid (by rw [kindsL_take hx, dedI_snoc])
                obtain ⟨b, o, rfl, hc⟩ := (hI2.below hb3) (by have := HNE.out; omega)
                have c0 := hc t _ hx
                have hB3 := hBl2.keep hb3
                have p0 : wr.cell? ⟨g, i, none⟩ = some (.int .i64 (gt P i)) := by rw [hB3.cell]; exact numCells_at (at_gt (by have := HLN.out; omega))
                clear hx hc
                generalize gt P i = z at *
                generalize dedI (kindsL P (E.take t)) = D at *
                obtain ⟨A3, c3, rfl, hI3, _, _, _, _⟩ := hO.form2
                have CC := Lib.hid (containsI_same A3 D.length c3 D z wr rfl (by have := HDL.out; omega) hI3)
                cases hh : hasI D z with
                | true =>
                  rw [hh] at CC
                  have HH := Lib.hid hh; clear hh
                  go_wp2_with (refine CC.out.mono ?_; rintro e w4 ⟨rfl, rfl⟩)
                  go_roundw
                  case rel => exact ⟨t + 1, _, by omega, by go_num, rfl, by rw [HK.out, HH.out]; exact hO, hb3⟩
                  case measure => simp [intOf]; omega
                | false =>
                  rw [hh] at CC
                  have HH := Lib.hid hh; clear hh
                  go_wp2_with (first | (go_at_call 87; refine CC.out.mono ?_; rintro e w4 ⟨rfl, rfl⟩) | (at_builtin; refine wpList_app_int rfl (.tmp 83) (.tmp 88) rfl w2.heap.size _ D z wr.heap.size 1 rfl rfl (hO.alloc _) (show (wr.alloc (.cells #[.int .i64 z] 2)).cell? ⟨wr.heap.size, 0, none⟩ = some (.int .i64 z) by simp) (by have := HDL.out; omega) (below_alloc hb3 _).size ?_; intro v5 w5 hO5 hg5))
                  go_roundw
                  case rel => exact ⟨t + 1, v5, by omega, by go_num, rfl, by rw [HK.out, HH.out]; exact hO5, below_of_grown (below_alloc hb3 _) hg5 (below_alloc hb3 _).size (fun q hq => (hO.lt q hq).1)⟩
                  case measure => simp [intOf]; omega
              · obtain rfl : t = ne := by omega
                obtain ⟨A3, c3, rfl, _, _, _, _, _⟩ := hO.form2
                have HZ : Hid ((dedI (kindsL P (E.take t))).length = (setI (kindsL P E)).length) := Lib.hid (by rw [List.take_of_length_le (by have := HNE.out; omega), dedI_length])
                rw [HZ.out]
                have hsz : (setI (kindsL P E)).length ≤ 32 := by rw [← HZ.out]; exact HDL.out
                go_wp2_with (fail)
                go_ret2
                exact ⟨by rw [HL.out, HO.out]; rfl, below_step hbb hb3⟩
end Go.Proofs.YtpnfhienffekoaaGreatDoor
