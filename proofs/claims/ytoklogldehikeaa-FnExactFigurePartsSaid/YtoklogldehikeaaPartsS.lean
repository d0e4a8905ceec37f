/- Contracts of the functions that count a figure's parts: the reference's. -/
import Derived.Test.YtoklogldehikeaaParts
namespace Go.Proofs.Ytoklogldehikeaa
set_option linter.unusedVariables false
set_option linter.unusedSimpArgs false
open Go.RowKit
theorem setKinds_succ {part used : List Int} {k : Nat} {i : Nat} (h : used[k]? = some (i : Int)) : setI (kindsL part (used.take (k + 1))) = putI (gt part i) (setI (kindsL part (used.take k))) := by
  rw [kindsL_take h, setI_snoc]
theorem Blk.grownP {w w' : World} {g : Nat} {t : TypeId} {cs : List Value} {row : Option Nat} (h : Blk w g t cs) (hg : w.grownBy w' row) (hne : ∀ q, row = some q → g ≠ q) : Blk w' g t cs := (hg.block g h.lt (fun e => hne g e.symm rfl)).trans h
theorem upFrom_succ0 (k : Nat) : upFrom 0 (k + 1) = upFrom 0 k ++ [(k : Int)] := by
  apply List.ext_getElem?
  intro i
  by_cases h : i < k
  · rw [upFrom_at 0 (k + 1) i (by omega), List.getElem?_append_left (by rw [upFrom_length]; exact h), upFrom_at 0 k i h]
  · by_cases e : i = k
    · subst e
      rw [upFrom_at 0 (i + 1) i (by omega), List.getElem?_append_right (by rw [upFrom_length]; omega), upFrom_length]; simp
    · rw [List.getElem?_eq_none (by rw [upFrom_length]; omega), List.getElem?_eq_none (by simp [upFrom_length]; omega)]
set_option maxRecDepth 100000 in
set_option maxHeartbeats 8000000 in
theorem sFigureParts_any (nm : ByteArray) (B : Option Addr) (p q : Nat) (L : List (List Int)) (A : Option Addr) (n c : Nat) (l : List Sta) (w : World) (hp : L.length = p) (hp2 : p ≤ 9223372036854775807) (hB : Lists w B L) (hl : l.length = n) (hn : n ≤ 9223372036854775807) (hS : Stars w A l) :
    Calls Try.prog 29 #[.agg #[.string nm, .slice B p q], .slice A n c] w fun e w' => e = .returned (.tuple #[.int .i64 (partO nm L l (upFrom 0 l.length)).1, .int .i64 (partO nm L l (upFrom 0 l.length)).2]) ∧ Below w.heap.size w w' := by
  have hb0 : Below w.heap.size w (w.alloc (.cells #[.string nm, .slice B p q] 41)) := below_alloc (Below.refl _ _) _
  have hX0 : Blk (w.alloc (.cells #[.string nm, .slice B p q] 41)) w.heap.size 41 (figCells nm B p q) := Blk.new _ _ _
  obtain ⟨x0, x1⟩ := hX0.fig
  have C := Lib.hid (l08Ok_any w.heap.size nm B p q L A n c l _ x0 x1 hp hp2 (hB.below hb0) hl hn (hS.below hb0))
  have HP := Lib.hid hp; clear hp x0 x1
  have HL := Lib.hid hl; clear hl hS
  cases hv : vFig nm L l with
  | false =>
    have HO := Lib.hid (partO_no (s := upFrom 0 l.length) hv)
    rw [hv] at C
    clear hv hB
    go_enter Try.func29, Try.ntmps29
    go_wp2_with (refine C.out.mono ?_; rintro e w1 ⟨rfl, hb1⟩)
    go_ret2
    exact ⟨by rw [HO.out]; rfl, below_step hb0 hb1⟩
  | true =>
    have HO := Lib.hid (partO_yes (s := upFrom 0 l.length) hv)
    rw [HL.out] at HO
    have HV := Lib.hid (vFig_lines hv)
    have h24 : n ≤ 24 := by have := vStars_len (vFig_stars hv); have := HL.out; omega
    have h16 : p ≤ 16 := by have := vLines_len HV.out; have := HP.out; omega
    rw [hv] at C
    clear hv
    go_enter Try.func29, Try.ntmps29
    go_wp2_with (refine C.out.mono ?_; rintro e w1 ⟨rfl, hb1⟩)
    have hX1 := hX0.keep hb1
    have hE := OwnI.empty w1 w1.heap.size (Nat.le_refl _)
    have hb2 : Below w.heap.size w (w1.alloc (.cells #[] 2)) := below_alloc (below_step hb0 hb1) _
    have hX2 := hX1.alloc (.cells #[] 2)
    have hXg : w.heap.size < w1.heap.size := hX1.lt
    clear hX1
    generalize w1.alloc (.cells #[] 2) = W1 at *
    generalize w1.heap.size = g1 at *
    have hgb : w.heap.size ≤ g1 := Nat.le_of_lt hXg
    clear hb0 hX0 hb1 C
    go_loopw [6, 7] (fun s6 s wr => ∃ (k : Nat) (v : Value), k ≤ n ∧ s = .int .i64 (k : Int) ∧ v = s6 ∧ ¬ v = .slice none 0 0 ∧ OwnI wr g1 v (upFrom 0 k) ∧ Blk wr w.heap.size 41 (figCells nm B p q) ∧ Below w.heap.size w wr) (fun _ s _ => n - (intOf s).toNat)
    case atStart => exact ⟨0, _, by omega, rfl, rfl, (by intro h; cases h), hE, hX2, hb2⟩
    case round =>
      clear hE hX2 hb2
      obtain ⟨k, v, hk, rfl, rfl, hnn, hO, hX, hb⟩ := hrel
      by_cases hlt : k < n
      · have hlen : (upFrom 0 k).length ≤ 1099511627776 := by rw [upFrom_length]; omega
        have hbs := hO.lt
        have hgl : g1 ≤ wr.heap.size := by
          rcases hO.row with ⟨h, _⟩ | ⟨g, cap, cs, rfl, hge, hBl, _⟩
          · exact absurd h hnn
          · have := hBl.lt; omega
        go_wp2_with (at_builtin; refine wpList_app_int rfl (.tmp 25) (.tmp 27) rfl g1 v (upFrom 0 k) (k : Int) wr.heap.size 1 rfl rfl (hO.alloc _) (app_cell wr _) hlen (Nat.le_trans hgl (below_size (below_alloc (Below.refl _ _) _))) ?_; intro v5 w5 hO5 hg5)
        go_roundw
        case rel => exact ⟨k + 1, v5, by omega, by go_num, rfl, by
          rintro rfl
          have := (hO5.row).resolve_right (by rintro ⟨g, cap, cs, h, _⟩; cases h)
          simp at this, by rw [upFrom_succ0]; exact hO5, Blk.grownP (hX.alloc _) hg5 (fun q hq => by have := (hO.lt q hq).1; omega), below_of_grown (below_alloc hb _) hg5 (base_alloc hb _) (fun q hq => by have := (hO.lt q hq).1; omega)⟩
        case measure => simp [intOf]; omega
      · obtain rfl : k = n := by omega
        rcases hO.row with ⟨h, _⟩ | ⟨g, cap, cs, rfl, hge, hBl, _, hcap, hcs, htk⟩
        · exact absurd h hnn
        obtain ⟨rest, rfl⟩ : ∃ rest, cs = numCells (upFrom 0 k) ++ rest := ⟨cs.drop (upFrom 0 k).length, by rw [← htk, List.take_append_drop]⟩
        rw [upFrom_length] at hcap ⊢
        have hgb2 : w.heap.size ≤ g := by omega
        have hneq : w.heap.size ≠ g := by omega
        obtain ⟨x0, x1⟩ := hX.fig
        have HB0 : Hid (Blk wr g 2 (numCells (partsL (upFrom 0 k) (L.take 0)) ++ rest)) := Lib.hid hBl
        have HX := Lib.hid hX
        clear hnn hO hlt hX hBl htk hcs hgb hXg
        go_wp2_with (fail)
        go_loopw [8, 9, 10, 11] (fun s _ _ _ wq => ∃ j : Nat, j ≤ p ∧ s = .int .i64 (j : Int) ∧ Blk wq g 2 (numCells (partsL (upFrom 0 k) (L.take j)) ++ rest) ∧ Blk wq w.heap.size 41 (figCells nm B p q) ∧ Below w.heap.size w wq) (fun s _ _ _ _ => p - (intOf s).toNat)
        case atStart => exact ⟨0, by omega, rfl, HB0.out, HX.out, hb⟩
        case round =>
          clear HB0 HX hb x0 x1
          obtain ⟨j, hj, rfl, hBl, hX, hb⟩ := hrel
          by_cases hjl : j < p
          · obtain ⟨x, hx⟩ := at_lt (l := L) (k := j) (by have := HP.out; omega)
            obtain ⟨u, v, rfl, hu0, huv, hvn⟩ := lineOk_two (vLines_ok HV.out hx)
            rw [HL.out] at hvn
            obtain ⟨u, rfl⟩ : ∃ u' : Nat, u = u' := ⟨u.toNat, by omega⟩
            obtain ⟨v, rfl⟩ : ∃ v' : Nat, v = v' := ⟨v.toNat, by omega⟩
            have HPT : Hid (partsL (upFrom 0 k) (L.take (j + 1)) = (partsL (upFrom 0 k) (L.take j)).map (joinF (gt (partsL (upFrom 0 k) (L.take j)) v) (gt (partsL (upFrom 0 k) (L.take j)) u))) := Lib.hid (by rw [partsL_take _ hx, joinP_two])
            have HLN : Hid ((partsL (upFrom 0 k) (L.take j)).length = k) := Lib.hid (by rw [partsL_length, upFrom_length])
            obtain ⟨b, o, rfl, hc⟩ := hB.below hb (by have := HP.out; omega)
            obtain ⟨A1, c1, e0, e1, _, _, e4⟩ := hc j _ hx
            obtain ⟨b1, o1, rfl, q0, q1⟩ := ints_two e4
            simp only [List.length_cons, List.length_nil, Nat.zero_add, Nat.reduceAdd] at e0 e1
            have huI : (u : Int) < (k : Int) := by omega
            have hvI : (v : Int) < (k : Int) := by omega
            have hunN : u < k := by omega
            have hvnN : v < k := by omega
            obtain ⟨x0, x1⟩ := hX.fig
            clear hc hx e4
            generalize partsL (upFrom 0 k) (L.take j) = P at *
            have p0 : wr.cell? ⟨g, u, none⟩ = some (.int .i64 (gt P u)) := by rw [hBl.cell]; exact numCells_gt (by rw [HLN.out]; exact hunN)
            have p1 : wr.cell? ⟨g, v, none⟩ = some (.int .i64 (gt P v)) := by rw [hBl.cell]; exact numCells_gt (by rw [HLN.out]; exact hvnN)
            generalize gt P u = own at *
            generalize gt P v = old at *
            have HB2 : Hid (Blk wr g 2 (numCells (mapK (joinF old own) P 0) ++ rest)) := Lib.hid (by rw [mapK_zero]; exact hBl)
            have HX2 := Lib.hid hX
            clear hBl hX
            go_wp2_with (fail)
            go_loopw [11] (fun s wz => ∃ t : Nat, t ≤ k ∧ s = .int .i64 (t : Int) ∧ Blk wz g 2 (numCells (mapK (joinF old own) P t) ++ rest) ∧ Blk wz w.heap.size 41 (figCells nm (some ⟨b, o, none⟩) p q) ∧ Below w.heap.size w wz) (fun s _ => k - (intOf s).toNat)
            case atStart => exact ⟨0, by omega, rfl, HB2.out, HX2.out, hb⟩
            case round =>
              clear HB2 HX2 hb e0 e1 q0 q1 p0 p1 x0 x1
              obtain ⟨t, ht, rfl, hBl, hX, hb⟩ := hrel
              by_cases htl : t < k
              · obtain ⟨z, hz⟩ := at_lt (l := P) (k := t) (by have := HLN.out; omega)
                have htl2 : t < (mapK (joinF old own) P t).length := by rw [mapK_length, HLN.out]; exact htl
                have d0 : wr.cell? ⟨g, t, none⟩ = some (.int .i64 z) := by rw [hBl.cell, numCells_gt htl2, gt_at ((mapK_at _ _ _).trans hz)]
                have f0 := hBl.frozen t
                by_cases hzo : z = old
                · have HM : Hid (mapK (joinF old own) P (t + 1) = (mapK (joinF old own) P t).set t own) := Lib.hid (by rw [mapK_succ hz, hzo, joinF, if_pos rfl])
                  subst hzo
                  clear hz
                  go_wp2_with (fail)
                  go_roundw
                  case rel => exact ⟨t + 1, by omega, by go_num, by rw [HM.out, ← numCells_set2 htl2]; exact hBl.set_ t _, hX.far (by show w.heap.size ≠ g; exact hneq) _, below_setCell0 hb hgb2 _⟩
                  case measure => simp [intOf]; omega
                · have HM : Hid (mapK (joinF old own) P (t + 1) = mapK (joinF old own) P t) := Lib.hid (mapK_same hz (by rw [joinF, if_neg hzo]))
                  have hzo' : (z == old) = false := by simpa using hzo
                  clear hz
                  go_wp2_with (fail)
                  go_roundw
                  case rel => exact ⟨t + 1, by omega, by go_num, by rw [HM.out]; exact hBl, hX, hb⟩
                  case measure => simp [intOf]; omega
              · obtain rfl : t = k := by omega
                have HM : Hid (mapK (joinF old own) P t = P.map (joinF old own)) := Lib.hid (mapK_end (by rw [HLN.out]; exact Nat.le_refl _))
                rw [HM.out, ← HPT.out] at hBl
                go_wp2_with (fail)
                go_roundw
                case rel => exact ⟨j + 1, by omega, by go_num, hBl, hX, hb⟩
                case measure => simp [intOf]; omega
          · obtain rfl : j = p := by omega
            have HA : Hid (partsL (upFrom 0 k) (L.take j) = partsL (upFrom 0 k) L) := Lib.hid (by rw [List.take_of_length_le (by have := HP.out; omega)])
            rw [HA.out] at hBl
            have HLN : Hid ((partsL (upFrom 0 k) L).length = k) := Lib.hid (by rw [partsL_length, upFrom_length])
            have HVk : Hid (vLines (k : Int) L = true) := Lib.hid (by rw [← HL.out]; exact HV.out)
            obtain ⟨x0, x1⟩ := hX.fig
            have hx1' : (wr.alloc (.cells #[] 2)).cell? ⟨w.heap.size, 1, none⟩ = some (.slice B j q) := ((below_alloc (Below.refl wr.heap.size wr) (.cells #[] 2)).cell (p := ⟨w.heap.size, 1, none⟩) hX.lt).trans x1
            have C2 := Lib.hid (l08Stars_any _ w.heap.size B j q L (wr.alloc (.cells #[] 2)) HP.out HV.out hx1' ((hB.below hb).below (below_alloc (Below.refl _ _) _)))
            have hE0 := OwnI.empty wr w.heap.size (Nat.le_of_lt hX.lt)
            have hb1 : Below w.heap.size w (wr.alloc (.cells #[] 2)) := below_alloc hb _
            have hBl1 := hBl.alloc (.cells #[] 2)
            have hgw : g < wr.heap.size := hBl.lt
            have hE1 := OwnI.empty wr wr.heap.size (Nat.le_refl _)
            clear HA hX hx1' hE0 hBl hb
            generalize partsL (upFrom 0 k) L = P at *
            go_wp2_with (fail)
            clear x0 x1
            generalize wr.alloc (.cells #[] 2) = W1 at *
            generalize wr.heap.size = g2 at *
            refine C2.out.mono ?_
            rintro e w2 ⟨v2, rfl, hO2, hb2⟩
            have hBl2 := hBl1.keep hb2
            have hE2 := hE1.below hb2
            have hbb := below_step hb1 hb2
            have hlen : Hid ((setI (endsL L)).length ≤ 32) := Lib.hid (ends_len HV.out)
            have HEA : Hid (∀ (k2 : Nat) (x : Int), (setI (endsL L))[k2]? = some x → 0 ≤ x ∧ x < (k : Int)) := Lib.hid (fun k2 x hx => ends_at HVk.out hx)
            have hsz : g2 < W1.heap.size := (hE1.lt _ rfl).2
            have hsz3 : g2 < w2.heap.size := Nat.lt_of_lt_of_le hsz hb2.size
            clear hBl1 hb1 hE1 hb2 C2 HVk
            generalize setI (endsL L) = E at *
            obtain ⟨A2, c2, rfl, hI2, _, _, _, _⟩ := hO2.form2
            clear hO2
            have hlenE := hlen.out
            generalize hnE : E.length = ne at *
            have HNE := Lib.hid hnE
            clear hnE
            go_wp2_with (fail)
            go_loopw [12, 14] (fun s12 s wq => ∃ (t : Nat) (v : Value), t ≤ ne ∧ s = .int .i64 (t : Int) ∧ v = s12 ∧ OwnI wq g2 v (setI (kindsL P (E.take t))) ∧ Below w2.heap.size w2 wq) (fun _ s _ => ne - (intOf s).toNat)
            case atStart => exact ⟨0, _, by omega, rfl, rfl, hE2, Below.refl _ _⟩
            case round =>
              clear hE2
              obtain ⟨t, v, ht, rfl, rfl, hO, hb3⟩ := hrel
              have HDL : Hid ((setI (kindsL P (E.take t))).length ≤ 32) := Lib.hid (by have h1 := setI_len (kindsL P (E.take t)); simp only [kindsL, List.length_map, List.length_take] at h1 ⊢; have := HNE.out; omega)
              by_cases htl : t < ne
              · obtain ⟨x, hx⟩ := at_lt (l := E) (k := t) (by have := HNE.out; omega)
                obtain ⟨hx0, hxk⟩ := HEA.out t x hx
                obtain ⟨i, rfl⟩ : ∃ i : Nat, x = i := ⟨x.toNat, by omega⟩
                have HK : Hid (setI (kindsL P (E.take (t + 1))) = putI (gt P i) (setI (kindsL P (E.take t)))) := Lib.hid (setKinds_succ hx)
                obtain ⟨b, o, rfl, hc⟩ := (hI2.below hb3) (by have := HNE.out; omega)
                have c0 := hc t _ hx
                have hB3 := hBl2.keep hb3
                have p0 : wr.cell? ⟨g, i, none⟩ = some (.int .i64 (gt P i)) := by rw [hB3.cell]; exact numCells_gt (by have := HLN.out; omega)
                clear hx hc hB3
                generalize gt P i = z at *
                generalize setI (kindsL P (E.take t)) = D at *
                obtain ⟨A3, c3, rfl, hI3, _, _, _, _⟩ := hO.form2
                have CC := Lib.hid (l00Put_any A3 D.length c3 D z wr rfl (by have := HDL.out; omega) hI3)
                go_wp2_with (refine CC.out.mono ?_; rintro e w4 ⟨v4, rfl, hO4, hb4⟩)
                go_roundw
                case rel => exact ⟨t + 1, v4, by omega, by go_num, rfl, by rw [HK.out]; exact hO4.base_le (by have := hb3.size; omega), below_step hb3 hb4⟩
                case measure => simp [intOf]; omega
              · obtain rfl : t = ne := by omega
                obtain ⟨A3, c3, rfl, _, _, _, _, _⟩ := hO.form2
                have HZ : Hid (setI (kindsL P (E.take t)) = setI (kindsL P E)) := Lib.hid (by rw [List.take_of_length_le (by have := HNE.out; omega)])
                rw [HZ.out]
                have hsz2 : (setI (kindsL P E)).length ≤ 32 := by rw [← HZ.out]; exact HDL.out
                go_wp2_with (fail)
                go_ret2
                exact ⟨by rw [HL.out, HO.out]; rfl, below_step hbb hb3⟩
end Go.Proofs.Ytoklogldehikeaa
