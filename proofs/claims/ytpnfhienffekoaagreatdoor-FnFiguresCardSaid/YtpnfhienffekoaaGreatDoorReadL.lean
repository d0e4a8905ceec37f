/- Contracts of the functions that read lists of numbers. -/
import Derived.Test.YtpnfhienffekoaaGreatDoorReadS
namespace Go.Proofs.YtpnfhienffekoaaGreatDoor
set_option linter.unusedVariables false
set_option linter.unusedSimpArgs false
open Go.RowKit
theorem listR_dash : listR [45] = some [] := by unfold listR; rw [if_pos rfl]
theorem listR_long {l : List UInt8} (h : l ≠ [45]) (h2 : 64 < (partsL 44 l).length) : listR l = none := by unfold listR; rw [if_neg h, if_pos h2]
theorem listR_num {l p : List UInt8} (h : l ≠ [45]) (hp : p ∈ partsL 44 l) (hn : numL p = none) : listR l = none := by
  unfold listR; rw [if_neg h]; split
  · rfl
  · rw [numsL_none hp hn]
theorem numsL_mem : ∀ {ws : List (List UInt8)} {ns : List Int} {w : List UInt8} {m : Int}, numsL ws = some ns → w ∈ ws → numL w = some m → m ∈ ns
  | [], _, _, _, _, hw, _ => by cases hw
  | v :: r, ns, w, m, h, hw, hm => by
    cases hv : numL v with
    | none => rw [numsL_head hv] at h; cases h
    | some a =>
      cases hr : numsL r with
      | none => rw [numsL_tail hr] at h; cases h
      | some b =>
        rw [numsL_cons hv hr] at h
        injection h with h
        subst h
        rcases List.mem_cons.1 hw with rfl | hw
        · rw [hv] at hm; injection hm with hm; subst hm; exact List.mem_cons_self ..
        · exact List.mem_cons_of_mem _ (numsL_mem hr hw hm)
theorem listR_fit {l p : List UInt8} {m : Int} (h : l ≠ [45]) (hp : p ∈ partsL 44 l) (hn : numL p = some m) (hb : inB m (-1000000000000) 1000000000000 = false) : listR l = none := by
  unfold listR; rw [if_neg h]; split
  · rfl
  · cases hns : numsL (partsL 44 l) with
    | none => rfl
    | some ns =>
      have hm := numsL_mem hns hp hn
      have : fitsL ns = false := by
        rw [Bool.eq_false_iff]; intro hf
        have := List.all_eq_true.1 hf m hm
        rw [hb] at this; cases this
      simp only [this]
      rfl
theorem listR_ok {l : List UInt8} {ns : List Int} (h : l ≠ [45]) (h2 : (partsL 44 l).length ≤ 64) (hn : numsL (partsL 44 l) = some ns) (hf : fitsL ns = true) : listR l = some ns := by
  unfold listR; rw [if_neg h, if_neg (by omega), hn]
  simp only [hf, if_true]
theorem fits_snoc {ns : List Int} {m : Int} (h : fitsL ns = true) (hm : inB m (-1000000000000) 1000000000000 = true) : fitsL (ns ++ [m]) = true := by
  unfold fitsL at *; rw [List.all_append, h]; simp [hm]
theorem tx_dash {s : ByteArray} : s.data.toList = [45] ↔ s = ⟨#[45]⟩ := ⟨fun h => ba_ext h, fun h => by rw [h]⟩
/-- a list that was read -/
def ListRet (l : List UInt8) (w : World) (e : Ending) (w' : World) : Prop := Below w.heap.size w w' ∧ ((listR l = none ∧ e = .returned (.tuple #[.slice none 0 0, .bool false])) ∨ ∃ (ns : List Int) (v : Value), listR l = some ns ∧ e = .returned (.tuple #[v, .bool true]) ∧ OwnI w' w.heap.size v ns)
set_option maxHeartbeats 4000000 in
theorem ReadList_any (s : ByteArray) (w : World) (hs : s.size ≤ 1048576) (hT : TxtOk w) :
    Calls Tryz.prog 54 #[.string s] w (ListRet s.data.toList w) := by
  by_cases hd : s.data.toList = [45]
  · have e := tx_dash.1 hd
    subst e
    have HO := Lib.hid listR_dash
    clear hd hs
    go_enter Tryz.func54, Tryz.ntmps54
    go_wp2_with (fail)
    go_ret2
    exact ⟨Below.refl _ _, .inr ⟨[], _, HO.out, rfl, OwnI.nil _ _⟩⟩
  · have hq : (s.toList == [45]) = false := by rw [beq_eq_false_iff_ne, ByteArray.toList_eq]; exact hd
    have HD := Lib.hid hd
    have HT := Lib.hid hT
    have CS := Lib.hid (Split_any s 44 w hs hT.maxl)
    have hn := parts_length 44 s.data.toList
    rw [len_data] at hn
    have HW : Hid (∀ p ∈ partsL 44 s.data.toList, p.length ≤ 1048576) := Lib.hid (fun p hp => by have := parts_mem 44 s.data.toList p hp; rw [len_data] at this; omega)
    have H1 := Lib.hid (fun h2 => listR_long HD.out h2)
    have H2 := Lib.hid (fun p hp hn => listR_num (p := p) HD.out hp hn)
    have H3 := Lib.hid (fun p m hp hn hb => listR_fit (p := p) (m := m) HD.out hp hn hb)
    have H4 := Lib.hid (fun ns h2 hn hf => listR_ok (ns := ns) HD.out h2 hn hf)
    generalize partsL 44 s.data.toList = ps at *
    obtain ⟨n, hnl⟩ : ∃ n, n = ps.length := ⟨_, rfl⟩
    rw [← hnl] at CS hn
    have HN := Lib.hid hnl
    clear hnl hd hT
    go_enter Tryz.func54, Tryz.ntmps54
    go_wp2_with (refine CS.out.mono ?_; rintro e w1 ⟨rfl, hB1, hb1⟩)
    have hE := OwnI.nil w1 w1.heap.size
    go_loopw [4, 6, 7, 8, 14] (fun s4 _ _ _ s14 wr => ∃ (k : Nat) (v : Value) (ns : List Int), k ≤ n ∧ k ≤ 64 ∧ s14 = .int .i64 (k : Int) ∧ v = s4 ∧ OwnI wr w1.heap.size v ns ∧ numsL (ps.take k) = some ns ∧ fitsL ns = true ∧ Below w1.heap.size w1 wr) (fun _ _ _ _ s14 _ => n - (intOf s14).toNat)
    case atStart => exact ⟨0, _, [], by omega, by omega, rfl, rfl, hE, by rw [List.take_zero]; rfl, rfl, Below.refl _ _⟩
    case round =>
      clear hE
      obtain ⟨k, v, ns, hk, hk64, rfl, rfl, hO, hns, hfit, hb⟩ := hrel
      have HNS := Lib.hid hns
      have HF := Lib.hid hfit
      have hnl := numsL_length hns
      rw [List.length_take] at hnl
      clear hns hfit
      by_cases hlt : k < n
      · have hnk : ns.length = k := by have := HN.out; omega
        obtain ⟨p, hp⟩ := at_lt (l := ps) (k := k) (by have := HN.out; omega)
        have hB := hB1.keep hb
        have c0 : wr.cell? ⟨w.heap.size, k, none⟩ = some (.string (tx p)) := by rw [hB.cell]; exact strCells_at (by simp [hp])
        have hgl := hB.lt
        have hpl : (tx p).size ≤ 1048576 := by rw [tx_size]; exact HW.out p (List.mem_of_getElem? hp)
        have CD := Lib.hid (ReadDecimal_any (tx p) wr hpl (HT.out.below (below_step hb1 hb)))
        rw [tx_data] at CD
        have HTK : Hid (ps.take (k + 1) = ps.take k ++ [p]) := Lib.hid (by rw [List.take_add_one, hp]; rfl)
        have HMEM := Lib.hid (List.mem_of_getElem? hp)
        obtain ⟨A, c, rfl, hI⟩ := hO.form
        rw [hnk] at hO ⊢
        have hsz1 := hb1.size
        have hsz := hb.size
        clear hp hpl hI hnl
        cases hnum : numL p with
        | none =>
          have HV := Lib.hid (numV_none hnum)
          have HO := Lib.hid (H2.out p HMEM.out hnum)
          rw [HV.out.1, HV.out.2] at CD
          clear hnum
          generalize tx p = y at *
          go_wp2_with (refine CD.out.mono ?_; rintro e w2 ⟨rfl, hb2⟩)
          go_ret2
          exact ⟨below_step (below_step hb1 hb) hb2, .inl ⟨HO.out, rfl⟩⟩
        | some m =>
          have HV := Lib.hid (numV_some hnum)
          rw [HV.out.1, HV.out.2] at CD
          have CW := Lib.hid (fun W => within_any m (-1000000000000) 1000000000000 W)
          cases hin : inB m (-1000000000000) 1000000000000 with
          | false =>
            have HO := Lib.hid (H3.out p m HMEM.out hnum hin)
            rw [hin] at CW
            clear hnum hin
            generalize tx p = y at *
            go_wp2_with (first | (go_at_call 106; refine CD.out.mono ?_; rintro e w2 ⟨rfl, hb2⟩) | (go_at_call 79; refine (CW.out _).mono ?_; rintro e w3 ⟨rfl, rfl⟩))
            go_ret2
            exact ⟨below_step (below_step hb1 hb) hb2, .inl ⟨HO.out, rfl⟩⟩
          | true =>
            have HNS2 := Lib.hid (numsL_snoc HNS.out hnum)
            rw [← HTK.out] at HNS2
            have HF2 := Lib.hid (fits_snoc HF.out hin)
            rw [hin] at CW
            clear hnum hin
            by_cases h64 : k = 64
            · have HO := Lib.hid (H1.out (by have := HN.out; omega))
              have h64' : ((k : Int) == 64) = true := by rw [beq_iff_eq]; omega
              clear h64
              generalize tx p = y at *
              go_wp2_with (first | (go_at_call 106; refine CD.out.mono ?_; rintro e w2 ⟨rfl, hb2⟩) | (go_at_call 79; refine (CW.out _).mono ?_; rintro e w3 ⟨rfl, rfl⟩))
              go_ret2
              exact ⟨below_step (below_step hb1 hb) hb2, .inl ⟨HO.out, rfl⟩⟩
            · have h64' : ((k : Int) == 64) = false := by rw [beq_eq_false_iff_ne]; omega
              have hk63 : k ≤ 63 := by omega
              have HL1 : Hid (ns.length ≤ 1099511627776) := Lib.hid (by omega)
              have HNK := Lib.hid hnk
              clear h64 hnk
              generalize tx p = y at *
              go_wp2_with (first | (go_at_call 106; refine CD.out.mono ?_; rintro e w2 ⟨rfl, hb2⟩; have hO2 := hO.below hb2; have hlt2 := (fun q hq => hO2.lt q hq); have hsz2 := hb2.size) | (go_at_call 79; refine (CW.out _).mono ?_; rintro e w3 ⟨rfl, rfl⟩) | (at_builtin; refine wpList_app_int rfl (.tmp 35) (.tmp 37) rfl w1.heap.size (.slice A k c) ns m w2.heap.size 1 rfl rfl (hO2.alloc _) (by simp [go_sem]) HL1.out (by simp; omega) ?_; intro v6 w6 hO6 hg6))
              have hb6 := below_of_grown (below_alloc (below_step hb hb2) _) hg6 (by simp; omega) (fun q hq => (hlt2 q hq).1)
              go_roundw
              case rel => exact ⟨k + 1, v6, _, by omega, by omega, by go_num, rfl, hO6, HNS2.out, HF2.out, hb6⟩
              case measure => simp [intOf]; omega
      · have hns := HNS.out
        rw [List.take_of_length_le (by have := HN.out; omega)] at hns
        have HO := Lib.hid (H4.out ns (by have := HN.out; omega) hns HF.out)
        clear hns
        go_wp2_with (fail)
        go_ret2
        exact ⟨below_step hb1 hb, .inr ⟨ns, v, HO.out, rfl, hO.base_le hb1.size⟩⟩
end Go.Proofs.YtpnfhienffekoaaGreatDoor
