/- Contract of the reference's function on the shortest tour. -/
import Derived.Test.YtbpjnopnhmoigaaDoorBestS
namespace Go.Proofs.YtbpjnopnhmoigaaDoor
set_option linter.unusedVariables false
set_option linter.unusedSimpArgs false
open Go.RowKit
attribute [local go_sem ↓] Go.wp_at_zero Go.wp_at_succ
def startCells (vt : Value) (og : Nat) (b : Int) : List Value := [vt, .slice (some ⟨og, 0, none⟩) 1 1, .int .i64 0, .slice none 0 0, .int .i64 (-1), .int .i64 0, .int .i64 b, .bool false]
theorem run_start {w : World} {base og n : Nat} {l : List Sta} {vt : Value} {s b : Int} (hB : Blk w (og + 1) 87 (startCells vt og b)) (hO : OwnI w base (.slice (some ⟨og, 0, none⟩) 1 1) [s]) (hT : TabR w (og + 2) vt l n n) (hn : 0 < n) (hbase : base ≤ og) :
    ∃ tb tc, RunSt w base (og + 1) (og + 2) w.heap.size tb n tc l (.slice (some ⟨og, 0, none⟩) 1 1) [s] 0 (.slice none 0 0) ⟨[], -1, b⟩ b false := by
  obtain ⟨tb, tc, rfl, hAt⟩ := hT.at_ hn
  refine ⟨tb, tc, by simpa [startCells, runCells] using hB, by omega, by omega, hAt, hO, OwnI.nil _ _, fun q h1 h2 => by simp [Value.ownBlock] at h2, fun q hq => ?_, fun q hq => by simp [Value.ownBlock] at hq⟩
  simp only [Value.ownBlock, Option.some.injEq] at hq
  omega
set_option maxRecDepth 100000 in
set_option maxHeartbeats 8000000 in
theorem sBestTour_any (A : Option Addr) (n c : Nat) (l : List Sta) (s b : Int) (w : World) (hl : l.length = n) (hn : n ≤ 9223372036854775807) (hA : Stars w A l) :
    Calls Tryd.prog 12 #[.slice A n c, .int .i64 s, .int .i64 b] w fun e w' => ∃ v : Value, e = .returned (.tuple #[v, .int .i64 (bestO l s b).2.1, .int .i64 (bestO l s b).2.2]) ∧ OwnI w' w.heap.size v (bestO l s b).1 ∧ Below w.heap.size w w' := by
  have HL := Lib.hid hl; clear hl
  have V : Hid (∀ W (A : Option Addr), Stars W A l → Calls Tryd.prog 53 #[.slice A n c] W fun e w' => e = .returned (.bool (vStars l)) ∧ Below W.heap.size W w') := fun W A hW => l05Ok_any A n c l W HL.out hn hW
  cases hv : vStars l with
  | false =>
    have HO := Lib.hid (bestO_no (s := s) (b := b) hv)
    rw [hv] at V
    clear hv
    go_enter Tryd.func12, Tryd.ntmps12
    go_wp2_with (refine (V.out _ _ hA).mono ?_; rintro e w1 ⟨rfl, hb1⟩)
    go_ret3
    exact ⟨.slice none 0 0, by rw [HO.out]; rfl, by rw [HO.out]; exact OwnI.nil _ _, hb1⟩
  | true =>
    have h24 : n ≤ 24 := by have := vStars_len hv; have := HL.out; omega
    rw [hv] at V
    cases hr : inB s 0 ((n : Int) - 1) with
    | false =>
      have HO := Lib.hid (bestO_bad (b := b) hv (.inl (by rw [HL.out]; exact hr)))
      have R : Hid (∀ W, Calls Tryd.prog 54 #[.int .i64 s, .int .i64 0, .int .i64 ((n : Int) - 1)] W fun e w' => e = .returned (.bool false) ∧ W = w') := Lib.hid (fun W => by rw [← hr]; exact l00In_any _ _ _ _)
      clear hv hr
      go_enter Tryd.func12, Tryd.ntmps12
      go_wp2_with (first | (go_at_call 53; refine (V.out _ _ hA).mono ?_; rintro e w1 ⟨rfl, hb1⟩) | (go_at_call 54; refine (R.out _).mono ?_; rintro e w' ⟨rfl, rfl⟩))
      go_ret3
      exact ⟨.slice none 0 0, by rw [HO.out]; rfl, by rw [HO.out]; exact OwnI.nil _ _, hb1⟩
    | true =>
      cases hb : inB b 1 20000 with
      | false =>
        have HO := Lib.hid (bestO_bad (s := s) hv (.inr hb))
        have R : Hid (∀ W, Calls Tryd.prog 54 #[.int .i64 s, .int .i64 0, .int .i64 ((n : Int) - 1)] W fun e w' => e = .returned (.bool true) ∧ W = w') := Lib.hid (fun W => by rw [← hr]; exact l00In_any _ _ _ _)
        have R2 : Hid (∀ W, Calls Tryd.prog 54 #[.int .i64 b, .int .i64 1, .int .i64 20000] W fun e w' => e = .returned (.bool false) ∧ W = w') := Lib.hid (fun W => by rw [← hb]; exact l00In_any _ _ _ _)
        clear hv hr hb
        go_enter Tryd.func12, Tryd.ntmps12
        go_wp2_with (first | (go_at_call 53; refine (V.out _ _ hA).mono ?_; rintro e w1 ⟨rfl, hb1⟩; have hk := R.out w1) | (go_at_call 54; refine hk.mono ?_; rintro e w2 ⟨rfl, rfl⟩; clear hk; have hk := R2.out w1))
        go_ret3
        exact ⟨.slice none 0 0, by rw [HO.out]; rfl, by rw [HO.out]; exact OwnI.nil _ _, hb1⟩
      | true =>
        have R : Hid (∀ W, Calls Tryd.prog 54 #[.int .i64 s, .int .i64 0, .int .i64 ((n : Int) - 1)] W fun e w' => e = .returned (.bool true) ∧ W = w') := Lib.hid (fun W => by rw [← hr]; exact l00In_any _ _ _ _)
        have R2 : Hid (∀ W, Calls Tryd.prog 54 #[.int .i64 b, .int .i64 1, .int .i64 20000] W fun e w' => e = .returned (.bool true) ∧ W = w') := Lib.hid (fun W => by rw [← hb]; exact l00In_any _ _ _ _)
        have hs : 0 ≤ s ∧ s < n := by rw [inB_iff] at hr; omega
        have hbb : 0 ≤ b ∧ b ≤ 20000 := by rw [inB_iff] at hb; omega
        have HOK := SrchOk.start hb
        have HVS := Lib.hid hv
        have HFULL : Hid (extB l (n - 1) [s] 0 ⟨[], -1, b⟩ = none → bestO l s b = ([], 0, 5)) := Lib.hid (fun h => bestO_full hv (by rw [HL.out]; exact hr) hb (by rw [HL.out]; exact h))
        have HYES : Hid (∀ t, extB l (n - 1) [s] 0 ⟨[], -1, b⟩ = some t → bestO l s b = (t.best, t.least, 0)) := Lib.hid (fun t h => bestO_yes hv (by rw [HL.out]; exact hr) hb (by rw [HL.out]; exact h))
        have CE : Hid (∀ (g lo hi tb tc : Nat) (vo : Value) (W : World), RunSt W w.heap.size g lo hi tb n tc l vo [s] 0 (.slice none 0 0) ⟨[], -1, b⟩ b false → Below w.heap.size w W → Calls Tryd.prog 56 #[.pointer (some ⟨g, 0, none⟩)] W (RunPost w g lo hi tb n tc l [s] 0 b (extB l (n - 1) [s] 0 ⟨[], -1, b⟩))) := Lib.hid (fun g lo hi tb tc vo W h1 h2 =>
          run_any g lo hi tb tc n l w HL.out h24 b hbb.1 hbb.2 (n - 1) [s] 0 _ vo _ W h1 h2 (by simp) (by simp; omega) (fun j i hj => by
            cases j with
            | zero => simp only [List.getElem?_cons_zero, Option.some.injEq] at hj; omega
            | succ j => simp at hj) (by omega) (by omega) HOK)
        clear hv hr hb HOK
        generalize extB l (n - 1) [s] 0 ⟨[], -1, b⟩ = E at *
        go_enter Tryd.func12, Tryd.ntmps12
        go_wp2_with (first | (go_at_call 53; refine (V.out _ _ hA).mono ?_; rintro e w1 ⟨rfl, hb1⟩; have hk := R.out w1) | (go_at_call 54; refine hk.mono ?_; rintro e w2 ⟨rfl, rfl⟩; clear hk; have hk := R2.out w1))
        have hO0 : OwnI ((w1.alloc (.cells #[.int .i64 s] 2)).alloc (.cells #[.slice none 0 0, .slice (some ⟨w1.heap.size, 0, none⟩) 1 1, .int .i64 0, .slice none 0 0, .int .i64 (-1), .int .i64 0, .int .i64 b, .bool false] 87)) w.heap.size (.slice (some ⟨w1.heap.size, 0, none⟩) 1 1) [s] := (OwnI.one w1 w.heap.size s hb1.size).alloc _
        have hX0 : Blk ((w1.alloc (.cells #[.int .i64 s] 2)).alloc (.cells #[.slice none 0 0, .slice (some ⟨w1.heap.size, 0, none⟩) 1 1, .int .i64 0, .slice none 0 0, .int .i64 (-1), .int .i64 0, .int .i64 b, .bool false] 87)) (w1.heap.size + 1) 87 (startCells (.slice none 0 0) w1.heap.size b) := by
          have := Blk.new (w1.alloc (.cells #[.int .i64 s] 2)) 87 (startCells (.slice none 0 0) w1.heap.size b)
          simpa [startCells] using this
        have hbs := hb1.size
        have hb2 := below_alloc (below_alloc hb1 (.cells #[.int .i64 s] 2)) (.cells #[.slice none 0 0, .slice (some ⟨w1.heap.size, 0, none⟩) 1 1, .int .i64 0, .slice none 0 0, .int .i64 (-1), .int .i64 0, .int .i64 b, .bool false] 87)
        have hsz : ((w1.alloc (.cells #[.int .i64 s] 2)).alloc (.cells #[.slice none 0 0, .slice (some ⟨w1.heap.size, 0, none⟩) 1 1, .int .i64 0, .slice none 0 0, .int .i64 (-1), .int .i64 0, .int .i64 b, .bool false] 87)).heap.size = w1.heap.size + 2 := by simp
        clear hk R R2 V hb1
        generalize (w1.alloc (.cells #[.int .i64 s] 2)).alloc (.cells #[.slice none 0 0, .slice (some ⟨w1.heap.size, 0, none⟩) 1 1, .int .i64 0, .slice none 0 0, .int .i64 (-1), .int .i64 0, .int .i64 b, .bool false] 87) = W1 at *
        generalize hog : w1.heap.size = og at *
        clear hog
        go_loopw [11, 12, 13] (fun s11 _ _ wr => ∃ (i : Nat) (vt : Value), i ≤ n ∧ s11 = .int .i64 (i : Int) ∧ TabR wr (og + 2) vt l n i ∧ Blk wr (og + 1) 87 (startCells vt og b) ∧ OwnI wr w.heap.size (.slice (some ⟨og, 0, none⟩) 1 1) [s] ∧ Below w.heap.size w wr ∧ og + 2 ≤ wr.heap.size) (fun s11 _ _ _ => n - (intOf s11).toNat)
        case atStart => exact ⟨0, .slice none 0 0, by omega, rfl, TabR.start _ _ _ _, hX0, hO0, hb2, by omega⟩
        case round =>
          clear hX0 hO0 hb2 hsz
          obtain ⟨i, vt, hi, rfl, hT, hX, hO, hb, hz⟩ := hrel
          by_cases hlt : i < n
          · obtain ⟨x, hx⟩ := at_lt (l := l) (k := i) (by have := HL.out; omega)
            have ax := ok_ang (vStars_ok HVS.out hx)
            have HXI := Lib.hid hx
            clear hx
            have hltI : (i : Int) < n := by omega
            have hE := OwnI.empty wr wr.heap.size (Nat.le_refl _)
            have hbe := below_alloc (Below.refl wr.heap.size wr) (.cells #[] 2)
            go_wp2_with (fail)
            generalize wr.alloc (.cells #[] 2) = W2 at *
            obtain ⟨wo, rfl⟩ : ∃ wo : World, wo = wr := ⟨_, rfl⟩
            go_loopw [12, 13] (fun s12 s13 wq => ∃ k : Nat, k ≤ n ∧ s13 = .int .i64 (k : Int) ∧ OwnI wq wo.heap.size s12 (gapRow l i k) ∧ Below wo.heap.size wo wq) (fun _ s13 _ => n - (intOf s13).toNat)
            case atStart => exact ⟨0, by omega, rfl, hE, hbe⟩
            case round =>
              clear hE hbe
              obtain ⟨k, hk, rfl, hR, hq⟩ := hrel
              have hbq := below_step hb hq
              by_cases hlk : k < n
              · obtain ⟨y, hy⟩ := at_lt (l := l) (k := k) (by have := HL.out; omega)
                have ay := ok_ang (vStars_ok HVS.out hy)
                have hltK : (k : Int) < n := by omega
                obtain ⟨b0, o0, rfl, hc⟩ := hA.below hbq (by have := HL.out; omega)
                have s1 := hc i x HXI.out
                have s2 := hc k y hy
                have HG := Lib.hid (gapL_at HXI.out hy)
                have HSUC := Lib.hid (gapRow_succ l i k)
                have HLEN := Lib.hid (gapRow_length l i k)
                have hsz1 := hq.size
                have C : Hid (∀ W, Below wr.heap.size wr W → Calls Tryd.prog 55 #[.pointer (some ⟨b0, o0 + i * 5, none⟩), .pointer (some ⟨b0, o0 + k * 5, none⟩)] W fun e w' => e = .returned (.int .i64 (gapL l i k)) ∧ Below W.heap.size W w') := Lib.hid (fun W hW => by
                  have := l08Far_any b0 _ b0 _ x y W (s1.below hW) (s2.below hW) ax ay
                  rw [HG.out]; exact this)
                clear hy s1 s2 hc
                rename_i v12
                obtain ⟨RA, rc, he, hRI, hRl, hRc, hRn, _⟩ := hR.form2
                rw [HLEN.out] at he hRl
                subst he
                have HL1 : Hid ((gapRow l i k).length ≤ 1099511627776) := Lib.hid (by rw [HLEN.out]; omega)
                clear hRI
                generalize gapL l i k = gp at *
                go_wp2_with (fail)
                have hdr : Below wr.heap.size wr wr.drew := below_drew0 (Below.refl _ _)
                go_region_law (first
                  | (refine step_app_int (by rfl) (.tmp 45) (.tmp 53) (by rfl) wo.heap.size (.slice RA k rc) (gapRow l i k) gp w6.heap.size 1 (by rfl) (by rfl) ((hR.below hb6r).alloc _) (by simp) HL1.out hs6 ?_; intro v7 w7 hO7 hg7)
                  | (go_simp; go_at_call 55; refine (C.out _ (by repeat (first | exact Below.refl _ _ | refine below_alloc ?_ _ | refine below_drew0 ?_))).mono ?_; rintro e w6 ⟨rfl, hb6⟩; have hb6r : Below wr.heap.size wr w6 := below_step hdr hb6; have hs6 : wo.heap.size ≤ (w6.alloc (.cells #[.int .i64 gp] 2)).heap.size := Nat.le_trans hsz1 (Nat.le_trans hb6r.size (by simp))))
                all_goals
                  have hb8 := below_of_grown (below_alloc (below_step hq hb6r) (.cells #[.int .i64 gp] 2)) hg7 hs6 (fun q hq => (hR.lt q hq).1)
                  rw [← HSUC.out] at hO7
                  go_wp2_with (fail)
                  go_roundw
                  case rel => exact ⟨k + 1, by omega, by go_num, hO7, hb8⟩
                  case measure => simp [intOf]; omega
              · obtain rfl : k = n := by omega
                have hTq := hT.keep hq
                have hXq := hX.keep hq
                have hOq := hO.below hq
                obtain ⟨TA, tc, rfl, hTb⟩ := hT.form
                have HLR := Lib.hid (gapRow_length l i k)
                obtain ⟨rq, rc, he, hr1, hr2, hr3, hr4, _⟩ := hR.form3 (by rw [HLR.out]; omega)
                rw [HLR.out] at he hr3
                subst he
                have hRb := hR.base_le hz
                have hne : (Value.slice TA i tc).ownBlock ≠ some rq := by
                  rcases hTb with e | ⟨g, e, _, hg⟩
                  · rw [e]; exact fun h => (by cases h)
                  · rw [e]; intro h; injection h with h; omega
                have hba := below_alloc (Below.refl wr.heap.size wr) (.cells #[.slice (some ⟨rq, 0, none⟩) k rc] 24)
                obtain ⟨rows, u1, u2, u3⟩ := (hTq.keep hba).own
                have hRa := hRb.below hba
                have x0 : wr.cell? ⟨og + 1, 0, none⟩ = some (.slice TA i tc) := by rw [hXq.cell]; rfl
                have hxl := hXq.lt
                have HRL : Hid (rows.length ≤ 1099511627776) := Lib.hid (by omega)
                have hbz : og + 2 ≤ (wr.alloc (.cells #[.slice (some ⟨rq, 0, none⟩) k rc] 24)).heap.size := Nat.le_trans hz (Nat.le_trans hq.size hba.size)
                have hown : ∀ q, (Value.slice TA i tc).ownBlock = some q → og + 2 ≤ q := fun q hq => (u1.lt q hq).1
                go_wp2_with (at_builtin; go_loud (refine wpList_app_v rfl (.tmp 59) (.tmp 61) rfl (og + 2) (.slice TA i tc) rows (.slice (some ⟨rq, 0, none⟩) k rc) wr.heap.size 1 rfl rfl rfl u1 (by simp) HRL.out hbz ?_; intro v8 w8 hO8 hg8 hl8
                                                  have hX8 := (hXq.keep hba).grownP hg8 (fun q hq => by have := hown q hq; omega)
                                                  have hO9 := (hOq.below hba).only hg8 (fun q h1 h2 => by have := hown q h2; simp only [Value.ownBlock, Option.some.injEq] at h1; omega)
                                                  have hT8 := TabR.snoc u1 u2 u3 hRa hne hO8 hg8 hl8
                                                  have j1 := hX8.cell 0
                                                  have j2 := hX8.frozen 0
                                                  have j3 := hX8.lt
                                                  have hb8 := below_of_grown (below_step (below_step hb hq) hba) hg8 (below_step (below_step hb hq) hba).size (fun q hq => by have := hown q hq; omega)
                                                  have hz8 : og + 2 ≤ w8.heap.size := Nat.le_trans hbz hg8.size
                                                  obtain ⟨TA8, tc8, rfl, _, _, _, _⟩ := hO8.form
                                                  simp only [startCells, List.getElem?_cons_zero] at j1))
                have hT9 := hT8.turned (only_set (World.grownBy.refl w8 (some (og + 1))) 0 (.slice TA8 (rows ++ [Value.slice (some ⟨rq, 0, none⟩) k rc]).length tc8)) (fun q hq => by injection hq with hq; omega)
                have hX9 : Blk (w8.setCell ⟨og + 1, 0, none⟩ (.slice TA8 (rows ++ [Value.slice (some ⟨rq, 0, none⟩) k rc]).length tc8)) (og + 1) 87 (startCells (.slice TA8 (rows ++ [Value.slice (some ⟨rq, 0, none⟩) k rc]).length tc8) og b) := hX8.set_ 0 _
                have hO10 := own_set hO9 (g := og + 1) 0 (.slice TA8 (rows ++ [Value.slice (some ⟨rq, 0, none⟩) k rc]).length tc8) (fun q hq => by simp only [Value.ownBlock, Option.some.injEq] at hq; omega)
                have hb9 := below_setCell0 (p := ⟨og + 1, 0, none⟩) hb8 (by show w.heap.size ≤ og + 1; omega) (.slice TA8 (rows ++ [Value.slice (some ⟨rq, 0, none⟩) k rc]).length tc8)
                have hrl : (rows ++ [Value.slice (some ⟨rq, 0, none⟩) k rc]).length = i + 1 := by simp [u2]
                rw [hrl] at hT9 hX9 hO10 hb9
                go_roundw
                case rel => exact ⟨i + 1, _, by omega, by go_num, hT9, hX9, hO10, hb9, by simpa using hz8⟩
                case measure => simp [intOf]; omega
          · obtain rfl : i = n := by omega
            obtain ⟨tb, tc, hRun⟩ := run_start hX hO hT (by omega) hbs
            go_wp2_with (fail)
            refine (CE.out (og + 1) (og + 2) wr.heap.size tb tc _ wr hRun hb).mono ?_
            rintro e w6 ⟨rfl, hb6, vo6, vb6, s6, f6, hR6, hf6, ht6⟩
            obtain ⟨k0, k1, k2, k3, k4, k5, k6, k7, glt⟩ := hR6.cells
            cases f6 with
            | true =>
              have HO := Lib.hid (HFULL.out (ht6 rfl))
              clear HFULL HYES
              go_wp2_with (fail)
              go_ret3
              exact ⟨.slice none 0 0, by rw [HO.out]; rfl, by rw [HO.out]; exact OwnI.nil _ _, hb6⟩
            | false =>
              have HO := Lib.hid (HYES.out s6 (hf6 rfl))
              clear HFULL HYES
              go_wp2_with (fail)
              (refine later_intro_wp ?_; intro y)
              (refine wp_region_later (by kernel_rfl) (by kernel_rfl) ?_; (repeat (first | go_big_quiet_step ((fail)) | quiet_step ((fail)))); refine wpQuiet_nil ?_; rintro _ ⟨y, rfl⟩)
              go_wp2_with (fail)
              go_ret3
              exact ⟨_, by rw [HO.out]; rfl, by rw [HO.out]; exact (hR6.keep y.below).best, below_later hb6 _⟩
end Go.Proofs.YtbpjnopnhmoigaaDoor
