/- Contracts of the functions on the stars that can be seen: the reference's. -/
import Derived.Test.YtbpjnopnhmoigaaDoorVst
import Derived.Test.YtbpjnopnhmoigaaDoorPlace
namespace Go.Proofs.YtbpjnopnhmoigaaDoor
set_option linter.unusedVariables false
set_option linter.unusedSimpArgs false
open Go.RowKit
set_option maxRecDepth 100000 in
set_option maxHeartbeats 8000000 in
theorem sVisibleStars_any (A : Option Addr) (n c : Nat) (l : List Sta) (tn : ByteArray) (lo la s least : Int) (w : World) (hl : l.length = n) (hn : n ≤ 9223372036854775807) (hA : Stars w A l) :
    Calls Tryd.prog 30 #[.agg #[.string tn, .int .i64 lo, .int .i64 la], .int .i64 s, .slice A n c, .int .i64 least] w fun e w' => ∃ v : Value, e = .returned (.tuple #[v, .int .i64 (vstO l tn.data.toList lo la s least).2]) ∧ OwnI w' w.heap.size v (vstO l tn.data.toList lo la s least).1 ∧ Below w.heap.size w w' := by
  have hb0 : Below w.heap.size w (w.alloc (.cells #[.string tn, .int .i64 lo, .int .i64 la] 49)) := below_alloc (Below.refl _ _) _
  have hT0 : Blk (w.alloc (.cells #[.string tn, .int .i64 lo, .int .i64 la] 49)) w.heap.size 49 (siteCells tn lo la) := Blk.new _ _ _
  have HL := Lib.hid hl; clear hl
  obtain ⟨y0, y1, y2⟩ := hT0.site
  have CS := Lib.hid (l06Ok_any w.heap.size tn lo la _ y0 y1 y2)
  clear y0 y1 y2
  cases hvs : vSite tn.data.toList lo la with
  | false =>
    have HO := Lib.hid (vstO_site (l := l) (s := s) (least := least) hvs)
    rw [hvs] at CS
    clear hvs hT0
    go_enter Tryd.func30, Tryd.ntmps30
    go_wp2_with (refine CS.out.mono ?_; rintro e w1 ⟨rfl, rfl⟩)
    go_ret2
    exact ⟨.slice none 0 0, by rw [HO.out]; rfl, by rw [HO.out]; exact OwnI.nil _ _, hb0⟩
  | true =>
    have HVT := Lib.hid hvs
    rw [hvs] at CS
    clear hvs
    have C1 : Hid (∀ (x : Sta) W, Calls Tryd.prog 74 #[.agg #[.string x.id, .int .i64 x.ri, .int .i64 x.de, .int .i64 x.ma, .int .i64 x.co]] W fun e w' => e = .returned (.bool x.ok) ∧ Below W.heap.size W w') := Lib.hid (fun x W => sValidStar_any _ _ _ _ _ W)
    go_enter Tryd.func30, Tryd.ntmps30
    go_wp2_with (refine CS.out.mono ?_; rintro e w2 ⟨rfl, rfl⟩)
    clear CS
    generalize w.alloc (.cells #[.string tn, .int .i64 lo, .int .i64 la] 49) = w1 at *
    go_loopw [10] (fun s10 wr => ∃ k : Nat, k ≤ n ∧ s10 = .int .i64 (k : Int) ∧ okTo l k = true ∧ Below w1.heap.size w1 wr) (fun s10 _ => n - (intOf s10).toNat)
    case atStart => exact ⟨0, by omega, rfl, rfl, Below.refl _ _⟩
    case round =>
      obtain ⟨k, hk, rfl, hok, hb⟩ := hrel
      have HOK := Lib.hid hok; clear hok
      have hbw := below_step hb0 hb
      by_cases hlt : k < n
      · obtain ⟨x, hx⟩ := at_lt (l := l) (k := k) (by have := HL.out; omega)
        obtain ⟨b, o, rfl, hc⟩ := hA.below hbw (by have := HL.out; omega)
        have l0 := (hc k x hx).lt
        obtain ⟨c0, c1, c2, c3, c4⟩ := hc k x hx
        have CX := Lib.hid (C1.out x)
        cases hxo : x.ok with
        | false =>
          have HO := Lib.hid (vstO_bad (tn := tn.data.toList) (lo := lo) (la := la) (s := s) (least := least) (okTo_no hx hxo))
          rw [hxo] at CX
          clear hx hc hxo C1
          go_wp2_with (refine (CX.out _).mono ?_; rintro e w2 ⟨rfl, hb2⟩)
          go_ret2
          exact ⟨.slice none 0 0, by rw [HO.out]; rfl, by rw [HO.out]; exact OwnI.nil _ _, below_step hbw hb2⟩
        | true =>
          have HX := Lib.hid ((okTo_succ hx).trans (by rw [HOK.out, hxo]))
          rw [hxo] at CX
          clear hx hc hxo C1
          go_wp2_with (refine (CX.out _).mono ?_; rintro e w2 ⟨rfl, hb2⟩)
          go_roundw
          case rel => exact ⟨k + 1, by omega, by go_num, HX.out, below_step hb hb2⟩
          case measure => simp [intOf]; omega
      · obtain rfl : k = n := by omega
        have HOA : Hid (okTo l l.length = true) := Lib.hid (by rw [HL.out]; exact HOK.out)
        have hT2 := hT0.keep hb
        clear hT0 hb hb0 HOK C1
        cases hw : inB s 0 359999 with
        | false =>
          have HO := Lib.hid (vstO_turn (least := least) HVT.out HOA.out (.inl hw))
          have R := Lib.hid (l06Turn_any s wr)
          rw [hw] at R
          clear hw
          go_wp2_with (refine R.out.mono ?_; rintro e w3 ⟨rfl, rfl⟩)
          go_ret2
          exact ⟨.slice none 0 0, by rw [HO.out]; rfl, by rw [HO.out]; exact OwnI.nil _ _, hbw⟩
        | true =>
          have HW := Lib.hid hw
          have R := Lib.hid (l06Turn_any s wr)
          rw [hw] at R
          clear hw
          have R2 := Lib.hid (l06Latitude_any least wr)
          cases hw2 : inB least (-90000) 90000 with
          | false =>
            have HO := Lib.hid (vstO_turn HVT.out HOA.out (s := s) (.inr hw2))
            rw [hw2] at R2
            clear hw2
            go_wp2_with (first | (go_at_call 70; refine R.out.mono ?_; rintro e w3 ⟨rfl, rfl⟩) | (go_at_call 75; refine R2.out.mono ?_; rintro e w3 ⟨rfl, rfl⟩))
            go_ret2
            exact ⟨.slice none 0 0, by rw [HO.out]; rfl, by rw [HO.out]; exact OwnI.nil _ _, hbw⟩
          | true =>
            have HW2 := Lib.hid hw2
            rw [hw2] at R2
            clear hw2
            by_cases h24 : k ≤ 24
            · have HO := Lib.hid (vstO_yes HVT.out HOA.out HW.out HW2.out (by rw [HL.out]; exact h24))
              rw [HL.out] at HO
              have hE1 := (OwnI.empty wr wr.heap.size (Nat.le_refl _)).alloc (.cells #[] 2)
              have hE2 := OwnI.empty (wr.alloc (.cells #[] 2)) wr.heap.size (by simp)
              have hT4 := (hT2.alloc (.cells #[] 2)).alloc (.cells #[] 2)
              have hb4 := below_alloc (below_alloc hbw (.cells #[] 2)) (.cells #[] 2)
              have hbs := hbw.size
              have hTl := hT2.lt
              simp only [World.size_alloc] at hE2
              go_wp2_with (first | (go_at_call 70; refine R.out.mono ?_; rintro e w3 ⟨rfl, rfl⟩) | (go_at_call 75; refine R2.out.mono ?_; rintro e w3 ⟨rfl, rfl⟩))
              clear R R2 hT2 hbw
              generalize (wr.alloc (.cells #[] 2)).alloc (.cells #[] 2) = W1 at *
              generalize hbase : wr.heap.size = base at *
              clear hbase
              obtain ⟨N, rfl⟩ : ∃ N : Nat, N = k := ⟨k, rfl⟩
              go_loopw [11, 12, 13, 14, 15, 16] (fun s11 s12 s13 _ _ _ wr => ∃ (k : Nat) (m gv cv hg hc : Nat), k ≤ N ∧ s11 = .slice (some ⟨gv, 0, none⟩) m cv ∧ s12 = .slice (some ⟨hg, 0, none⟩) k hc ∧ s13 = .int .i64 (k : Int) ∧ m ≤ k ∧ m ≤ cv ∧ cv ≤ 9223372036854775807 ∧ gv ≠ hg ∧ OwnI wr base (.slice (some ⟨gv, 0, none⟩) m cv) (vstK l la s least k) ∧ OwnI wr base (.slice (some ⟨hg, 0, none⟩) k hc) (altL l la s k) ∧ Blk wr w.heap.size 49 (siteCells tn lo la) ∧ Below w.heap.size w wr) (fun _ _ s13 _ _ _ _ => N - (intOf s13).toNat)
              case atStart => exact ⟨0, 0, base, 0, base + 1, 0, by omega, rfl, rfl, rfl, by omega, by omega, by omega, by omega, hE1, hE2, hT4, hb4⟩
              case round =>
                clear hE1 hE2 hT4 hb4 W1
                obtain ⟨k, m, gv, cv, hg, hcp, hk, rfl, rfl, rfl, hmk, hmc, hcv, hgh, hO, hH, hT, hb⟩ := hrel
                by_cases hlt : k < N
                · obtain ⟨x, hx⟩ := at_lt (l := l) (k := k) (by have := HL.out; omega)
                  obtain ⟨b, o, rfl, hc⟩ := hA.below hb (by have := HL.out; omega)
                  have hX := hc k x hx
                  have l0 := hX.lt
                  obtain ⟨y0, y1, y2⟩ := hT.site
                  have hTl2 := hT.lt
                  have hokx := okTo_at HOA.out hx
                  have hla : -90000 ≤ la ∧ la ≤ 90000 := by
                    have := HVT.out
                    simp only [vSite, inB, Bool.and_eq_true, decide_eq_true_eq] at this
                    exact this.2.2
                  have hss : 0 ≤ s ∧ s ≤ 359999 := by
                    have := HW.out
                    simpa only [inB, Bool.and_eq_true, decide_eq_true_eq] using this
                  have CA : Hid (∀ W : Later wr, Calls Tryd.prog 71 #[.int .i64 la, .int .i64 s, .pointer (some ⟨b, o + k * 5, none⟩)] W.w fun e w' => e = .returned (.int .i64 (altAt l la s (k : Int))) ∧ Below W.w.heap.size W.w w') := Lib.hid (fun W => by
                    rw [altAt_at hx]
                    exact l06Altitude_any la s b (o + k * 5) x W.w hla hss (hX.below W.below) hokx)
                  have HYES : Hid (least ≤ altAt l la s (k : Int) → vstK l la s least (k + 1) = insK (negK l la s) (k : Int) (vstK l la s least k)) := Lib.hid vstK_yes
                  have HNO : Hid (¬ least ≤ altAt l la s (k : Int) → vstK l la s least (k + 1) = vstK l la s least k) := Lib.hid vstK_no
                  have HSUC := Lib.hid (altL_succ l la s k)
                  have HKEY : Hid (negK l la s (k : Int) = - altAt l la s (k : Int)) := Lib.hid rfl
                  have HLENH : Hid ((altL l la s k).length ≤ 1099511627776) := Lib.hid (by rw [altL_length]; omega)
                  clear hx hc hX hokx hla hss
                  generalize altAt l la s (k : Int) = alt at *
                  go_wp2_with (fail)
                  (refine later_intro_wp ?_; intro y)
                  (refine wp_region_later (by kernel_rfl) (by kernel_rfl) ?_; (repeat (first | go_big_quiet_step ((go_at_call 71; exact later_below (CA.out _))) | quiet_step ((go_at_call 71; exact later_below (CA.out _))))); refine wpQuiet_nil ?_; rintro _ ⟨y, rfl⟩)
                  have hb5 := below_later hb y
                  have hO5 := hO.below y.below
                  have hH5 := hH.below y.below
                  have hT5 := hT.keep y.below
                  clear hO hH hT hb CA y0 y1 y2 hTl2 l0
                  generalize y.w = W5 at *
                  clear y
                  obtain ⟨hOl0, hOl1⟩ := hO5.lt gv rfl
                  obtain ⟨hHl0, hHl1⟩ := hH5.lt hg rfl
                  have hsz5 : base ≤ (W5.alloc (.cells #[.int .i64 alt] 2)).heap.size := by simp; omega
                  by_cases ha : least ≤ alt
                  · have HS := Lib.hid (HYES.out ha)
                    have ha' : ¬ alt < least := by omega
                    clear HYES HNO
                    go_wp2_with (at_builtin; refine wpList_app_int2 rfl (.tmp 57) (.tmp 59) rfl base _ (altL l la s k) alt W5.heap.size 1 rfl rfl (hH5.alloc _) (by simp [go_sem]) HLENH.out hsz5 ?_; intro v6 w6 hH6 hg6 hq6)
                    have hle6 : (altL l la s k ++ [alt]).length = k + 1 := by rw [List.length_append, altL_length]; rfl
                    obtain ⟨g6, c6, e6, hg60, hg61, hg62, hg63, hI6⟩ := hH6.form3 (by rw [hle6]; omega)
                    rw [hle6] at hg62 e6
                    subst e6
                    have hne6 : gv ≠ g6 := by
                      rcases hq6 with h | h
                      · have h2 : some g6 = some hg := h
                        injection h2 with h2; omega
                      · have h2 : some g6 = some (W5.alloc (.cells #[.int .i64 alt] 2)).heap.size := h
                        injection h2 with h2
                        simp at h2; omega
                    have hO6 := (hO5.alloc (.cells #[.int .i64 alt] 2)).only hg6 (fun q h1 h2 => by
                      have h3 : some gv = some q := h1
                      have h4 : some hg = some q := h2
                      injection h3 with h3; injection h4 with h4; omega)
                    have hT6 := (hT5.alloc (.cells #[.int .i64 alt] 2)).grown2 hg6 (fun q hq => by have h4 : some hg = some q := hq; injection h4 with h4; omega)
                    have hb6 := below_of_grown (below_alloc hb5 (.cells #[.int .i64 alt] 2)) hg6 (by have := hb5.size; simp; omega) (fun q hq => by have h4 : some hg = some q := hq; injection h4 with h4; omega)
                    have HSUC2 : Hid (altL l la s (k + 1) = altL l la s k ++ [alt]) := Lib.hid HSUC.out
                    rw [← HSUC2.out] at hH6 hI6
                    have hml : m = (vstK l la s least k).length := by
                      obtain ⟨A2, c2, e2, _⟩ := hO5.form
                      injection e2
                    clear hO5 hH5 hT5 hb5 hg6 hq6 hle6
                    have HM := Lib.hid hml
                    have HVA := Lib.hid (vstK_all l la s least k)
                    have HVG : Hid (∀ i, i < m → ∃ e : Nat, e < k ∧ gt (vstK l la s least k) i = (e : Int)) := Lib.hid (fun i hi => vstK_gt (by rw [← hml]; exact hi))
                    have HSRT : Hid (Srt (negK l la s) (vstK l la s least k) 0 (vstK l la s least k).length) := Lib.hid HVA.out.2.2
                    obtain ⟨A2, c2, e2, hIO, _, _, _, _⟩ := hO6.form2
                    obtain ⟨rfl, rfl⟩ : some ⟨gv, 0, none⟩ = A2 ∧ cv = c2 := by injection e2 with e1 _ e3; exact ⟨e1, e3⟩
                    clear e2 hml HVA
                    generalize vstK l la s least k = L at *
                    have HIO := Lib.hid hIO
                    have HI6 := Lib.hid hI6
                    clear hIO hI6
                    have hO6l := (hO6.lt gv rfl).2
                    go_loop [15] (fun s5 => ∃ p : Nat, p ≤ m ∧ s5 = .int .i64 (p : Int) ∧ (∀ j, p ≤ j → j < m → negK l la s (k : Int) < negK l la s (gt L j))) (fun s5 => (intOf s5).toNat)
                    case atStart => exact ⟨m, by omega, rfl, fun j h1 h2 => by omega⟩
                    case round =>
                      obtain ⟨p, hp, rfl, hgt⟩ := hrel
                      have HGT := Lib.hid hgt; clear hgt
                      have hexit : (p = 0 ∨ negK l la s (gt L (p - 1)) ≤ negK l la s (k : Int)) → Hid (p = posK (negK l la s) (k : Int) L) := fun h => Lib.hid (posK_uniq HSRT.out (by rw [← HM.out]; exact hp) (by rw [← HM.out]; exact HGT.out) h)
                      rcases p with _ | p
                      · have HP := hexit (.inl rfl)
                        clear hexit HGT
                        simp only [Int.natCast_zero]
                        have HLT : Hid ((L.take (0)).length = 0) := Lib.hid (by rw [List.length_take]; have := HM.out; omega)
                        have HLD : Hid ((L.drop (0)).length = m - (0)) := Lib.hid (by rw [List.length_drop]; have := HM.out; omega)
                        have HL1 : Hid ((L.take (0)).length ≤ 1099511627776) := Lib.hid (by rw [HLT.out]; omega)
                        have HL3 : Hid ((L.take (0) ++ [(k : Int)]).length + (m - (0)) ≤ 1099511627776) := Lib.hid (by rw [List.length_append, HLT.out, List.length_singleton]; omega)
                        have hPc : 0 ≤ cv := by omega
                        have hPk : 0 ≤ m := by omega
                        go_wp2_with (first
                          | (go_at_call 76; refine (l00Own_any (some ⟨gv, 0, none⟩) (0) cv w6.heap.size (L.take (0)) _ HLT.out (by omega) hPc hcv (fun h => by cases h) (HIO.out.take (0)) (Nat.le_refl _)).mono ?_; rintro e3 w3 ⟨v3, rfl, hO3, hb3⟩; have hs3 : w6.heap.size ≤ (w3.alloc (.cells #[.int .i64 (k : Int)] 2)).heap.size := Nat.le_trans hb3.size (below_size (below_alloc (Below.refl _ _) _)))
                          | (at_builtin; refine wpList_app_int rfl (.tmp 86) (.tmp 88) rfl w6.heap.size v3 (L.take (0)) (k : Int) w3.heap.size 1 rfl rfl (hO3.alloc _) (by simp) HL1.out hs3 ?_; intro v4 w4 hO4 hg4; have hb4 : Below w6.heap.size w6 w4 := below_of_grown (below_alloc hb3 _) hg4 (below_alloc hb3 _).size (fun q hq => (hO3.lt q hq).1); have hI4 : Ints w4 (some ⟨gv, 0, none⟩) (L.drop (0)) := (by rw [List.drop_zero]; exact HIO.out.below hb4))
                          | (at_builtin; refine wpList_app_ints rfl (.tmp 90) (.tmp 93) rfl w6.heap.size v4 (L.take (0) ++ [(k : Int)]) (L.drop (0)) (some ⟨gv, 0, none⟩) (m) (cv) rfl rfl hO4 HLD.out hI4 (fun h => by first | (cases h; done) | (split at h <;> cases h)) HL3.out hb4.size ?_; intro v5 w5 hO5 hg5))
                        all_goals
                          have hb7 := below_of_grown hb4 hg5 hb4.size (fun q hq => (hO4.lt q hq).1)
                          have hO7 : OwnI w5 w6.heap.size v5 (vstK l la s least (k + 1)) := by
                            rw [HS.out, insK, ← HP.out]
                            simpa using hO5
                          have hl7 : (vstK l la s least (k + 1)).length = m + 1 := by
                            rw [HS.out, insK_length, ← HM.out]
                          obtain ⟨g7, c7, e7, h70, h71, h72, h73, _⟩ := hO7.form3 (by rw [hl7]; omega)
                          rw [hl7] at h72 e7
                          subst e7
                          have HO7 := Lib.hid (hO7.base_le (show base ≤ w6.heap.size by omega))
                          have hH7 := hH6.below hb7
                          have hT7 := hT6.keep hb7
                          have hb8 := below_step hb6 hb7
                          have hne7 : g7 ≠ g6 := by omega
                          clear hO7 hO5 hg5 hl7
                          go_roundw
                          case rel => exact ⟨k + 1, m + 1, g7, c7, g6, c6, by omega, rfl, by go_num, by go_num, by omega, h72, h73, hne7, HO7.out, hH7, hT7, hb8⟩
                          case measure => simp [intOf]; omega
                      · obtain ⟨ee, hee, hge⟩ := HVG.out p (by omega)
                        have i0 : w6.cell? ⟨gv, p, none⟩ = some (.int .i64 (ee : Int)) := by
                          obtain ⟨b2, o2, e2, hcI⟩ := HIO.out (by have := HM.out; omega)
                          obtain ⟨rfl, rfl⟩ : gv = b2 ∧ 0 = o2 := by injection e2 with e2; injection e2 with e3 e4; exact ⟨e3, e4⟩
                          have := hcI p _ (at_gt (by have := HM.out; omega))
                          rw [hge] at this; simpa using this
                        have i1 : w6.cell? ⟨g6, ee, none⟩ = some (.int .i64 (altAt l la s (ee : Int))) := by
                          obtain ⟨b2, o2, e2, hcI⟩ := HI6.out (by rw [altL_length]; omega)
                          obtain ⟨rfl, rfl⟩ : g6 = b2 ∧ 0 = o2 := by injection e2 with e2; injection e2 with e3 e4; exact ⟨e3, e4⟩
                          have := hcI ee _ (altL_at (by omega))
                          simpa using this
                        have HZ : Hid (negK l la s (gt L p) = - altAt l la s (ee : Int)) := Lib.hid (by rw [hge]; rfl)
                        clear hge
                        generalize altAt l la s (ee : Int) = az at *
                        have hc1 : ((p + 1 : Nat) : Int) = (p : Int) + 1 := by omega
                        have heN : (ee : Int) < (k : Int) + 1 := by omega
                        have hpm : (p : Int) < (m : Int) := by omega
                        rw [hc1]
                        by_cases hm : az < alt
                        · have hm' : decide (az < alt) = true := by simpa using hm
                          have HG2 : Hid (∀ j, p ≤ j → j < m → negK l la s (k : Int) < negK l la s (gt L j)) := Lib.hid (fun j h1 h2 => by
                            by_cases e : j = p
                            · rw [e, HZ.out, HKEY.out]; omega
                            · exact HGT.out j (by omega) h2)
                          clear hexit
                          go_wp2_with (fail)
                          go_round
                          case rel => exact ⟨p, by omega, by go_num, HG2.out⟩
                          case measure => simp [intOf]
                        · have hm' : decide (az < alt) = false := by simpa using hm
                          have HP := hexit (.inr (by rw [Nat.add_sub_cancel, HZ.out, HKEY.out]; omega))
                          clear hexit HGT
                          have HLT : Hid ((L.take (p + 1)).length = p + 1) := Lib.hid (by rw [List.length_take]; have := HM.out; omega)
                          have HLD : Hid ((L.drop (p + 1)).length = m - (p + 1)) := Lib.hid (by rw [List.length_drop]; have := HM.out; omega)
                          have HL1 : Hid ((L.take (p + 1)).length ≤ 1099511627776) := Lib.hid (by rw [HLT.out]; omega)
                          have HL3 : Hid ((L.take (p + 1) ++ [(k : Int)]).length + (m - (p + 1)) ≤ 1099511627776) := Lib.hid (by rw [List.length_append, HLT.out, List.length_singleton]; omega)
                          have hPc : p + 1 ≤ cv := by omega
                          have hPk : p + 1 ≤ m := by omega
                          go_wp2_with (first
                            | (go_at_call 76; refine (l00Own_any (some ⟨gv, 0, none⟩) (p + 1) cv w6.heap.size (L.take (p + 1)) _ HLT.out (by omega) hPc hcv (fun h => by cases h) (HIO.out.take (p + 1)) (Nat.le_refl _)).mono ?_; rintro e3 w3 ⟨v3, rfl, hO3, hb3⟩; have hs3 : w6.heap.size ≤ (w3.alloc (.cells #[.int .i64 (k : Int)] 2)).heap.size := Nat.le_trans hb3.size (below_size (below_alloc (Below.refl _ _) _)))
                            | (at_builtin; refine wpList_app_int rfl (.tmp 86) (.tmp 88) rfl w6.heap.size v3 (L.take (p + 1)) (k : Int) w3.heap.size 1 rfl rfl (hO3.alloc _) (by simp) HL1.out hs3 ?_; intro v4 w4 hO4 hg4; have hb4 : Below w6.heap.size w6 w4 := below_of_grown (below_alloc hb3 _) hg4 (below_alloc hb3 _).size (fun q hq => (hO3.lt q hq).1); have hI4 : Ints w4 (if cv = p + 1 then some ⟨gv, 0, none⟩ else some ⟨gv, p + 1, none⟩) (L.drop (p + 1)) := (by have := (HIO.out.below hb4).drop (c := cv) (p + 1) (by rw [← HM.out]; exact hmc); simpa using this))
                            | (at_builtin; refine wpList_app_ints rfl (.tmp 90) (.tmp 93) rfl w6.heap.size v4 (L.take (p + 1) ++ [(k : Int)]) (L.drop (p + 1)) (if cv = p + 1 then some ⟨gv, 0, none⟩ else some ⟨gv, p + 1, none⟩) (m - (p + 1)) (cv - (p + 1)) rfl rfl hO4 HLD.out hI4 (fun h => by first | (cases h; done) | (split at h <;> cases h)) HL3.out hb4.size ?_; intro v5 w5 hO5 hg5))
                          all_goals
                            have hb7 := below_of_grown hb4 hg5 hb4.size (fun q hq => (hO4.lt q hq).1)
                            have hO7 : OwnI w5 w6.heap.size v5 (vstK l la s least (k + 1)) := by
                              rw [HS.out, insK, ← HP.out]
                              simpa using hO5
                            have hl7 : (vstK l la s least (k + 1)).length = m + 1 := by
                              rw [HS.out, insK_length, ← HM.out]
                            obtain ⟨g7, c7, e7, h70, h71, h72, h73, _⟩ := hO7.form3 (by rw [hl7]; omega)
                            rw [hl7] at h72 e7
                            subst e7
                            have HO7 := Lib.hid (hO7.base_le (show base ≤ w6.heap.size by omega))
                            have hH7 := hH6.below hb7
                            have hT7 := hT6.keep hb7
                            have hb8 := below_step hb6 hb7
                            have hne7 : g7 ≠ g6 := by omega
                            clear hO7 hO5 hg5 hl7
                            go_roundw
                            case rel => exact ⟨k + 1, m + 1, g7, c7, g6, c6, by omega, rfl, by go_num, by go_num, by omega, h72, h73, hne7, HO7.out, hH7, hT7, hb8⟩
                            case measure => simp [intOf]; omega
                  · have ha' : alt < least := by omega
                    have HS := Lib.hid (HNO.out (by first | exact ha | exact ha'))
                    clear HYES HNO
                    go_wp2_with (at_builtin; refine wpList_app_int2 rfl (.tmp 57) (.tmp 59) rfl base _ (altL l la s k) alt W5.heap.size 1 rfl rfl (hH5.alloc _) (by simp [go_sem]) HLENH.out hsz5 ?_; intro v6 w6 hH6 hg6 hq6)
                    have hle6 : (altL l la s k ++ [alt]).length = k + 1 := by rw [List.length_append, altL_length]; rfl
                    obtain ⟨g6, c6, e6, hg60, hg61, hg62, hg63, hI6⟩ := hH6.form3 (by rw [hle6]; omega)
                    rw [hle6] at hg62 e6
                    subst e6
                    have hne6 : gv ≠ g6 := by
                      rcases hq6 with h | h
                      · have h2 : some g6 = some hg := h
                        injection h2 with h2; omega
                      · have h2 : some g6 = some (W5.alloc (.cells #[.int .i64 alt] 2)).heap.size := h
                        injection h2 with h2
                        simp at h2; omega
                    have hO6 := (hO5.alloc (.cells #[.int .i64 alt] 2)).only hg6 (fun q h1 h2 => by
                      have h3 : some gv = some q := h1
                      have h4 : some hg = some q := h2
                      injection h3 with h3; injection h4 with h4; omega)
                    have hT6 := (hT5.alloc (.cells #[.int .i64 alt] 2)).grown2 hg6 (fun q hq => by have h4 : some hg = some q := hq; injection h4 with h4; omega)
                    have hb6 := below_of_grown (below_alloc hb5 (.cells #[.int .i64 alt] 2)) hg6 (by have := hb5.size; simp; omega) (fun q hq => by have h4 : some hg = some q := hq; injection h4 with h4; omega)
                    have HSUC2 : Hid (altL l la s (k + 1) = altL l la s k ++ [alt]) := Lib.hid HSUC.out
                    rw [← HSUC2.out] at hH6 hI6
                    have hml : m = (vstK l la s least k).length := by
                      obtain ⟨A2, c2, e2, _⟩ := hO5.form
                      injection e2
                    clear hO5 hH5 hT5 hb5 hg6 hq6 hle6
                    rw [← HS.out] at hO6
                    go_roundw
                    case rel => exact ⟨k + 1, m, gv, cv, g6, c6, by omega, rfl, by go_num, by go_num, by omega, hmc, hcv, hne6, hO6, hH6, hT6, hb6⟩
                    case measure => simp [intOf]; omega
                · obtain rfl : k = N := by omega
                  go_wp2_with (fail)
                  go_ret2
                  exact ⟨_, by rw [HO.out]; rfl, by rw [HO.out]; exact hO.base_le (by omega), hb⟩
            · have HO := Lib.hid (vstO_full HVT.out HOA.out HW.out HW2.out (by rw [HL.out]; exact h24))
              go_wp2_with (first | (go_at_call 70; refine R.out.mono ?_; rintro e w3 ⟨rfl, rfl⟩) | (go_at_call 75; refine R2.out.mono ?_; rintro e w3 ⟨rfl, rfl⟩))
              go_ret2
              exact ⟨.slice none 0 0, by rw [HO.out]; rfl, by rw [HO.out]; exact OwnI.nil _ _, hbw⟩
end Go.Proofs.YtbpjnopnhmoigaaDoor
