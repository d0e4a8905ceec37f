/- Contracts of the functions on the stars that can be seen: the program's. -/
import Derived.Test.YtbpjnopnhmoigaaDoorPlainVst
import Derived.Test.YtbpjnopnhmoigaaDoorVis
import Derived.Test.YtbpjnopnhmoigaaDoorBright
import Derived.BigRegion
import Derived.Deep.DeepCutAuto
namespace Go.Proofs.YtbpjnopnhmoigaaDoor
set_option linter.unusedVariables false
set_option linter.unusedSimpArgs false
open Go.RowKit
theorem own_setV {w : World} {base g : Nat} {v : Value} {l : List Int} (h : OwnI w base v l) (i : Nat) (u : Value) (hne : ∀ q, v.ownBlock = some q → q ≠ g) : OwnI (w.setCell ⟨g, i, none⟩ u) base v l :=
  h.only (only_set (World.grownBy.refl w (some g)) i u) (fun q hq e => hne q hq (by injection e with e; exact e.symm))
set_option maxHeartbeats 1000000 in
theorem isort_nil (fid q : Nat) (w : World) :
    Calls Tryd.prog 153 #[.slice none 0 0, .int .i64 0, .int .i64 0, .func (.func fid) #[] #[.pointer (some ⟨q, 0, none⟩)]] w fun e w' => e = .returned (.tuple #[]) ∧ w = w' := by
  go_enter Tryd.func153, Tryd.ntmps153
  go_wp2_with (fail)
  obtain ⟨wo, hwo⟩ : ∃ wo : World, wo = w := ⟨_, rfl⟩
  go_loopw [8, 9] (fun i _ wr => i = .int .i64 1 ∧ wo = wr) (fun _ _ _ => 0)
  case atStart => exact ⟨rfl, hwo⟩
  case round =>
    obtain ⟨rfl, rfl⟩ := hrel
    subst hwo
    go_wp2_with (fail)
    go_end0
    exact ⟨rfl, rfl⟩
set_option maxHeartbeats 1000000 in
theorem stable_nil (fid q : Nat) (w : World) :
    Calls Tryd.prog 121 #[.slice none 0 0, .int .i64 0, .func (.func fid) #[] #[.pointer (some ⟨q, 0, none⟩)]] w fun e w' => e = .returned (.tuple #[]) ∧ w = w' := by
  go_enter Tryd.func121, Tryd.ntmps121
  go_wp2_with (fail)
  obtain ⟨wo, hwo⟩ : ∃ wo : World, wo = w := ⟨_, rfl⟩
  go_loopw [7, 8] (fun s1 s2 wr => s1 = .int .i64 0 ∧ s2 = .int .i64 20 ∧ wo = wr) (fun _ _ _ => 0)
  case atStart => exact ⟨rfl, rfl, hwo⟩
  case round =>
    obtain ⟨rfl, rfl, rfl⟩ := hrel
    subst hwo
    go_wp2_with (refine (isort_nil fid q _).mono ?_; rintro e w2 ⟨rfl, rfl⟩)
    obtain ⟨wo, hwo⟩ : ∃ wo' : World, wo' = wo := ⟨_, rfl⟩
    go_loopw [6, 7, 8, 9] (fun s1 _ _ _ wr => s1 = .int .i64 20 ∧ wo = wr) (fun _ _ _ _ _ => 0)
    case atStart => exact ⟨rfl, hwo⟩
    case round =>
      obtain ⟨rfl, rfl⟩ := hrel
      subst hwo
      go_wp2_with (fail)
      go_end0
      exact ⟨rfl, rfl⟩
set_option maxHeartbeats 1000000 in
theorem sortStable_nil (fid q : Nat) (w : World) :
    Calls Tryd.prog 78 #[.slice none 0 0, .func (.func fid) #[] #[.pointer (some ⟨q, 0, none⟩)]] w fun e w' => e = .returned (.tuple #[]) ∧ w = w' := by
  go_enter Tryd.func78, Tryd.ntmps78
  go_wp2_with (refine (stable_nil fid q _).mono ?_; rintro e w2 ⟨rfl, rfl⟩)
  go_end0
  exact ⟨rfl, rfl⟩
set_option maxHeartbeats 1000000 in
theorem vst1_any (ga n : Nat) (alts : List Int) (q i j : Nat) (w : World) (hl : alts.length = n) (hn : n ≤ 1000000) (hi : i < n) (hj : j < n) (hq : w.cell? ⟨q, 0, none⟩ = some (.slice (some ⟨ga, 0, none⟩) n n)) (hA : Blk w ga 2 (numCells alts)) :
    Calls Tryd.prog 79 #[.int .i64 (i : Int), .int .i64 (j : Int), .pointer (some ⟨q, 0, none⟩)] w fun e w' => e = .returned (.int .i64 (cmpZ (gt alts j) (gt alts i))) ∧ Below w.heap.size w w' := by
  have l1 := World.block_lt_of_cell? w _ hq
  dsimp only at l1
  have l0 := hA.lt
  have c0 : w.cell? ⟨ga, i, none⟩ = some (.int .i64 (gt alts i)) := by rw [hA.cell]; exact numCells_at (at_gt (by omega))
  have d0 : w.cell? ⟨ga, j, none⟩ = some (.int .i64 (gt alts j)) := by rw [hA.cell]; exact numCells_at (at_gt (by omega))
  have hiI : (i : Int) < (n : Int) := by omega
  have hjI : (j : Int) < (n : Int) := by omega
  clear hl hA
  generalize gt alts i = u at *
  generalize gt alts j = v at *
  go_enter Tryd.func79, Tryd.ntmps79
  go_wp2_with (fail)
  (refine later_intro_wp ?_; intro y)
  (refine wp_region_later (by kernel_rfl) (by kernel_rfl) ?_; (repeat (first | go_big_quiet_step (((go_at_call 80; exact later_same (cmpInt_any _ _ _)))) | quiet_step (((go_at_call 80; exact later_same (cmpInt_any _ _ _)))))); refine wpQuiet_nil ?_; rintro _ ⟨y, rfl⟩)
  go_wp2_with (fail)
  go_ret
  exact ⟨rfl, y.below⟩
theorem vst_enter (args : Array Value) (W : World) : Sem.run Tryd.prog (callFunc 79 args) W = .ok (Next.enter 79 args) W := by kernel_rfl
theorem gt_altL {l : List Sta} {la s : Int} {n i : Nat} (h : i < n) : gt (altL l la s n) i = altAt l la s (i : Int) := gt_at (altL_at h)
set_option maxRecDepth 100000 in
set_option maxHeartbeats 8000000 in
theorem VisibleStars_any (A : Option Addr) (n c : Nat) (l : List Sta) (tn : ByteArray) (lo la s least : Int) (w : World) (hSin : SinOk w) (hl : l.length = n) (hn : n ≤ 9223372036854775807) (hA : Stars w A l) :
    Calls Tryd.prog 31 #[.agg #[.string tn, .int .i64 lo, .int .i64 la], .int .i64 s, .slice A n c, .int .i64 least] w fun e w' => ∃ v : Value, e = .returned (.tuple #[v, .int .i64 (vstO l tn.data.toList lo la s least).2]) ∧ OwnI w' w.heap.size v (vstO l tn.data.toList lo la s least).1 ∧ Below w.heap.size w w' := by
  have hb0 : Below w.heap.size w (w.alloc (.cells #[.string tn, .int .i64 lo, .int .i64 la] 49)) := below_alloc (Below.refl _ _) _
  have hT0 : Blk (w.alloc (.cells #[.string tn, .int .i64 lo, .int .i64 la] 49)) w.heap.size 49 (siteCells tn lo la) := Blk.new _ _ _
  have HL := Lib.hid hl; clear hl
  have CS := Lib.hid (fun W => ValidSite_any tn lo la W)
  cases hvs : vSite tn.data.toList lo la with
  | false =>
    have HO := Lib.hid (vstO_site (l := l) (s := s) (least := least) hvs)
    rw [hvs] at CS
    clear hvs hT0
    go_enter Tryd.func31, Tryd.ntmps31
    go_wp2_with (refine (CS.out _).mono ?_; rintro e w1 ⟨rfl, hb1⟩)
    go_ret2
    exact ⟨.slice none 0 0, by rw [HO.out]; rfl, by rw [HO.out]; exact OwnI.nil _ _, below_step hb0 hb1⟩
  | true =>
    have HVT := Lib.hid hvs
    rw [hvs] at CS
    clear hvs
    have C1 : Hid (∀ (x : Sta) W, Calls Tryd.prog 77 #[.agg #[.string x.id, .int .i64 x.ri, .int .i64 x.de, .int .i64 x.ma, .int .i64 x.co]] W fun e w' => e = .returned (.bool x.ok) ∧ Below W.heap.size W w') := Lib.hid (fun x W => ValidStar_any _ _ _ _ _ W)
    go_enter Tryd.func31, Tryd.ntmps31
    go_wp2_with (refine (CS.out _).mono ?_; rintro e w1 ⟨rfl, hb1⟩)
    have hT1 := hT0.keep hb1
    have hbb := below_step hb0 hb1
    clear hb0 hT0 hb1 CS
    go_loopw [11, 24] (fun _ s24 wr => ∃ k : Nat, k ≤ n ∧ s24 = .int .i64 (k : Int) ∧ okTo l k = true ∧ Below w1.heap.size w1 wr) (fun _ s24 _ => n - (intOf s24).toNat)
    case atStart => exact ⟨0, by omega, rfl, rfl, Below.refl _ _⟩
    case round =>
      obtain ⟨k, hk, rfl, hok, hb⟩ := hrel
      have HOK := Lib.hid hok; clear hok
      have hbw := below_step hbb hb
      by_cases hlt : k < n
      · obtain ⟨x, hx⟩ := at_lt (l := l) (k := k) (by have := HL.out; omega)
        obtain ⟨b, o, rfl, hc⟩ := hA.below hbw (by have := HL.out; omega)
        have l0 := (hc k x hx).lt
        obtain ⟨c0, c1, c2, c3, c4⟩ := hc k x hx
        have CX := Lib.hid (C1.out x)
        cases hxo : x.ok with
        | false =>
          have HO := Lib.hid (vstO_bad (tn := tn.data.toList) (lo := lo) (la := la) (s := s) (least := least) (okTo_no hx hxo))
          rw [hxo] at CX
          clear hx hc hxo C1
          go_wp2_with (refine (CX.out _).mono ?_; rintro e w2 ⟨rfl, hb2⟩)
          go_ret2
          exact ⟨.slice none 0 0, by rw [HO.out]; rfl, by rw [HO.out]; exact OwnI.nil _ _, below_step (below_alloc hbw _) hb2⟩
        | true =>
          have HX := Lib.hid ((okTo_succ hx).trans (by rw [HOK.out, hxo]))
          rw [hxo] at CX
          clear hx hc hxo C1
          go_wp2_with (refine (CX.out _).mono ?_; rintro e w2 ⟨rfl, hb2⟩)
          go_roundw
          case rel => exact ⟨k + 1, by omega, by go_num, HX.out, below_step (below_alloc hb _) hb2⟩
          case measure => simp [intOf]; omega
      · obtain rfl : k = n := by omega
        have HOA : Hid (okTo l l.length = true) := Lib.hid (by rw [HL.out]; exact HOK.out)
        have hT2 := hT1.keep hb
        clear hT1 hb hbb HOK C1
        cases hw : inB s 0 359999 with
        | false =>
          have HO := Lib.hid (vstO_turn (least := least) HVT.out HOA.out (.inl hw))
          have R := Lib.hid (within_any s 0 359999 wr)
          rw [hw] at R
          clear hw
          go_wp2_with (refine R.out.mono ?_; rintro e w3 ⟨rfl, rfl⟩)
          go_ret2
          exact ⟨.slice none 0 0, by rw [HO.out]; rfl, by rw [HO.out]; exact OwnI.nil _ _, hbw⟩
        | true =>
          have HW := Lib.hid hw
          have R := Lib.hid (within_any s 0 359999 wr)
          rw [hw] at R
          clear hw
          cases hw2 : inB least (-90000) 90000 with
          | false =>
            have HO := Lib.hid (vstO_turn HVT.out HOA.out (s := s) (.inr hw2))
            have R2 := Lib.hid (within_any least (-90000) 90000 wr)
            rw [hw2] at R2
            clear hw2
            have hk9 := R.out
            go_wp2_with (refine hk9.mono ?_; rintro e w3 ⟨rfl, rfl⟩; clear hk9; have hk9 := R2.out)
            go_ret2
            exact ⟨.slice none 0 0, by rw [HO.out]; rfl, by rw [HO.out]; exact OwnI.nil _ _, hbw⟩
          | true =>
            have R2 := Lib.hid (within_any least (-90000) 90000 wr)
            rw [hw2] at R2
            by_cases h24 : k ≤ 24
            · have HO := Lib.hid (vstO_yes HVT.out HOA.out HW.out hw2 (by rw [HL.out]; exact h24))
              rw [HL.out] at HO
              clear hw2
              obtain ⟨i0, hi0, hz0, hz1, hz2⟩ := info_parts info_num
              have hmk := fun W : World => run_make (P := Tryd.prog) W 24 2 i0 _ Tryd.underlying24 hi0 hz0 .i64 .i64 (k : Int) (k : Int) (by omega) (by omega) (by rw [hz2]; omega) (by omega)
              simp only [Int.toNat_natCast, hz1] at hmk
              clear hi0 hz0 hz1 hz2
              have hk9 := R.out
              go_wp2_with (refine hk9.mono ?_; rintro e w3 ⟨rfl, rfl⟩; clear hk9; have hk9 := R2.out)
              rw [← Nat.mul_one k, zeroNums_made _ rfl k, Nat.mul_one]
              have hz : Blk ((wr.alloc (.cells (numCells (List.replicate k 0)).toArray 2)).alloc (.cells #[.slice (some ⟨wr.heap.size, 0, none⟩) k k] 24)) wr.heap.size 2 (numCells (List.replicate k 0)) := (Blk.new _ _ _).alloc _
              have hq : Blk ((wr.alloc (.cells (numCells (List.replicate k 0)).toArray 2)).alloc (.cells #[.slice (some ⟨wr.heap.size, 0, none⟩) k k] 24)) (wr.heap.size + 1) 24 [.slice (some ⟨wr.heap.size, 0, none⟩) k k] := by
                have := Blk.new (wr.alloc (.cells (numCells (List.replicate k 0)).toArray 2)) 24 [.slice (some ⟨wr.heap.size, 0, none⟩) k k]
                simpa using this
              have hT4 := (hT2.alloc (.cells (numCells (List.replicate k 0)).toArray 2)).alloc (.cells #[.slice (some ⟨wr.heap.size, 0, none⟩) k k] 24)
              have hb4 := below_alloc (below_alloc hbw (.cells (numCells (List.replicate k 0)).toArray 2)) (.cells #[.slice (some ⟨wr.heap.size, 0, none⟩) k k] 24)
              have hbs := hbw.size
              have hTl := hT2.lt
              have hWs : ((wr.alloc (.cells (numCells (List.replicate k 0)).toArray 2)).alloc (.cells #[.slice (some ⟨wr.heap.size, 0, none⟩) k k] 24)).heap.size = wr.heap.size + 2 := by simp
              clear hT2 hbw R R2 hk9 hmk hlt hk
              generalize (wr.alloc (.cells (numCells (List.replicate k 0)).toArray 2)).alloc (.cells #[.slice (some ⟨wr.heap.size, 0, none⟩) k k] 24) = W1 at *
              generalize hga : wr.heap.size = ga at *
              clear hga
              obtain ⟨N, rfl⟩ : ∃ N : Nat, N = k := ⟨k, rfl⟩
              go_loopw [13, 14, 15, 16, 17, 18, 48] (fun s13 _ _ _ _ _ s48 wq => ∃ (k : Nat) (v : Value) (ys : List Int), k ≤ N ∧ s48 = .int .i64 (k : Int) ∧ v = s13 ∧ OwnI wq (ga + 2) v (skyL l la s least k) ∧ ys.length = N ∧ ys.take k = altL l la s k ∧ Blk wq ga 2 (numCells ys) ∧ Blk wq (ga + 1) 24 [.slice (some ⟨ga, 0, none⟩) N N] ∧ Blk wq w.heap.size 49 (siteCells tn lo la) ∧ Below w.heap.size w wq) (fun _ _ _ _ _ _ s48 _ => N - (intOf s48).toNat)
              case atStart => exact ⟨0, _, List.replicate N 0, by omega, rfl, rfl, OwnI.nil _ _, by simp, rfl, hz, hq, hT4, hb4⟩
              case round =>
                clear hz hq hT4 hb4 hWs W1
                obtain ⟨k, v, ys, hk, rfl, rfl, hO, hyl, hyt, hB, hQ, hT, hb⟩ := hrel
                have HY := Lib.hid hyl; clear hyl
                have HT := Lib.hid hyt; clear hyt
                have hBl := hB.lt
                have hQl := hQ.lt
                by_cases hlt : k < N
                · obtain ⟨x, hx⟩ := at_lt (l := l) (k := k) (by have := HL.out; omega)
                  obtain ⟨z, hz⟩ := at_lt (l := ys) (k := k) (by have := HY.out; omega)
                  obtain ⟨b, o, rfl, hc⟩ := hA.below hb (by have := HL.out; omega)
                  have l0 := (hc k x hx).lt
                  obtain ⟨c0, c1, c2, c3, c4⟩ := hc k x hx
                  obtain ⟨y0, y1, y2⟩ := hT.site
                  have hTl2 := hT.lt
                  have hokx := okTo_at HOA.out hx
                  have CH : Hid (∀ W, Below wr.heap.size wr W → Calls Tryd.prog 51 #[.agg #[.string tn, .int .i64 lo, .int .i64 la], .int .i64 s, .int .i64 x.ri, .int .i64 x.de] W fun e w' => e = .returned (.tuple #[.int .i64 (lonI (hvV la s x.ri x.de)), .int .i64 (altAt l la s (k : Int)), .int .i64 0]) ∧ Below W.heap.size W w') := Lib.hid (fun W hW => by
                    have := Horizontal_alt tn lo la s x W ((hSin.of_below hb).of_below hW) HVT.out HW.out hokx
                    rw [altAt_at hx]; exact this)
                  have HYES : Hid (least ≤ altAt l la s (k : Int) → skyL l la s least (k + 1) = skyL l la s least k ++ [(k : Int)]) := Lib.hid skyL_yes
                  have HNO : Hid (¬ least ≤ altAt l la s (k : Int) → skyL l la s least (k + 1) = skyL l la s least k) := Lib.hid skyL_no
                  have HALT : Hid ((ys.set k (altAt l la s (k : Int))).take (k + 1) = altL l la s (k + 1)) := Lib.hid (by
                    rw [take_set_any (l := altL l la s (k + 1)) (by rw [HT.out, altL_take l la s (Nat.le_succ k)]) (altL_at (Nat.lt_succ_self k)) (by have := HY.out; omega), List.take_of_length_le (by rw [altL_length]; omega)])
                  have HLEN : Hid ((skyL l la s least k).length ≤ k) := Lib.hid (skyL_len l la s least k)
                  have HCZ := Lib.hid (numCells_at hz)
                  clear hx hc hokx hz
                  generalize altAt l la s (k : Int) = alt at *
                  generalize lonI (hvV la s x.ri x.de) = lon at *
                  go_wp2_with (fail)
                  refine calls_named ?_
                  intro W3 e3
                  have hb3 : Below wr.heap.size wr W3 := by rw [e3]; exact below_alloc (Below.refl _ _) _
                  clear e3 c0 c1 c2 c3 c4 y0 y1 y2 l0
                  refine (CH.out W3 hb3).mono ?_
                  rintro e w4 ⟨rfl, hb4⟩
                  have hb5 := below_step hb3 hb4
                  have hB4 := hB.keep hb5
                  have hQ4 := hQ.keep hb5
                  have hO4 := hO.below hb5
                  have hT4 := hT.keep hb5
                  have hb6 := below_step hb hb5
                  have d0 : w4.cell? ⟨ga, k, none⟩ = some (.int .i64 z) := by rw [hB4.cell]; exact HCZ.out
                  have f0 := hB4.frozen k
                  have x0 : w4.cell? ⟨ga + 1, 0, none⟩ = some (.slice (some ⟨ga, 0, none⟩) N N) := by rw [hQ4.cell]; rfl
                  have hg4 := hB4.lt
                  have hq4 := hQ4.lt
                  clear hb3 hb4 hb5 CH hB hQ hO hT W3
                  have hB5 := hB4.set_ k (.int .i64 alt)
                  rw [numCells_set] at hB5
                  have hQ5 := hQ4.far (p := ⟨ga, k, none⟩) (by show ga + 1 ≠ ga; omega) (.int .i64 alt)
                  have hT5 := hT4.far (p := ⟨ga, k, none⟩) (by show w.heap.size ≠ ga; omega) (.int .i64 alt)
                  have hO5 := own_setV hO4 k (.int .i64 alt) (g := ga) (fun q hq => by have := (hO4.lt q hq).1; omega)
                  have hb7 := below_setCell0 (p := ⟨ga, k, none⟩) hb6 hbs (.int .i64 alt)
                  by_cases ha : least ≤ alt
                  · have HS := Lib.hid (HYES.out ha)
                    clear HYES HNO
                    go_upto_region 21 with (fail)
                    refine wp_named ?_
                    intro W5 e5
                    rw [← e5] at hB5 hQ5 hT5 hO5 hb7
                    clear e5 d0 f0 x0 hg4 hq4 hB4 hQ4 hO4 hT4 hb6
                    have hsz5 := hB5.lt
                    have hsz6 := hQ5.lt
                    have HL1 : Hid ((skyL l la s least k).length ≤ 1099511627776) := Lib.hid (by have := HLEN.out; omega)
                    have hbase : ga + 2 ≤ (W5.alloc (.cells #[.int .i64 (k : Int)] 2)).heap.size := by simp; omega
                    go_wp2_with (at_builtin; refine wpList_app_int rfl (.tmp 75) (.tmp 77) rfl (ga + 2) v (skyL l la s least k) (k : Int) W5.heap.size 1 rfl rfl (hO5.alloc _) (by simp) HL1.out hbase ?_; intro v6 w6 hO6 hg6)
                    have hbk : ∀ q, v.ownBlock = some q → ga + 2 ≤ q := fun q hq => (hO5.lt q hq).1
                    have hB6 := (hB5.alloc (.cells #[.int .i64 (k : Int)] 2)).grown2 hg6 (fun q hq => by have := hbk q hq; omega)
                    have hQ6 := (hQ5.alloc (.cells #[.int .i64 (k : Int)] 2)).grown2 hg6 (fun q hq => by have := hbk q hq; omega)
                    have hT6 := (hT5.alloc (.cells #[.int .i64 (k : Int)] 2)).grown2 hg6 (fun q hq => by have := hbk q hq; omega)
                    have hb8 := below_of_grown (below_alloc hb7 (.cells #[.int .i64 (k : Int)] 2)) hg6 (below_alloc hb7 _).size (fun q hq => by have := hbk q hq; omega)
                    rw [← HS.out] at hO6
                    go_roundw
                    case rel => exact ⟨k + 1, v6, _, by omega, by go_num, rfl, hO6, by have := HY.out; simpa using this, HALT.out, hB6, hQ6, hT6, hb8⟩
                    case measure => simp [intOf]; omega
                  · have HS := Lib.hid (HNO.out (by first | exact ha | omega))
                    clear HYES HNO
                    rw [← HS.out] at hO5
                    go_wp2_with (fail)
                    go_roundw
                    case rel => exact ⟨k + 1, _, _, by omega, by go_num, rfl, hO5, by have := HY.out; simpa using this, HALT.out, hB5, hQ5, hT5, hb7⟩
                    case measure => simp [intOf]; omega
                · obtain rfl : k = N := by omega
                  have he : ys = altL l la s k := by
                    have := HT.out
                    rwa [List.take_of_length_le (by have := HY.out; omega)] at this
                  subst he
                  clear HT HY hlt
                  rcases hO.row with ⟨rfl, hnil⟩ | ⟨g, cap, cs, rfl, hbg, hBg, hcm, hlc, hcl, htk⟩
                  · have hv : vstK l la s least k = [] := by rw [vstK, hnil]; rfl
                    go_wp2_with (refine (sortStable_nil 79 (ga + 1) _).mono ?_; rintro ee w2 ⟨rfl, rfl⟩)
                    go_ret2
                    exact ⟨.slice none 0 0, by rw [HO.out]; rfl, by rw [HO.out]; show OwnI _ _ _ (vstK l la s least k); rw [hv]; exact OwnI.nil _ _, hb⟩
                  · have hml := skyL_len l la s least k
                    have HINC := Lib.hid (skyL_inc l la s least k)
                    have HGT : Hid (∀ i, i < (skyL l la s least k).length → 0 ≤ gt (skyL l la s least k) i ∧ gt (skyL l la s least k) i < (k : Int)) := Lib.hid (fun i hi => skyL_gt hi)
                    have HRISE := Lib.hid (skyL_rise l la s least k)
                    have HV : Hid (vstK l la s least k = sortL (negK l la s) (skyL l la s least k)) := Lib.hid rfl
                    generalize skyL l la s least k = L at *
                    have hne1 : ga + 1 ≠ g := by omega
                    have hne2 : ga ≠ g := by omega
                    have HENV : Hid (CmpEnv 79 (ga + 1) g (negK l la s) (fun x y => cmpZ (altAt l la s y) (altAt l la s x)) (fun x => 0 ≤ x ∧ x < (k : Int)) (fun W => Blk W (ga + 1) 24 [.slice (some ⟨ga, 0, none⟩) k k] ∧ Blk W ga 2 (numCells (altL l la s k)))) := Lib.hid ⟨vst_enter, fun x y _ _ => by
                        show cmpZ (altAt l la s y) (altAt l la s x) < 0 ↔ - altAt l la s x < - altAt l la s y
                        rw [cmpZ_sign]; omega, fun W W' h hg => ⟨h.1.grown2 hg (fun q hq => by injection hq with hq; omega), h.2.grown2 hg (fun q hq => by injection hq with hq; omega)⟩, fun W x y h hx hy => by
                        have h1 : x = ((x.toNat : Nat) : Int) := by omega
                        have h2 : y = ((y.toNat : Nat) : Int) := by omega
                        have := vst1_any ga k (altL l la s k) (ga + 1) x.toNat y.toNat W (altL_length _ _ _ _) (by omega) (by omega) (by omega) (by rw [h.1.cell]; rfl) h.2
                        rw [gt_altL (by omega), gt_altL (by omega), ← h1, ← h2] at this
                        exact this⟩
                    have hcs : cs = numCells L ++ cs.drop L.length := by rw [← htk, List.take_append_drop]
                    have hBs : Blk wr g 2 (numCells L ++ cs.drop L.length) := by rw [← hcs]; exact hBg
                    have HDL : Hid ((cs.drop L.length).length = cap - L.length) := Lib.hid (by rw [List.length_drop, hcl])
                    have C2 := Lib.hid (sortStable_any HENV.out L.length cap L (cs.drop L.length) wr rfl (by omega) hBs (fun i hi => HGT.out i hi) ⟨hQ, hB⟩ (HINC.out))
                    have hbgw : w.heap.size ≤ g := by omega
                    clear hcs hBs HENV htk hBg hQ hB hO
                    go_wp2_with (refine C2.out.mono ?_; rintro ee w2 ⟨l2, rfl, hm, hs, hB2, hg2⟩)
                    go_ret2
                    have hu : l2 = sortL (negK l la s) L := sortL_uniq HRISE.out hs hm
                    have hl2 : l2.length = L.length := hm.len
                    refine ⟨.slice (some ⟨g, 0, none⟩) L.length cap, by rw [HO.out]; rfl, ?_, below_of_grown hb hg2 hb.size (fun q hq => by injection hq with hq; omega)⟩
                    rw [HO.out]
                    show OwnI w2 w.heap.size _ (vstK l la s least k)
                    rw [HV.out, ← hu]
                    have := OwnI.of_blk (cap := cap) (l := l2) hbgw hB2 (by omega) hcm (by rw [List.length_append, numCells_length, HDL.out]; omega) (by rw [List.take_append_of_le_length (by rw [numCells_length]; exact Nat.le_refl _), List.take_of_length_le (by rw [numCells_length]; exact Nat.le_refl _)])
                    rw [hl2] at this
                    exact this
            · have HO := Lib.hid (vstO_full HVT.out HOA.out HW.out hw2 (by rw [HL.out]; exact h24))
              clear hw2
              have hk9 := R.out
              go_wp2_with (refine hk9.mono ?_; rintro e w3 ⟨rfl, rfl⟩; clear hk9; have hk9 := R2.out)
              go_ret2
              exact ⟨.slice none 0 0, by rw [HO.out]; rfl, by rw [HO.out]; exact OwnI.nil _ _, hbw⟩
end Go.Proofs.YtbpjnopnhmoigaaDoor
