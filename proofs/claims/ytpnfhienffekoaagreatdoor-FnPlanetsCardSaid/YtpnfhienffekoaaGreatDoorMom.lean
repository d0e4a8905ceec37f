/- Contracts of the reference's functions on moments and roots that the law of the planets calls. -/
import Derived.Test.YtpnfhienffekoaaGreatDoorGrpNum
import Derived.Test.YtpnfhienffekoaaGreatDoorRoot
import Derived.Test.YtpnfhienffekoaaGreatDoorDrawP
namespace Go.Proofs.YtpnfhienffekoaaGreatDoor
set_option linter.unusedVariables false
set_option linter.unusedSimpArgs false
open Go.RowKit
theorem l03Most_any (w : World) : Calls Tryz.prog 59 #[] w fun e w' => e = .returned (.int .i64 8640000000000) ∧ w = w' := by
  go_enter Tryz.func59, Tryz.ntmps59
  go_wp2
  go_ret
  exact ⟨rfl, rfl⟩
theorem sRootOf_any (n : Int) (w : World) (h : 0 ≤ n ∧ n ≤ 9000000000000000000) :
    Calls Tryz.prog 13 #[.int .i64 n] w fun e w' => e = .returned (.int .i64 (rootI n)) ∧ w = w' := by
  have C : Hid (∀ W, Calls Tryz.prog 56 #[.int .i64 n] W fun e w' => e = .returned (.int .i64 (rootI n)) ∧ W = w') := Lib.hid (fun W => l01Root_any n W (by omega))
  go_enter Tryz.func13, Tryz.ntmps13
  go_wp2_with (fail)
  refine (C.out _).mono ?_
  rintro e w1 ⟨rfl, rfl⟩
  go_wp2_with (fail)
  go_ret
  exact ⟨rfl, rfl⟩
set_option maxHeartbeats 1000000 in
theorem l03At_any (n : Int) (w : World) (h0 : 0 ≤ n) (h1 : n ≤ 20000000000000) :
    Calls Tryz.prog 61 #[.int .i64 n] w fun e w' => e = .returned (.agg #[.int .i64 (n / 86400000), .int .i64 (n % 86400000)]) ∧ Below w.heap.size w w' := by
  have w1 : IntKind.i64.wrap (n.tdiv 86400000) = n / 86400000 := IntWalk.i64_quo _ _ (by omega)
  have w2 : n.tmod 86400000 = n % 86400000 := IntWalk.rem_in _ _ (by omega)
  have hd : n / 86400000 = n / 86400000 := rfl
  generalize hq : n / 86400000 = a at *
  generalize hr : n % 86400000 = b at *
  go_enter Tryz.func61, Tryz.ntmps61
  go_wp2_with (fail)
  exact bodyPost_ret (v := .agg #[.int .i64 a, .int .i64 b]) (by simp [results, Tryz.results61, go_sem]) rfl ⟨rfl, (by repeat (first | exact Below.refl _ _ | refine below_alloc ?_ _ | refine below_drewN0 ?_ _ | refine below_drew0 ?_ | refine below_step ?_ (by assumption) | refine below_later ?_ _ | refine below_setCell0 ?_ (by first | exact Nat.le_refl _ | (simp; done) | omega | (simp; omega)) _))⟩
/-- a moment some time after another, or none -/
def MomPost (d m k : Int) (w : World) (e : Ending) (w' : World) : Prop := (e = .returned (.tuple #[.agg #[.int .i64 0, .int .i64 0], .int .i64 6]) ∨ ∃ d' m', e = .returned (.tuple #[.agg #[.int .i64 d', .int .i64 m'], .int .i64 0]) ∧ vMoment d' m' = true ∧ milliI d' m' = milliI d m + k) ∧ Below w.heap.size w w'
set_option maxRecDepth 100000 in
set_option maxHeartbeats 2000000 in
theorem MomentAfter_any (d m k : Int) (w : World) (hv : vMoment d m = true) (h0 : 0 ≤ k) (h1 : k ≤ 8640000000000) :
    Calls Tryz.prog 15 #[.agg #[.int .i64 d, .int .i64 m], .int .i64 k] w (MomPost d m k w) := by
  have hb := vMoment_bd hv
  have hT := milliI_bd hb
  have C1 : Hid (∀ W, Calls Tryz.prog 57 #[.agg #[.int .i64 d, .int .i64 m]] W fun e w' => e = .returned (.bool true) ∧ Below W.heap.size W w') := Lib.hid (fun W => by have h := l03Ok_any d m W; rwa [hv] at h)
  have C2 : Hid (∀ W, Calls Tryz.prog 59 #[] W fun e w' => e = .returned (.int .i64 8640000000000) ∧ W = w') := Lib.hid l03Most_any
  have C3 : Hid (∀ W, Calls Tryz.prog 58 #[.int .i64 k, .int .i64 (-8640000000000), .int .i64 8640000000000] W fun e w' => e = .returned (.bool true) ∧ W = w') := Lib.hid (fun W => by
    have h := l00In_any k (-8640000000000) 8640000000000 W
    rwa [(inB_iff _ _ _).2 (by omega)] at h)
  have C4 : Hid (∀ W, Calls Tryz.prog 60 #[.agg #[.int .i64 d, .int .i64 m]] W fun e w' => e = .returned (.int .i64 (milliI d m)) ∧ Below W.heap.size W w') := Lib.hid (fun W => l03All_any d m W hb)
  have C5 : Hid (∀ W, Calls Tryz.prog 58 #[.int .i64 (milliI d m + k), .int .i64 0, .int .i64 8639999999999] W fun e w' => e = .returned (.bool (inB (milliI d m + k) 0 8639999999999)) ∧ W = w') := Lib.hid (fun W => l00In_any _ _ _ W)
  have C6 : Hid (∀ W, Calls Tryz.prog 61 #[.int .i64 (milliI d m + k)] W fun e w' => e = .returned (.agg #[.int .i64 ((milliI d m + k) / 86400000), .int .i64 ((milliI d m + k) % 86400000)]) ∧ Below W.heap.size W w') := Lib.hid (fun W => l03At_any _ W (by omega) (by omega))
  have HQ : Hid (inB (milliI d m + k) 0 8639999999999 = true → vMoment ((milliI d m + k) / 86400000) ((milliI d m + k) % 86400000) = true ∧ milliI ((milliI d m + k) / 86400000) ((milliI d m + k) % 86400000) = milliI d m + k) := Lib.hid (fun h => by
    have h' := (inB_iff _ _ _).1 h
    refine ⟨by simp [vMoment, inB]; omega, ?_⟩
    have e : ∀ x y : Int, milliI x y = x * 86400000 + y := fun _ _ => rfl
    rw [e]; omega)
  unfold MomPost
  clear hv hb
  generalize milliI d m = T at *
  generalize (T + k) / 86400000 = a at *
  generalize (T + k) % 86400000 = b at *
  obtain ⟨t0, t1⟩ := hT
  go_enter Tryz.func15, Tryz.ntmps15
  go_wp2_with (fail)
  refine calls_named ?_
  intro W1 e1
  have hb1 : Below w.heap.size w W1 := by rw [e1]; exact below_alloc (below_alloc (Below.refl _ _) _) _
  have hX : Blk W1 w.heap.size 28 [.int .i64 d, .int .i64 m] := by rw [e1]; exact (Blk.new w _ _).alloc _
  have hR : Blk W1 (w.heap.size + 1) 28 [.int .i64 0, .int .i64 0] := by
    rw [e1]
    have := Blk.new (w.alloc (.cells #[.int .i64 d, .int .i64 m] 28)) 28 [.int .i64 0, .int .i64 0]
    simpa using this
  clear e1
  refine (C1.out _).mono ?_
  rintro e w2 ⟨rfl, hb2⟩
  replace hX := hX.keep hb2
  replace hR := hR.keep hb2
  replace hb1 := below_step hb1 hb2
  clear hb2 C1
  obtain ⟨x0, x1⟩ := hX.twoP
  have hxl := hX.lt
  go_wp2_with (first | (refine (C2.out _).mono ?_; rintro e w3 ⟨rfl, rfl⟩) | (refine (C3.out _).mono ?_; rintro e w4 ⟨rfl, rfl⟩))
  refine (C4.out _).mono ?_
  rintro e w5 ⟨rfl, hb5⟩
  replace hR := hR.keep hb5
  replace hb1 := below_step hb1 hb5
  clear hb5 C4 x0 x1 hxl hX
  obtain ⟨r0, r1⟩ := hR.twoP
  have f0 := hR.frozen 0
  have f1 := hR.frozen 1
  have hrl := hR.lt
  have hsz : w.heap.size ≤ w.heap.size + 1 := by omega
  go_wp2_with (refine (C2.out _).mono ?_; rintro e w6 ⟨rfl, rfl⟩)
  refine (C5.out _).mono ?_
  rintro e w7 ⟨rfl, rfl⟩
  cases hin : inB (T + k) 0 8639999999999 with
  | true =>
    obtain ⟨v1, v2⟩ := HQ.out hin
    have HV := Lib.hid (And.intro v1 v2)
    clear v1 v2 HQ
    go_wp2_with (fail)
    refine (C6.out _).mono ?_
    rintro e w8 ⟨rfl, hb8⟩
    replace hR := hR.keep hb8
    replace hb1 := below_step hb1 hb8
    clear hb8 r0 r1 f0 f1 hrl
    obtain ⟨r0, r1⟩ := hR.twoP
    have f0 := hR.frozen 0
    have f1 := hR.frozen 1
    have hrl := hR.lt
    go_wp2_with (fail)
    have hBF : Blk ((w8.setCell ⟨w.heap.size + 1, 0, none⟩ (.int .i64 a)).setCell ⟨w.heap.size + 1, 1, none⟩ (.int .i64 b)) (w.heap.size + 1) 28 [.int .i64 a, .int .i64 b] := (hR.set_ 0 _).set_ 1 _
    have hbF : Below w.heap.size w ((w8.setCell ⟨w.heap.size + 1, 0, none⟩ (.int .i64 a)).setCell ⟨w.heap.size + 1, 1, none⟩ (.int .i64 b)) := below_setCell0 (below_setCell0 hb1 hsz _) hsz _
    generalize ((w8.setCell ⟨w.heap.size + 1, 0, none⟩ (.int .i64 a)).setCell ⟨w.heap.size + 1, 1, none⟩ (.int .i64 b)) = WF at *
    obtain ⟨y0, y1⟩ := hBF.twoP
    exact bodyPost_ret (v := .tuple #[.agg #[.int .i64 a, .int .i64 b], .int .i64 0]) (by simp [results, Tryz.results15, go_sem, y0, y1]) rfl ⟨.inr ⟨a, b, rfl, HV.out.1, HV.out.2⟩, hbF⟩
  | false =>
    clear HQ
    go_wp2_with (fail)
    have hBF : Blk ((w5.setCell ⟨w.heap.size + 1, 0, none⟩ (.int .i64 0)).setCell ⟨w.heap.size + 1, 1, none⟩ (.int .i64 0)) (w.heap.size + 1) 28 [.int .i64 0, .int .i64 0] := (hR.set_ 0 _).set_ 1 _
    have hbF : Below w.heap.size w ((w5.setCell ⟨w.heap.size + 1, 0, none⟩ (.int .i64 0)).setCell ⟨w.heap.size + 1, 1, none⟩ (.int .i64 0)) := below_setCell0 (below_setCell0 hb1 hsz _) hsz _
    generalize ((w5.setCell ⟨w.heap.size + 1, 0, none⟩ (.int .i64 0)).setCell ⟨w.heap.size + 1, 1, none⟩ (.int .i64 0)) = WF at *
    obtain ⟨y0, y1⟩ := hBF.twoP
    exact bodyPost_ret (v := .tuple #[.agg #[.int .i64 0, .int .i64 0], .int .i64 6]) (by simp [results, Tryz.results15, go_sem, y0, y1]) rfl ⟨.inl rfl, hbF⟩
set_option maxHeartbeats 1000000 in
theorem r8Abs_any (a : Int) (w : World) (h0 : -1000000000000 ≤ a) (h1 : a ≤ 1000000000000) :
    Calls Tryz.prog 14 #[.int .i64 a] w fun e w' => e = .returned (.int .i64 (absI a)) ∧ w = w' := by
  by_cases h : a < 0
  · have e : Hid (absI a = -a) := Lib.hid (by rw [absI, if_pos h])
    go_enter Tryz.func14, Tryz.ntmps14
    go_wp2_with (fail)
    go_ret
    exact ⟨by rw [e.out]; first | rfl | (congr 2; omega), rfl⟩
  · have e : Hid (absI a = a) := Lib.hid (by rw [absI, if_neg h])
    go_enter Tryz.func14, Tryz.ntmps14
    go_wp2_with (fail)
    go_ret
    exact ⟨by rw [e.out]; first | rfl | (congr 2; omega), rfl⟩
end Go.Proofs.YtpnfhienffekoaaGreatDoor
