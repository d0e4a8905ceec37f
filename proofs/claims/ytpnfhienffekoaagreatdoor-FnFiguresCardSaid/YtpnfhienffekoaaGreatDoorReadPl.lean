/- Contracts of the functions that read planets. -/
import Derived.Test.YtpnfhienffekoaaGreatDoorReadL
namespace Go.Proofs.YtpnfhienffekoaaGreatDoor
set_option linter.unusedVariables false
set_option linter.unusedSimpArgs false
open Go.RowKit
attribute [local go_sem ↓] Go.wp_at_zero Go.wp_at_succ
theorem mp_none {id rest : List UInt8} (h : listR rest = none) : mkPlan id rest = none := by unfold mkPlan; rw [h]
theorem mp_len {id rest : List UInt8} {n : List Int} (h : listR rest = some n) (h2 : n.length ≠ 3) : mkPlan id rest = none := by
  unfold mkPlan; rw [h]; simp only; rw [if_neg h2]
theorem mp_ok {id rest : List UInt8} {a b c : Int} (h : listR rest = some [a, b, c]) : mkPlan id rest = if vPlanet id a b c = true then some (id, [a, b, c]) else none := by
  unfold mkPlan; rw [h]; rfl
theorem plI_none {l : List UInt8} (h : mkPlan ((partsL 32 l).headD []) (joinC 32 (partsL 32 l).tail) = none) : readPlanR l = none := by rw [← readPlan_eq]; unfold readPlanI; rw [h]
theorem plI_some {l id : List UInt8} {n : List Int} (h : mkPlan ((partsL 32 l).headD []) (joinC 32 (partsL 32 l).tail) = some (id, n)) : readPlanR l = if planT id n = l then some (id, n) else none := by rw [← readPlan_eq]; unfold readPlanI; rw [h]
theorem plR_no {l : List UInt8} (h : (partsL 32 l).length ≠ 2) : readPlanR l = none := by unfold readPlanR; rw [if_neg h]
theorem plR_eq {l p0 p1 : List UInt8} (h : partsL 32 l = [p0, p1]) : readPlanR l = mkPlan p0 p1 := by unfold readPlanR; rw [h]; rfl
theorem listR_i64 {l : List UInt8} {n : List Int} (h : listR l = some n) : ∀ x ∈ n, BdI x := by
  unfold listR at h
  split at h
  · injection h with h; subst h; intro x hx; cases hx
  · split at h
    · cases h
    · split at h
      · split at h
        · rename_i ns _ hf
          injection h with h
          subst h
          intro x hx
          have := List.all_eq_true.1 hf x hx
          exact (inB_iff _ _ _).1 this
        · cases h
      · cases h
theorem two_of {α : Type} {l : List α} (h : l.length = 2) : ∃ a b, l = [a, b] := by
  match l, h with
  | [a, b], _ => exact ⟨a, b, rfl⟩
theorem row2 {w : World} {g : Nat} {a b : ByteArray} (h : Strs w (some ⟨g, 0, none⟩) [a, b]) : w.cell? ⟨g, 0, none⟩ = some (.string a) ∧ w.cell? ⟨g, 1, none⟩ = some (.string b) := by
  obtain ⟨bb, o, e, hc⟩ := h (by simp)
  injection e with e; injection e with e1 e2
  subst e1 e2
  exact ⟨hc 0 a rfl, hc 1 b rfl⟩
/-- the value of a planet that was read -/
def planOf (o : Option (List UInt8 × List Int)) : Value := match o with
  | some (id, [a, b, c]) => .agg #[.string (tx id), .int .i64 a, .int .i64 b, .int .i64 c]
  | _ => .agg #[.string ⟨#[]⟩, .int .i64 0, .int .i64 0, .int .i64 0]
def PlanRet (o : Option (List UInt8 × List Int)) (w : World) (e : Ending) (w' : World) : Prop := e = .returned (.tuple #[planOf o, .bool o.isSome]) ∧ Below w.heap.size w w'
/-- four values stored in a block, the world under a name of its own -/
theorem plan_end {W w : World} {g : Nat} {t : TypeId} {u0 u1 u2 u3 : Value} (hZ : Blk W g t [u0, u1, u2, u3]) (hb : Below w.heap.size w W) (hg : w.heap.size ≤ g) (v0 v1 v2 v3 : Value) :
    ∃ WF, WF = ((((W.setCell ⟨g, 0, none⟩ v0).setCell ⟨g, 1, none⟩ v1).setCell ⟨g, 2, none⟩ v2).setCell ⟨g, 3, none⟩ v3) ∧ Below w.heap.size w WF ∧ WF.cell? ⟨g, 0, none⟩ = some v0 ∧ WF.cell? ⟨g, 1, none⟩ = some v1 ∧ WF.cell? ⟨g, 2, none⟩ = some v2 ∧ WF.cell? ⟨g, 3, none⟩ = some v3 := by
  have h := (((hZ.set_ 0 v0).set_ 1 v1).set_ 2 v2).set_ 3 v3
  refine ⟨_, rfl, below_setCell0 (below_setCell0 (below_setCell0 (below_setCell0 hb hg _) hg _) hg _) hg _, ?_, ?_, ?_, ?_⟩ <;> (rw [h.cell]; rfl)
def zeroPlan : List Value := [.string ⟨#[]⟩, .int .i64 0, .int .i64 0, .int .i64 0]
theorem Blk.zplan {w : World} {g : Nat} {t : TypeId} (h : Blk w g t zeroPlan) : (w.cell? ⟨g, 0, none⟩ = some (.string ⟨#[]⟩) ∧ w.cell? ⟨g, 1, none⟩ = some (.int .i64 0) ∧ w.cell? ⟨g, 2, none⟩ = some (.int .i64 0) ∧ w.cell? ⟨g, 3, none⟩ = some (.int .i64 0)) ∧ (w.frozen? ⟨g, 0, none⟩ = false ∧ w.frozen? ⟨g, 1, none⟩ = false ∧ w.frozen? ⟨g, 2, none⟩ = false ∧ w.frozen? ⟨g, 3, none⟩ = false) :=
  ⟨⟨by rw [h.cell]; rfl, by rw [h.cell]; rfl, by rw [h.cell]; rfl, by rw [h.cell]; rfl⟩, h.frozen 0, h.frozen 1, h.frozen 2, h.frozen 3⟩
theorem row_of {w : World} {base : Nat} {v : Value} {a b c : Int} (h : OwnI w base v [a, b, c]) : ∃ q cap, v = .slice (some ⟨q, 0, none⟩) 3 cap ∧ 3 ≤ cap ∧ cap ≤ 9223372036854775807 ∧ w.cell? ⟨q, 0, none⟩ = some (.int .i64 a) ∧ w.cell? ⟨q, 1, none⟩ = some (.int .i64 b) ∧ w.cell? ⟨q, 2, none⟩ = some (.int .i64 c) := by
  obtain ⟨A2, c2, rfl, hI2, h1, h2, _, hs2⟩ := h.form2
  obtain ⟨bq, oq, eq, hq⟩ := hI2 (by simp)
  rcases hs2 with rfl | ⟨g, rfl⟩
  · cases eq
  · injection eq with eq; injection eq with e1 e2
    subst e1 e2
    exact ⟨_, c2, rfl, h1, h2, hq 0 a rfl, hq 1 b rfl, hq 2 c rfl⟩
theorem cut_len (l : List UInt8) (c : UInt8) : (Lib.cut l [c]).2.1.length ≤ l.length := by
  unfold Lib.cut
  split
  · simp only [List.length_drop]; omega
  · simp
def CutRet (l : List UInt8) (c : UInt8) (w : World) (e : Ending) (w' : World) : Prop := ∃ b, e = .returned (.tuple #[.string (tx ((partsL c l).headD [])), .string (tx (joinC c (partsL c l).tail)), .bool b]) ∧ Below w.heap.size w w'
theorem Cut_any (s : ByteArray) (c : UInt8) (w : World) (hs : s.size ≤ 1048576) (hT : IntAt w 2) :
    Calls Tryz.prog 53 #[.string s, .string ⟨#[c]⟩] w (CutRet s.data.toList c w) := by
  obtain ⟨m, hm⟩ := hT
  refine (Any.strings_Cut { Tryz.laysCut with } s ⟨#[c]⟩ m w (by omega) hm).mono ?_
  rintro e w' ⟨rfl, k, rfl⟩
  have h := cut_parts s.data.toList c
  refine ⟨(Lib.cut s.data.toList [c]).2.2, ?_, below_drewN0 (Below.refl _ _) k⟩
  rw [← h.1, ← h.2]
  rfl
theorem cut_tail (l : List UInt8) (c : UInt8) : (joinC c (partsL c l).tail).length ≤ l.length := by
  rw [← (cut_parts l c).2]; exact cut_len l c
set_option maxRecDepth 100000 in
set_option maxHeartbeats 4000000 in
theorem ReadPlanet_any (s : ByteArray) (w : World) (hs : s.size ≤ 1048576) (hT : TxtOk w) :
    Calls Tryz.prog 11 #[.string s] w (PlanRet (readPlanR s.data.toList) w) := by
  have hZ0 : Blk (w.alloc (.cells #[.string ⟨#[]⟩, .int .i64 0, .int .i64 0, .int .i64 0] 25)) w.heap.size 25 zeroPlan := Blk.new _ _ _
  have hb0 : Below w.heap.size w (w.alloc (.cells #[.string ⟨#[]⟩, .int .i64 0, .int .i64 0, .int .i64 0] 25)) := below_alloc (Below.refl _ _) _
  have HI := Lib.hid (fun h => plI_none (l := s.data.toList) h)
  have HJ := Lib.hid (fun id n h => plI_some (l := s.data.toList) (id := id) (n := n) h)
  have hcl := cut_tail s.data.toList 32
  rw [len_data] at hcl
  have HT := Lib.hid hT
  clear hT
  go_enter Tryz.func11, Tryz.ntmps11
  go_wp2_with (fail)
  refine calls_named ?_
  intro W0 e0
  have hZ : Blk W0 w.heap.size 25 zeroPlan := by rw [e0]; exact hZ0
  have hbW : Below w.heap.size w W0 := by rw [e0]; exact hb0
  clear e0 hZ0 hb0
  refine (Cut_any s 32 W0 hs (HT.out.below hbW).maxl).mono ?_
  rintro e w1 ⟨bc, rfl, hb1⟩
  replace hZ := hZ.keep hb1
  replace hbW := below_step hbW hb1
  clear hb1
  generalize (partsL 32 s.data.toList).headD [] = p0 at *
  generalize joinC 32 (partsL 32 s.data.toList).tail = p1 at *
  have CR := Lib.hid (ReadList_any (tx p1) w1 (by rw [tx_size]; omega) (HT.out.below hbW))
  rw [tx_data] at CR
  go_wp2_with (fail)
  refine CR.out.mono ?_
  rintro e w2 ⟨hb2, hcase⟩
  replace hZ := hZ.keep hb2
  replace hbW := below_step hbW hb2
  clear CR hb2
  obtain ⟨⟨t0, t1, t2, t3⟩, f0, f1, f2, f3⟩ := hZ.zplan
  have hgz := hZ.lt
  rcases hcase with ⟨hno, rfl⟩ | ⟨ns, v, hns, rfl, hO2⟩
  · have HO := Lib.hid (HI.out (mp_none hno))
    clear hno
    go_wp2_with (fail)
    obtain ⟨WF, hWF, hbF, z0, z1, z2, z3⟩ := plan_end hZ hbW (Nat.le_refl _) (.string ⟨#[]⟩) (.int .i64 0) (.int .i64 0) (.int .i64 0)
    rw [← hWF]
    clear hWF hZ t0 t1 t2 t3 f0 f1 f2 f3
    refine bodyPost_ret (v := .tuple #[.agg #[.string ⟨#[]⟩, .int .i64 0, .int .i64 0, .int .i64 0], .bool false]) (by simp [results, Tryz.results11, go_sem, *]) rfl ⟨by rw [HO.out]; rfl, hbF⟩
  · by_cases h3 : ns.length = 3
    · obtain ⟨a, b, d, rfl⟩ := three h3
      have hbd := listR_i64 hns
      have ia := (hbd a (by simp)).i64
      have ib := (hbd b (by simp)).i64
      have id := (hbd d (by simp)).i64
      have HM := Lib.hid (mp_ok (id := p0) hns)
      obtain ⟨q, cap, rfl, hc1, hc2, n0, n1, n2⟩ := row_of hO2
      clear hns hO2 hbd h3
      go_wp2_with (fail)
      go_region_held3 (fun w' => w'.cell? ⟨q, 0, none⟩ = some (.int .i64 a) ∧ w'.cell? ⟨q, 1, none⟩ = some (.int .i64 b) ∧ w'.cell? ⟨q, 2, none⟩ = some (.int .i64 d)) (go_keep) (fail)
      all_goals
        go_wp2_with (fail)
        refine calls_named ?_
        intro W3 e3
        have hX : Blk W3 w2.heap.size 25 [.string (tx p0), .int .i64 a, .int .i64 b, .int .i64 d] := by rw [e3]; exact Blk.new w2 _ _
        have hb3 : Below w2.heap.size w2 W3 := by rw [e3]; exact below_drew0 (below_alloc (Below.refl _ _) _)
        clear e3
        replace hZ := hZ.keep hb3
        replace hbW := below_step hbW hb3
        clear hb3 n0 n1 n2 t0 t1 t2 t3 f0 f1 f2 f3 hgz
        have CV := Lib.hid (ValidPlanet_any (tx p0) a b d W3)
        have CT := Lib.hid (fun W hb => PlanetText_any (tx p0) a b d W (HT.out.below (w' := W) hb).pow)
        rw [tx_data] at CV CT
        generalize w2.heap.size = q3 at *
        cases hv : vPlanet p0 a b d with
        | false =>
          have HO := Lib.hid (HI.out (HM.out.trans (if_neg (by rw [hv]; exact Bool.false_ne_true))))
          rw [hv] at CV
          clear hv CT
          refine CV.out.mono ?_
          rintro e w4 ⟨rfl, hb4⟩
          replace hZ := hZ.keep hb4
          replace hbW := below_step hbW hb4
          obtain ⟨⟨t0, t1, t2, t3⟩, f0, f1, f2, f3⟩ := hZ.zplan
          have hgz := hZ.lt
          clear hb4 hX
          go_wp2_with (fail)
          obtain ⟨WF, hWF, hbF, z0, z1, z2, z3⟩ := plan_end hZ hbW (Nat.le_refl _) (.string ⟨#[]⟩) (.int .i64 0) (.int .i64 0) (.int .i64 0)
          rw [← hWF]
          clear hWF hZ t0 t1 t2 t3 f0 f1 f2 f3
          refine bodyPost_ret (v := .tuple #[.agg #[.string ⟨#[]⟩, .int .i64 0, .int .i64 0, .int .i64 0], .bool false]) (by simp [results, Tryz.results11, go_sem, *]) rfl ⟨by rw [HO.out]; rfl, hbF⟩
        | true =>
          have HMS := Lib.hid (HJ.out _ _ (HM.out.trans (if_pos hv)))
          rw [hv] at CV
          have HST : Hid (planO p0 a b d = planT p0 [a, b, d]) := Lib.hid (by rw [planO, if_pos hv])
          clear hv
          refine CV.out.mono ?_
          rintro e w4 ⟨rfl, hb4⟩
          replace hZ := hZ.keep hb4
          replace hbW := below_step hbW hb4
          replace hX := hX.keep hb4
          have x0 : w4.cell? ⟨q3, 0, none⟩ = some (.string (tx p0)) := by rw [hX.cell]; rfl
          have x1 : w4.cell? ⟨q3, 1, none⟩ = some (.int .i64 a) := by rw [hX.cell]; rfl
          have x2 : w4.cell? ⟨q3, 2, none⟩ = some (.int .i64 b) := by rw [hX.cell]; rfl
          have x3 : w4.cell? ⟨q3, 3, none⟩ = some (.int .i64 d) := by rw [hX.cell]; rfl
          have hgx := hX.lt
          clear hb4
          obtain ⟨T, hTx⟩ : ∃ T, T = tx (planO p0 a b d) := ⟨_, rfl⟩
          rw [← hTx] at CT
          have HTX := Lib.hid hTx
          clear hTx
          go_wp2_with (fail)
          refine (CT.out _ hbW).mono ?_
          rintro e w5 ⟨rfl, hb5⟩
          replace hZ := hZ.keep hb5
          replace hbW := below_step hbW hb5
          replace hX := hX.keep hb5
          clear x0 x1 x2 x3 hgx hb5 CT
          obtain ⟨⟨t0, t1, t2, t3⟩, f0, f1, f2, f3⟩ := hZ.zplan
          have hgz := hZ.lt
          by_cases he : planT p0 [a, b, d] = s.data.toList
          · have hq := eqs_yes (a := T) (b := s) (by rw [HTX.out, HST.out]; exact tx_eq2 he)
            have hms := HMS.out
            rw [if_pos he] at hms
            have HO := Lib.hid hms
            have x0 : w5.cell? ⟨q3, 0, none⟩ = some (.string (tx p0)) := by rw [hX.cell]; rfl
            have x1 : w5.cell? ⟨q3, 1, none⟩ = some (.int .i64 a) := by rw [hX.cell]; rfl
            have x2 : w5.cell? ⟨q3, 2, none⟩ = some (.int .i64 b) := by rw [hX.cell]; rfl
            have x3 : w5.cell? ⟨q3, 3, none⟩ = some (.int .i64 d) := by rw [hX.cell]; rfl
            have hgx := hX.lt
            clear hX hms he
            go_wp2_with (fail)
            obtain ⟨WF, hWF, hbF, z0, z1, z2, z3⟩ := plan_end hZ hbW (Nat.le_refl _) (.string (tx p0)) (.int .i64 a) (.int .i64 b) (.int .i64 d)
            rw [← hWF]
            clear hWF hZ t0 t1 t2 t3 f0 f1 f2 f3 x0 x1 x2 x3
            refine bodyPost_ret (v := .tuple #[.agg #[.string (tx p0), .int .i64 a, .int .i64 b, .int .i64 d], .bool true]) (by simp [results, Tryz.results11, go_sem, *]) rfl ⟨by rw [HO.out]; rfl, hbF⟩
          · have hq := eqs_no (a := T) (b := s) (by rw [HTX.out, HST.out]; exact tx_ne he)
            have hms := HMS.out
            rw [if_neg he] at hms
            have HO := Lib.hid hms
            clear hX hms he
            go_wp2_with (fail)
            obtain ⟨WF, hWF, hbF, z0, z1, z2, z3⟩ := plan_end hZ hbW (Nat.le_refl _) (.string ⟨#[]⟩) (.int .i64 0) (.int .i64 0) (.int .i64 0)
            rw [← hWF]
            clear hWF hZ t0 t1 t2 t3 f0 f1 f2 f3
            refine bodyPost_ret (v := .tuple #[.agg #[.string ⟨#[]⟩, .int .i64 0, .int .i64 0, .int .i64 0], .bool false]) (by simp [results, Tryz.results11, go_sem, *]) rfl ⟨by rw [HO.out]; rfl, hbF⟩
    · have HO := Lib.hid (HI.out (mp_len hns h3))
      have h3' : ((ns.length : Int) != 3) = true := by rw [bne_iff_ne]; omega
      obtain ⟨A2, c2, rfl, _⟩ := hO2.form
      clear hns hO2
      go_wp2_with (fail)
      obtain ⟨WF, hWF, hbF, z0, z1, z2, z3⟩ := plan_end hZ hbW (Nat.le_refl _) (.string ⟨#[]⟩) (.int .i64 0) (.int .i64 0) (.int .i64 0)
      rw [← hWF]
      clear hWF hZ t0 t1 t2 t3 f0 f1 f2 f3
      refine bodyPost_ret (v := .tuple #[.agg #[.string ⟨#[]⟩, .int .i64 0, .int .i64 0, .int .i64 0], .bool false]) (by simp [results, Tryz.results11, go_sem, *]) rfl ⟨by rw [HO.out]; rfl, hbF⟩
end Go.Proofs.YtpnfhienffekoaaGreatDoor
