/- Contracts of the functions on the stars of a figure, of both. -/
import Derived.Test.YtbpjnopnhmoigaaDoorPut
namespace Go.Proofs.YtbpjnopnhmoigaaDoor
set_option linter.unusedVariables false
set_option linter.unusedSimpArgs false
open Go.RowKit
/-- what FigureStars answers -/
def figO (nm : ByteArray) (L : List (List Int)) (l : List Sta) : List Int × Int := if vFig nm L l then (setI (endsL L), 0) else ([], 1)
theorem figO_no {nm : ByteArray} {L : List (List Int)} {l : List Sta} (h : vFig nm L l = false) : figO nm L l = ([], 1) := by simp [figO, h]
theorem figO_yes {nm : ByteArray} {L : List (List Int)} {l : List Sta} (h : vFig nm L l = true) : figO nm L l = (setI (endsL L), 0) := by simp [figO, h]
theorem ends_len {m : Int} {L : List (List Int)} (h : vLines m L = true) : (setI (endsL L)).length ≤ 32 := by
  have h1 := setI_len (endsL L)
  have h2 := endsL_len h L.length (Nat.le_refl _)
  have h3 := vLines_len h
  rw [List.take_of_length_le (Nat.le_refl _)] at h2
  omega
theorem figO_len (nm : ByteArray) (L : List (List Int)) (l : List Sta) : (figO nm L l).1.length ≤ 32 := by
  unfold figO
  split
  · next h => exact ends_len (vFig_lines h)
  · simp
theorem setEnds_succ {m : Int} {L : List (List Int)} {k : Nat} {u v : Int} (hx : L[k]? = some [u, v]) : setI (endsL (L.take (k + 1))) = putI v (putI u (setI (endsL (L.take k)))) := by
  rw [endsL_take hx, show [u, v] = [u] ++ [v] from rfl, ← List.append_assoc, setI_snoc, setI_snoc]
/-- what l08Stars leaves -/
def StarsPost (L : List (List Int)) (w : World) (e : Ending) (w' : World) : Prop := ∃ v : Value, e = .returned v ∧ OwnI w' w.heap.size v (setI (endsL L)) ∧ Below w.heap.size w w'
set_option maxRecDepth 100000 in
set_option maxHeartbeats 4000000 in
theorem l08Stars_any (m : Int) (g : Nat) (B : Option Addr) (p q : Nat) (L : List (List Int)) (w : World) (hp : L.length = p) (hv : vLines m L = true) (x1 : w.cell? ⟨g, 1, none⟩ = some (.slice B p q)) (hB : Lists w B L) :
    Calls Tryd.prog 81 #[.pointer (some ⟨g, 0, none⟩)] w (StarsPost L w) := by
  have HP := Lib.hid hp; clear hp
  have h16 : p ≤ 16 := by have := vLines_len hv; have := HP.out; omega
  have HV := Lib.hid hv; clear hv
  have hgl := World.block_lt_of_cell? w _ x1
  dsimp only at hgl
  have hE := OwnI.empty w w.heap.size (Nat.le_refl _)
  have hb0 : Below w.heap.size w (w.alloc (.cells #[] 2)) := below_alloc (Below.refl _ _) _
  go_enter Tryd.func81, Tryd.ntmps81
  go_wp2_with (fail)
  have X1 := Lib.hid x1; clear x1
  go_loopw [3, 4] (fun s3 s4 wr => ∃ (k : Nat) (v : Value), k ≤ p ∧ s4 = .int .i64 (k : Int) ∧ v = s3 ∧ OwnI wr w.heap.size v (setI (endsL (L.take k))) ∧ Below w.heap.size w wr) (fun _ s4 _ => p - (intOf s4).toNat)
  case atStart => exact ⟨0, _, by omega, rfl, rfl, hE, hb0⟩
  case round =>
    clear hE hb0
    obtain ⟨k, v, hk, rfl, rfl, hO, hb⟩ := hrel
    have y1 := (hb.cell (p := ⟨g, 1, none⟩) hgl).trans X1.out
    by_cases hlt : k < p
    · obtain ⟨x, hx⟩ := at_lt (l := L) (k := k) (by have := HP.out; omega)
      obtain ⟨u1, u2, rfl, _⟩ := lineOk_two (vLines_ok HV.out hx)
      have HS := Lib.hid (setEnds_succ (m := m) hx)
      have hlen : (setI (endsL (L.take k))).length ≤ 32 := by
        have h1 := setI_len (endsL (L.take k))
        have h2 := endsL_len HV.out k (by have := HP.out; omega)
        omega
      obtain ⟨b, o, rfl, hc⟩ := hB.below hb (by have := HP.out; omega)
      obtain ⟨A1, c1, e0, e1, _, _, e4⟩ := hc k _ hx
      obtain ⟨b1, o1, rfl, q0, q1⟩ := ints_two e4
      simp only [List.length_cons, List.length_nil, Nat.zero_add, Nat.reduceAdd] at e0 e1
      have l0 := World.block_lt_of_cell? wr _ e0
      have l1 := World.block_lt_of_cell? wr _ q0
      have lg := World.block_lt_of_cell? wr _ y1
      dsimp only at l0 l1 lg
      clear hc hx e4
      generalize setI (endsL (L.take k)) = S at *
      obtain ⟨A2, c2, rfl, hI, _, _, _, _⟩ := hO.form2
      go_wp2_with (fail)
      refine (l00Put_any A2 S.length c2 S u1 _ rfl (by omega) hI).mono ?_
      rintro ea w2 ⟨v2, rfl, hO2, hb2⟩
      have z0 := (hb2.cell (p := ⟨b, o + k, none⟩) l0).trans e0
      have z1 := (hb2.cell (p := ⟨b1, o1 + 1, none⟩) l1).trans q1
      have z2 := (hb2.cell (p := ⟨g, 1, none⟩) lg).trans y1
      clear e0 q0 q1 y1
      obtain ⟨A3, c3, rfl, hI3, _, _, _, _⟩ := hO2.form2
      have hlen2 : (putI u1 S).length ≤ 33 := by have := putI_len u1 S; omega
      generalize putI u1 S = S2 at *
      go_wp2_with (fail)
      refine (l00Put_any A3 S2.length c3 S2 u2 _ rfl (by omega) hI3).mono ?_
      rintro eb w3 ⟨v3, rfl, hO3, hb3⟩
      clear z0 z1 z2
      have hb6 := below_step hb (below_step hb2 hb3)
      have hO6 := hO3.base_le (Nat.le_trans hb.size hb2.size)
      clear hO hO2 hI hI3 hO3
      go_wp2_with (fail)
      go_roundw
      case rel => exact ⟨k + 1, v3, by omega, by go_num, rfl, by rw [HS.out]; exact hO6, hb6⟩
      case measure => simp [intOf]; omega
    · obtain rfl : k = p := by omega
      go_wp2_with (fail)
      go_ret
      exact ⟨v, rfl, by rw [List.take_of_length_le (by have := HP.out; omega)] at hO; exact hO, hb⟩
end Go.Proofs.YtbpjnopnhmoigaaDoor
