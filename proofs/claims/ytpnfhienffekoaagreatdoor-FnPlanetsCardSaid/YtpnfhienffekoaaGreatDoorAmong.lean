/- Contracts of the source of choices: yes or no, and one of some numbers. -/
import Derived.Test.YtpnfhienffekoaaGreatDoorSrc
import Derived.Deep.RegionHeld3
import Derived.Deep.DeepCutAuto
namespace Go.Proofs.YtpnfhienffekoaaGreatDoor
set_option linter.unusedVariables false
set_option linter.unusedSimpArgs false
open Go.RowKit
theorem Src.grown {w w' : World} {g a B : Nat} {row : Option Nat} (h : Src w g a B) (hg : w.grownBy w' row) (hr : ∀ k, row = some k → B ≤ k) : Src w' g a B := by
  obtain ⟨at_, A, n, c, bs, seed, h1, h2⟩ := h
  refine ⟨at_, A, n, c, bs, seed, h1, h2.blk.grown hg (fun p hp => by have := hr p hp; have := h2.gB; omega), h2.len, h2.small, h2.bytes.keep fun b hb hpos ⟨o, e⟩ => ?_, h2.ok, h2.lo, h2.hi, h2.apart, h2.gB, h2.aB⟩
  have := h2.aB hpos b o e
  exact hg.block b hb (fun e => by have := hr b e.symm; omega)
theorem grown_own {a w w' : World} {row r2 : Option Nat} (h : a.grownBy w row) (hg : w.grownBy w' r2) (hr : ∀ k, r2 = some k → a.heap.size ≤ k) : a.grownBy w' row :=
  ⟨hg.os.trans h.os, hg.tape.trans h.tape, hg.output.trans h.output, Nat.le_trans h.size hg.size, fun k hk hne => (hg.block k (Nat.lt_of_lt_of_le hk h.size) (fun e => by have := hr k e.symm; omega)).trans (h.block k hk hne)⟩
theorem heldV_drew {a : World} {b o : Nat} {v : Value} (h : a.cell? ⟨b, o, none⟩ = some v) : a.drew.cell? ⟨b, o, none⟩ = some v := h
theorem heldV_alloc {a : World} (o' : Obj) {b o : Nat} {v : Value} (h : a.cell? ⟨b, o, none⟩ = some v) : (a.alloc o').cell? ⟨b, o, none⟩ = some v := (World.cell?_alloc_lt _ _ _ (World.block_lt_of_cell? a _ h)).trans h
theorem heldV_set {a : World} {q i : Nat} {u : Value} {b o : Nat} {v : Value} (hne : q ≠ b) (h : a.cell? ⟨b, o, none⟩ = some v) : (a.setCell ⟨q, i, none⟩ u).cell? ⟨b, o, none⟩ = some v := (World.cell?_setCell_far a ⟨q, i, none⟩ ⟨b, o, none⟩ u hne).trans h
set_option maxHeartbeats 1000000 in
theorem one_any (g a B : Nat) (n : Int) (w : World) (h : Src w g a B) (ha : a ≤ 999999990) (hn : n ≤ 1000000000) :
    Calls Tryz.prog 101 #[.pointer (some ⟨g, 0, none⟩), .int .i64 n] w fun e w' => ∃ b : Bool, e = .returned (.bool b) ∧ Src w' g (a + 2) B ∧ w.grownBy w' (some g) := by
  go_enter Tryz.func101, Tryz.ntmps101
  go_wp2_with (fail)
  refine (pick_any g a B n w h ha hn).mono ?_
  rintro e w2 ⟨x, rfl, hx, hS2, hg2⟩
  go_wp2_with (fail)
  go_ret
  exact ⟨_, rfl, hS2, hg2⟩
set_option maxHeartbeats 1000000 in
theorem among_any (g a B b m c : Nat) (xs : List Int) (w : World) (h : Src w g a B) (ha : a ≤ 999999990) (hl : xs.length = m) (h0 : 0 < m) (hm : m ≤ 65536) (hb : b ≠ g) (hN : Blk w b 2 (numCells xs)) :
    Calls Tryz.prog 99 #[.pointer (some ⟨g, 0, none⟩), .slice (some ⟨b, 0, none⟩) m c] w fun e w' => ∃ y : Int, e = .returned (.int .i64 y) ∧ y ∈ xs ∧ Src w' g (a + 2) B ∧ w.grownBy w' (some g) := by
  go_enter Tryz.func99, Tryz.ntmps99
  go_wp2_with (fail)
  refine (pick_any g a B (m : Int) w h ha (by omega)).mono ?_
  rintro e w2 ⟨x, rfl, hx, hS2, hg2⟩
  have hxm : x < m := by omega
  obtain ⟨y, hy⟩ := at_lt (l := xs) (k := x) (by omega)
  have hN2 := hN.grown hg2 (fun p hp => by injection hp with hp; omega)
  have c0 : w2.cell? ⟨b, x, none⟩ = some (.int .i64 y) := by rw [hN2.cell]; exact numCells_at hy
  have hbl := hN2.lt
  clear hx hN hN2
  go_wp2_with (fail)
  go_ret
  exact ⟨y, rfl, List.mem_of_getElem? hy, hS2, hg2⟩
end Go.Proofs.YtpnfhienffekoaaGreatDoor
