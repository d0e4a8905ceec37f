/- Contracts of the texts of lists of numbers and of planets. -/
import Derived.Test.YtpnfhienffekoaaDoorWord
import Derived.Deep.RegionHeld3
import Derived.Deep.DrawnRows
import Derived.Lib.Join
namespace Go.Proofs.YtpnfhienffekoaaDoor
set_option linter.unusedVariables false
set_option linter.unusedSimpArgs false
open Go.RowKit
attribute [local go_sem ↓] Go.wp_at_zero Go.wp_at_succ
theorem join_joinC (c : UInt8) (p : List UInt8) (ps : List (List UInt8)) : Lib.join (p :: ps) [c] = joinC c (p :: ps) := by
  rw [Lib.join_cons, joinC_cons]
  congr 1
theorem heldL {a : World} (y : Later a) {b o : Nat} {v : Value} (h : a.cell? ⟨b, o, none⟩ = some v) : y.w.cell? ⟨b, o, none⟩ = some v := (Later.cell y (World.block_lt_of_cell? a _ h)).trans h
theorem held_drewL {a : World} {b o : Nat} {v : Value} (h : a.cell? ⟨b, o, none⟩ = some v) : a.drew.cell? ⟨b, o, none⟩ = some v := h
theorem held_allocL {a : World} (o' : Obj) {b o : Nat} {v : Value} (h : a.cell? ⟨b, o, none⟩ = some v) : (a.alloc o').cell? ⟨b, o, none⟩ = some v := (World.cell?_alloc_lt _ _ _ (World.block_lt_of_cell? a _ h)).trans h
/-- the numbers of a list as texts -/
def itoas (l : List Int) : List ByteArray := l.map fun n => tx (Lib.itoa n)
theorem itoas_length (l : List Int) : (itoas l).length = l.length := by simp [itoas]
theorem itoas_at {l : List Int} {k : Nat} {n : Int} (h : l[k]? = some n) : (itoas l)[k]? = some (tx (Lib.itoa n)) := by simp [itoas, h]
theorem itoas_data (l : List Int) : (itoas l).map (·.data.toList) = l.map Lib.itoa := by
  simp only [itoas, List.map_map]
  congr 1
def listT (l : List Int) : List UInt8 := joinC 44 (l.map Lib.itoa)
theorem joinC_len (c : UInt8) (b : Nat) : ∀ ps : List (List UInt8), (∀ p ∈ ps, p.length ≤ b) → (joinC c ps).length ≤ ps.length * (b + 1)
  | [], _ => by simp [joinC]
  | p :: ps, h => by
    rw [joinC_cons, List.length_append, List.length_cons, Nat.add_mul]
    have h1 := h p (List.mem_cons_self ..)
    have : (ps.flatMap fun q => c :: q).length ≤ ps.length * (b + 1) := by
      have h2 : ∀ q ∈ ps, q.length ≤ b := fun q hq => h q (List.mem_cons_of_mem _ hq)
      clear h h1
      induction ps with
      | nil => simp
      | cons q r ih =>
        rw [List.flatMap_cons, List.length_append, List.length_cons, List.length_cons, Nat.add_mul]
        have := ih fun x hx => h2 x (List.mem_cons_of_mem _ hx)
        have := h2 q (List.mem_cons_self ..)
        omega
    omega
theorem listT_len {l : List Int} (h : ∀ n ∈ l, I64 n) : (listT l).length ≤ l.length * 22 := by
  have := joinC_len 44 21 (l.map Lib.itoa) (fun p hp => by
    obtain ⟨n, hn, rfl⟩ := List.mem_map.1 hp
    exact itoa_len21 n (h n hn))
  rwa [List.length_map] at this
theorem listT_one (a : Int) : listT [a] = Lib.itoa a := rfl
theorem joinC_snoc (c : UInt8) (ps : List (List UInt8)) (q : List UInt8) (h : ps ≠ []) : joinC c (ps ++ [q]) = joinC c ps ++ c :: q := by
  cases ps with
  | nil => exact absurd rfl h
  | cons p r => rw [List.cons_append, joinC_cons, joinC_cons, List.flatMap_append]; simp
theorem zeroStrs_made (z : Array Value) (hz : z = #[.string ByteArray.empty]) (n : Nat) : madeCells z (n * 1) = (strCells (List.replicate n ByteArray.empty)).toArray := by
  apply Array.ext_getElem?
  intro j
  by_cases hj : j < n
  · simp [madeCells, strCells, hz, hj, Nat.mod_one]
  · simp [madeCells, strCells, hz, hj]
theorem strCells_set {ys : List ByteArray} {k : Nat} {x : ByteArray} : (strCells ys).set k (.string x) = strCells (ys.set k x) := by simp [strCells, List.map_set]
def BdI (n : Int) : Prop := -1000000000000 ≤ n ∧ n ≤ 1000000000000
theorem BdI.i64 {n : Int} (h : BdI n) : I64 n := by obtain ⟨h1, h2⟩ := h; exact ⟨by omega, by omega⟩
theorem within_yes {a b c : Int} (h1 : b ≤ a) (h2 : a ≤ c) : inB a b c = true := (inB_iff _ _ _).2 ⟨h1, h2⟩
def planO (l : List UInt8) (p r u : Int) : List UInt8 := if vPlanet l p r u = true then planT l [p, r, u] else []
theorem planO_yes {l : List UInt8} {p r u : Int} (h : vPlanet l p r u = true) : planO l p r u = l ++ 32 :: listT [p, r, u] := by rw [planO, if_pos h]; rfl
theorem planO_no {l : List UInt8} {p r u : Int} (h : vPlanet l p r u = false) : planO l p r u = [] := by rw [planO, if_neg (by rw [h]; exact Bool.false_ne_true)]
theorem ints_box (V : World) (t : TypeId) (a b c : Int) : Ints (V.alloc (.cells #[.int .i64 a, .int .i64 b, .int .i64 c] t)) (some ⟨V.heap.size, 0, none⟩) [a, b, c] := by
  have h : Blk (V.alloc (.cells #[.int .i64 a, .int .i64 b, .int .i64 c] t)) V.heap.size t (numCells [a, b, c]) := Blk.new _ _ _
  exact h.nums
end Go.Proofs.YtpnfhienffekoaaDoor
