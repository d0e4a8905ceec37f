/- Contracts of the functions that read stars. -/
import Derived.Test.YtpnfhienffekoaaDoorRead
import Derived.Test.YtpnfhienffekoaaDoorStarT
namespace Go.Proofs.YtpnfhienffekoaaDoor
set_option linter.unusedVariables false
set_option linter.unusedSimpArgs false
open Go.RowKit
attribute [local go_sem ↓] Go.wp_at_zero Go.wp_at_succ
theorem mk_len {ws : List (List UInt8)} (h : ws.length ≠ 5) : mkStar ws = none := by unfold mkStar; rw [if_neg h]
theorem mk_nums {ws : List (List UInt8)} (h : ws.length = 5) (h2 : numsL ws.tail = none) : mkStar ws = none := by unfold mkStar; rw [if_pos h, h2]
theorem mk_bad {w0 : List UInt8} {r : List (List UInt8)} {a b c d : Int} (h : (w0 :: r).length = 5) (h2 : numsL r = some [a, b, c, d]) (h3 : vStar w0 a b c d = false) : mkStar (w0 :: r) = none := by
  unfold mkStar; rw [if_pos h, List.tail_cons, h2]
  simp only [List.headD_cons, List.getD_cons_zero, List.getD_cons_succ, h3]
  rfl
theorem mk_ok {w0 : List UInt8} {r : List (List UInt8)} {a b c d : Int} (h : (w0 :: r).length = 5) (h2 : numsL r = some [a, b, c, d]) (h3 : vStar w0 a b c d = true) : mkStar (w0 :: r) = some (w0, [a, b, c, d]) := by
  unfold mkStar; rw [if_pos h, List.tail_cons, h2]
  simp only [List.headD_cons, List.getD_cons_zero, List.getD_cons_succ, h3, if_true]
theorem rdI_none {l : List UInt8} (h : mkStar (wordsL l) = none) : readStarR l = none := by rw [← readStar_eq]; unfold readStarI; rw [h]
theorem rdI_some {l id : List UInt8} {n : List Int} (h : mkStar (wordsL l) = some (id, n)) : readStarR l = if starT id n = l then some (id, n) else none := by rw [← readStar_eq]; unfold readStarI; rw [h]
/-- the value of a star that was read -/
def starOf (o : Option (List UInt8 × List Int)) : Value := match o with
  | some (id, [a, b, c, d]) => .agg #[.string (tx id), .int .i64 a, .int .i64 b, .int .i64 c, .int .i64 d]
  | _ => .agg #[.string ⟨#[]⟩, .int .i64 0, .int .i64 0, .int .i64 0, .int .i64 0]
def StarRet (o : Option (List UInt8 × List Int)) (w : World) (e : Ending) (w' : World) : Prop := e = .returned (.tuple #[starOf o, .bool o.isSome]) ∧ Below w.heap.size w w'
theorem words_mem {s : ByteArray} {p : List UInt8} (h : p ∈ wordsL s.data.toList) (hs : s.size ≤ 1048576) : p.length ≤ 1048576 := by
  have h2 : p ∈ partsL 32 s.data.toList := (List.mem_filter.1 h).1
  have := parts_mem 32 s.data.toList p h2
  rw [len_data] at this; omega
theorem num_all {ws : List (List UInt8)} {ns : List Int} (h : numsL ws = some ns) : ∀ n ∈ ns, -1000000000000000000 < n ∧ n < 1000000000000000000 := fun n hn => by
  have := (numsL_some h).2 n hn; omega
theorem cons_of {α : Type} {l : List α} {n : Nat} (h : l.length = n + 1) : ∃ a r, l = a :: r ∧ r.length = n := by
  cases l with
  | nil => simp at h
  | cons a r => exact ⟨a, r, rfl, by simpa using h⟩
end Go.Proofs.YtpnfhienffekoaaDoor
