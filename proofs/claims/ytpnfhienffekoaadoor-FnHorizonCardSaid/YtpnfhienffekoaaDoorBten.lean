/- Contracts of the small functions of the laws that read bytes and lists. -/
import Derived.Test.YtpnfhienffekoaaDoorBytes
import Derived.Test.YtpnfhienffekoaaDoorGrpNum
import Derived.Test.YtpnfhienffekoaaDoorStars
namespace Go.Proofs.YtpnfhienffekoaaDoor
set_option linter.unusedVariables false
set_option linter.unusedSimpArgs false
open Go.RowKit
theorem cell_kept {w w' : World} {b o : Nat} {v : Value} (h : w.cell? ⟨b, o, none⟩ = some v) (hb : Below w.heap.size w w') : w'.cell? ⟨b, o, none⟩ = some v := (hb.cell (p := ⟨b, o, none⟩) (World.block_lt_of_cell? w _ h)).trans h
theorem b10Long_at (A : Option Addr) (n c : Nat) (w : World) :
    Calls Tryd.prog 4 #[.slice A n c] w fun e w' => e = .returned (.bool (decide (1048576 < n))) ∧ w = w' := by
  by_cases h : 1048576 < n
  · have h' : (1048576 : Int) < (n : Int) := by omega
    go_enter Tryd.func4, Tryd.ntmps4
    go_wp2_with (fail)
    go_ret
    exact ⟨by simp [h], rfl⟩
  · go_enter Tryd.func4, Tryd.ntmps4
    go_wp2_with (fail)
    go_ret
    exact ⟨by simp [h]; omega, rfl⟩
end Go.Proofs.YtpnfhienffekoaaDoor
