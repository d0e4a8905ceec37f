/- What the tied cards' rows ask, in one place. -/
import Derived.Test.YtpnfhienffekoaaGreatDoorCards
import Derived.Test.YtpnfhienffekoaaGreatDoorTie
import Derived.Test.YtpnfhienffekoaaGreatDoorMgE
import Derived.WalkKit
import Derived.ProofKit
import Derived.OpenShut
import Derived.OpenVars
import Derived.Deep.DeepHandedRow
import Derived.Lib.LaidTab
namespace Go.Proofs.YtpnfhienffekoaaGreatDoor
set_option linter.unusedVariables false
set_option linter.unusedSimpArgs false
open Go.RowKit
theorem lt_of_cell {W : World} {b o : Nat} {v : Value} (h : W.cell? ⟨b, o, none⟩ = some v) : b < W.heap.size := by
  by_cases hb : b < W.heap.size
  · exact hb
  · have : W.heap[b]? = none := Array.getElem?_eq_none (by omega)
    simp [World.cell?, this] at h
end Go.Proofs.YtpnfhienffekoaaGreatDoor
