/- A world that came out of a later one is a later one too. -/
import Derived.Test.YtbpjnopnhmoigaaDoorLater
namespace Go.Proofs.YtbpjnopnhmoigaaDoor
set_option linter.unusedVariables false
open Go.RowKit
theorem calls_rebase {P : Program} {f : FuncId} {args : Array Value} {a w : World} {R : Ending → World → Prop} (y : Later a) (hb : Below y.w.heap.size y.w w) (h : ∀ z : Later a, Calls P f args z.w R) : Calls P f args w R := h ⟨w, y.below.trans (hb.mono y.below.size)⟩
theorem wp_rebase {P : Program} {c : Code} {Q : Exit → Act → World → Prop} {act : Act} {a w : World} (y : Later a) (hb : Below y.w.heap.size y.w w) (h : ∀ z : Later a, c.wp P Q act z.w) : c.wp P Q act w := h ⟨w, y.below.trans (hb.mono y.below.size)⟩
theorem below_of_later {a w : World} (y : Later a) (hb : Below y.w.heap.size y.w w) : Below a.heap.size a w := y.below.trans (hb.mono y.below.size)
theorem later_of {a w : World} (hb : Below a.heap.size a w) : ∃ z : Later a, w = z.w := ⟨⟨w, hb⟩, rfl⟩
end Go.Proofs.YtbpjnopnhmoigaaDoor
