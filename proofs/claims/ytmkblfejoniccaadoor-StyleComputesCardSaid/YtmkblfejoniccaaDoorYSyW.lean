/-
  The statement StyleComputes, of what came in.
-/
import Derived.Test.YtmkblfejoniccaaDoorYOpenS
import Derived.Test.YtmkblfejoniccaaDoorYSyT
namespace Go.Proofs.YtmkblfejoniccaaDoor
open Go Go.RowKit
set_option linter.unusedSimpArgs false
set_option linter.unusedVariables false

theorem law_computes_in (v : Value) (w : World) (h : RawIn w v) (hT : StyW w) : Calls Tryd.prog 8 #[v] w fun e w' => e = .returned (.bool true) ∧ Below w.heap.size w w' := by
  obtain ⟨x, hx, rfl⟩ := h
  exact law_computes x hx w hT
end Go.Proofs.YtmkblfejoniccaaDoor
