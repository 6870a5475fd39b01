/-
  The statement StyleHairlines, of what came in.
-/
import Derived.Test.YtmkblfejoniccaaDoorYOpenS
import Derived.Test.YtmkblfejoniccaaDoorYSyP
namespace Go.Proofs.YtmkblfejoniccaaDoor
open Go Go.RowKit
set_option linter.unusedSimpArgs false
set_option linter.unusedVariables false

theorem law_hairlines_in (a b : Int) (v : Value) (ha : 0 ≤ a ∧ a ≤ 4294967295) (hb : 0 ≤ b ∧ b ≤ 4294967295) (w : World) (h : TwoIn w v) (hT : StyW w) : Calls Tryd.prog 11 #[.int .u32 a, .int .u32 b, v] w fun e w' => e = .returned (.bool true) ∧ Below w.heap.size w w' := by
  obtain ⟨s, t, hs, ht, rfl⟩ := h
  exact law_hairlines a b s t ha hb hs ht w hT
end Go.Proofs.YtmkblfejoniccaaDoor
