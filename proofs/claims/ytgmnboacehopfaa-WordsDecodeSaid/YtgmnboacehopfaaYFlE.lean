/-
  Package flexbox: spent.
-/
import Derived.Test.YtgmnboacehopfaaYFlD
namespace Go.Proofs.Ytgmnboacehopfaa
open Go.RowKit
set_option linter.unusedSimpArgs false
set_option linter.unusedVariables false

/-- Is there a number that isn't 0? -/
def someB (xs : List Int) (n : Nat) : Bool := decide (∃ i, i < n ∧ xs.getD i 0 ≠ 0)
end Go.Proofs.Ytgmnboacehopfaa
