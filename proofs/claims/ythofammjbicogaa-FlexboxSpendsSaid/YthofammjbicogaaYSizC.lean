/-
  What the laws of layer 14 are told by: 'told', by its contract.
-/
import Derived.Test.YthofammjbicogaaYSizB
namespace Go.Proofs.Ythofammjbicogaa
open Go.RowKit
set_option linter.unusedSimpArgs false
set_option linter.unusedVariables false

def heldW (R : World → Prop) (h : ∀ w w', R w → Below w.heap.size w w' → R w') : Cl := .own (fun _ w => R w) (fun _ w w' x hb => h w w' x hb)
def toldS (whole : Bool) : Int := if whole then 2 else 1
end Go.Proofs.Ythofammjbicogaa
