/-
  The statements of layer 1 that name no reference: what their functions compute.
-/
import Derived.Test.YtmkblfejoniccaaDoorZ2
namespace Go.Proofs.YtmkblfejoniccaaDoor
open Go.RowKit
set_option linter.unusedSimpArgs false
set_option linter.unusedVariables false

theorem bzE2 {n : Nat} {W w1 : World} {G : Prop} (hb : Below W.heap.size W w1) (h : n + 2 ≤ W.heap.size) (k : (n + 1 < w1.heap.size ∧ n + 1 ≤ w1.heap.size ∧ n < w1.heap.size) → G) : G := by
  have := hb.size
  exact k (by omega)
theorem fr_fit {a c : Int} (hc : IFit c) (h0 : c ≠ 0) : IFit (fr a c) := by
  unfold IFit at *
  rcases Int.lt_or_le c 0 with h | h
  · rw [fr_neg h]
    have := Int.emod_nonneg (-a) (show -c ≠ 0 by omega)
    have := Int.emod_lt_of_pos (-a) (show 0 < -c by omega)
    omega
  · rw [fr_pos (by omega)]
    have := Int.emod_nonneg a h0
    have := Int.emod_lt_of_pos a (show 0 < c by omega)
    omega

end Go.Proofs.YtmkblfejoniccaaDoor
