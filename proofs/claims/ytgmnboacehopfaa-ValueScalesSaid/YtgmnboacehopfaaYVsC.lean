/-
  The law ValueScales, of what came in.
-/
import Derived.Test.YtgmnboacehopfaaYVsB
import Derived.Test.YtgmnboacehopfaaYOpenF
namespace Go.Proofs.Ytgmnboacehopfaa
open Go.RowKit
set_option linter.unusedSimpArgs false
set_option linter.unusedVariables false

theorem law_vscales_in (a b : Int) (v : Value) (ha : 0 ≤ a ∧ a ≤ 18446744073709551615) (hb : 0 ≤ b ∧ b ≤ 18446744073709551615) (w : World) (hv : Ar2 w v) :
    Calls Try.prog 7 #[.int .u64 a, .int .u64 b, v] w fun e w' => e = .returned (.bool true) ∧ Below w.heap.size w w' := by
  obtain ⟨x, y, rfl, hx, hy⟩ := hv
  obtain ⟨a', rfl⟩ := Int.eq_ofNat_of_zero_le ha.1
  obtain ⟨b', rfl⟩ := Int.eq_ofNat_of_zero_le hb.1
  exact law_vscales a' b' x y (by have := ha.2; omega) (by have := hb.2; omega) (u16_of_wf hx).1 (u16_of_wf hx).2 (u16_of_wf hy).1 (u16_of_wf hy).2 w
end Go.Proofs.Ytgmnboacehopfaa
