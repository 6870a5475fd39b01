/-
  The functions of package ratio, each by its contract: Times.
-/
import Derived.Test.YtmkblfejoniccaaDoorYRatF
namespace Go.Proofs.YtmkblfejoniccaaDoor
open Go.RowKit
set_option linter.unusedSimpArgs false
set_option linter.unusedVariables false

theorem fit_low {n d : Int} (hn : IFit n) (hd : IFit d) (h1 : 1 ≤ d) : fitR n d := by
  have e1 := numR_le n d
  have e2 := denR_le n d
  have e3 := numR_pos n d h1
  have e4 : n.natAbs / Nat.gcd n.natAbs d.natAbs ≤ n.natAbs := Nat.div_le_self _ _
  obtain ⟨A, eA⟩ : ∃ A, n.natAbs / Nat.gcd n.natAbs d.natAbs = A := ⟨_, rfl⟩
  rw [eA] at e3 e4
  have e5 : 0 ≤ denR n d := by unfold denR; exact Int.natCast_nonneg _
  unfold fitR IFit at *
  refine ⟨?_, by omega⟩
  rw [e3]
  by_cases h : n < 0
  · rw [if_pos h]; omega
  · rw [if_neg h]; omega
/-- What Times answers for two good ratios: the product, if both its numbers are ints. -/
def TimesAns (p q : Int) (w : World) (e : Ending) (w' : World) : Prop :=
  (intB p = true ∧ intB q = true → e = .returned (.tuple #[.agg #[.int .i64 p, .int .i64 q], .int .i64 0])) ∧ (¬ (intB p = true ∧ intB q = true) → e = .returned (.tuple #[.agg #[.int .i64 0, .int .i64 0], .int .i64 2])) ∧ Below w.heap.size w w'
end Go.Proofs.YtmkblfejoniccaaDoor
