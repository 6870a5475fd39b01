/-
  Package share, each function by its contract: slices.Min; all; parts.
-/
import Derived.Test.YtgmnboacehopfaaYShM
import Derived.Test.YtgmnboacehopfaaZ7
import Derived.Test.YtgmnboacehopfaaZ6
namespace Go.Proofs.Ytgmnboacehopfaa
open Go.RowKit
set_option linter.unusedSimpArgs false
set_option linter.unusedVariables false

/-- The least one of the first k + 1. -/
def minK (xs : List Int) : Nat → Int
  | 0 => xs.getD 0 0
  | j + 1 => min (minK xs j) (xs.getD (j + 1) 0)
theorem minK_neg (xs : List Int) : ∀ j, minK xs j < 0 ↔ ∃ i, i ≤ j ∧ xs.getD i 0 < 0
  | 0 => ⟨fun h => ⟨0, Nat.le_refl _, h⟩, fun ⟨i, hi, h⟩ => by
      obtain rfl : i = 0 := by omega
      exact h⟩
  | j + 1 => by
    have ih := minK_neg xs j
    constructor
    · intro h
      by_cases h1 : minK xs j < 0
      · obtain ⟨i, hi, h2⟩ := ih.1 h1
        exact ⟨i, by omega, h2⟩
      · refine ⟨j + 1, Nat.le_refl _, ?_⟩
        unfold minK at h
        omega
    · rintro ⟨i, hi, h⟩
      unfold minK
      by_cases e : i = j + 1
      · subst e; omega
      · have := ih.2 ⟨i, by omega, h⟩
        omega
def allE (xs : List Int) (k : Nat) : Int := if pre xs k ≤ 4611686018427387904 then 0 else 2
def allN (xs : List Int) (k : Nat) : Int := if pre xs k ≤ 4611686018427387904 then pre xs k else 0
def PartRel (w : World) (t S : Int) (xs : List Int) (k : Nat) (gk : Nat) (s7 s8 s9 s15 : Value) (wr : World) : Prop :=
  ∃ (j : Nat) (ao : Option Addr) (cap : Nat) (p b : Int), j ≤ k ∧ gk = k - j ∧ s7 = .slice ao j cap ∧ s8 = .int .i64 p ∧ s9 = .int .i64 b ∧ s15 = .int .i64 ((j : Int)) ∧ p = pre xs j ∧ b = t * pre xs j / S ∧ OwnI wr w.heap.size ao j cap (partsN t S xs j) ∧ Below w.heap.size w wr
def PartsAns (t S : Int) (xs : List Int) (k : Nat) (w : World) (e : Ending) (w' : World) : Prop :=
  ∃ ao cap, e = .returned (.slice ao k cap) ∧ OwnI w' w.heap.size ao k cap (partsN t S xs k) ∧ Below w.heap.size w w'
theorem bound_len {t p S : Int} (hp : 0 ≤ p) (hS : p ≤ S) (ht : LenB t) : LenB (t * p / S) := by
  have h := @bound_abs t p S hp hS
  unfold LenB at *
  by_cases h0 : 0 ≤ t
  · have := h.1 h0; omega
  · have := h.2 (by omega); omega
end Go.Proofs.Ytgmnboacehopfaa
