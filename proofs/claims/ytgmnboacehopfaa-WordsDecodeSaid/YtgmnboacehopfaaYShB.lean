/-
  Package share, each function by its contract: Split.
-/
import Derived.Test.YtgmnboacehopfaaYShA
import Derived.Test.YtgmnboacehopfaaYFixD
import Derived.Test.YtgmnboacehopfaaZ6
namespace Go.Proofs.Ytgmnboacehopfaa
open Go.RowKit
set_option linter.unusedSimpArgs false
set_option linter.unusedVariables false

theorem RowI.but {w w' : World} {b : Nat} {ao : Option Addr} {k : Nat} {xs : List Int} (h : RowI w ao k xs) (hb : But b w w') (hne : ∀ g off, ao = some ⟨g, off, none⟩ → g ≠ b) : RowI w' ao k xs := by
  refine ⟨h.1, fun hk => ?_⟩
  obtain ⟨g, off, e, hg, hc⟩ := h.2 hk
  exact ⟨g, off, e, Nat.lt_of_lt_of_le hg hb.size, fun i hi => (World.cell?_of_block (w := w) (a := ⟨g, off + i, none⟩) (hb.block g hg (hne g off e))).trans (hc i hi)⟩
theorem OwnI.from {w : World} {B : Nat} {ao : Option Addr} {k cap : Nat} {xs : List Int} (h : OwnI w B ao k cap xs) : ∀ g off, ao = some ⟨g, off, none⟩ → B ≤ g := fun g off e => by
  subst e
  exact (h.ge (g := g) (by simp [Value.ownBlock])).1
theorem partsN_zero (t : Int) (xs : List Int) : ∀ n, partsN t 0 xs n = List.replicate n 0
  | 0 => rfl
  | n + 1 => by
    rw [partsN_succ, partsN_zero t xs n, List.replicate_succ']
    unfold shareAt
    simp
def splC (t : Int) (xs : List Int) (k : Nat) : Int := if lenB t then allE xs k else 2
/-- What Split answers: the parts, or an error. -/
def negB (xs : List Int) (k : Nat) : Bool := decide (0 < k ∧ minK xs (k - 1) < 0)
def shE (t : Int) (xs : List Int) (k : Nat) : Int := if 1024 < k then 8 else if negB xs k then 1 else splC t xs k
def SplitAns (t : Int) (xs : List Int) (k : Nat) (w : World) (e : Ending) (w' : World) : Prop :=
  ∃ ao m cap ys, e = .returned (.tuple #[.slice ao m cap, .int .i64 (shE t xs k)]) ∧ RowI w' ao m ys ∧ m ≤ cap ∧ (cap ≤ maxLen ∧ ∀ g off, ao = some ⟨g, off, none⟩ → w.heap.size ≤ g) ∧ (shE t xs k = 0 → m = k ∧ ys = partsN t (pre xs k) xs k) ∧ (shE t xs k ≠ 0 → m = 0 ∧ ys = []) ∧ Below w.heap.size w w'
theorem nonneg_of {xs : List Int} {k : Nat} (hl : xs.length = k) (h : negB xs k = false) : Nonneg xs := by
  intro i
  by_cases hi : i < k
  · unfold negB at h
    rw [decide_eq_false_iff_not] at h
    have h1 : ¬ minK xs (k - 1) < 0 := fun x => h ⟨by omega, x⟩
    rw [minK_neg] at h1
    have : ¬ xs.getD i 0 < 0 := fun x => h1 ⟨i, by omega, x⟩
    omega
  · simp only [List.getD]
    rw [List.getElem?_eq_none (by omega)]
    simp
end Go.Proofs.Ytgmnboacehopfaa
