/-
  Package share: Even; the laws' 'same' and 'speaks'.
-/
import Derived.Test.YtgmnboacehopfaaYShB
import Derived.Deep.QuietTactic
namespace Go.Proofs.Ytgmnboacehopfaa
open Go.RowKit
set_option linter.unusedSimpArgs false
set_option linter.unusedVariables false

def ones (n : Nat) : List Int := List.replicate n 1
/-- A new block of n cells, of which the first j are 1. -/
def OnesAt (w : World) (g n j : Nat) : Prop := ∃ cs, Blk w g cs 2 ∧ cs.size = n ∧ ∀ i, i < j → cs[i]? = some (.int .i64 1)
theorem OnesAt.step {w : World} {g n j : Nat} (h : OnesAt w g n j) (hj : j < n) : OnesAt (w.setCell ⟨g, j, none⟩ (.int .i64 1)) g n (j + 1) := by
  obtain ⟨cs, h1, h2, h3⟩ := h
  refine ⟨cs.setIfInBounds j (.int .i64 1), h1.set j _, by simp [h2], fun i hi => ?_⟩
  rw [Array.getElem?_setIfInBounds]
  by_cases e : j = i
  · rw [if_pos e, if_pos (by omega)]
  · rw [if_neg e]
    exact h3 i (by omega)
theorem OnesAt.row {w : World} {g n : Nat} (h : OnesAt w g n n) : RowI w (some ⟨g, 0, none⟩) n (ones n) := by
  obtain ⟨cs, h1, h2, h3⟩ := h
  refine ⟨by simp [ones], fun _ => ⟨g, 0, rfl, h1.lt, fun i hi => ?_⟩⟩
  rw [Nat.zero_add]
  have e : (ones n).getD i 0 = 1 := by simp [ones, List.getD, hi]
  rw [e]
  exact h1.cell i _ (h3 i hi)
theorem fits_ones (n : Nat) : Fits (ones n) := by
  intro i
  by_cases hi : i < n
  · have e : (ones n).getD i 0 = 1 := by simp [ones, List.getD, hi]
    rw [e]; omega
  · have e : (ones n).getD i 0 = 0 := by simp [ones, List.getD, hi]
    rw [e]; omega
theorem row_of_blk {w : World} {g : Nat} {cs : Array Value} (xs : List Int) (n : Nat) (hn : xs.length = n) (h : Blk w g cs 2) (e : cs.toList = i64s xs) : RowI w (some ⟨g, 0, none⟩) n xs := by
  refine ⟨hn, fun _ => ⟨g, 0, rfl, h.lt, fun i hi => ?_⟩⟩
  rw [Nat.zero_add]
  refine h.cell i _ ?_
  rw [← Array.getElem?_toList, e]
  unfold i64s
  rw [List.getElem?_map]
  have hx : i < xs.length := by omega
  simp [List.getD, hx]
theorem fits_list {xs : List Int} (h : ∀ x ∈ xs, -9223372036854775808 ≤ x ∧ x ≤ 9223372036854775807) : Fits xs := by
  intro i
  simp only [List.getD]
  cases e : xs[i]? with
  | none => simp
  | some x => exact h x (List.mem_of_getElem? e)
end Go.Proofs.Ytgmnboacehopfaa
