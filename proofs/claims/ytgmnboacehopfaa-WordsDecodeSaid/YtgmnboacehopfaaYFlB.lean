/-
  Package flexbox: spaces around things.
-/
import Derived.Test.YtgmnboacehopfaaYFlA
namespace Go.Proofs.Ytgmnboacehopfaa
open Go.RowKit
set_option linter.unusedSimpArgs false
set_option linter.unusedVariables false

/-- A block that holds just these numbers. -/
def BlkI (w : World) (g : Nat) (xs : List Int) : Prop := Blk w g (i64s xs).toArray 2
theorem BlkI.cell {w : World} {g : Nat} {xs : List Int} (h : BlkI w g xs) {i : Nat} (hi : i < xs.length) : w.cell? ⟨g, i, none⟩ = some (.int .i64 (xs.getD i 0)) := by
  refine Blk.cell h i _ ?_
  unfold i64s
  simp [List.getD, hi]
theorem BlkI.free {w : World} {g : Nat} {xs : List Int} (h : BlkI w g xs) (i : Nat) : w.frozen? ⟨g, i, none⟩ = false := Blk.free h i
theorem BlkI.put {w : World} {g : Nat} {xs : List Int} (h : BlkI w g xs) (i : Nat) (y : Int) : BlkI (w.setCell ⟨g, i, none⟩ (.int .i64 y)) g (xs.set i y) := by
  have h1 := Blk.set h i (.int .i64 y)
  unfold BlkI
  have e : (i64s (xs.set i y)).toArray = (i64s xs).toArray.setIfInBounds i (.int .i64 y) := by
    unfold i64s
    rw [List.map_set, List.setIfInBounds_toArray]
  rw [e]
  exact h1
theorem BlkI.below {w w' : World} {g : Nat} {xs : List Int} (h : BlkI w g xs) (hb : Below w.heap.size w w') : BlkI w' g xs := Blk.below h hb
theorem BlkI.row {w : World} {g n : Nat} {xs : List Int} (h : BlkI w g xs) (hn : xs.length = n) : RowI w (some ⟨g, 0, none⟩) n xs := row_of_blk xs n hn h rfl
theorem BlkI.zeros (w : World) (n : Nat) : BlkI (w.alloc (.cells (madeCells #[.int .i64 0] n) 2)) w.heap.size (List.replicate n 0) := by
  have e : (i64s (List.replicate n 0)).toArray = madeCells #[.int .i64 0] n := by
    apply Array.ext'
    rw [toList_madeCells_one]
    simp [i64s]
  unfold BlkI
  rw [e]
  exact Blk.new w _ _ _ rfl
theorem pre_set (xs : List Int) (i : Nat) (d : Int) (hi : i < xs.length) : ∀ m, pre (xs.set i (xs.getD i 0 + d)) m = pre xs m + (if i < m then d else 0)
  | 0 => by simp [pre]
  | m + 1 => by
    show pre _ m + (xs.set i (xs.getD i 0 + d)).getD m 0 = pre xs m + xs.getD m 0 + _
    rw [pre_set xs i d hi m]
    by_cases e : i = m
    · subst e
      have : (xs.set i (xs.getD i 0 + d)).getD i 0 = xs.getD i 0 + d := by simp [List.getD, hi]
      rw [this, if_neg (by omega), if_pos (by omega)]
      omega
    · have : (xs.set i (xs.getD i 0 + d)).getD m 0 = xs.getD m 0 := by simp [List.getD, List.getElem?_set_ne e]
      rw [this]
      by_cases h1 : i < m
      · rw [if_pos h1, if_pos (by omega)]; omega
      · rw [if_neg h1, if_neg (by omega)]; omega
/-- Half a part on each side of each of n things: the first j half parts laid. -/
def arL (ps : List Int) (n : Nat) : Nat → List Int
  | 0 => List.replicate (n + 1) 0
  | j + 1 => (arL ps n j).set ((j + 1) / 2) ((arL ps n j).getD ((j + 1) / 2) 0 + ps.getD j 0)
theorem arL_len (ps : List Int) (n : Nat) : ∀ j, (arL ps n j).length = n + 1
  | 0 => by simp [arL]
  | j + 1 => by
    unfold arL
    rw [List.length_set]
    exact arL_len ps n j
theorem arL_pre (ps : List Int) (n : Nat) : ∀ j, j ≤ 2 * n → pre (arL ps n j) (n + 1) = pre ps j
  | 0, _ => by
    have : ∀ m, pre (List.replicate (n + 1) 0) m = 0 := by
      intro m
      induction m with
      | zero => rfl
      | succ m ih =>
        show pre _ m + (List.replicate (n + 1) (0 : Int)).getD m 0 = 0
        rw [ih]
        by_cases h : m < n + 1
        · simp [List.getD, h]
        · simp [List.getD, h]
    exact this _
  | j + 1, h => by
    unfold arL
    rw [pre_set _ _ _ (by rw [arL_len]; omega), arL_pre ps n j (by omega), if_pos (by omega)]
    rfl
theorem arL_nonneg {ps : List Int} (h : Nonneg ps) (n : Nat) : ∀ j, Nonneg (arL ps n j)
  | 0 => fun i => by
    show 0 ≤ (List.replicate (n + 1) (0 : Int)).getD i 0
    by_cases hi : i < n + 1
    · simp [List.getD, hi]
    · simp [List.getD, hi]
  | j + 1 => fun i => by
    unfold arL
    have h1 := arL_nonneg h n j
    by_cases e : (j + 1) / 2 = i
    · subst e
      by_cases hl : (j + 1) / 2 < (arL ps n j).length
      · have : ((arL ps n j).set ((j + 1) / 2) ((arL ps n j).getD ((j + 1) / 2) 0 + ps.getD j 0)).getD ((j + 1) / 2) 0 = (arL ps n j).getD ((j + 1) / 2) 0 + ps.getD j 0 := by simp [List.getD, hl]
        rw [this]
        have := h1 ((j + 1) / 2)
        have := h j
        omega
      · rw [List.set_eq_of_length_le (by omega)]
        exact h1 _
    · have : ((arL ps n j).set ((j + 1) / 2) ((arL ps n j).getD ((j + 1) / 2) 0 + ps.getD j 0)).getD i 0 = (arL ps n j).getD i 0 := by simp [List.getD, List.getElem?_set_ne e]
      rw [this]
      exact h1 i
theorem get_le_pre {xs : List Int} (h : Nonneg xs) {i m : Nat} (hi : i < m) : xs.getD i 0 ≤ pre xs m := by
  have h1 := pre_mono h (show i + 1 ≤ m by omega)
  have h2 := pre_nonneg h i
  have h3 : pre xs (i + 1) = pre xs i + xs.getD i 0 := rfl
  omega
theorem evL_nonneg {t : Int} {p : Nat} (ht : 0 ≤ t) : Nonneg (evL t p) := fun i => by
  unfold evL
  by_cases hi : i < p
  · rw [partsN_get _ _ _ _ _ hi]
    unfold shareAt
    have h1 := pre_mono (one_nonneg p) (show i ≤ i + 1 by omega)
    have h2 := Int.ediv_le_ediv (show 0 < (p : Int) by omega) (Int.mul_le_mul_of_nonneg_left h1 ht)
    omega
  · simp only [List.getD]
    rw [List.getElem?_eq_none (by rw [partsN_len]; omega)]
    simp
theorem evL_sum {t : Int} {p : Nat} (hp : 0 < p) : pre (evL t p) p = t := by
  unfold evL
  rw [parts_sum, one_pre p p (Nat.le_refl _), Int.mul_ediv_cancel _ (by omega)]
end Go.Proofs.Ytgmnboacehopfaa
