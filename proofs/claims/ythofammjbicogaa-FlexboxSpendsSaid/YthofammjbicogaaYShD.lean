/-
  The laws' 'small': weights out of a slice of uint16.
-/
import Derived.Test.YthofammjbicogaaZ6
import Derived.Test.YthofammjbicogaaZ9
namespace Go.Proofs.Ythofammjbicogaa
open Go.RowKit
set_option linter.unusedSimpArgs false
set_option linter.unusedVariables false

/-- The first numbers of a slice of uint16. -/
def smallL (v : Value) (w : World) (ys : List Int) : Prop :=
  (v = .slice none 0 0 ∧ ys = []) ∨ ∃ g off n cap, v = .slice (some ⟨g, off, none⟩) n cap ∧ g < w.heap.size ∧ n ≤ maxLen ∧ ys.length = min n 40 ∧ ∀ i, i < min n 40 → w.cell? ⟨g, off + i, none⟩ = some (.int .u16 (ys.getD i 0))
def U16s (ys : List Int) : Prop := ∀ i, 0 ≤ ys.getD i 0 ∧ ys.getD i 0 ≤ 65535
theorem pre_small {ys : List Int} (h : U16s ys) : ∀ j, 0 ≤ pre ys j ∧ pre ys j ≤ 65535 * (j : Int)
  | 0 => by constructor <;> simp [pre]
  | j + 1 => by
    have h1 := pre_small h j
    have h2 := h j
    have h3 : pre ys (j + 1) = pre ys j + ys.getD j 0 := rfl
    rw [h3]
    push_cast
    omega
def SmallRel (w : World) (ys : List Int) (m gk : Nat) (s4 s5 s6 : Value) (wr : World) : Prop :=
  ∃ (j : Nat) (ao : Option Addr) (cap : Nat) (p : Int), j ≤ m ∧ gk = m - j ∧ s4 = .slice ao j cap ∧ s5 = .int .i64 p ∧ s6 = .int .i64 ((j : Int)) ∧ p = pre ys j ∧ OwnI wr w.heap.size ao j cap (ys.take j) ∧ Below w.heap.size w wr
def SmallAns (ys : List Int) (w : World) (e : Ending) (w' : World) : Prop :=
  ∃ ao m cap, e = .returned (.tuple #[.slice ao m cap, .int .i64 (pre ys m)]) ∧ ys.length = m ∧ OwnI w' w.heap.size ao m cap ys ∧ Below w.heap.size w w'
/-- A slice of uint16 that came in: what 'small' takes of it. -/
theorem small_of {w : World} {v : Value} (h : SlV .u16 w v) : ∃ ys, smallL v w ys ∧ U16s ys := by
  rcases h with rfl | ⟨g, off, n, cap, xs, rfl, h1, h2, h3, h4, h5, h6⟩
  · exact ⟨[], .inl ⟨rfl, rfl⟩, fun i => by simp [List.getD]⟩
  · have hx : ∀ i, 0 ≤ xs.getD i 0 ∧ xs.getD i 0 ≤ 65535 := fun i => by
      simp only [List.getD]
      cases e : xs[i]? with
      | none => simp
      | some x => exact u16_of_wf (h6 x (List.mem_of_getElem? e))
    have hg : ∀ i, i < min n 40 → (xs.take (min n 40)).getD i 0 = xs.getD i 0 := fun i hi => by
      simp only [List.getD]
      rw [List.getElem?_take_of_lt hi]
    refine ⟨xs.take (min n 40), .inr ⟨g, off, n, cap, rfl, h4, by omega, by rw [List.length_take]; omega, fun i hi => ?_⟩, fun i => ?_⟩
    · rw [hg i hi]
      exact h5 i (by omega)
    · by_cases hi : i < min n 40
      · rw [hg i hi]; exact hx i
      · simp only [List.getD]
        rw [List.getElem?_eq_none (by rw [List.length_take]; omega)]
        simp
end Go.Proofs.Ythofammjbicogaa
