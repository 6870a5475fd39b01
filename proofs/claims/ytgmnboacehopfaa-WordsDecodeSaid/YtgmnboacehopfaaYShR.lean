/-
  The reference of layer 5: Sum and Bound.
-/
import Derived.Test.YtgmnboacehopfaaYShB
import Derived.Test.YtgmnboacehopfaaZ4
namespace Go.Proofs.Ytgmnboacehopfaa
open Go.RowKit
set_option linter.unusedSimpArgs false
set_option linter.unusedVariables false

theorem pre_abs {xs : List Int} (h : Fits xs) : ∀ j, (pre xs j).natAbs ≤ j * 9223372036854775808
  | 0 => by simp [pre]
  | j + 1 => by
    have h1 := pre_abs h j
    have h2 := h j
    have h3 : pre xs (j + 1) = pre xs j + xs.getD j 0 := rfl
    rw [h3]
    omega
theorem pre_sz {xs : List Int} (h : Fits xs) {j : Nat} (hj : j ≤ 1024) : BM.Sz (pre xs j) 5 := by
  have := pre_abs h j
  have e : (65536 : Nat) ^ 5 = 1208925819614629174706176 := by decide
  unfold BM.Sz
  rw [e]
  have h2 : j * 9223372036854775808 ≤ 1024 * 9223372036854775808 := Nat.mul_le_mul_right _ hj
  omega
theorem IsBig.zero_iff {w : World} {neg : Bool} {ao : Option Addr} {k cap : Nat} {n : Int} (h : IsBig w neg ao k cap n) : k = 0 ↔ n = 0 := by
  constructor
  · rintro rfl
    have := h.sz
    unfold BM.Sz at this
    simp at this
    omega
  · rintro rfl
    have := h.le (K := 0) (by unfold BM.Sz; simp)
    omega
def heldZ (b : Nat) (n : Int) : Cl := .own (fun _ w => ∃ neg ao k cap, Blk w b #[.bool neg, .slice ao k cap] 100 ∧ IsBig w neg ao k cap n) (fun _ _ _ h hb => by
  obtain ⟨a, b, c, d, t, i⟩ := h; exact ⟨a, b, c, d, t.below hb, i.keep hb⟩)
def SumRel (w : World) (b5 : Nat) (k : Nat) (xs : List Int) (gk : Nat) (s6 : Value) (wr : World) : Prop :=
  ∃ (j : Nat) (neg : Bool) (ao : Option Addr) (kk cap : Nat), j ≤ k ∧ gk = k - j ∧ s6 = .int .i64 ((j : Int)) ∧ Blk wr w.heap.size #[.bool false, .slice none 0 0] 100 ∧ Blk wr b5 #[.bool neg, .slice ao kk cap] 100 ∧ IsBig wr neg ao kk cap (pre xs j) ∧ Below w.heap.size w wr
end Go.Proofs.Ytgmnboacehopfaa
