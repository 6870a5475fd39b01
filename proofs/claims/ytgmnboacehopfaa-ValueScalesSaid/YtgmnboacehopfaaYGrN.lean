/-
  Layer 3: a float's fields by shifts and masks.
-/
import Derived.Test.YtgmnboacehopfaaYGrM
import Derived.Laws.Bits64b
namespace Go.Proofs.Ytgmnboacehopfaa
open Go.RowKit
set_option linter.unusedSimpArgs false
set_option linter.unusedVariables false

theorem and_low (X n m : Nat) (hX : X < 18446744073709551616) (hm : m = 2 ^ n - 1) (hm2 : m < 18446744073709551616) : bits .and .u64 (X : Int) (m : Int) = ((X % 2 ^ n : Nat) : Int) := by
  rw [bits_and_u64_nat X m hX hm2, hm, Nat.and_two_pow_sub_one_eq_mod]
theorem or_high (m : Nat) (hm : m < 4503599627370496) : bits .or .u64 (m : Int) 4503599627370496 = ((m + 4503599627370496 : Nat) : Int) := by
  have h := bits_or_u64_nat m 4503599627370496 (by omega) (by omega)
  have e : m ||| 4503599627370496 = m + 4503599627370496 := by
    have := Nat.two_pow_add_eq_or_of_lt (i := 52) (b := m) hm 1
    rw [show (2 : Nat) ^ 52 * 1 = 4503599627370496 by decide] at this
    rw [Nat.or_comm, ← this]
    omega
  rw [e] at h
  exact h
theorem bits_ex (b : Nat) (hb : b < 18446744073709551616) : bits .and .u64 ((b : Int) / 4503599627370496) 2047 = ((fEx b : Nat) : Int) := by
  have h := and_low (b / 4503599627370496) 11 2047 (by omega) (by decide) (by omega)
  rw [show (2 : Nat) ^ 11 = 2048 by decide] at h
  unfold fEx
  rw [← h]
  rfl
theorem bits_ma (b : Nat) (hb : b < 18446744073709551616) : bits .and .u64 (b : Int) 4503599627370495 = ((fMa b : Nat) : Int) := by
  have h := and_low b 52 4503599627370495 hb (by decide) (by omega)
  rw [show (2 : Nat) ^ 52 = 4503599627370496 by decide] at h
  exact h
theorem sg_eq (b : Nat) : ((b : Int) / 9223372036854775808 == 1) = fSg b := by
  unfold fSg
  by_cases h : b / 9223372036854775808 = 1
  · rw [decide_eq_true h]; simp; omega
  · rw [decide_eq_false h]; simp; omega
end Go.Proofs.Ytgmnboacehopfaa
