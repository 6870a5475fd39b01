/-
  ValueScales: the plain law.
-/
import Derived.Test.YtgmnboacehopfaaYFpC
import Derived.Test.YtgmnboacehopfaaYVaB
import Derived.Test.YtgmnboacehopfaaYLawH
import Derived.Laws.BitsAll
namespace Go.Proofs.Ytgmnboacehopfaa
open Go.RowKit
set_option linter.unusedSimpArgs false
set_option linter.unusedVariables false

/-- A length in whole parts, or below 0. -/
theorem vd_ok {b : Nat} (hb : b < 18446744073709551616) (h : (vD b false false false false true).2.2 = 0) :
    Fin64 b ∧ (vD b false false false false true).1 = 3 ∧ (vD b false false false false true).2.1 = gN b 64 ∧ -1073741824 ≤ gN b 64 ∧ gN b 64 ≤ 1073741824 := by
  unfold vD at h ⊢
  by_cases h1 : fKi b = 1
  · rw [if_pos h1] at h; simp at h
  · rw [if_neg h1] at h ⊢
    by_cases h2 : fKi b = 2
    · rw [if_pos h2] at h; simp at h
    · rw [if_neg h2] at h ⊢
      unfold vN at h ⊢
      rw [if_neg (by simp)] at h ⊢
      by_cases h3 : gN b 64 < -1073741824 ∨ 1073741824 < gN b 64
      · rw [if_pos h3] at h; simp at h
      · rw [if_neg h3] at h ⊢
        rw [if_neg (by simp)] at h ⊢
        exact ⟨⟨hb, h1, h2⟩, by simp, rfl, by omega, by omega⟩
theorem sc_ok (n N D : Int) (h1 : -1073741824 ≤ n) (h2 : n ≤ 1073741824) (N1 : 1 ≤ N) (N2 : N ≤ 4096) (D1 : 1 ≤ D) (D2 : D ≤ 4096) (hg : goodB N D = true) :
    scaleE n N D = 0 ∧ scaleN n N D = fq (n * N) D := by
  have b1 : -4398046511104 ≤ n * N ∧ n * N ≤ 4398046511104 := by
    have q1 : (n + 1073741824) * N ≥ 0 := Int.mul_nonneg (by omega) (by omega)
    have q2 : (1073741824 - n) * N ≥ 0 := Int.mul_nonneg (by omega) (by omega)
    rw [Int.add_mul] at q1
    rw [Int.sub_mul] at q2
    omega
  have hab := fq_abs (a := n * N) (d := D) (by omega)
  have hl : lenB (fq (n * N) D) = true := by rw [lenB_iff]; unfold LenB; omega
  unfold scaleE scaleN partE partN
  have hD0 : ¬ D = 0 := by omega
  simp only [if_pos hg, if_neg hD0, if_pos hl, and_self]
theorem sc_one (n : Int) (h1 : -1073741824 ≤ n) (h2 : n ≤ 1073741824) : scaleE n 1 1 = 0 ∧ scaleN n 1 1 = n := by
  have h := sc_ok n 1 1 h1 h2 (by omega) (by omega) (by omega) (by omega) (by decide)
  refine ⟨h.1, h.2.trans ?_⟩
  unfold fq
  rw [if_neg (by decide)]
  omega
theorem pt_whole (n : Int) (h1 : -1073741824 ≤ n) (h2 : n ≤ 1073741824) : partE n 6400 6400 = 0 ∧ partN n 6400 6400 = n := by
  have hq : fq (n * 6400) 6400 = n := by
    unfold fq
    rw [if_neg (by decide)]
    omega
  have hl : lenB n = true := by rw [lenB_iff]; unfold LenB; omega
  unfold partE partN
  simp only [if_neg (show ¬ (6400 : Int) = 0 by decide), hq, if_pos hl, and_self]
theorem nat_le_pow {a k m : Nat} (h : a ≤ 2 ^ k) (hk : k ≤ m) : a ≤ 2 ^ m := Nat.le_trans h (Nat.pow_le_pow_right (by omega) hk)
theorem two_addN {a b c : Nat} (h : a + b = c) : 2 ^ a * 2 ^ b = 2 ^ c := by rw [← Nat.pow_add, h]
/-- 64 times the float, less its nearest whole number, is at most a half, in floats too. -/
theorem fl_tail {b : Nat} (hb : Fin64 b) (h1 : -1073741824 ≤ gN b 64) (h2 : gN b 64 ≤ 1073741824) :
    ∃ r1 r2 r3, Go.floatBits .mul .f64 4634204016564240384 b = some r1 ∧ Go.floatOfInt .f64 (gN b 64) = r2 ∧ Go.floatBits .sub .f64 r1 r2 = some r3 ∧ r3 < 18446744073709551616 ∧
      (Ieee.double.order (r3 % 9223372036854775808) 4602678819172646912 == some .lt || Ieee.double.order (r3 % 9223372036854775808) 4602678819172646912 == some .eq) = true := by
  have hh := gN_half b 64
  have hP := two_pos 1074
  have hsm : fWh b * 2 ^ (fPo b + 1074).toNat ≤ 2 ^ 1110 := by
    have e := fWh_fV b
    have hk : (fV b).natAbs ≤ 2 ^ 1100 := by
      have q := @two_addN 26 1074 1100 (by decide)
      have : ((fV b).natAbs : Int) ≤ ((2 ^ 26 : Nat) : Int) * ((2 ^ 1074 : Nat) : Int) := by
        rw [show ((2 ^ 26 : Nat) : Int) = 67108864 by decide]
        obtain ⟨P, eP⟩ : ∃ P : Int, ((2 ^ 1074 : Nat) : Int) = P := ⟨_, rfl⟩
        rw [eP] at hh hP ⊢
        obtain ⟨n, en⟩ : ∃ n : Int, gN b 64 = n := ⟨_, rfl⟩
        rw [en] at h1 h2 hh
        have q1 : (n + 1073741824) * P ≥ 0 := Int.mul_nonneg (by omega) (by omega)
        have q2 : (1073741824 - n) * P ≥ 0 := Int.mul_nonneg (by omega) (by omega)
        rw [Int.add_mul] at q1
        rw [Int.sub_mul] at q2
        omega
      rw [← Int.natCast_mul, q] at this
      exact Int.ofNat_le.1 this
    have e2 : fWh b * 2 ^ (fPo b + 1074).toNat = (fV b).natAbs := Int.ofNat_inj.1 e
    rw [e2]
    have q := @nat_le_pow (fV b).natAbs 1100 1110 hk (by decide)
    exact q
  obtain ⟨r1, e1, f1, v1⟩ := fl_mul64 hb hsm
  obtain ⟨r2, e2, f2, v2⟩ := fl_int (gN b 64) (by omega) (by omega)
  obtain ⟨r3, e3, f3, v3⟩ := fl_sub f1 f2 (by
    rw [v1, v2]
    have q := @two_add 1 1073 1074 (by decide)
    rw [show ((2 ^ 1 : Nat) : Int) = 2 by decide] at q
    have hq := q.symm
    rw [hq] at hh ⊢
    have : (((64 * fV b - gN b 64 * (2 * ((2 ^ 1073 : Nat) : Int))).natAbs : Nat) : Int) ≤ ((2 ^ 1073 : Nat) : Int) := by
      obtain ⟨H, eH⟩ : ∃ H : Int, ((2 ^ 1073 : Nat) : Int) = H := ⟨_, rfl⟩
      rw [eH] at hh ⊢
      omega
    exact Int.ofNat_le.1 this)
  obtain ⟨f4, v4⟩ := fl_abs f3
  refine ⟨r1, r2, r3, e1, e2, e3, f3.1, fl_half f4 (by rw [v4]; omega) ?_⟩
  rw [v4, Int.natAbs_natCast]
  exact v3
end Go.Proofs.Ytgmnboacehopfaa
