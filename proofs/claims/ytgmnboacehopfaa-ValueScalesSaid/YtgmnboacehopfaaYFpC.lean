/-
  Floats in plain numbers: 64 times one, a whole number as a float, a difference that is at most a half.
-/
import Derived.Test.YtgmnboacehopfaaYFpB
import Derived.Laws.FloatArith
namespace Go.Proofs.Ytgmnboacehopfaa
open Go.RowKit
set_option linter.unusedSimpArgs false
set_option linter.unusedVariables false

theorem fWh_fV (b : Nat) : ((fWh b * 2 ^ (fPo b + 1074).toNat : Nat) : Int) = (fV b).natAbs := by
  unfold fV fNu
  rw [Int.natAbs_mul]
  cases fSg b <;> simp [Int.natAbs_natCast]
theorem mul_pow_congr (n : Int) {a b : Nat} (h : a = b) : n * ((2 ^ a : Nat) : Int) = n * ((2 ^ b : Nat) : Int) := by rw [h]
theorem two_add {a b c : Nat} (h : a + b = c) : ((2 ^ a : Nat) : Int) * ((2 ^ b : Nat) : Int) = ((2 ^ c : Nat) : Int) := by
  rw [← Int.natCast_mul, ← Nat.pow_add, h]
theorem log2_lt {n k : Nat} (h0 : n ≠ 0) (h : n < 2 ^ (k + 1)) : n.log2 ≤ k := by
  have h2 := Nat.lt_of_le_of_lt (Nat.log2_self_le h0) h
  have := (Nat.pow_lt_pow_iff_right (show 1 < 2 by omega)).1 h2
  omega
theorem log2_mul_pow {n : Nat} (h0 : n ≠ 0) (k : Nat) : (n * 2 ^ k).log2 = n.log2 + k := by
  have hp : 0 < 2 ^ k := Nat.pow_pos (by omega)
  refine (Nat.log2_eq_iff (Nat.mul_ne_zero h0 (by omega))).2 ⟨?_, ?_⟩
  · rw [Nat.pow_add]
    exact Nat.mul_le_mul_right _ (Nat.log2_self_le h0)
  · rw [show n.log2 + k + 1 = n.log2 + 1 + k by omega, Nat.pow_add]
    exact Nat.mul_lt_mul_of_pos_right Nat.lt_log2_self hp
theorem near_zero (neg : Bool) (place : Int) : Fin64 (Ieee.double.nearest neg 0 place) ∧ fV (Ieee.double.nearest neg 0 place) = 0 := by
  obtain ⟨b, eb, h1, h2, h3⟩ := word_val neg 0 0 (by omega) (.inr rfl) (by omega)
  have e : Ieee.double.nearest neg 0 place = b := by
    rw [eb, show min (0 * 4503599627370496 + 0) 9218868437227405312 = 0 by simp]
    unfold Ieee.Format.nearest
    rw [if_pos rfl]
  rw [e]
  exact ⟨h1, by rw [h3]; cases neg <;> simp⟩
/-- 64 times a float that isn't great is exact. -/
theorem fl_mul64 {b : Nat} (hb : Fin64 b) (hV : fWh b * 2 ^ (fPo b + 1074).toNat ≤ 2 ^ 1110) :
    ∃ r, Go.floatBits .mul .f64 4634204016564240384 b = some r ∧ Fin64 r ∧ fV r = 64 * fV b := by
  have h64 : Ieee.double.read 4634204016564240384 = .number false (2 ^ 52) (-46) := by decide
  have e : Go.floatBits .mul .f64 4634204016564240384 b = some (Ieee.double.nearest (fSg b) (fWh b * 2 ^ 52) (-46 + fPo b)) := by
    show Ieee.double.mul 4634204016564240384 b = _
    unfold Ieee.Format.mul
    rw [h64, read_fin hb]
    show some (Ieee.double.nearest (false ^^ fSg b) (2 ^ 52 * fWh b) (-46 + fPo b)) = _
    rw [Bool.false_xor, Nat.mul_comm]
  refine ⟨_, e, ?_⟩
  have hg := fPo_ge b
  by_cases h0 : fWh b = 0
  · rw [h0, Nat.zero_mul]
    obtain ⟨h1, h2⟩ := near_zero (fSg b) (-46 + fPo b)
    refine ⟨h1, h2.trans ?_⟩
    have : fV b = 0 := by
      have := fWh_fV b
      rw [h0, Nat.zero_mul] at this
      omega
    rw [this]; rfl
  · have hw := fWh_lt b
    have hl1 := Nat.log2_self_le h0
    have hlog : (fWh b * 2 ^ 52).log2 = (fWh b).log2 + 52 := log2_mul_pow h0 52
    have hw52 : (fWh b).log2 ≤ 52 := log2_lt h0 (by
      have : (2 : Nat) ^ (52 + 1) = 9007199254740992 := by decide
      omega)
    have hsm : (fWh b).log2 + (fPo b + 1074).toNat ≤ 1110 := by
      have h2 := Nat.le_trans (Nat.mul_le_mul_right (2 ^ (fPo b + 1074).toNat) hl1) hV
      rw [← Nat.pow_add] at h2
      exact (Nat.pow_le_pow_iff_right (show 1 < 2 by omega)).1 h2
    obtain ⟨h1, h2, h3⟩ := near_exact (fSg b) (fWh b) 52 (-46 + fPo b) h0 (by rw [hlog]; omega) (by rw [hlog]; omega) (by omega)
    refine ⟨h1, h3.trans ?_⟩
    unfold fV fNu
    rw [show (-46 + fPo b + ((52 : Nat) : Int) + 1074).toNat = 6 + (fPo b + 1074).toNat by omega, Nat.pow_add]
    obtain ⟨q, eq⟩ : ∃ q : Nat, 2 ^ (fPo b + 1074).toNat = q := ⟨_, rfl⟩
    rw [eq]
    rw [Int.natCast_mul, show (((2 : Nat) ^ 6 : Nat) : Int) = 64 by decide, ← Int.mul_assoc, Int.mul_comm _ (64 : Int), Int.mul_assoc]
/-- A whole number as a float is exact. -/
theorem fl_int (n : Int) (h1 : -2147483648 ≤ n) (h2 : n ≤ 2147483648) : ∃ r, Go.floatOfInt .f64 n = r ∧ Fin64 r ∧ fV r = n * ((2 ^ 1074 : Nat) : Int) := by
  refine ⟨_, rfl, ?_⟩
  show Fin64 (Ieee.double.nearest (decide (n < 0)) n.natAbs 0) ∧ fV (Ieee.double.nearest (decide (n < 0)) n.natAbs 0) = _
  by_cases h0 : n.natAbs = 0
  · rw [h0]
    obtain ⟨f1, f2⟩ := near_zero (decide (n < 0)) 0
    refine ⟨f1, f2.trans ?_⟩
    rw [show n = 0 by omega, Int.zero_mul]
  · have hl1 := Nat.log2_self_le h0
    have hl : n.natAbs.log2 ≤ 31 := log2_lt h0 (by
      have : (2 : Nat) ^ (31 + 1) = 4294967296 := by decide
      omega)
    have h := near_exact (decide (n < 0)) n.natAbs 0 0 h0 (by rw [Nat.pow_zero, Nat.mul_one]; omega) (by rw [Nat.pow_zero, Nat.mul_one]; omega) (by omega)
    rw [Nat.pow_zero, Nat.mul_one] at h
    refine ⟨h.1, h.2.2.trans ?_⟩
    have e1 : (if decide (n < 0) = true then -((n.natAbs : Nat) : Int) else ((n.natAbs : Nat) : Int)) = n := by
      by_cases hn : n < 0
      · rw [if_pos (by simpa using hn)]; omega
      · rw [if_neg (by simpa using hn)]; omega
    rw [e1]
    have q := @mul_pow_congr n (0 + ((0 : Nat) : Int) + 1074).toNat 1074 (by decide)
    exact q
/-- A difference that is at most a half: the nearest float to it is. -/
theorem fl_sub {x y : Nat} (hx : Fin64 x) (hy : Fin64 y) (h : (fV x - fV y).natAbs ≤ 2 ^ 1073) :
    ∃ r, Go.floatBits .sub .f64 x y = some r ∧ Fin64 r ∧ (fV r).natAbs ≤ 2 ^ 1073 := by
  have gx := fPo_ge x
  have gy := fPo_ge y
  obtain ⟨base, hb⟩ : ∃ b, min (fPo x) (fPo y) = b := ⟨_, rfl⟩
  obtain ⟨T, hT⟩ : ∃ T, Ieee.signed (fSg x) (fWh x) (fPo x - base).toNat + Ieee.signed (!fSg y) (fWh y) (fPo y - base).toNat = T := ⟨_, rfl⟩
  have e : ∃ s, Go.floatBits .sub .f64 x y = some (Ieee.double.nearest s T.natAbs base) := by
    refine ⟨if T = 0 then fSg x && !fSg y else decide (T < 0), ?_⟩
    show Ieee.double.sub x y = _
    unfold Ieee.Format.sub
    rw [read_fin hx, read_fin hy]
    unfold Ieee.Datum.opposite Ieee.Datum.sum
    simp only [hb, hT, Option.map_some]
    rfl
  obtain ⟨s, e⟩ := e
  refine ⟨_, e, ?_⟩
  have hTV : T * ((2 ^ (base + 1074).toNat : Nat) : Int) = fV x - fV y := by
    rw [← hT, Int.add_mul, ← signed_scale, ← signed_scale, show (fPo x - base).toNat + (base + 1074).toNat = (fPo x + 1074).toNat by omega, show (fPo y - base).toNat + (base + 1074).toNat = (fPo y + 1074).toNat by omega, ← fV_signed]
    have : Ieee.signed (!fSg y) (fWh y) (fPo y + 1074).toNat = -fV y := by
      rw [fV_signed, signed_eq, signed_eq, ← Int.neg_mul]
      cases fSg y <;> simp
    rw [this]
    rfl
  have hN : T.natAbs * 2 ^ (base + 1074).toNat = (fV x - fV y).natAbs := by
    rw [← hTV, Int.natAbs_mul, Int.natAbs_natCast]
  by_cases h0 : T.natAbs = 0
  · rw [h0]
    obtain ⟨f1, f2⟩ := near_zero s base
    exact ⟨f1, by rw [f2]; exact Nat.zero_le _⟩
  · have hl1 := Nat.log2_self_le h0
    have hle : T.natAbs.log2 + (base + 1074).toNat ≤ 1073 := by
      have h2 := Nat.mul_le_mul_right (2 ^ (base + 1074).toNat) hl1
      rw [hN, ← Nat.pow_add] at h2
      exact (Nat.pow_le_pow_iff_right (show 1 < 2 by omega)).1 (Nat.le_trans h2 h)
    obtain ⟨f1, f2, K, f3, f4⟩ := near_le s T.natAbs base h0 (by omega) 1073 (by omega) (Nat.le_trans (Nat.le_of_eq hN) h) (by omega) (fun L hL => by omega)
    refine ⟨f1, ?_⟩
    rw [f3]
    refine Nat.le_trans (Nat.le_of_eq ?_) f4
    cases s <;> simp
/-- A float without its sign. -/
theorem fl_abs {b : Nat} (h : Fin64 b) : Fin64 (b % 9223372036854775808) ∧ fV (b % 9223372036854775808) = ((fV b).natAbs : Int) := by
  have hx := fin_ex h
  have e1 : fEx (b % 9223372036854775808) = fEx b := by unfold fEx; omega
  have e2 : fMa (b % 9223372036854775808) = fMa b := by unfold fMa; omega
  have e3 : fSg (b % 9223372036854775808) = false := by
    unfold fSg
    exact decide_eq_false (by omega)
  refine ⟨fin_of (by omega) (by rw [e1]; exact hx), ?_⟩
  rw [← fWh_fV]
  unfold fV fNu fWh fPo
  rw [e1, e2, e3]
  simp
theorem fl_half {r : Nat} (h : Fin64 r) (hr : 0 ≤ fV r) (hle : (fV r).natAbs ≤ 2 ^ 1073) : (Ieee.double.order r 4602678819172646912 == some .lt || Ieee.double.order r 4602678819172646912 == some .eq) = true := by
  have hh : Fin64 4602678819172646912 := ⟨by omega, by decide, by decide⟩
  have eh : fV 4602678819172646912 = ((2 ^ 1073 : Nat) : Int) := by
    have e1 : fNu 4602678819172646912 = ((2 ^ 52 : Nat) : Int) := by decide
    have e2 : (fPo 4602678819172646912 + 1074).toNat = 1021 := by decide
    unfold fV
    rw [e1, e2]
    have q := @two_add 52 1021 1073 (by decide)
    exact q
  rw [order_fin h hh, eh]
  have hP := two_pos 1073
  have h2 : fV r ≤ ((2 ^ 1073 : Nat) : Int) := by
    have : ((fV r).natAbs : Int) ≤ ((2 ^ 1073 : Nat) : Int) := Int.ofNat_le.2 hle
    omega
  obtain ⟨c, ec⟩ : ∃ c : Int, ((2 ^ 1073 : Nat) : Int) = c := ⟨_, rfl⟩
  rw [ec] at h2 ⊢
  rw [Int.compare_eq_ite_lt]
  split
  · rfl
  · split
    · omega
    · rfl
theorem fl_gt {x y : Nat} (hx : Fin64 x) (hy : Fin64 y) : (Ieee.double.order x y == some .gt) = decide (fV y < fV x) := by
  rw [order_fin hx hy, Int.compare_eq_ite_lt]
  split
  · rename_i h
    rw [decide_eq_false (by omega)]; rfl
  · split
    · rename_i h; rw [decide_eq_true h]; rfl
    · rename_i h; rw [decide_eq_false h]; rfl
end Go.Proofs.Ytgmnboacehopfaa
