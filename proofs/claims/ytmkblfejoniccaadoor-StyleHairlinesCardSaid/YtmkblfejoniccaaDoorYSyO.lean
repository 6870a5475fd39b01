/-
  The statement StyleHairlines: the plain law.
-/
import Derived.Test.YtmkblfejoniccaaDoorZ14
import Derived.Test.YtmkblfejoniccaaDoorYRatH
namespace Go.Proofs.YtmkblfejoniccaaDoor
open Go.RowKit
set_option linter.unusedSimpArgs false
set_option linter.unusedVariables false

/-- A border's width by a scale n / d. -/
def hlP (x n d : Int) : Int := if x = 0 then 0 else max (x * n / d / 64 * 64) 64
theorem hl_ratio {n d : Int} (hn : 1 ≤ n) (hn' : n ≤ 4096) (hd : 1 ≤ d) (hd' : d ≤ 4096) :
    ∃ g N D : Int, 1 ≤ g ∧ 1 ≤ N ∧ 1 ≤ D ∧ N ≤ 4096 ∧ D ≤ 4096 ∧ n = g * N ∧ d = g * D ∧ numR n d = N ∧ denR n d = D := by
  obtain ⟨a, rfl⟩ := Int.eq_ofNat_of_zero_le (show (0 : Int) ≤ n by omega)
  obtain ⟨b, rfl⟩ := Int.eq_ofNat_of_zero_le (show (0 : Int) ≤ d by omega)
  have hg : 0 < Nat.gcd a b := Nat.gcd_pos_of_pos_left _ (by omega)
  obtain ⟨A, eA⟩ := Nat.gcd_dvd_left a b
  obtain ⟨B, eB⟩ := Nat.gcd_dvd_right a b
  have dA : a / Nat.gcd a b = A := Nat.div_eq_of_eq_mul_right hg eA
  have dB : b / Nat.gcd a b = B := Nat.div_eq_of_eq_mul_right hg eB
  have hA : 0 < A := Nat.pos_of_ne_zero fun h => by subst h; simp at eA; omega
  have hB : 0 < B := Nat.pos_of_ne_zero fun h => by subst h; simp at eB; omega
  have lA : A ≤ a := by rw [← dA]; exact Nat.div_le_self _ _
  have lB : B ≤ b := by rw [← dB]; exact Nat.div_le_self _ _
  refine ⟨(Nat.gcd a b : Nat), A, B, by omega, by omega, by omega, by omega, by omega, by rw [← Int.natCast_mul]; exact congrArg _ eA, by rw [← Int.natCast_mul]; exact congrArg _ eB, ?_, ?_⟩
  · unfold numR
    rw [show decide ((a : Int) < 0) = false by simp, show decide ((b : Int) < 0) = false by simp]
    simp only [if_true, Int.natAbs_natCast, dA]
  · unfold denR
    simp only [Int.natAbs_natCast, dB]
theorem hl_of {x n d : Int} (hx : 0 ≤ x) (hx' : x < 1073741824) (hn : 1 ≤ n) (hn' : n ≤ 4096) (hd : 1 ≤ d) (hd' : d ≤ 4096) :
    ofN n d = numR n d ∧ ofD n d = denR n d ∧ ofE n d = 0 ∧ scaleE x (numR n d) (denR n d) = 0 ∧ hairN x (numR n d) (denR n d) = hlP x n d ∧ IFit (numR n d) ∧ IFit (denR n d) := by
  have GD : goodB (numR n d) (denR n d) = true := good_low n d (by omega)
  obtain ⟨g, N, D, g1, N1, D1, N2, D2, en, ed, rN, rD⟩ := hl_ratio hn hn' hd hd'
  have fN : IFit (numR n d) := by rw [rN]; unfold IFit; omega
  have fD : IFit (denR n d) := by rw [rD]; unfold IFit; omega
  have hB : ofB n d = true := ofB_iff.2 ⟨fN, fD⟩
  have h0 : ¬ d = 0 := by omega
  rw [rN] at fN
  rw [rD] at fD
  rw [rN, rD] at GD
  rw [rN, rD]
  have eF : fq (x * N) D = x * n / d := by
    unfold fq
    rw [if_neg (by omega), en, ed, show x * (g * N) = g * (x * N) by rw [Int.mul_left_comm], Int.mul_ediv_mul_of_pos _ _ (by omega)]
  have p1 : 0 ≤ x * N := Int.mul_nonneg hx (by omega)
  have p2 : x * N ≤ 1073741824 * 4096 := Int.mul_le_mul (by omega) N2 (by omega) (by omega)
  have q1 : 0 ≤ x * N / D := Int.ediv_nonneg p1 (by omega)
  have q2 : x * N / D ≤ x * N := Int.ediv_le_self _ p1
  have eL : fq (x * N) D = x * N / D := by unfold fq; rw [if_neg (by omega)]
  have LB : lenB (fq (x * N) D) = true := by rw [lenB_iff, eL]; unfold LenB; omega
  have S : scaleE x N D = 0 := by
    unfold scaleE partE
    rw [GD, if_pos rfl, if_neg (by omega), if_pos LB]
  refine ⟨by unfold ofN; rw [if_neg h0, if_pos hB, rN], by unfold ofD; rw [if_neg h0, if_pos hB, rD], by unfold ofE; rw [if_neg h0, if_pos hB], S, ?_, fN, fD⟩
  unfold hairN hlP
  rw [if_neg (by simpa using S)]
  by_cases hx0 : x = 0
  · rw [if_pos hx0, if_pos hx0]
  · rw [if_neg hx0, if_neg hx0]
    unfold scaleN partN
    rw [GD, if_pos rfl, if_neg (by omega), if_pos LB, eF]
/-- The plain law. -/
theorem hl_law {x y n d : Int} (hx : 0 ≤ x) (hxy : x ≤ y) (hn : 1 ≤ n) (hd : 1 ≤ d) (hn' : n ≤ 4096) (hd' : d ≤ 4096) (hy : y < 1073741824) :
    hlP x n d % 64 = 0 ∧ hlP y n d % 64 = 0 ∧ hlP x n d ≤ hlP y n d ∧ (0 < x ↔ 0 < hlP x n d) ∧
    (x ≠ 0 → (hlP x n d = 64 ∧ x * n < 64 * 2 * d) ∨ (hlP x n d * d ≤ x * n ∧ x * n < (hlP x n d + 64) * d)) ∧ 0 ≤ hlP x n d ∧ hlP x n d ≤ 4398046511104 ∧ 0 ≤ hlP y n d ∧ hlP y n d ≤ 4398046511104 ∧ 0 ≤ x * n ∧ x * n ≤ 4398046511104 := by
  have px : 0 ≤ x * n := Int.mul_nonneg hx (by omega)
  have py : 0 ≤ y * n := Int.mul_nonneg (by omega) (by omega)
  have px2 : x * n ≤ 1073741824 * 4096 := Int.mul_le_mul (by omega) hn' (by omega) (by omega)
  have py2 : y * n ≤ 1073741824 * 4096 := Int.mul_le_mul (by omega) hn' (by omega) (by omega)
  have hm : x * n ≤ y * n := Int.mul_le_mul_of_nonneg_right hxy (by omega)
  have hdm : x * n / d ≤ y * n / d := Int.ediv_le_ediv (by omega) hm
  have fx : 0 ≤ x * n / d := Int.ediv_nonneg px (by omega)
  have fx2 : x * n / d ≤ x * n := Int.ediv_le_self _ px
  have fy2 : y * n / d ≤ y * n := Int.ediv_le_self _ py
  have lo : x * n / d * d ≤ x * n := Int.ediv_mul_le _ (by omega)
  have hi : x * n < (x * n / d + 1) * d := Int.lt_ediv_add_one_mul_self _ (by omega)
  obtain ⟨F, eF⟩ : ∃ F, x * n / d = F := ⟨_, rfl⟩
  obtain ⟨G, eG⟩ : ∃ G, y * n / d = G := ⟨_, rfl⟩
  obtain ⟨P, eP⟩ : ∃ P, x * n = P := ⟨_, rfl⟩
  obtain ⟨Q, eQ⟩ : ∃ Q, y * n = Q := ⟨_, rfl⟩
  have eX : hlP x n d = if x = 0 then 0 else max (F / 64 * 64) 64 := by unfold hlP; rw [eF]
  have eY : hlP y n d = if y = 0 then 0 else max (G / 64 * 64) 64 := by unfold hlP; rw [eG]
  rw [eX, eY]
  rw [eF] at lo hi hdm fx fx2
  rw [eG] at hdm fy2
  rw [eP] at px px2 hm lo hi fx2
  rw [eQ] at py py2 hm fy2
  rw [eP]
  clear eX eY eF eG eQ eP
  by_cases hx0 : x = 0
  · rw [if_pos hx0]
    refine ⟨by omega, by split <;> omega, by split <;> omega, by omega, fun h => absurd hx0 h, by omega, by omega, by split <;> omega, by split <;> omega, by omega, by omega⟩
  · rw [if_neg hx0, if_neg (by omega : ¬ y = 0)]
    refine ⟨by omega, by omega, by omega, by omega, fun _ => ?_, by omega, by omega, by omega, by omega, by omega, by omega⟩
    by_cases hF : F < 64
    · left
      refine ⟨by omega, Int.lt_of_lt_of_le hi ?_⟩
      exact Int.mul_le_mul_of_nonneg_right (by omega) (by omega)
    · right
      rw [show max (F / 64 * 64) 64 = F / 64 * 64 by omega]
      exact ⟨Int.le_trans (Int.mul_le_mul_of_nonneg_right (by omega) (by omega)) lo, Int.lt_of_lt_of_le hi (Int.mul_le_mul_of_nonneg_right (by omega) (by omega))⟩
end Go.Proofs.YtmkblfejoniccaaDoor
