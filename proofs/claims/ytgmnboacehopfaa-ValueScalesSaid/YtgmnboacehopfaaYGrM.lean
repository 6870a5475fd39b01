/-
  Layer 3: a float's fields, and the nearest of so many parts of one, in plain numbers.
-/
import Derived.Test.YtgmnboacehopfaaZ3
namespace Go.Proofs.Ytgmnboacehopfaa
open Go.RowKit
set_option linter.unusedSimpArgs false
set_option linter.unusedVariables false

/-- The sign, the exponent's bits, the mantissa's bits. -/
def fSg (b : Nat) : Bool := decide (b / 9223372036854775808 = 1)
def fEx (b : Nat) : Nat := b / 4503599627370496 % 2048
def fMa (b : Nat) : Nat := b % 4503599627370496
/-- The kinds: 1 NaN, 2 Infinite, 3 Nought, 4 Small, 5 Normal. -/
def fKi (b : Nat) : Nat := if fEx b = 2047 then (if fMa b = 0 then 2 else 1) else if fEx b = 0 then (if fMa b = 0 then 3 else 4) else 5
def fDn (b : Nat) : Bool := if fKi b = 1 then false else fSg b
/-- A size as a whole number times a power of two. -/
def fWh (b : Nat) : Nat := if fEx b = 0 then fMa b else fMa b + 4503599627370496
def fPo (b : Nat) : Int := if fEx b = 0 then -1074 else (fEx b : Int) - 1075
def fNu (b : Nat) : Int := if fSg b then -(fWh b : Int) else (fWh b : Int)
theorem fEx_lt (b : Nat) : fEx b < 2048 := Nat.mod_lt _ (by omega)
theorem fMa_lt (b : Nat) : fMa b < 4503599627370496 := Nat.mod_lt _ (by omega)
theorem fWh_lt (b : Nat) : fWh b < 9007199254740992 := by
  have := fMa_lt b
  unfold fWh; split <;> omega
theorem fNu_bnd (b : Nat) : -9007199254740991 ≤ fNu b ∧ fNu b ≤ 9007199254740991 := by
  have := fWh_lt b
  unfold fNu; split <;> omega
/-- Up and down: the power of two's two parts. -/
def fUp (b : Nat) : Nat := 2 ^ (fPo b).toNat
def fLo (b : Nat) : Nat := 2 ^ (-fPo b).toNat
/-- The nearest place of the grid. -/
def gN (b : Nat) (den : Int) : Int := (2 * (fNu b * (fUp b : Int) * den) + (fLo b : Int)) / (2 * (fLo b : Int))
def clampI (n low high : Int) : Int := if n < low then low else if high < n then high else n
/-- What Grid answers: the error's number. -/
def gridR (b : Nat) (den low high : Int) : Int × Int :=
  if den < 1 ∨ 1048576 < den ∨ high < low then (0, 1)
  else if fKi b = 1 then (0, 4)
  else if fKi b = 2 then (if fSg b then low else high, 0)
  else (clampI (gN b den) low high, 0)
theorem gN_up {b : Nat} (h : 0 ≤ fPo b) (den : Int) : gN b den = fNu b * (fUp b : Int) * den := by
  have e : fLo b = 1 := by
    unfold fLo
    rw [show (-fPo b).toNat = 0 by omega]
  unfold gN
  rw [e]
  omega
theorem gN_down {b : Nat} {k : Nat} (h : fPo b = -((k : Int) + 1)) (den : Int) : gN b den = (fNu b * den / ((2 ^ k : Nat) : Int) + 1) / 2 := by
  have e1 : fUp b = 1 := by
    unfold fUp
    rw [h, show (-((k : Int) + 1)).toNat = 0 by omega]
  have e2 : (fLo b : Int) = 2 * ((2 ^ k : Nat) : Int) := by
    unfold fLo
    rw [h, show (-(-((k : Int) + 1))).toNat = k + 1 by omega, Nat.pow_succ]
    omega
  have hp : (0 : Int) < ((2 ^ k : Nat) : Int) := by
    have := Nat.pow_pos (n := k) (show 0 < 2 by omega)
    omega
  unfold gN
  rw [e1, e2]
  obtain ⟨p, ep⟩ : ∃ p : Int, ((2 ^ k : Nat) : Int) = p := ⟨_, rfl⟩
  rw [ep] at hp ⊢
  obtain ⟨x, ex⟩ : ∃ x, fNu b * den = x := ⟨_, rfl⟩
  rw [show fNu b * ((1 : Nat) : Int) * den = x by rw [← ex]; simp, ex]
  rw [show 2 * x + 2 * p = 2 * (x + p) by omega, show 2 * (2 * p) = 2 * (p * 2) by omega, Int.mul_ediv_mul_of_pos _ _ (by omega), ← Int.ediv_ediv_of_nonneg (by omega), Int.add_ediv_of_dvd_right (Int.dvd_refl p), Int.ediv_self (by omega)]
theorem gN_small {b : Nat} (h : fPo b < -74) {den : Int} (h1 : 1 ≤ den) (h2 : den ≤ 1048576) : gN b den = 0 := by
  obtain ⟨k, hk⟩ : ∃ k : Nat, fPo b = -((k : Int) + 1) := ⟨(-fPo b - 1).toNat, by omega⟩
  rw [gN_down hk]
  have hk74 : 74 ≤ k := by omega
  have hp : (18889465931478580854784 : Int) ≤ ((2 ^ k : Nat) : Int) := by
    have : 2 ^ 74 ≤ 2 ^ k := Nat.pow_le_pow_right (by omega) hk74
    have e : (2 : Nat) ^ 74 = 18889465931478580854784 := by decide
    omega
  obtain ⟨p, ep⟩ : ∃ p : Int, ((2 ^ k : Nat) : Int) = p := ⟨_, rfl⟩
  rw [ep] at hp ⊢
  have hb := fNu_bnd b
  have hm1 : fNu b * den ≤ 9007199254740991 * 1048576 := by
    by_cases h0 : 0 ≤ fNu b
    · exact Int.mul_le_mul hb.2 h2 (by omega) (by omega)
    · have := Int.mul_nonpos_of_nonpos_of_nonneg (show fNu b ≤ 0 by omega) (show 0 ≤ den by omega)
      omega
  have hm2 : -(9007199254740991 * 1048576) ≤ fNu b * den := by
    by_cases h0 : 0 ≤ fNu b
    · have := Int.mul_nonneg h0 (show 0 ≤ den by omega)
      omega
    · have := Int.mul_le_mul (show -fNu b ≤ 9007199254740991 by omega) h2 (by omega) (by omega)
      rw [Int.neg_mul] at this
      omega
  obtain ⟨x, ex⟩ : ∃ x, fNu b * den = x := ⟨_, rfl⟩
  rw [ex] at hm1 hm2 ⊢
  have q1 : x / p = 0 ∨ x / p = -1 := by
    by_cases h0 : 0 ≤ x
    · exact .inl (Int.ediv_eq_zero_of_lt h0 (by omega))
    · right
      have e : x = (x + p) + (-1) * p := by omega
      rw [e, Int.add_mul_ediv_right _ _ (by omega), Int.ediv_eq_zero_of_lt (by omega) (by omega)]
      rfl
  rcases q1 with e | e <;> rw [e] <;> rfl
/-- Beyond all ints: where the power is above eleven. -/
theorem gN_far {b : Nat} (h : 11 < fPo b) {den : Int} (h1 : 1 ≤ den) : if fSg b then gN b den < -9223372036854775808 else 9223372036854775807 < gN b den := by
  rw [gN_up (by omega)]
  have hE : fEx b ≠ 0 := fun e => by unfold fPo at h; rw [if_pos e] at h; omega
  have hw : 4503599627370496 ≤ fWh b := by unfold fWh; rw [if_neg hE]; omega
  have hu : (4096 : Int) ≤ (fUp b : Int) := by
    have : 2 ^ 12 ≤ 2 ^ (fPo b).toNat := Nat.pow_le_pow_right (by omega) (by omega)
    unfold fUp
    omega
  have hm : (4503599627370496 * 4096 : Int) ≤ (fWh b : Int) * (fUp b : Int) := Int.mul_le_mul (by omega) hu (by omega) (by omega)
  have hd : (fWh b : Int) * (fUp b : Int) * 1 ≤ (fWh b : Int) * (fUp b : Int) * den := Int.mul_le_mul_of_nonneg_left h1 (by omega)
  unfold fNu
  split
  · rw [Int.neg_mul, Int.neg_mul]; omega
  · omega
theorem gN_sign {b : Nat} (h : 0 ≤ fPo b) {den : Int} (h1 : 1 ≤ den) : if fSg b then gN b den ≤ 0 else 0 ≤ gN b den := by
  rw [gN_up h]
  have hm : (0 : Int) ≤ (fWh b : Int) * (fUp b : Int) * den := Int.mul_nonneg (Int.mul_nonneg (by omega) (by omega)) (by omega)
  unfold fNu
  split
  · rw [Int.neg_mul, Int.neg_mul]; omega
  · exact hm
theorem gN_zero {b : Nat} (h : fKi b = 3) (den : Int) : gN b den = 0 := by
  have hm : fMa b = 0 ∧ fEx b = 0 := by
    unfold fKi at h
    split at h
    · split at h <;> omega
    · split at h
      · rename_i h2
        split at h
        · rename_i h3; exact ⟨h3, h2⟩
        · omega
      · omega
  have hw : fWh b = 0 := by unfold fWh; rw [if_pos hm.2]; exact hm.1
  have hn : fNu b = 0 := by unfold fNu; rw [hw]; simp
  obtain ⟨k, hk⟩ : ∃ k : Nat, fPo b = -((k : Int) + 1) := ⟨1073, by unfold fPo; rw [if_pos hm.2]; rfl⟩
  rw [gN_down hk, hn, Int.zero_mul, Int.zero_ediv]
  rfl
end Go.Proofs.Ytgmnboacehopfaa
