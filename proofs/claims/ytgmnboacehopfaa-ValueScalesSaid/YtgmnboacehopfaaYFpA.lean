/-
  Floats in plain numbers: what a word is read as; the nearest word.
-/
import Derived.Test.YtgmnboacehopfaaYGrN
import GoSem.Core.Float
namespace Go.Proofs.Ytgmnboacehopfaa
open Go.RowKit
set_option linter.unusedSimpArgs false
set_option linter.unusedVariables false

/-- A finite float. -/
def Fin64 (b : Nat) : Prop := b < 18446744073709551616 ∧ fKi b ≠ 1 ∧ fKi b ≠ 2
theorem fin_ex {b : Nat} (h : Fin64 b) : fEx b ≠ 2047 := by
  intro e
  obtain ⟨_, h1, h2⟩ := h
  unfold fKi at h1 h2
  rw [if_pos e] at h1 h2
  split at h1
  · split at h2 <;> omega
  · omega
theorem fin_of {b : Nat} (hb : b < 18446744073709551616) (h : fEx b ≠ 2047) : Fin64 b := by
  refine ⟨hb, ?_, ?_⟩ <;> unfold fKi <;> rw [if_neg h] <;> split <;> (try split) <;> omega
theorem dbl_sw : Ieee.double.signWeight = 9223372036854775808 := by decide
theorem dbl_bi : Ieee.double.binade = 4503599627370496 := by decide
theorem dbl_inf : Ieee.double.infRung = 9218868437227405312 := by decide
theorem dbl_lp : Ieee.double.leastPlace = -1074 := by decide
theorem dbl_fb : Ieee.double.fractionBits = 52 := rfl
theorem read_fin {b : Nat} (h : Fin64 b) : Ieee.double.read b = .number (fSg b) (fWh b) (fPo b) := by
  have hx := fin_ex h
  have hb := h.1
  unfold Ieee.Format.read
  rw [dbl_sw, dbl_bi, dbl_inf, dbl_lp]
  have es : (b / 9223372036854775808 % 2 == 1) = fSg b := by
    unfold fSg
    by_cases h : b / 9223372036854775808 = 1
    · rw [decide_eq_true h, h]; rfl
    · rw [decide_eq_false h, show b / 9223372036854775808 = 0 by omega]; rfl
  have hex : fEx b = b % 9223372036854775808 / 4503599627370496 := by unfold fEx; omega
  have hma : fMa b = b % 9223372036854775808 % 4503599627370496 := by unfold fMa; omega
  have hel := fEx_lt b
  have hml := fMa_lt b
  simp only [es]
  obtain ⟨r, er⟩ : ∃ r, b % 9223372036854775808 = r := ⟨_, rfl⟩
  rw [er] at hex hma
  rw [er]
  unfold fWh fPo
  by_cases h0 : fEx b = 0
  · rw [if_pos h0, if_pos h0, if_pos (by omega), hma]
    congr 1
    omega
  · rw [if_neg h0, if_neg h0, if_neg (by omega), if_pos (by omega), hma, hex]
    congr 1
    · omega
    · omega
/-- A finite float as a whole number of the least parts. -/
def fV (b : Nat) : Int := fNu b * ((2 ^ (fPo b + 1074).toNat : Nat) : Int)
theorem fPo_ge (b : Nat) : -1074 ≤ fPo b := by unfold fPo; split <;> omega
theorem signed_eq (s : Bool) (m k : Nat) : Ieee.signed s m k = (if s then -(m : Int) else (m : Int)) * ((2 ^ k : Nat) : Int) := by
  unfold Ieee.signed
  rw [Nat.shiftLeft_eq]
  cases s
  · simp
  · simp [Int.neg_mul]
theorem fV_signed (b : Nat) : fV b = Ieee.signed (fSg b) (fWh b) (fPo b + 1074).toNat := by
  rw [signed_eq]; rfl
theorem signed_scale (s : Bool) (m k d : Nat) : Ieee.signed s m (k + d) = Ieee.signed s m k * ((2 ^ d : Nat) : Int) := by
  rw [signed_eq, signed_eq, Nat.pow_add]
  simp [Int.mul_assoc]
theorem cmp_mul (a b : Int) {c : Int} (hc : 0 < c) : compare (a * c) (b * c) = compare a b := by
  rw [Int.compare_eq_ite_lt, Int.compare_eq_ite_lt]
  have h1 : a * c < b * c ↔ a < b := ⟨fun h => Int.lt_of_mul_lt_mul_right h (by omega), fun h => Int.mul_lt_mul_of_pos_right h hc⟩
  have h2 : b * c < a * c ↔ b < a := ⟨fun h => Int.lt_of_mul_lt_mul_right h (by omega), fun h => Int.mul_lt_mul_of_pos_right h hc⟩
  simp only [h1, h2]
theorem two_pos (k : Nat) : (0 : Int) < ((2 ^ k : Nat) : Int) := by
  have := Nat.pow_pos (n := k) (show 0 < 2 by omega)
  omega
theorem order_fin {x y : Nat} (hx : Fin64 x) (hy : Fin64 y) : Ieee.double.order x y = some (compare (fV x) (fV y)) := by
  unfold Ieee.Format.order
  rw [read_fin hx, read_fin hy]
  unfold Ieee.Datum.order
  simp only
  congr 1
  have gx := fPo_ge x
  have gy := fPo_ge y
  rw [fV_signed, fV_signed]
  obtain ⟨d, hd⟩ : ∃ d : Nat, min (fPo x) (fPo y) + 1074 = d := ⟨(min (fPo x) (fPo y) + 1074).toNat, by omega⟩
  rw [show (fPo x + 1074).toNat = (fPo x - min (fPo x) (fPo y)).toNat + d by omega, show (fPo y + 1074).toNat = (fPo y - min (fPo x) (fPo y)).toNat + d by omega, signed_scale, signed_scale, cmp_mul _ _ (two_pos d)]
theorem pow_parts (p : Int) (k : Nat) (h : -(k : Int) ≤ p) : ((2 ^ (p + (k : Int)).toNat : Nat) : Int) * ((2 ^ (-p).toNat : Nat) : Int) = ((2 ^ p.toNat : Nat) : Int) * ((2 ^ k : Nat) : Int) := by
  have ee : (p + (k : Int)).toNat + (-p).toNat = p.toNat + k := by omega
  rw [← Int.natCast_mul, ← Int.natCast_mul, ← Nat.pow_add, ← Nat.pow_add, ee]
/-- The grid's place by the least parts. -/
theorem gN_fV (b : Nat) (den : Int) : gN b den = (2 * den * fV b + ((2 ^ 1074 : Nat) : Int)) / (2 * ((2 ^ 1074 : Nat) : Int)) := by
  have g := fPo_ge b
  have e : fV b * (fLo b : Int) = fNu b * (fUp b : Int) * ((2 ^ 1074 : Nat) : Int) := by
    unfold fV fLo fUp
    rw [Int.mul_assoc, Int.mul_assoc]
    refine congrArg (fun t => fNu b * t) ?_
    exact pow_parts (fPo b) 1074 (by omega)
  have hL : (0 : Int) < (fLo b : Int) := two_pos _
  unfold gN
  have hP := two_pos 1074
  obtain ⟨P, eP⟩ : ∃ P : Int, ((2 ^ 1074 : Nat) : Int) = P := ⟨_, rfl⟩
  rw [eP] at e hP ⊢
  obtain ⟨L, eL⟩ : ∃ L : Int, (fLo b : Int) = L := ⟨_, rfl⟩
  rw [eL] at e hL ⊢
  obtain ⟨N, eN⟩ : ∃ N : Int, fNu b * (fUp b : Int) = N := ⟨_, rfl⟩
  rw [eN] at e ⊢
  obtain ⟨V, eV⟩ : ∃ V : Int, fV b = V := ⟨_, rfl⟩
  rw [eV] at e ⊢
  rw [← Int.mul_ediv_mul_of_pos_left (2 * (N * den) + L) (2 * L) hP, ← Int.mul_ediv_mul_of_pos_left (2 * den * V + P) (2 * P) hL]
  have e1 : (2 * (N * den) + L) * P = (2 * den * V + P) * L := by
    rw [Int.add_mul, Int.add_mul, show 2 * den * V * L = 2 * den * (V * L) by rw [Int.mul_assoc], e, Int.mul_comm L P]
    congr 1
    rw [Int.mul_assoc 2 den, show den * (N * P) = N * den * P by rw [Int.mul_comm den, Int.mul_assoc, Int.mul_comm P, Int.mul_assoc], Int.mul_assoc]
  rw [e1, show 2 * L * P = 2 * P * L by rw [Int.mul_assoc, Int.mul_comm L P, Int.mul_assoc]]
theorem gN_mono {x y : Nat} {den : Int} (hd : 0 ≤ den) (h : fV x ≤ fV y) : gN x den ≤ gN y den := by
  rw [gN_fV, gN_fV]
  have hP := two_pos 1074
  refine Int.ediv_le_ediv (by omega) ?_
  have := Int.mul_le_mul_of_nonneg_left h (show 0 ≤ 2 * den by omega)
  omega
/-- The grid's place is at most half a part away. -/
theorem gN_half (b : Nat) (den : Int) : -((2 ^ 1074 : Nat) : Int) ≤ 2 * (den * fV b - gN b den * ((2 ^ 1074 : Nat) : Int)) ∧ 2 * (den * fV b - gN b den * ((2 ^ 1074 : Nat) : Int)) ≤ ((2 ^ 1074 : Nat) : Int) := by
  rw [gN_fV]
  have hP := two_pos 1074
  obtain ⟨P, eP⟩ : ∃ P : Int, ((2 ^ 1074 : Nat) : Int) = P := ⟨_, rfl⟩
  rw [eP] at hP ⊢
  rw [Int.mul_assoc]
  obtain ⟨X, eX⟩ : ∃ X : Int, den * fV b = X := ⟨_, rfl⟩
  rw [eX]
  have h1 := Int.emod_nonneg (2 * X + P) (show 2 * P ≠ 0 by omega)
  have h2 := Int.emod_lt_of_pos (2 * X + P) (show 0 < 2 * P by omega)
  have h3 := Int.mul_ediv_add_emod (2 * X + P) (2 * P)
  obtain ⟨q, eq⟩ : ∃ q : Int, (2 * X + P) / (2 * P) = q := ⟨_, rfl⟩
  rw [eq] at h3 ⊢
  rw [Int.mul_assoc, Int.mul_comm P q] at h3
  omega
end Go.Proofs.Ytgmnboacehopfaa
