/-
  Floats in plain numbers: the nearest word.
-/
import Derived.Test.YtgmnboacehopfaaYFpA
namespace Go.Proofs.Ytgmnboacehopfaa
open Go.RowKit
set_option linter.unusedSimpArgs false
set_option linter.unusedVariables false

theorem cut_def (neg : Bool) (n d : Nat) : ∃ m : Nat, m = min d (n.log2 + 2) ∧ Ieee.Toward.even.cut neg n d = n / 2 ^ m + (decide (2 ^ m < 2 * (n % 2 ^ m)) || (2 ^ m == 2 * (n % 2 ^ m) && n / 2 ^ m % 2 == 1)).toNat := by
  refine ⟨_, rfl, ?_⟩
  unfold Ieee.Toward.cut
  simp only [Nat.shiftLeft_eq, Nat.one_mul]
theorem cut_le {neg : Bool} {n d c : Nat} (h : n ≤ c * 2 ^ d) : Ieee.Toward.even.cut neg n d ≤ c := by
  obtain ⟨m, hm, e⟩ := cut_def neg n d
  rw [e]
  have hp : 0 < 2 ^ m := Nat.pow_pos (by omega)
  have hdm := Nat.div_add_mod n (2 ^ m)
  have hml := Nat.mod_lt n hp
  by_cases hd : d ≤ n.log2 + 2
  · obtain rfl : m = d := by omega
    obtain ⟨g, eg⟩ : ∃ g, 2 ^ m = g := ⟨_, rfl⟩
    rw [eg] at hp hdm hml h ⊢
    obtain ⟨low, el⟩ : ∃ x, n / g = x := ⟨_, rfl⟩
    obtain ⟨r, er⟩ : ∃ x, n % g = x := ⟨_, rfl⟩
    rw [el, er] at hdm
    rw [er] at hml
    rw [el, er]
    by_cases hr : r = 0
    · have : (decide (g < 2 * r) || (g == 2 * r && low % 2 == 1)) = false := by
        subst hr
        have h1 : ¬ g < 2 * 0 := by omega
        have h2 : (g == 2 * 0) = false := by simp; omega
        simp [h1, h2]
      rw [this]
      have : low * g ≤ c * g := by rw [Nat.mul_comm low]; omega
      have := Nat.le_of_mul_le_mul_right this hp
      simpa using this
    · have : low * g < c * g := by rw [Nat.mul_comm low]; omega
      have h1 := Nat.lt_of_mul_lt_mul_right this
      have h2 := Bool.toNat_le (decide (g < 2 * r) || (g == 2 * r && low % 2 == 1))
      omega
  · have hl := Nat.lt_log2_self (n := n)
    obtain rfl : m = n.log2 + 2 := by omega
    have e2 : 2 ^ (n.log2 + 2) = 2 * 2 ^ (n.log2 + 1) := by rw [Nat.pow_succ 2 (n.log2 + 1)]; omega
    rw [e2] at hp ⊢
    obtain ⟨g, eg⟩ : ∃ g, 2 ^ (n.log2 + 1) = g := ⟨_, rfl⟩
    rw [eg] at hl hp ⊢
    rw [Nat.div_eq_of_lt (by omega), Nat.mod_eq_of_lt (by omega)]
    have h1 : ¬ 2 * g < 2 * n := by omega
    have h2 : (2 * g == 2 * n) = false := by simp; omega
    simp [h1, h2]
theorem cut_ge {neg : Bool} {n d c : Nat} (h : c * 2 ^ d ≤ n) : c ≤ Ieee.Toward.even.cut neg n d := by
  obtain ⟨m, hm, e⟩ := cut_def neg n d
  rw [e]
  by_cases hd : d ≤ n.log2 + 2
  · obtain rfl : m = d := by omega
    have := (Nat.le_div_iff_mul_le (Nat.pow_pos (n := m) (show 0 < 2 by omega))).2 h
    omega
  · have hl := Nat.lt_log2_self (n := n)
    have hlt : 2 ^ (n.log2 + 1) ≤ 2 ^ d := Nat.pow_le_pow_right (by omega) (by omega)
    have : c = 0 := by
      rcases Nat.eq_zero_or_pos c with h0 | h0
      · exact h0
      · have := Nat.mul_le_mul_right (2 ^ d) h0
        omega
    omega
theorem cut_is {neg : Bool} {n d c : Nat} (h : n = c * 2 ^ d) : Ieee.Toward.even.cut neg n d = c :=
  Nat.le_antisymm (cut_le (Nat.le_of_eq h)) (cut_ge (Nat.le_of_eq h.symm))
/-- A word by its rung: what it is. -/
theorem word_val (neg : Bool) (E K : Nat) (hK : K ≤ 9007199254740992) (h : 4503599627370496 ≤ K ∨ E = 0) (hE : E ≤ 2044) :
    ∃ b, b = Ieee.double.word neg (min (E * 4503599627370496 + K) 9218868437227405312) ∧ Fin64 b ∧ fSg b = neg ∧ fV b = (if neg then -(K : Int) else (K : Int)) * ((2 ^ E : Nat) : Int) := by
  refine ⟨_, rfl, ?_⟩
  rw [Nat.min_eq_left (by omega)]
  unfold Ieee.Format.word
  rw [dbl_sw]
  obtain ⟨b, eb⟩ : ∃ b, (if neg = true then 9223372036854775808 + (E * 4503599627370496 + K) else E * 4503599627370496 + K) = b := ⟨_, rfl⟩
  rw [eb]
  have hb : b < 18446744073709551616 ∧ b % 9223372036854775808 = E * 4503599627370496 + K ∧ (b / 9223372036854775808 = 1 ↔ neg = true) := by
    cases neg <;> simp at eb ⊢ <;> omega
  obtain ⟨hb1, hb2, hb3⟩ := hb
  have hsg : fSg b = neg := by
    unfold fSg
    cases neg
    · rw [decide_eq_false (fun h => by simpa using hb3.1 h)]
    · rw [decide_eq_true (hb3.2 rfl)]
  have key : ∃ e m, fEx b = e ∧ fMa b = m ∧ e ≠ 2047 ∧ ((e = 0 ∧ E = 0 ∧ K = m) ∨ (e = E + 1 ∧ K = m + 4503599627370496) ∨ (e = E + 2 ∧ m = 0 ∧ K = 9007199254740992)) := by
    have hex : fEx b = b % 9223372036854775808 / 4503599627370496 := by unfold fEx; omega
    have hma : fMa b = b % 9223372036854775808 % 4503599627370496 := by unfold fMa; omega
    rw [hb2] at hex hma
    by_cases h1 : K < 4503599627370496
    · have : E = 0 := by omega
      subst this
      exact ⟨0, K, by omega, by omega, by omega, .inl ⟨rfl, rfl, rfl⟩⟩
    · by_cases h2 : K < 9007199254740992
      · exact ⟨E + 1, K - 4503599627370496, by omega, by omega, by omega, .inr (.inl ⟨rfl, by omega⟩)⟩
      · exact ⟨E + 2, 0, by omega, by omega, by omega, .inr (.inr ⟨rfl, rfl, by omega⟩)⟩
  obtain ⟨e, m, h1, h2, h3, h4⟩ := key
  refine ⟨fin_of hb1 (by rw [h1]; exact h3), hsg, ?_⟩
  unfold fV fNu fWh fPo
  rw [h1, h2, hsg]
  rcases h4 with ⟨rfl, rfl, rfl⟩ | ⟨rfl, rfl⟩ | ⟨rfl, rfl, rfl⟩
  · simp
  · rw [if_neg (show ¬ E + 1 = 0 by omega), if_neg (show ¬ E + 1 = 0 by omega), show ((E + 1 : Nat) : Int) - 1075 + 1074 = (E : Int) by omega]
    rfl
  · rw [if_neg (show ¬ E + 2 = 0 by omega), if_neg (show ¬ E + 2 = 0 by omega), show ((E + 2 : Nat) : Int) - 1075 + 1074 = ((E + 1 : Nat) : Int) by omega]
    rw [Int.toNat_natCast, Nat.pow_succ]
    cases neg <;> simp <;> omega
theorem near_word (neg : Bool) (mag : Nat) (place : Int) (h0 : mag ≠ 0) (hov : place + mag.log2 ≤ 1000) :
    ∃ (L : Int) (K : Nat), L = max (place + mag.log2 - 52) (-1074) ∧ K = Ieee.Toward.even.cut neg (mag * 2 ^ (place - L).toNat) (L - place).toNat ∧ Fin64 (Ieee.double.nearest neg mag place) ∧ fSg (Ieee.double.nearest neg mag place) = neg ∧ fV (Ieee.double.nearest neg mag place) = (if neg then -(K : Int) else (K : Int)) * ((2 ^ (L + 1074).toNat : Nat) : Int) := by
  refine ⟨_, _, rfl, rfl, ?_⟩
  unfold Ieee.Format.nearest
  rw [if_neg h0, dbl_lp, dbl_fb, dbl_bi, dbl_inf]
  simp only [Nat.shiftLeft_eq]
  have hlo := Nat.log2_self_le h0
  have hhi := Nat.lt_log2_self (n := mag)
  obtain ⟨l, el⟩ : ∃ l, mag.log2 = l := ⟨_, rfl⟩
  rw [el] at hlo hhi hov ⊢
  obtain ⟨L, eL⟩ : ∃ L, max (place + (l : Int) - 52) (-1074) = L := ⟨_, rfl⟩
  have eL2 : max (place + (l : Int) - ((52 : Nat) : Int)) (-1074) = L := eL
  rw [eL2]
  obtain ⟨K, eK⟩ : ∃ K, Ieee.Toward.even.cut neg (mag * 2 ^ (place - L).toNat) (L - place).toNat = K := ⟨_, rfl⟩
  rw [eK]
  have hK1 : K ≤ 9007199254740992 := by
    rw [← eK]
    refine cut_le ?_
    have e53 : (9007199254740992 : Nat) = 2 ^ 53 := by decide
    rw [e53, ← Nat.pow_add]
    have h1 : mag * 2 ^ (place - L).toNat ≤ 2 ^ (l + 1) * 2 ^ (place - L).toNat := Nat.mul_le_mul_right _ (by omega)
    rw [← Nat.pow_add] at h1
    exact Nat.le_trans h1 (Nat.pow_le_pow_right (by omega) (by omega))
  have hK2 : 4503599627370496 ≤ K ∨ (L + 1074).toNat = 0 := by
    by_cases hL : L = -1074
    · right; omega
    · left
      rw [← eK]
      refine cut_ge ?_
      have e52 : (4503599627370496 : Nat) = 2 ^ 52 := by decide
      rw [e52, ← Nat.pow_add]
      have h1 : 2 ^ l * 2 ^ (place - L).toNat ≤ mag * 2 ^ (place - L).toNat := Nat.mul_le_mul_right _ hlo
      rw [← Nat.pow_add] at h1
      exact Nat.le_trans (Nat.pow_le_pow_right (by omega) (by omega)) h1
  obtain ⟨b, eb, h1, h2, h3⟩ := word_val neg (L + 1074).toNat K hK1 hK2 (by omega)
  rw [show (L - -1074).toNat = (L + 1074).toNat by omega, ← eb]
  rw [eL, eK]
  exact ⟨h1, h2, h3⟩
/-- Where nothing is dropped the nearest is the number itself. -/
theorem near_exact (neg : Bool) (w t : Nat) (place : Int) (h0 : w ≠ 0) (hov : place + (w * 2 ^ t).log2 ≤ 1000) (h1 : place + (w * 2 ^ t).log2 - 52 ≤ place + t) (h2 : -1074 ≤ place + t) :
    Fin64 (Ieee.double.nearest neg (w * 2 ^ t) place) ∧ fSg (Ieee.double.nearest neg (w * 2 ^ t) place) = neg ∧ fV (Ieee.double.nearest neg (w * 2 ^ t) place) = (if neg then -(w : Int) else (w : Int)) * ((2 ^ (place + t + 1074).toNat : Nat) : Int) := by
  have hp : 0 < 2 ^ t := Nat.pow_pos (by omega)
  have hm : w * 2 ^ t ≠ 0 := Nat.mul_ne_zero h0 (by omega)
  obtain ⟨L, K, eL, eK, f1, f2, f3⟩ := near_word neg (w * 2 ^ t) place hm hov
  refine ⟨f1, f2, ?_⟩
  rw [f3]
  have hL : L ≤ place + t := by omega
  have hL2 : -1074 ≤ L := by omega
  have eK2 : K = w * 2 ^ (place + t - L).toNat := by
    rw [eK]
    refine cut_is ?_
    rw [Nat.mul_assoc, Nat.mul_assoc, ← Nat.pow_add, ← Nat.pow_add]
    congr 2
    omega
  rw [eK2, show (place + t + 1074).toNat = (place + t - L).toNat + (L + 1074).toNat by omega, Nat.pow_add]
  cases neg <;> simp [Int.mul_assoc, Int.neg_mul]
/-- The nearest of what is at most a power of two isn't greater. -/
theorem near_le (neg : Bool) (mag : Nat) (place : Int) (h0 : mag ≠ 0) (hp : -1074 ≤ place) (c : Nat) (hc : c ≤ 2000) (h : mag * 2 ^ (place + 1074).toNat ≤ 2 ^ c) (hov : place + mag.log2 ≤ 1000) (hcl : ∀ L : Int, L = max (place + mag.log2 - 52) (-1074) → (L + 1074).toNat ≤ c) :
    Fin64 (Ieee.double.nearest neg mag place) ∧ fSg (Ieee.double.nearest neg mag place) = neg ∧ ∃ K : Nat, fV (Ieee.double.nearest neg mag place) = (if neg then -(K : Int) else (K : Int)) ∧ K ≤ 2 ^ c := by
  obtain ⟨L, K, eL, eK, f1, f2, f3⟩ := near_word neg mag place h0 hov
  refine ⟨f1, f2, K * 2 ^ (L + 1074).toNat, ?_, ?_⟩
  · rw [f3]
    cases neg <;> simp [Int.neg_mul]
  · have hLc := hcl L eL
    have hKc : K ≤ 2 ^ (c - (L + 1074).toNat) := by
      rw [eK]
      refine cut_le ?_
      have hL2 : -1074 ≤ L := by omega
      have hq : 0 < 2 ^ (L + 1074).toNat := Nat.pow_pos (by omega)
      refine Nat.le_of_mul_le_mul_right ?_ hq
      rw [← Nat.pow_add, ← Nat.pow_add]
      by_cases hpl : L ≤ place
      · rw [show (L - place).toNat = 0 by omega, Nat.mul_assoc, ← Nat.pow_add, show (place - L).toNat + (L + 1074).toNat = (place + 1074).toNat by omega]
        rw [show c - (L + 1074).toNat + 0 + (L + 1074).toNat = c by omega]
        exact h
      · rw [show (place - L).toNat = 0 by omega, show (L + 1074).toNat = (place + 1074).toNat + (L - place).toNat by omega]
        have := Nat.mul_le_mul_right (2 ^ (L - place).toNat) h
        rw [Nat.mul_assoc, ← Nat.pow_add, ← Nat.pow_add] at this
        rw [Nat.pow_zero, Nat.mul_one]
        refine Nat.le_trans this (Nat.pow_le_pow_right (by omega) (by omega))
    have := Nat.mul_le_mul_right (2 ^ (L + 1074).toNat) hKc
    rw [← Nat.pow_add, show c - (L + 1074).toNat + (L + 1074).toNat = c by omega] at this
    exact this
end Go.Proofs.Ytgmnboacehopfaa
