/-
  Floats in plain numbers: what a word is read as; the nearest word.
-/
/-
  Floats in plain numbers: the nearest word.
-/
/-
  Floats in plain numbers: 64 times one, a whole number as a float, a difference that is at most a half.
-/
/-
  Floats in plain numbers: the order of all floats that are no NaN, by their bits.
-/
/-
  Floats in plain numbers: places in the order of all.
-/
/-
  Floats in plain numbers: the nearest float to a ratio.
-/
/-
  Layer 3: the nearest float to a ratio, in plain numbers: three words of the quotient; a whole number of 53 bits as a float; one times a float.
-/
/-
  Package math: Ldexp of a positive normal float, where nothing is lost.
-/
import Derived.Test.YtigjjddblijpbaaGreatDoorZ9
import GoSem.Core.Float
import Derived.Laws.FloatArith
import Derived.Test.YtigjjddblijpbaaGreatDoorZ8
import Derived.WalkLawsBesides
namespace Go.Proofs.YtigjjddblijpbaaGreatDoor
open Go.RowKit
set_option linter.unusedSimpArgs false
set_option linter.unusedVariables false

/-- A finite float. -/
def Fin64 (b : Nat) : Prop := b < 18446744073709551616 ∧ fKi b ≠ 1 ∧ fKi b ≠ 2
theorem fin_ex {b : Nat} (h : Fin64 b) : fEx b ≠ 2047 := by
  intro e
  obtain ⟨_, h1, h2⟩ := h
  unfold fKi at h1 h2
  rw [if_pos e] at h1 h2
  split at h1
  · split at h2 <;> omega
  · omega
theorem fin_of {b : Nat} (hb : b < 18446744073709551616) (h : fEx b ≠ 2047) : Fin64 b := by
  refine ⟨hb, ?_, ?_⟩ <;> unfold fKi <;> rw [if_neg h] <;> split <;> (try split) <;> omega
theorem dbl_sw : Ieee.double.signWeight = 9223372036854775808 := by decide
theorem dbl_bi : Ieee.double.binade = 4503599627370496 := by decide
theorem dbl_inf : Ieee.double.infRung = 9218868437227405312 := by decide
theorem dbl_lp : Ieee.double.leastPlace = -1074 := by decide
theorem dbl_fb : Ieee.double.fractionBits = 52 := rfl
theorem read_fin {b : Nat} (h : Fin64 b) : Ieee.double.read b = .number (fSg b) (fWh b) (fPo b) := by
  have hx := fin_ex h
  have hb := h.1
  unfold Ieee.Format.read
  rw [dbl_sw, dbl_bi, dbl_inf, dbl_lp]
  have es : (b / 9223372036854775808 % 2 == 1) = fSg b := by
    unfold fSg
    by_cases h : b / 9223372036854775808 = 1
    · rw [decide_eq_true h, h]; rfl
    · rw [decide_eq_false h, show b / 9223372036854775808 = 0 by omega]; rfl
  have hex : fEx b = b % 9223372036854775808 / 4503599627370496 := by unfold fEx; omega
  have hma : fMa b = b % 9223372036854775808 % 4503599627370496 := by unfold fMa; omega
  have hel := fEx_lt b
  have hml := fMa_lt b
  simp only [es]
  obtain ⟨r, er⟩ : ∃ r, b % 9223372036854775808 = r := ⟨_, rfl⟩
  rw [er] at hex hma
  rw [er]
  unfold fWh fPo
  by_cases h0 : fEx b = 0
  · rw [if_pos h0, if_pos h0, if_pos (by omega), hma]
    congr 1
    omega
  · rw [if_neg h0, if_neg h0, if_neg (by omega), if_pos (by omega), hma, hex]
    congr 1
    · omega
    · omega
/-- A finite float as a whole number of the least parts. -/
def fV (b : Nat) : Int := fNu b * ((2 ^ (fPo b + 1074).toNat : Nat) : Int)
theorem fPo_ge (b : Nat) : -1074 ≤ fPo b := by unfold fPo; split <;> omega
theorem signed_eq (s : Bool) (m k : Nat) : Ieee.signed s m k = (if s then -(m : Int) else (m : Int)) * ((2 ^ k : Nat) : Int) := by
  unfold Ieee.signed
  rw [Nat.shiftLeft_eq]
  cases s
  · simp
  · simp [Int.neg_mul]
theorem fV_signed (b : Nat) : fV b = Ieee.signed (fSg b) (fWh b) (fPo b + 1074).toNat := by
  rw [signed_eq]; rfl
theorem signed_scale (s : Bool) (m k d : Nat) : Ieee.signed s m (k + d) = Ieee.signed s m k * ((2 ^ d : Nat) : Int) := by
  rw [signed_eq, signed_eq, Nat.pow_add]
  simp [Int.mul_assoc]
theorem cmp_mul (a b : Int) {c : Int} (hc : 0 < c) : compare (a * c) (b * c) = compare a b := by
  rw [Int.compare_eq_ite_lt, Int.compare_eq_ite_lt]
  have h1 : a * c < b * c ↔ a < b := ⟨fun h => Int.lt_of_mul_lt_mul_right h (by omega), fun h => Int.mul_lt_mul_of_pos_right h hc⟩
  have h2 : b * c < a * c ↔ b < a := ⟨fun h => Int.lt_of_mul_lt_mul_right h (by omega), fun h => Int.mul_lt_mul_of_pos_right h hc⟩
  simp only [h1, h2]
theorem two_pos (k : Nat) : (0 : Int) < ((2 ^ k : Nat) : Int) := by
  have := Nat.pow_pos (n := k) (show 0 < 2 by omega)
  omega
theorem order_fin {x y : Nat} (hx : Fin64 x) (hy : Fin64 y) : Ieee.double.order x y = some (compare (fV x) (fV y)) := by
  unfold Ieee.Format.order
  rw [read_fin hx, read_fin hy]
  unfold Ieee.Datum.order
  simp only
  congr 1
  have gx := fPo_ge x
  have gy := fPo_ge y
  rw [fV_signed, fV_signed]
  obtain ⟨d, hd⟩ : ∃ d : Nat, min (fPo x) (fPo y) + 1074 = d := ⟨(min (fPo x) (fPo y) + 1074).toNat, by omega⟩
  rw [show (fPo x + 1074).toNat = (fPo x - min (fPo x) (fPo y)).toNat + d by omega, show (fPo y + 1074).toNat = (fPo y - min (fPo x) (fPo y)).toNat + d by omega, signed_scale, signed_scale, cmp_mul _ _ (two_pos d)]
theorem pow_parts (p : Int) (k : Nat) (h : -(k : Int) ≤ p) : ((2 ^ (p + (k : Int)).toNat : Nat) : Int) * ((2 ^ (-p).toNat : Nat) : Int) = ((2 ^ p.toNat : Nat) : Int) * ((2 ^ k : Nat) : Int) := by
  have ee : (p + (k : Int)).toNat + (-p).toNat = p.toNat + k := by omega
  rw [← Int.natCast_mul, ← Int.natCast_mul, ← Nat.pow_add, ← Nat.pow_add, ee]
/-- The grid's place by the least parts. -/
theorem gN_fV (b : Nat) (den : Int) : gN b den = (2 * den * fV b + ((2 ^ 1074 : Nat) : Int)) / (2 * ((2 ^ 1074 : Nat) : Int)) := by
  have g := fPo_ge b
  have e : fV b * (fLo b : Int) = fNu b * (fUp b : Int) * ((2 ^ 1074 : Nat) : Int) := by
    unfold fV fLo fUp
    rw [Int.mul_assoc, Int.mul_assoc]
    refine congrArg (fun t => fNu b * t) ?_
    exact pow_parts (fPo b) 1074 (by omega)
  have hL : (0 : Int) < (fLo b : Int) := two_pos _
  unfold gN
  have hP := two_pos 1074
  obtain ⟨P, eP⟩ : ∃ P : Int, ((2 ^ 1074 : Nat) : Int) = P := ⟨_, rfl⟩
  rw [eP] at e hP ⊢
  obtain ⟨L, eL⟩ : ∃ L : Int, (fLo b : Int) = L := ⟨_, rfl⟩
  rw [eL] at e hL ⊢
  obtain ⟨N, eN⟩ : ∃ N : Int, fNu b * (fUp b : Int) = N := ⟨_, rfl⟩
  rw [eN] at e ⊢
  obtain ⟨V, eV⟩ : ∃ V : Int, fV b = V := ⟨_, rfl⟩
  rw [eV] at e ⊢
  rw [← Int.mul_ediv_mul_of_pos_left (2 * (N * den) + L) (2 * L) hP, ← Int.mul_ediv_mul_of_pos_left (2 * den * V + P) (2 * P) hL]
  have e1 : (2 * (N * den) + L) * P = (2 * den * V + P) * L := by
    rw [Int.add_mul, Int.add_mul, show 2 * den * V * L = 2 * den * (V * L) by rw [Int.mul_assoc], e, Int.mul_comm L P]
    congr 1
    rw [Int.mul_assoc 2 den, show den * (N * P) = N * den * P by rw [Int.mul_comm den, Int.mul_assoc, Int.mul_comm P, Int.mul_assoc], Int.mul_assoc]
  rw [e1, show 2 * L * P = 2 * P * L by rw [Int.mul_assoc, Int.mul_comm L P, Int.mul_assoc]]
theorem gN_mono {x y : Nat} {den : Int} (hd : 0 ≤ den) (h : fV x ≤ fV y) : gN x den ≤ gN y den := by
  rw [gN_fV, gN_fV]
  have hP := two_pos 1074
  refine Int.ediv_le_ediv (by omega) ?_
  have := Int.mul_le_mul_of_nonneg_left h (show 0 ≤ 2 * den by omega)
  omega
/-- The grid's place is at most half a part away. -/
theorem gN_half (b : Nat) (den : Int) : -((2 ^ 1074 : Nat) : Int) ≤ 2 * (den * fV b - gN b den * ((2 ^ 1074 : Nat) : Int)) ∧ 2 * (den * fV b - gN b den * ((2 ^ 1074 : Nat) : Int)) ≤ ((2 ^ 1074 : Nat) : Int) := by
  rw [gN_fV]
  have hP := two_pos 1074
  obtain ⟨P, eP⟩ : ∃ P : Int, ((2 ^ 1074 : Nat) : Int) = P := ⟨_, rfl⟩
  rw [eP] at hP ⊢
  rw [Int.mul_assoc]
  obtain ⟨X, eX⟩ : ∃ X : Int, den * fV b = X := ⟨_, rfl⟩
  rw [eX]
  have h1 := Int.emod_nonneg (2 * X + P) (show 2 * P ≠ 0 by omega)
  have h2 := Int.emod_lt_of_pos (2 * X + P) (show 0 < 2 * P by omega)
  have h3 := Int.mul_ediv_add_emod (2 * X + P) (2 * P)
  obtain ⟨q, eq⟩ : ∃ q : Int, (2 * X + P) / (2 * P) = q := ⟨_, rfl⟩
  rw [eq] at h3 ⊢
  rw [Int.mul_assoc, Int.mul_comm P q] at h3
  omega
end Go.Proofs.YtigjjddblijpbaaGreatDoor
namespace Go.Proofs.YtigjjddblijpbaaGreatDoor
open Go.RowKit
set_option linter.unusedSimpArgs false
set_option linter.unusedVariables false

theorem cut_def (neg : Bool) (n d : Nat) : ∃ m : Nat, m = min d (n.log2 + 2) ∧ Ieee.Toward.even.cut neg n d = n / 2 ^ m + (decide (2 ^ m < 2 * (n % 2 ^ m)) || (2 ^ m == 2 * (n % 2 ^ m) && n / 2 ^ m % 2 == 1)).toNat := by
  refine ⟨_, rfl, ?_⟩
  unfold Ieee.Toward.cut
  simp only [Nat.shiftLeft_eq, Nat.one_mul]
theorem cut_le {neg : Bool} {n d c : Nat} (h : n ≤ c * 2 ^ d) : Ieee.Toward.even.cut neg n d ≤ c := by
  obtain ⟨m, hm, e⟩ := cut_def neg n d
  rw [e]
  have hp : 0 < 2 ^ m := Nat.pow_pos (by omega)
  have hdm := Nat.div_add_mod n (2 ^ m)
  have hml := Nat.mod_lt n hp
  by_cases hd : d ≤ n.log2 + 2
  · obtain rfl : m = d := by omega
    obtain ⟨g, eg⟩ : ∃ g, 2 ^ m = g := ⟨_, rfl⟩
    rw [eg] at hp hdm hml h ⊢
    obtain ⟨low, el⟩ : ∃ x, n / g = x := ⟨_, rfl⟩
    obtain ⟨r, er⟩ : ∃ x, n % g = x := ⟨_, rfl⟩
    rw [el, er] at hdm
    rw [er] at hml
    rw [el, er]
    by_cases hr : r = 0
    · have : (decide (g < 2 * r) || (g == 2 * r && low % 2 == 1)) = false := by
        subst hr
        have h1 : ¬ g < 2 * 0 := by omega
        have h2 : (g == 2 * 0) = false := by simp; omega
        simp [h1, h2]
      rw [this]
      have : low * g ≤ c * g := by rw [Nat.mul_comm low]; omega
      have := Nat.le_of_mul_le_mul_right this hp
      simpa using this
    · have : low * g < c * g := by rw [Nat.mul_comm low]; omega
      have h1 := Nat.lt_of_mul_lt_mul_right this
      have h2 := Bool.toNat_le (decide (g < 2 * r) || (g == 2 * r && low % 2 == 1))
      omega
  · have hl := Nat.lt_log2_self (n := n)
    obtain rfl : m = n.log2 + 2 := by omega
    have e2 : 2 ^ (n.log2 + 2) = 2 * 2 ^ (n.log2 + 1) := by rw [Nat.pow_succ 2 (n.log2 + 1)]; omega
    rw [e2] at hp ⊢
    obtain ⟨g, eg⟩ : ∃ g, 2 ^ (n.log2 + 1) = g := ⟨_, rfl⟩
    rw [eg] at hl hp ⊢
    rw [Nat.div_eq_of_lt (by omega), Nat.mod_eq_of_lt (by omega)]
    have h1 : ¬ 2 * g < 2 * n := by omega
    have h2 : (2 * g == 2 * n) = false := by simp; omega
    simp [h1, h2]
theorem cut_ge {neg : Bool} {n d c : Nat} (h : c * 2 ^ d ≤ n) : c ≤ Ieee.Toward.even.cut neg n d := by
  obtain ⟨m, hm, e⟩ := cut_def neg n d
  rw [e]
  by_cases hd : d ≤ n.log2 + 2
  · obtain rfl : m = d := by omega
    have := (Nat.le_div_iff_mul_le (Nat.pow_pos (n := m) (show 0 < 2 by omega))).2 h
    omega
  · have hl := Nat.lt_log2_self (n := n)
    have hlt : 2 ^ (n.log2 + 1) ≤ 2 ^ d := Nat.pow_le_pow_right (by omega) (by omega)
    have : c = 0 := by
      rcases Nat.eq_zero_or_pos c with h0 | h0
      · exact h0
      · have := Nat.mul_le_mul_right (2 ^ d) h0
        omega
    omega
theorem cut_is {neg : Bool} {n d c : Nat} (h : n = c * 2 ^ d) : Ieee.Toward.even.cut neg n d = c :=
  Nat.le_antisymm (cut_le (Nat.le_of_eq h)) (cut_ge (Nat.le_of_eq h.symm))
/-- A word by its rung: what it is. -/
theorem word_val (neg : Bool) (E K : Nat) (hK : K ≤ 9007199254740992) (h : 4503599627370496 ≤ K ∨ E = 0) (hE : E ≤ 2044) :
    ∃ b, b = Ieee.double.word neg (min (E * 4503599627370496 + K) 9218868437227405312) ∧ Fin64 b ∧ fSg b = neg ∧ fV b = (if neg then -(K : Int) else (K : Int)) * ((2 ^ E : Nat) : Int) := by
  refine ⟨_, rfl, ?_⟩
  rw [Nat.min_eq_left (by omega)]
  unfold Ieee.Format.word
  rw [dbl_sw]
  obtain ⟨b, eb⟩ : ∃ b, (if neg = true then 9223372036854775808 + (E * 4503599627370496 + K) else E * 4503599627370496 + K) = b := ⟨_, rfl⟩
  rw [eb]
  have hb : b < 18446744073709551616 ∧ b % 9223372036854775808 = E * 4503599627370496 + K ∧ (b / 9223372036854775808 = 1 ↔ neg = true) := by
    cases neg <;> simp at eb ⊢ <;> omega
  obtain ⟨hb1, hb2, hb3⟩ := hb
  have hsg : fSg b = neg := by
    unfold fSg
    cases neg
    · rw [decide_eq_false (fun h => by simpa using hb3.1 h)]
    · rw [decide_eq_true (hb3.2 rfl)]
  have key : ∃ e m, fEx b = e ∧ fMa b = m ∧ e ≠ 2047 ∧ ((e = 0 ∧ E = 0 ∧ K = m) ∨ (e = E + 1 ∧ K = m + 4503599627370496) ∨ (e = E + 2 ∧ m = 0 ∧ K = 9007199254740992)) := by
    have hex : fEx b = b % 9223372036854775808 / 4503599627370496 := by unfold fEx; omega
    have hma : fMa b = b % 9223372036854775808 % 4503599627370496 := by unfold fMa; omega
    rw [hb2] at hex hma
    by_cases h1 : K < 4503599627370496
    · have : E = 0 := by omega
      subst this
      exact ⟨0, K, by omega, by omega, by omega, .inl ⟨rfl, rfl, rfl⟩⟩
    · by_cases h2 : K < 9007199254740992
      · exact ⟨E + 1, K - 4503599627370496, by omega, by omega, by omega, .inr (.inl ⟨rfl, by omega⟩)⟩
      · exact ⟨E + 2, 0, by omega, by omega, by omega, .inr (.inr ⟨rfl, rfl, by omega⟩)⟩
  obtain ⟨e, m, h1, h2, h3, h4⟩ := key
  refine ⟨fin_of hb1 (by rw [h1]; exact h3), hsg, ?_⟩
  unfold fV fNu fWh fPo
  rw [h1, h2, hsg]
  rcases h4 with ⟨rfl, rfl, rfl⟩ | ⟨rfl, rfl⟩ | ⟨rfl, rfl, rfl⟩
  · simp
  · rw [if_neg (show ¬ E + 1 = 0 by omega), if_neg (show ¬ E + 1 = 0 by omega), show ((E + 1 : Nat) : Int) - 1075 + 1074 = (E : Int) by omega]
    rfl
  · rw [if_neg (show ¬ E + 2 = 0 by omega), if_neg (show ¬ E + 2 = 0 by omega), show ((E + 2 : Nat) : Int) - 1075 + 1074 = ((E + 1 : Nat) : Int) by omega]
    rw [Int.toNat_natCast, Nat.pow_succ]
    cases neg <;> simp <;> omega
theorem near_word (neg : Bool) (mag : Nat) (place : Int) (h0 : mag ≠ 0) (hov : place + mag.log2 ≤ 1000) :
    ∃ (L : Int) (K : Nat), L = max (place + mag.log2 - 52) (-1074) ∧ K = Ieee.Toward.even.cut neg (mag * 2 ^ (place - L).toNat) (L - place).toNat ∧ Fin64 (Ieee.double.nearest neg mag place) ∧ fSg (Ieee.double.nearest neg mag place) = neg ∧ fV (Ieee.double.nearest neg mag place) = (if neg then -(K : Int) else (K : Int)) * ((2 ^ (L + 1074).toNat : Nat) : Int) := by
  refine ⟨_, _, rfl, rfl, ?_⟩
  unfold Ieee.Format.nearest
  rw [if_neg h0, dbl_lp, dbl_fb, dbl_bi, dbl_inf]
  simp only [Nat.shiftLeft_eq]
  have hlo := Nat.log2_self_le h0
  have hhi := Nat.lt_log2_self (n := mag)
  obtain ⟨l, el⟩ : ∃ l, mag.log2 = l := ⟨_, rfl⟩
  rw [el] at hlo hhi hov ⊢
  obtain ⟨L, eL⟩ : ∃ L, max (place + (l : Int) - 52) (-1074) = L := ⟨_, rfl⟩
  have eL2 : max (place + (l : Int) - ((52 : Nat) : Int)) (-1074) = L := eL
  rw [eL2]
  obtain ⟨K, eK⟩ : ∃ K, Ieee.Toward.even.cut neg (mag * 2 ^ (place - L).toNat) (L - place).toNat = K := ⟨_, rfl⟩
  rw [eK]
  have hK1 : K ≤ 9007199254740992 := by
    rw [← eK]
    refine cut_le ?_
    have e53 : (9007199254740992 : Nat) = 2 ^ 53 := by decide
    rw [e53, ← Nat.pow_add]
    have h1 : mag * 2 ^ (place - L).toNat ≤ 2 ^ (l + 1) * 2 ^ (place - L).toNat := Nat.mul_le_mul_right _ (by omega)
    rw [← Nat.pow_add] at h1
    exact Nat.le_trans h1 (Nat.pow_le_pow_right (by omega) (by omega))
  have hK2 : 4503599627370496 ≤ K ∨ (L + 1074).toNat = 0 := by
    by_cases hL : L = -1074
    · right; omega
    · left
      rw [← eK]
      refine cut_ge ?_
      have e52 : (4503599627370496 : Nat) = 2 ^ 52 := by decide
      rw [e52, ← Nat.pow_add]
      have h1 : 2 ^ l * 2 ^ (place - L).toNat ≤ mag * 2 ^ (place - L).toNat := Nat.mul_le_mul_right _ hlo
      rw [← Nat.pow_add] at h1
      exact Nat.le_trans (Nat.pow_le_pow_right (by omega) (by omega)) h1
  obtain ⟨b, eb, h1, h2, h3⟩ := word_val neg (L + 1074).toNat K hK1 hK2 (by omega)
  rw [show (L - -1074).toNat = (L + 1074).toNat by omega, ← eb]
  rw [eL, eK]
  exact ⟨h1, h2, h3⟩
/-- Where nothing is dropped the nearest is the number itself. -/
theorem near_exact (neg : Bool) (w t : Nat) (place : Int) (h0 : w ≠ 0) (hov : place + (w * 2 ^ t).log2 ≤ 1000) (h1 : place + (w * 2 ^ t).log2 - 52 ≤ place + t) (h2 : -1074 ≤ place + t) :
    Fin64 (Ieee.double.nearest neg (w * 2 ^ t) place) ∧ fSg (Ieee.double.nearest neg (w * 2 ^ t) place) = neg ∧ fV (Ieee.double.nearest neg (w * 2 ^ t) place) = (if neg then -(w : Int) else (w : Int)) * ((2 ^ (place + t + 1074).toNat : Nat) : Int) := by
  have hp : 0 < 2 ^ t := Nat.pow_pos (by omega)
  have hm : w * 2 ^ t ≠ 0 := Nat.mul_ne_zero h0 (by omega)
  obtain ⟨L, K, eL, eK, f1, f2, f3⟩ := near_word neg (w * 2 ^ t) place hm hov
  refine ⟨f1, f2, ?_⟩
  rw [f3]
  have hL : L ≤ place + t := by omega
  have hL2 : -1074 ≤ L := by omega
  have eK2 : K = w * 2 ^ (place + t - L).toNat := by
    rw [eK]
    refine cut_is ?_
    rw [Nat.mul_assoc, Nat.mul_assoc, ← Nat.pow_add, ← Nat.pow_add]
    congr 2
    omega
  rw [eK2, show (place + t + 1074).toNat = (place + t - L).toNat + (L + 1074).toNat by omega, Nat.pow_add]
  cases neg <;> simp [Int.mul_assoc, Int.neg_mul]
/-- The nearest of what is at most a power of two isn't greater. -/
theorem near_le (neg : Bool) (mag : Nat) (place : Int) (h0 : mag ≠ 0) (hp : -1074 ≤ place) (c : Nat) (hc : c ≤ 2000) (h : mag * 2 ^ (place + 1074).toNat ≤ 2 ^ c) (hov : place + mag.log2 ≤ 1000) (hcl : ∀ L : Int, L = max (place + mag.log2 - 52) (-1074) → (L + 1074).toNat ≤ c) :
    Fin64 (Ieee.double.nearest neg mag place) ∧ fSg (Ieee.double.nearest neg mag place) = neg ∧ ∃ K : Nat, fV (Ieee.double.nearest neg mag place) = (if neg then -(K : Int) else (K : Int)) ∧ K ≤ 2 ^ c := by
  obtain ⟨L, K, eL, eK, f1, f2, f3⟩ := near_word neg mag place h0 hov
  refine ⟨f1, f2, K * 2 ^ (L + 1074).toNat, ?_, ?_⟩
  · rw [f3]
    cases neg <;> simp [Int.neg_mul]
  · have hLc := hcl L eL
    have hKc : K ≤ 2 ^ (c - (L + 1074).toNat) := by
      rw [eK]
      refine cut_le ?_
      have hL2 : -1074 ≤ L := by omega
      have hq : 0 < 2 ^ (L + 1074).toNat := Nat.pow_pos (by omega)
      refine Nat.le_of_mul_le_mul_right ?_ hq
      rw [← Nat.pow_add, ← Nat.pow_add]
      by_cases hpl : L ≤ place
      · rw [show (L - place).toNat = 0 by omega, Nat.mul_assoc, ← Nat.pow_add, show (place - L).toNat + (L + 1074).toNat = (place + 1074).toNat by omega]
        rw [show c - (L + 1074).toNat + 0 + (L + 1074).toNat = c by omega]
        exact h
      · rw [show (place - L).toNat = 0 by omega, show (L + 1074).toNat = (place + 1074).toNat + (L - place).toNat by omega]
        have := Nat.mul_le_mul_right (2 ^ (L - place).toNat) h
        rw [Nat.mul_assoc, ← Nat.pow_add, ← Nat.pow_add] at this
        rw [Nat.pow_zero, Nat.mul_one]
        refine Nat.le_trans this (Nat.pow_le_pow_right (by omega) (by omega))
    have := Nat.mul_le_mul_right (2 ^ (L + 1074).toNat) hKc
    rw [← Nat.pow_add, show c - (L + 1074).toNat + (L + 1074).toNat = c by omega] at this
    exact this
end Go.Proofs.YtigjjddblijpbaaGreatDoor
namespace Go.Proofs.YtigjjddblijpbaaGreatDoor
open Go.RowKit
set_option linter.unusedSimpArgs false
set_option linter.unusedVariables false

theorem fWh_fV (b : Nat) : ((fWh b * 2 ^ (fPo b + 1074).toNat : Nat) : Int) = (fV b).natAbs := by
  unfold fV fNu
  rw [Int.natAbs_mul]
  cases fSg b <;> simp [Int.natAbs_natCast]
theorem mul_pow_congr (n : Int) {a b : Nat} (h : a = b) : n * ((2 ^ a : Nat) : Int) = n * ((2 ^ b : Nat) : Int) := by rw [h]
theorem two_add {a b c : Nat} (h : a + b = c) : ((2 ^ a : Nat) : Int) * ((2 ^ b : Nat) : Int) = ((2 ^ c : Nat) : Int) := by
  rw [← Int.natCast_mul, ← Nat.pow_add, h]
theorem log2_lt {n k : Nat} (h0 : n ≠ 0) (h : n < 2 ^ (k + 1)) : n.log2 ≤ k := by
  have h2 := Nat.lt_of_le_of_lt (Nat.log2_self_le h0) h
  have := (Nat.pow_lt_pow_iff_right (show 1 < 2 by omega)).1 h2
  omega
theorem log2_mul_pow {n : Nat} (h0 : n ≠ 0) (k : Nat) : (n * 2 ^ k).log2 = n.log2 + k := by
  have hp : 0 < 2 ^ k := Nat.pow_pos (by omega)
  refine (Nat.log2_eq_iff (Nat.mul_ne_zero h0 (by omega))).2 ⟨?_, ?_⟩
  · rw [Nat.pow_add]
    exact Nat.mul_le_mul_right _ (Nat.log2_self_le h0)
  · rw [show n.log2 + k + 1 = n.log2 + 1 + k by omega, Nat.pow_add]
    exact Nat.mul_lt_mul_of_pos_right Nat.lt_log2_self hp
theorem near_zero (neg : Bool) (place : Int) : Fin64 (Ieee.double.nearest neg 0 place) ∧ fV (Ieee.double.nearest neg 0 place) = 0 := by
  obtain ⟨b, eb, h1, h2, h3⟩ := word_val neg 0 0 (by omega) (.inr rfl) (by omega)
  have e : Ieee.double.nearest neg 0 place = b := by
    rw [eb, show min (0 * 4503599627370496 + 0) 9218868437227405312 = 0 by simp]
    unfold Ieee.Format.nearest
    rw [if_pos rfl]
  rw [e]
  exact ⟨h1, by rw [h3]; cases neg <;> simp⟩
/-- 64 times a float that isn't great is exact. -/
theorem fl_mul64 {b : Nat} (hb : Fin64 b) (hV : fWh b * 2 ^ (fPo b + 1074).toNat ≤ 2 ^ 1110) :
    ∃ r, Go.floatBits .mul .f64 4634204016564240384 b = some r ∧ Fin64 r ∧ fV r = 64 * fV b := by
  have h64 : Ieee.double.read 4634204016564240384 = .number false (2 ^ 52) (-46) := by decide
  have e : Go.floatBits .mul .f64 4634204016564240384 b = some (Ieee.double.nearest (fSg b) (fWh b * 2 ^ 52) (-46 + fPo b)) := by
    show Ieee.double.mul 4634204016564240384 b = _
    unfold Ieee.Format.mul
    rw [h64, read_fin hb]
    show some (Ieee.double.nearest (false ^^ fSg b) (2 ^ 52 * fWh b) (-46 + fPo b)) = _
    rw [Bool.false_xor, Nat.mul_comm]
  refine ⟨_, e, ?_⟩
  have hg := fPo_ge b
  by_cases h0 : fWh b = 0
  · rw [h0, Nat.zero_mul]
    obtain ⟨h1, h2⟩ := near_zero (fSg b) (-46 + fPo b)
    refine ⟨h1, h2.trans ?_⟩
    have : fV b = 0 := by
      have := fWh_fV b
      rw [h0, Nat.zero_mul] at this
      omega
    rw [this]; rfl
  · have hw := fWh_lt b
    have hl1 := Nat.log2_self_le h0
    have hlog : (fWh b * 2 ^ 52).log2 = (fWh b).log2 + 52 := log2_mul_pow h0 52
    have hw52 : (fWh b).log2 ≤ 52 := log2_lt h0 (by
      have : (2 : Nat) ^ (52 + 1) = 9007199254740992 := by decide
      omega)
    have hsm : (fWh b).log2 + (fPo b + 1074).toNat ≤ 1110 := by
      have h2 := Nat.le_trans (Nat.mul_le_mul_right (2 ^ (fPo b + 1074).toNat) hl1) hV
      rw [← Nat.pow_add] at h2
      exact (Nat.pow_le_pow_iff_right (show 1 < 2 by omega)).1 h2
    obtain ⟨h1, h2, h3⟩ := near_exact (fSg b) (fWh b) 52 (-46 + fPo b) h0 (by rw [hlog]; omega) (by rw [hlog]; omega) (by omega)
    refine ⟨h1, h3.trans ?_⟩
    unfold fV fNu
    rw [show (-46 + fPo b + ((52 : Nat) : Int) + 1074).toNat = 6 + (fPo b + 1074).toNat by omega, Nat.pow_add]
    obtain ⟨q, eq⟩ : ∃ q : Nat, 2 ^ (fPo b + 1074).toNat = q := ⟨_, rfl⟩
    rw [eq]
    rw [Int.natCast_mul, show (((2 : Nat) ^ 6 : Nat) : Int) = 64 by decide, ← Int.mul_assoc, Int.mul_comm _ (64 : Int), Int.mul_assoc]
/-- A whole number as a float is exact. -/
theorem fl_int (n : Int) (h1 : -2147483648 ≤ n) (h2 : n ≤ 2147483648) : ∃ r, Go.floatOfInt .f64 n = r ∧ Fin64 r ∧ fV r = n * ((2 ^ 1074 : Nat) : Int) := by
  refine ⟨_, rfl, ?_⟩
  show Fin64 (Ieee.double.nearest (decide (n < 0)) n.natAbs 0) ∧ fV (Ieee.double.nearest (decide (n < 0)) n.natAbs 0) = _
  by_cases h0 : n.natAbs = 0
  · rw [h0]
    obtain ⟨f1, f2⟩ := near_zero (decide (n < 0)) 0
    refine ⟨f1, f2.trans ?_⟩
    rw [show n = 0 by omega, Int.zero_mul]
  · have hl1 := Nat.log2_self_le h0
    have hl : n.natAbs.log2 ≤ 31 := log2_lt h0 (by
      have : (2 : Nat) ^ (31 + 1) = 4294967296 := by decide
      omega)
    have h := near_exact (decide (n < 0)) n.natAbs 0 0 h0 (by rw [Nat.pow_zero, Nat.mul_one]; omega) (by rw [Nat.pow_zero, Nat.mul_one]; omega) (by omega)
    rw [Nat.pow_zero, Nat.mul_one] at h
    refine ⟨h.1, h.2.2.trans ?_⟩
    have e1 : (if decide (n < 0) = true then -((n.natAbs : Nat) : Int) else ((n.natAbs : Nat) : Int)) = n := by
      by_cases hn : n < 0
      · rw [if_pos (by simpa using hn)]; omega
      · rw [if_neg (by simpa using hn)]; omega
    rw [e1]
    have q := @mul_pow_congr n (0 + ((0 : Nat) : Int) + 1074).toNat 1074 (by decide)
    exact q
/-- A difference that is at most a half: the nearest float to it is. -/
theorem fl_sub {x y : Nat} (hx : Fin64 x) (hy : Fin64 y) (h : (fV x - fV y).natAbs ≤ 2 ^ 1073) :
    ∃ r, Go.floatBits .sub .f64 x y = some r ∧ Fin64 r ∧ (fV r).natAbs ≤ 2 ^ 1073 := by
  have gx := fPo_ge x
  have gy := fPo_ge y
  obtain ⟨base, hb⟩ : ∃ b, min (fPo x) (fPo y) = b := ⟨_, rfl⟩
  obtain ⟨T, hT⟩ : ∃ T, Ieee.signed (fSg x) (fWh x) (fPo x - base).toNat + Ieee.signed (!fSg y) (fWh y) (fPo y - base).toNat = T := ⟨_, rfl⟩
  have e : ∃ s, Go.floatBits .sub .f64 x y = some (Ieee.double.nearest s T.natAbs base) := by
    refine ⟨if T = 0 then fSg x && !fSg y else decide (T < 0), ?_⟩
    show Ieee.double.sub x y = _
    unfold Ieee.Format.sub
    rw [read_fin hx, read_fin hy]
    unfold Ieee.Datum.opposite Ieee.Datum.sum
    simp only [hb, hT, Option.map_some]
    rfl
  obtain ⟨s, e⟩ := e
  refine ⟨_, e, ?_⟩
  have hTV : T * ((2 ^ (base + 1074).toNat : Nat) : Int) = fV x - fV y := by
    rw [← hT, Int.add_mul, ← signed_scale, ← signed_scale, show (fPo x - base).toNat + (base + 1074).toNat = (fPo x + 1074).toNat by omega, show (fPo y - base).toNat + (base + 1074).toNat = (fPo y + 1074).toNat by omega, ← fV_signed]
    have : Ieee.signed (!fSg y) (fWh y) (fPo y + 1074).toNat = -fV y := by
      rw [fV_signed, signed_eq, signed_eq, ← Int.neg_mul]
      cases fSg y <;> simp
    rw [this]
    rfl
  have hN : T.natAbs * 2 ^ (base + 1074).toNat = (fV x - fV y).natAbs := by
    rw [← hTV, Int.natAbs_mul, Int.natAbs_natCast]
  by_cases h0 : T.natAbs = 0
  · rw [h0]
    obtain ⟨f1, f2⟩ := near_zero s base
    exact ⟨f1, by rw [f2]; exact Nat.zero_le _⟩
  · have hl1 := Nat.log2_self_le h0
    have hle : T.natAbs.log2 + (base + 1074).toNat ≤ 1073 := by
      have h2 := Nat.mul_le_mul_right (2 ^ (base + 1074).toNat) hl1
      rw [hN, ← Nat.pow_add] at h2
      exact (Nat.pow_le_pow_iff_right (show 1 < 2 by omega)).1 (Nat.le_trans h2 h)
    obtain ⟨f1, f2, K, f3, f4⟩ := near_le s T.natAbs base h0 (by omega) 1073 (by omega) (Nat.le_trans (Nat.le_of_eq hN) h) (by omega) (fun L hL => by omega)
    refine ⟨f1, ?_⟩
    rw [f3]
    refine Nat.le_trans (Nat.le_of_eq ?_) f4
    cases s <;> simp
/-- A float without its sign. -/
theorem fl_abs {b : Nat} (h : Fin64 b) : Fin64 (b % 9223372036854775808) ∧ fV (b % 9223372036854775808) = ((fV b).natAbs : Int) := by
  have hx := fin_ex h
  have e1 : fEx (b % 9223372036854775808) = fEx b := by unfold fEx; omega
  have e2 : fMa (b % 9223372036854775808) = fMa b := by unfold fMa; omega
  have e3 : fSg (b % 9223372036854775808) = false := by
    unfold fSg
    exact decide_eq_false (by omega)
  refine ⟨fin_of (by omega) (by rw [e1]; exact hx), ?_⟩
  rw [← fWh_fV]
  unfold fV fNu fWh fPo
  rw [e1, e2, e3]
  simp
theorem fl_half {r : Nat} (h : Fin64 r) (hr : 0 ≤ fV r) (hle : (fV r).natAbs ≤ 2 ^ 1073) : (Ieee.double.order r 4602678819172646912 == some .lt || Ieee.double.order r 4602678819172646912 == some .eq) = true := by
  have hh : Fin64 4602678819172646912 := ⟨by omega, by decide, by decide⟩
  have eh : fV 4602678819172646912 = ((2 ^ 1073 : Nat) : Int) := by
    have e1 : fNu 4602678819172646912 = ((2 ^ 52 : Nat) : Int) := by decide
    have e2 : (fPo 4602678819172646912 + 1074).toNat = 1021 := by decide
    unfold fV
    rw [e1, e2]
    have q := @two_add 52 1021 1073 (by decide)
    exact q
  rw [order_fin h hh, eh]
  have hP := two_pos 1073
  have h2 : fV r ≤ ((2 ^ 1073 : Nat) : Int) := by
    have : ((fV r).natAbs : Int) ≤ ((2 ^ 1073 : Nat) : Int) := Int.ofNat_le.2 hle
    omega
  obtain ⟨c, ec⟩ : ∃ c : Int, ((2 ^ 1073 : Nat) : Int) = c := ⟨_, rfl⟩
  rw [ec] at h2 ⊢
  rw [Int.compare_eq_ite_lt]
  split
  · rfl
  · split
    · omega
    · rfl
theorem fl_gt {x y : Nat} (hx : Fin64 x) (hy : Fin64 y) : (Ieee.double.order x y == some .gt) = decide (fV y < fV x) := by
  rw [order_fin hx hy, Int.compare_eq_ite_lt]
  split
  · rename_i h
    rw [decide_eq_false (by omega)]; rfl
  · split
    · rename_i h; rw [decide_eq_true h]; rfl
    · rename_i h; rw [decide_eq_false h]; rfl
end Go.Proofs.YtigjjddblijpbaaGreatDoor
namespace Go.Proofs.YtigjjddblijpbaaGreatDoor
open Go.RowKit
set_option linter.unusedSimpArgs false
set_option linter.unusedVariables false

/-- A float's bits below its sign; with its sign. -/
def fG (b : Nat) : Nat := b % 9223372036854775808
def fK (b : Nat) : Int := if fSg b then -(fG b : Int) else (fG b : Int)
/-- The size, in least parts, that such bits tell. -/
def mV (g : Nat) : Nat := (if g / 4503599627370496 = 0 then g % 4503599627370496 else g % 4503599627370496 + 4503599627370496) * 2 ^ (g / 4503599627370496 - 1)
theorem fG_lt (b : Nat) : fG b < 9223372036854775808 := Nat.mod_lt _ (by omega)
theorem fG_parts {b : Nat} (hb : b < 18446744073709551616) : fEx b = fG b / 4503599627370496 ∧ fMa b = fG b % 4503599627370496 := by
  unfold fEx fMa fG; omega
theorem fSg_iff {b : Nat} (hb : b < 18446744073709551616) : (fSg b = true ↔ 9223372036854775808 ≤ b) := by
  unfold fSg; rw [decide_eq_true_iff]; omega
theorem fG_of {b : Nat} (hb : b < 18446744073709551616) : b = (if fSg b then 9223372036854775808 else 0) + fG b := by
  have h := fSg_iff hb
  unfold fG
  cases hs : fSg b
  · rw [hs] at h; simp at h ⊢; omega
  · rw [hs] at h; simp at h ⊢; omega
theorem mV_step (g : Nat) : mV g < mV (g + 1) := by
  unfold mV
  by_cases h : g % 4503599627370496 + 1 < 4503599627370496
  · rw [show (g + 1) / 4503599627370496 = g / 4503599627370496 by omega, show (g + 1) % 4503599627370496 = g % 4503599627370496 + 1 by omega]
    have hp : 0 < 2 ^ (g / 4503599627370496 - 1) := Nat.pow_pos (by omega)
    refine Nat.mul_lt_mul_of_pos_right ?_ hp
    split <;> omega
  · rw [show (g + 1) / 4503599627370496 = g / 4503599627370496 + 1 by omega, show (g + 1) % 4503599627370496 = 0 by omega, show g % 4503599627370496 = 4503599627370495 by omega, if_neg (show ¬ g / 4503599627370496 + 1 = 0 by omega)]
    by_cases h0 : g / 4503599627370496 = 0
    · rw [h0]; decide
    · rw [if_neg h0]
      obtain ⟨k, hk⟩ : ∃ k, g / 4503599627370496 = k + 1 := ⟨g / 4503599627370496 - 1, by omega⟩
      rw [hk, Nat.add_sub_cancel, Nat.add_sub_cancel, Nat.pow_succ]
      have hp : 0 < 2 ^ k := Nat.pow_pos (by omega)
      omega
theorem mV_mono {g h : Nat} (l : g < h) : mV g < mV h := by
  induction h with
  | zero => omega
  | succ n ih =>
    by_cases e : g = n
    · subst e; exact mV_step g
    · exact Nat.lt_trans (ih (by omega)) (mV_step n)
theorem fV_mV {b : Nat} (hb : b < 18446744073709551616) : fV b = if fSg b then -(mV (fG b) : Int) else (mV (fG b) : Int) := by
  have hm : ((fWh b * 2 ^ (fPo b + 1074).toNat : Nat) : Int) = (mV (fG b) : Int) := by
    obtain ⟨e1, e2⟩ := fG_parts hb
    unfold fWh fPo mV
    rw [← e1, ← e2]
    by_cases h0 : fEx b = 0
    · simp only [h0, if_true]; rfl
    · simp only [if_neg h0]
      rw [show ((fEx b : Int) - 1075 + 1074).toNat = fEx b - 1 by omega]
  unfold fV fNu
  rw [← hm, Int.natCast_mul]
  split
  · rw [Int.neg_mul]
  · rfl
theorem nan_iff {b : Nat} (hb : b < 18446744073709551616) : fKi b = 1 ↔ 9218868437227405312 < fG b := by
  obtain ⟨e1, e2⟩ := fG_parts hb
  have hl := fG_lt b
  unfold fKi
  rw [e1, e2]
  constructor
  · intro h
    split at h
    · split at h <;> omega
    · split at h
      · split at h <;> omega
      · omega
  · intro h
    rw [if_pos (by omega), if_neg (by omega)]
theorem inf_iff {b : Nat} (hb : b < 18446744073709551616) : fKi b = 2 ↔ fG b = 9218868437227405312 := by
  obtain ⟨e1, e2⟩ := fG_parts hb
  have hl := fG_lt b
  unfold fKi
  rw [e1, e2]
  constructor
  · intro h
    split at h
    · split at h <;> omega
    · split at h
      · split at h <;> omega
      · omega
  · intro h
    rw [if_pos (by omega), if_pos (by omega)]
theorem read_parts {b : Nat} (hb : b < 18446744073709551616) : (b / 9223372036854775808 % 2 == 1) = fSg b ∧ b % 9223372036854775808 = fG b := by
  refine ⟨?_, rfl⟩
  unfold fSg
  by_cases h : b / 9223372036854775808 = 1
  · rw [decide_eq_true h, h]; rfl
  · rw [decide_eq_false h, show b / 9223372036854775808 = 0 by omega]; rfl
theorem read_inf {b : Nat} (hb : b < 18446744073709551616) (h : fKi b = 2) : Ieee.double.read b = .infinity (fSg b) := by
  rw [inf_iff hb] at h
  obtain ⟨p1, p2⟩ := read_parts hb
  unfold Ieee.Format.read
  rw [dbl_sw, dbl_bi, dbl_inf, dbl_lp]
  simp only [p1]
  rw [p2, h]
  simp
theorem read_nan {b : Nat} (hb : b < 18446744073709551616) (h : fKi b = 1) : ∃ t, Ieee.double.read b = .nan (fSg b) t := by
  rw [nan_iff hb] at h
  obtain ⟨p1, p2⟩ := read_parts hb
  refine ⟨fG b - 9218868437227405312, ?_⟩
  unfold Ieee.Format.read
  rw [dbl_sw, dbl_bi, dbl_inf, dbl_lp]
  simp only [p1]
  rw [p2, if_neg (by omega), if_neg (by omega), if_neg (by omega)]
theorem cmp_eq_of {a b c d : Int} (h1 : a < b ↔ c < d) (h2 : b < a ↔ d < c) : compare a b = compare c d := by
  rw [Int.compare_eq_ite_lt, Int.compare_eq_ite_lt]
  simp only [h1, h2]
theorem cmp_lt {a b : Int} (h : a < b) : compare a b = .lt := by rw [Int.compare_eq_ite_lt, if_pos h]
theorem cmp_gt {a b : Int} (h : b < a) : compare a b = .gt := by rw [Int.compare_eq_ite_lt, if_neg (by omega), if_pos h]
theorem fV_lt_iff {x y : Nat} (hx : x < 18446744073709551616) (hy : y < 18446744073709551616) : fV x < fV y ↔ fK x < fK y := by
  rw [fV_mV hx, fV_mV hy]
  unfold fK
  have q0 : mV 0 = 0 := by decide
  have m1 : ∀ g h, mV g < mV h ↔ g < h := fun g h => ⟨fun q => by
    rcases Nat.lt_trichotomy g h with l | l | l
    · exact l
    · subst l; omega
    · have := mV_mono l; omega, mV_mono⟩
  have a1 := m1 (fG x) (fG y)
  have a2 := m1 (fG y) (fG x)
  have a3 := m1 0 (fG x)
  have a4 := m1 0 (fG y)
  rw [q0] at a3 a4
  obtain ⟨X, eX⟩ : ∃ X, mV (fG x) = X := ⟨_, rfl⟩
  obtain ⟨Y, eY⟩ : ∃ Y, mV (fG y) = Y := ⟨_, rfl⟩
  rw [eX, eY] at a1 a2
  rw [eX] at a3
  rw [eY] at a4
  rw [eX, eY]
  cases fSg x <;> cases fSg y <;> simp <;> omega
/-- The order of floats that are no NaN. -/
theorem order_key {x y : Nat} (hx : x < 18446744073709551616) (hy : y < 18446744073709551616) (nx : fKi x ≠ 1) (ny : fKi y ≠ 1) : Ieee.double.order x y = some (compare (fK x) (fK y)) := by
  by_cases ix : fKi x = 2
  · by_cases iy : fKi y = 2
    · unfold Ieee.Format.order
      rw [read_inf hx ix, read_inf hy iy]
      have gx := (inf_iff hx).1 ix
      have gy := (inf_iff hy).1 iy
      unfold fK
      rw [gx, gy]
      cases fSg x <;> cases fSg y <;> rfl
    · unfold Ieee.Format.order
      rw [read_inf hx ix, read_fin ⟨hy, ny, iy⟩]
      have gx := (inf_iff hx).1 ix
      have gy : fG y < 9218868437227405312 := by
        have h1 := mt (nan_iff hy).2 ny
        have h2 := mt (inf_iff hy).2 iy
        omega
      show some _ = _
      refine congrArg some ?_
      refine Eq.symm ?_
      unfold fK
      rw [gx]
      cases fSg x <;> cases fSg y <;> simp only [Bool.false_eq_true, if_false, if_true] <;> first | exact cmp_lt (by omega) | exact cmp_gt (by omega)
  · by_cases iy : fKi y = 2
    · unfold Ieee.Format.order
      rw [read_fin ⟨hx, nx, ix⟩, read_inf hy iy]
      have gy := (inf_iff hy).1 iy
      have gx : fG x < 9218868437227405312 := by
        have h1 := mt (nan_iff hx).2 nx
        have h2 := mt (inf_iff hx).2 ix
        omega
      show some _ = _
      refine congrArg some ?_
      refine Eq.symm ?_
      unfold fK
      rw [gy]
      cases fSg x <;> cases fSg y <;> simp only [Bool.false_eq_true, if_false, if_true] <;> first | exact cmp_lt (by omega) | exact cmp_gt (by omega)
    · rw [order_fin ⟨hx, nx, ix⟩ ⟨hy, ny, iy⟩]
      exact congrArg some (cmp_eq_of (fV_lt_iff hx hy) (fV_lt_iff hy hx))
theorem order_nan_left {x y : Nat} (hx : x < 18446744073709551616) (nx : fKi x = 1) : Ieee.double.order x y = none := by
  obtain ⟨t, e⟩ := read_nan hx nx
  unfold Ieee.Format.order
  rw [e]
  cases Ieee.double.read y <;> rfl
theorem order_nan_right {x y : Nat} (hy : y < 18446744073709551616) (ny : fKi y = 1) : Ieee.double.order x y = none := by
  obtain ⟨t, e⟩ := read_nan hy ny
  unfold Ieee.Format.order
  rw [e]
  cases Ieee.double.read x <;> rfl
/-- Less, the same, itself. -/
theorem fl_lt_is (x y : Nat) (hx : x < 18446744073709551616) (hy : y < 18446744073709551616) : (Ieee.double.order x y == some .lt) = (fKi x != 1 && fKi y != 1 && decide (fK x < fK y)) := by
  by_cases nx : fKi x = 1
  · rw [order_nan_left hx nx, nx]; rfl
  · by_cases ny : fKi y = 1
    · rw [order_nan_right hy ny, ny]; simp
    · rw [order_key hx hy nx ny, Int.compare_eq_ite_lt]
      have e1 : (fKi x != 1) = true := by simp [nx]
      have e2 : (fKi y != 1) = true := by simp [ny]
      rw [e1, e2]
      by_cases h : fK x < fK y
      · simp [h]
      · rw [if_neg h]
        split <;> simp [h]
theorem fl_eq_is (x y : Nat) (hx : x < 18446744073709551616) (hy : y < 18446744073709551616) : (Ieee.double.order x y == some .eq) = (fKi x != 1 && fKi y != 1 && decide (fK x = fK y)) := by
  by_cases nx : fKi x = 1
  · rw [order_nan_left hx nx, nx]; rfl
  · by_cases ny : fKi y = 1
    · rw [order_nan_right hy ny, ny]; simp
    · rw [order_key hx hy nx ny, Int.compare_eq_ite_lt]
      have e1 : (fKi x != 1) = true := by simp [nx]
      have e2 : (fKi y != 1) = true := by simp [ny]
      rw [e1, e2]
      by_cases h : fK x < fK y
      · rw [if_pos h]; simp; omega
      · rw [if_neg h]
        split
        · rename_i h2; simp; omega
        · rename_i h2; simp; omega
end Go.Proofs.YtigjjddblijpbaaGreatDoor
namespace Go.Proofs.YtigjjddblijpbaaGreatDoor
open Go.RowKit
set_option linter.unusedSimpArgs false
set_option linter.unusedVariables false

/-- A float's place in the order of all. -/
def plF (b : Nat) : Nat := if fKi b = 1 then 18446744073709551615 else if fSg b then 18446744073709551615 - b else b + 9223372036854775808
def cmU (a b : Nat) : Int := if a < b then -1 else if b < a then 1 else 0
/-- The document's order. -/
def cmpF (a b : Nat) : Int :=
  if fKi a = 1 ∨ fKi b = 1 then (if fKi a = fKi b then 0 else if fKi a = 1 then 1 else -1)
  else if fDn a ≠ fDn b then (if fDn a then -1 else 1)
  else if fDn a then -cmU a b else cmU a b
theorem plF_lt (b : Nat) (hb : b < 18446744073709551616) : plF b < 18446744073709551616 := by
  have h := fSg_iff hb
  unfold plF
  split
  · omega
  · split
    · omega
    · rename_i h2; rw [h] at h2; omega
theorem plF_top {b : Nat} (hb : b < 18446744073709551616) (h : fKi b ≠ 1) : plF b < 18446744073709551615 := by
  have hs := fSg_iff hb
  have hn := mt (nan_iff hb).2 h
  have ho := fG_of hb
  unfold plF
  rw [if_neg h]
  split
  · rename_i h2; rw [hs] at h2; omega
  · rename_i h2
    have h3 : fSg b = false := by simpa using h2
    rw [h3] at ho; simp at ho; omega
theorem cmpF_is {a b : Nat} (ha : a < 18446744073709551616) (hb : b < 18446744073709551616) : cmpF a b = cmU (plF a) (plF b) := by
  have ta := fun h => plF_top ha h
  have tb := fun h => plF_top hb h
  have sa := fSg_iff ha
  have sb := fSg_iff hb
  unfold cmpF cmU
  by_cases na : fKi a = 1
  · rw [if_pos (.inl na)]
    have ea : plF a = 18446744073709551615 := by unfold plF; rw [if_pos na]
    by_cases nb : fKi b = 1
    · have eb : plF b = 18446744073709551615 := by unfold plF; rw [if_pos nb]
      rw [if_pos (by omega), ea, eb, if_neg (by omega), if_neg (by omega)]
    · have := tb nb
      rw [if_neg (by omega), if_pos na, if_neg (by omega), if_pos (by omega)]
  · by_cases nb : fKi b = 1
    · have eb : plF b = 18446744073709551615 := by unfold plF; rw [if_pos nb]
      have := ta na
      rw [if_pos (.inr nb), if_neg (by omega), if_neg na, if_pos (by omega)]
    · rw [if_neg (by omega)]
      have da : fDn a = fSg a := by unfold fDn; rw [if_neg na]
      have db : fDn b = fSg b := by unfold fDn; rw [if_neg nb]
      rw [da, db]
      unfold plF
      rw [if_neg na, if_neg nb]
      cases h1 : fSg a <;> cases h2 : fSg b <;> rw [h1] at sa <;> rw [h2] at sb <;> simp at sa sb ⊢ <;> repeat (first | omega | split)
theorem plF_inj {a b : Nat} (ha : a < 18446744073709551616) (hb : b < 18446744073709551616) (h : plF a = plF b) : a = b ∨ (fKi a = 1 ∧ fKi b = 1) := by
  have sa := fSg_iff ha
  have sb := fSg_iff hb
  by_cases na : fKi a = 1
  · by_cases nb : fKi b = 1
    · exact .inr ⟨na, nb⟩
    · have := plF_top hb nb
      have ea : plF a = 18446744073709551615 := by unfold plF; rw [if_pos na]
      omega
  · by_cases nb : fKi b = 1
    · have := plF_top ha na
      have eb : plF b = 18446744073709551615 := by unfold plF; rw [if_pos nb]
      omega
    · left
      unfold plF at h
      rw [if_neg na, if_neg nb] at h
      cases h1 : fSg a <;> cases h2 : fSg b <;> rw [h1] at sa h <;> rw [h2] at sb h <;> simp at sa sb h <;> omega
theorem plF_order {a b : Nat} (ha : a < 18446744073709551616) (hb : b < 18446744073709551616) (na : fKi a ≠ 1) (nb : fKi b ≠ 1) (h : fK a ≠ fK b) : plF a < plF b ↔ fK a < fK b := by
  have sa := fSg_iff ha
  have sb := fSg_iff hb
  have oa := fG_of ha
  have ob := fG_of hb
  unfold plF
  unfold fK at h ⊢
  rw [if_neg na, if_neg nb]
  cases h1 : fSg a <;> cases h2 : fSg b <;> rw [h1] at sa oa h <;> rw [h2] at sb ob h <;> simp at sa sb oa ob h ⊢ <;> omega
theorem cmU_eq (a b : Nat) : cmU a b = 0 ↔ a = b := by unfold cmU; split <;> (try split) <;> omega
theorem cmU_lt (a b : Nat) : cmU a b < 0 ↔ a < b := by unfold cmU; split <;> (try split) <;> omega
theorem cmU_gt (a b : Nat) : 0 < cmU a b ↔ b < a := by unfold cmU; split <;> (try split) <;> omega
theorem cmU_neg (a b : Nat) : cmU a b = -cmU b a := by unfold cmU; split <;> (try split) <;> (try split) <;> omega
theorem cmU_bnd (a b : Nat) : -1 ≤ cmU a b ∧ cmU a b ≤ 1 := by unfold cmU; split <;> (try split) <;> omega
/-- The same place: the same float, or both are NaNs. -/
theorem cmU_zero {a b : Nat} (ha : a < 18446744073709551616) (hb : b < 18446744073709551616) : decide (cmU (plF a) (plF b) = 0) = (decide (a = b) || (decide (fKi a = 1) && decide (fKi b = 1))) := by
  by_cases h : a = b
  · subst h
    rw [decide_eq_true ((cmU_eq _ _).2 rfl)]; simp
  · rw [decide_eq_false h, Bool.false_or]
    by_cases q : plF a = plF b
    · rw [decide_eq_true ((cmU_eq _ _).2 q)]
      rcases plF_inj ha hb q with e | ⟨e1, e2⟩
      · exact absurd e h
      · simp [e1, e2]
    · rw [decide_eq_false (mt (cmU_eq _ _).1 q)]
      by_cases na : fKi a = 1
      · by_cases nb : fKi b = 1
        · exfalso; apply q; unfold plF; rw [if_pos na, if_pos nb]
        · simp [nb]
      · simp [na]
/-- The grid keeps the order. -/
theorem grid_mono {a b : Nat} (ha : a < 18446744073709551616) (hb : b < 18446744073709551616) (na : fKi a ≠ 1) (nb : fKi b ≠ 1) (h : fK a ≤ fK b) {den low high : Int} (h1 : 1 ≤ den) (h2 : den ≤ 1048576) (hl : low ≤ high) : (gridR a den low high).1 ≤ (gridR b den low high).1 := by
  have hc : ∀ n m : Int, n ≤ m → clampI n low high ≤ clampI m low high := by
    intro n m q; unfold clampI; split <;> (try split) <;> (try split) <;> (try split) <;> omega
  have hc2 : ∀ n : Int, low ≤ clampI n low high ∧ clampI n low high ≤ high := by
    intro n; unfold clampI; split <;> (try split) <;> omega
  have ga := mt (nan_iff ha).2 na
  have gb := mt (nan_iff hb).2 nb
  have ia := inf_iff ha
  have ib := inf_iff hb
  have hv := fV_lt_iff hb ha
  unfold gridR
  have hx : ¬ (den < 1 ∨ 1048576 < den ∨ high < low) := by omega
  simp only [if_neg hx, if_neg na, if_neg nb]
  unfold fK at h
  by_cases fa : fKi a = 2
  · rw [if_pos fa]
    have g := ia.1 fa
    by_cases fb : fKi b = 2
    · rw [if_pos fb]
      have g2 := ib.1 fb
      cases h1 : fSg a <;> cases h2 : fSg b <;> rw [h1, h2] at h <;> simp at h ⊢ <;> omega
    · rw [if_neg fb]
      have g2 : fG b ≠ 9218868437227405312 := fun q => fb (ib.2 q)
      have := hc2 (gN b den)
      cases h1 : fSg a <;> cases h2 : fSg b <;> rw [h1, h2] at h <;> simp at h ⊢ <;> omega
  · rw [if_neg fa]
    have g : fG a ≠ 9218868437227405312 := fun q => fa (ia.2 q)
    by_cases fb : fKi b = 2
    · rw [if_pos fb]
      have g2 := ib.1 fb
      have := hc2 (gN a den)
      cases h1 : fSg a <;> cases h2 : fSg b <;> rw [h1, h2] at h <;> simp at h ⊢ <;> omega
    · rw [if_neg fb]
      refine hc _ _ (gN_mono (by omega) ?_)
      have : ¬ fK b < fK a := by unfold fK; omega
      rw [← hv] at this
      omega
/-- A whole number by 64. -/
theorem fl_div64 {b : Nat} (hb : Fin64 b) (hw : fWh b = 0 ∨ -1000 ≤ fPo b) (hp : fPo b ≤ 900) :
    ∃ r, Go.floatBits .quo .f64 b 4634204016564240384 = some r ∧ Fin64 r ∧ 64 * fV r = fV b := by
  have h64 : Ieee.double.read 4634204016564240384 = .number false (2 ^ 52) (-46) := by decide
  obtain ⟨more, hmore⟩ : ∃ more, 54 + 52 - (fWh b).log2 = more := ⟨_, rfl⟩
  have hw2 := fWh_lt b
  have hl52 : (fWh b).log2 ≤ 52 := by
    by_cases h0 : fWh b = 0
    · rw [h0]; decide
    · exact log2_lt h0 (by
        have : (2 : Nat) ^ (52 + 1) = 9007199254740992 := by decide
        omega)
  have hdiv : fWh b * 2 ^ more / 2 ^ 52 = fWh b * 2 ^ (more - 52) ∧ fWh b * 2 ^ more % 2 ^ 52 = 0 := by
    have e : fWh b * 2 ^ more = fWh b * 2 ^ (more - 52) * 2 ^ 52 := by
      rw [Nat.mul_assoc, ← Nat.pow_add, show more - 52 + 52 = more by omega]
    rw [e]
    exact ⟨Nat.mul_div_cancel _ (by decide), Nat.mul_mod_left _ _⟩
  have e : Go.floatBits .quo .f64 b 4634204016564240384 = some (Ieee.double.nearest (fSg b) (fWh b * 2 ^ (more - 51)) (fPo b + 46 - more - 1)) := by
    show Ieee.double.div b 4634204016564240384 = _
    unfold Ieee.Format.div
    rw [h64, read_fin hb]
    unfold Ieee.Datum.quotient
    have hl : ((2 : Nat) ^ 52).log2 = 52 := by decide
    have hn : ¬ ((2 : Nat) ^ 52 = 0) := by decide
    simp only [if_neg hn, hl, dbl_fb, Nat.shiftLeft_eq]
    rw [show 52 + 2 + 52 - (fWh b).log2 = more by omega, hdiv.1, hdiv.2]
    show some (Ieee.double.nearest (fSg b ^^ false) (2 * (fWh b * 2 ^ (more - 52)) + ((0 : Nat) != 0).toNat) (fPo b - -46 - (more : Int) - 1)) = _
    rw [Bool.xor_false]
    have q1 : 2 * (fWh b * 2 ^ (more - 52)) + ((0 : Nat) != 0).toNat = fWh b * 2 ^ (more - 51) := by
      show 2 * (fWh b * 2 ^ (more - 52)) + 0 = _
      rw [Nat.add_zero, show more - 51 = more - 52 + 1 by omega, Nat.pow_succ, ← Nat.mul_assoc (fWh b), Nat.mul_comm]
    rw [q1, show fPo b - -46 - (more : Int) - 1 = fPo b + 46 - more - 1 by omega]
  refine ⟨_, e, ?_⟩
  by_cases h0 : fWh b = 0
  · rw [h0, Nat.zero_mul]
    obtain ⟨h1, h2⟩ := near_zero (fSg b) (fPo b + 46 - more - 1)
    refine ⟨h1, ?_⟩
    rw [h2]
    have := fWh_fV b
    rw [h0, Nat.zero_mul] at this
    omega
  · have hP : -1000 ≤ fPo b := by omega
    have hlog : (fWh b * 2 ^ (more - 51)).log2 = (fWh b).log2 + (more - 51) := log2_mul_pow h0 _
    obtain ⟨h1, h2, h3⟩ := near_exact (fSg b) (fWh b) (more - 51) (fPo b + 46 - more - 1) h0 (by rw [hlog]; omega) (by rw [hlog]; omega) (by omega)
    refine ⟨h1, ?_⟩
    rw [h3]
    unfold fV fNu
    rw [show (fPo b + 1074).toNat = 6 + (fPo b + 46 - (more : Int) - 1 + ((more - 51 : Nat) : Int) + 1074).toNat by omega, Nat.pow_add, Int.natCast_mul, show (((2 : Nat) ^ 6 : Nat) : Int) = 64 by decide]
    rw [← Int.mul_assoc, Int.mul_comm (64 : Int), Int.mul_assoc]
/-- What is on a place of the grid stays there. -/
theorem grid_stays {n : Int} {r : Nat} (hf : Fin64 r) (h : 64 * fV r = n * ((2 ^ 1074 : Nat) : Int)) {low high : Int} (h1 : low ≤ n) (h2 : n ≤ high) : gridR r 64 low high = (n, 0) := by
  have hg : gN r 64 = n := by
    rw [gN_fV, Int.mul_assoc, h]
    have hP := two_pos 1074
    obtain ⟨P, eP⟩ : ∃ P : Int, ((2 ^ 1074 : Nat) : Int) = P := ⟨_, rfl⟩
    rw [eP] at hP ⊢
    rw [show 2 * (n * P) + P = P + n * (2 * P) by rw [← Int.mul_assoc, Int.mul_comm 2 n, Int.mul_assoc]; omega, Int.add_mul_ediv_right _ _ (by omega), Int.ediv_eq_zero_of_lt (by omega) (by omega)]
    omega
  unfold gridR clampI
  rw [if_neg (by omega), if_neg hf.2.1, if_neg hf.2.2, hg, if_neg (by omega), if_neg (by omega)]
end Go.Proofs.YtigjjddblijpbaaGreatDoor
namespace Go.Proofs.YtigjjddblijpbaaGreatDoor
open Go.RowKit
set_option linter.unusedSimpArgs false
set_option linter.unusedVariables false

/-- The first 53 bits of A / d (of 64), rounded. -/
def nrM (A d : Nat) : Nat := A / d / 2048 + (if 1024 < A / d % 2048 ∨ (A / d % 2048 = 1024 ∧ (A % d ≠ 0 ∨ A / d / 2048 % 2 = 1)) then 1 else 0)
theorem top_bnd {A d : Nat} (hd : 0 < d) (h1 : 9223372036854775808 * d ≤ A) (h2 : A < 18446744073709551616 * d) : 9223372036854775808 ≤ A / d ∧ A / d < 18446744073709551616 :=
  ⟨(Nat.le_div_iff_mul_le hd).2 h1, (Nat.div_lt_iff_lt_mul hd).2 h2⟩
theorem nrM_bnd {A d : Nat} (hd : 0 < d) (h1 : 9223372036854775808 * d ≤ A) (h2 : A < 18446744073709551616 * d) : 4503599627370496 ≤ nrM A d ∧ nrM A d ≤ 9007199254740992 := by
  have := top_bnd hd h1 h2
  unfold nrM
  split <;> omega
theorem nrM_half {A d : Nat} (hd : 0 < d) :
    -(1024 * (d : Int)) ≤ 2048 * ((nrM A d : Int) * d) - A ∧ 2048 * ((nrM A d : Int) * d) - A ≤ 1024 * d ∧ (2048 * ((nrM A d : Int) * d) - A = 1024 * d ∨ 2048 * ((nrM A d : Int) * d) - A = -(1024 * (d : Int)) → nrM A d % 2 = 0) := by
  have hdm := Nat.div_add_mod A d
  have hml := Nat.mod_lt A hd
  unfold nrM
  obtain ⟨t, et⟩ : ∃ t, A / d = t := ⟨_, rfl⟩
  obtain ⟨r, er⟩ : ∃ r, A % d = r := ⟨_, rfl⟩
  rw [et, er] at hdm
  rw [er] at hml
  rw [et, er]
  obtain ⟨Q, eQ⟩ : ∃ Q, t / 2048 = Q := ⟨_, rfl⟩
  obtain ⟨s, es⟩ : ∃ s, t % 2048 = s := ⟨_, rfl⟩
  have hs : s < 2048 := by omega
  have ht : t = 2048 * Q + s := by omega
  rw [eQ, es]
  subst ht
  rw [Nat.mul_add, Nat.mul_comm d (2048 * Q), Nat.mul_assoc, Nat.mul_comm d s] at hdm
  obtain ⟨P, eP⟩ : ∃ P, Q * d = P := ⟨_, rfl⟩
  rw [eP] at hdm
  have hP : (Q : Int) * (d : Int) = (P : Int) := by rw [← eP]; simp
  by_cases c1 : s < 1024
  · rw [if_neg (by omega), Nat.add_zero, hP]
    have := Nat.mul_le_mul_right d (show s ≤ 1023 by omega)
    omega
  · by_cases c2 : s = 1024
    · subst c2
      by_cases c3 : r ≠ 0 ∨ Q % 2 = 1
      · rw [if_pos (.inr ⟨rfl, c3⟩), Int.natCast_add, Int.add_mul, hP]
        omega
      · rw [if_neg (by omega), Nat.add_zero, hP]
        omega
    · rw [if_pos (.inl (by omega)), Int.natCast_add, Int.add_mul, hP]
      have h1 := Nat.mul_le_mul_right d (show 1025 ≤ s by omega)
      have h2 := Nat.mul_le_mul_right d (show s ≤ 2047 by omega)
      omega
theorem mV_of (e m : Nat) (h1 : 4503599627370496 ≤ m) (h2 : m ≤ 9007199254740992) : mV (e * 4503599627370496 + m) = m * 2 ^ e := by
  unfold mV
  by_cases c : m = 9007199254740992
  · subst c
    rw [show (e * 4503599627370496 + 9007199254740992) / 4503599627370496 = e + 2 by omega, show (e * 4503599627370496 + 9007199254740992) % 4503599627370496 = 0 by omega, if_neg (by omega), show e + 2 - 1 = e + 1 by omega, Nat.pow_succ]
    omega
  · rw [show (e * 4503599627370496 + m) / 4503599627370496 = e + 1 by omega, show (e * 4503599627370496 + m) % 4503599627370496 = m - 4503599627370496 by omega, if_neg (by omega), Nat.add_sub_cancel, Nat.sub_add_cancel h1]
/-- So many least parts has one. -/
def Zn : Nat := 2 ^ 1074
theorem Zn_split {k : Nat} (h : k ≤ 1074) : Zn = 2 ^ k * 2 ^ (1074 - k) := by
  have e : k + (1074 - k) = 1074 := by omega
  rw [← Nat.pow_add, e]
  rfl
theorem pow_Zn (n : Nat) : 2 ^ (n + 1074) = 2 ^ n * Zn := by unfold Zn; rw [Nat.pow_add]
theorem pow_Zn' {n k c : Nat} (h : n = k + 1074) (hc : 2 ^ k = c) : 2 ^ n = c * Zn := by subst h; rw [pow_Zn, hc]
theorem pow2_pos (n : Nat) : 0 < 2 ^ n := Nat.pow_pos (by decide)
theorem Zn_pos : 0 < Zn := by unfold Zn; have h := pow2_pos 1074; exact h
theorem Zn_int : ((2 ^ 1074 : Nat) : Int) = (Zn : Int) := by unfold Zn; rw []
/-- How far from a ratio the number of such bits is, in so many parts. -/
def dfE (g a d : Nat) : Nat := (((mV g * d : Nat) : Int) - ((a * Zn : Nat) : Int)).natAbs
theorem near_best {a d k g' : Nat} (hd : 0 < d) (hk : k ≤ 200) (h1 : 9223372036854775808 * d ≤ a * 2 ^ k) (h2 : a * 2 ^ k < 18446744073709551616 * d)
    (hg : g' = (1085 - k) * 4503599627370496 + nrM (a * 2 ^ k) d + 1 ∨ g' + 1 = (1085 - k) * 4503599627370496 + nrM (a * 2 ^ k) d) :
    dfE ((1085 - k) * 4503599627370496 + nrM (a * 2 ^ k) d) a d < dfE g' a d ∨ (dfE ((1085 - k) * 4503599627370496 + nrM (a * 2 ^ k) d) a d = dfE g' a d ∧ nrM (a * 2 ^ k) d % 2 = 0) := by
  obtain ⟨b1, b2⟩ := nrM_bnd hd h1 h2
  obtain ⟨x1, x2, x3⟩ := nrM_half (A := a * 2 ^ k) hd
  have key : ∃ H : Nat, 0 < H ∧ 2 ^ (1085 - k) = 2048 * H ∧ 2 ^ (1084 - k) = 1024 * H ∧ a * Zn = a * 2 ^ k * H := by
    refine ⟨2 ^ (1074 - k), Nat.pow_pos (by omega), ?_, ?_, ?_⟩
    · rw [show 1085 - k = 11 + (1074 - k) by omega, Nat.pow_add]
    · rw [show 1084 - k = 10 + (1074 - k) by omega, Nat.pow_add]
    · rw [Zn_split (show k ≤ 1074 by omega), Nat.mul_assoc]
  obtain ⟨H, hH, hU, hU2, hA⟩ := key
  have mg := mV_of (1085 - k) (nrM (a * 2 ^ k) d) b1 b2
  have hAl : (9223372036854775808 * (d : Int)) ≤ ((a * 2 ^ k : Nat) : Int) := by
    have := Int.ofNat_le.2 h1
    rw [Int.natCast_mul] at this
    exact this
  obtain ⟨m, em⟩ : ∃ m, nrM (a * 2 ^ k) d = m := ⟨_, rfl⟩
  obtain ⟨A, eA⟩ : ∃ A, a * 2 ^ k = A := ⟨_, rfl⟩
  rw [em] at b1 b2 x1 x2 x3 hg mg ⊢
  rw [eA] at x1 x2 x3 hA hAl
  -- the other one's size, in halves of a part
  have other : ∃ t : Nat, mV g' = t * (1024 * H) ∧ (t = 2 * m + 2 ∨ t = 2 * m + 4 ∨ t + 2 = 2 * m ∨ (t + 1 = 2 * m ∧ m = 4503599627370496)) := by
    rcases hg with rfl | hg
    · by_cases c : m = 9007199254740992
      · refine ⟨2 * m + 4, ?_, .inr (.inl rfl)⟩
        subst c
        rw [show (1085 - k) * 4503599627370496 + 9007199254740992 + 1 = (1085 - k + 1) * 4503599627370496 + 4503599627370497 by omega, mV_of _ _ (by omega) (by omega), Nat.pow_succ, hU]
        omega
      · refine ⟨2 * m + 2, ?_, .inl rfl⟩
        rw [Nat.add_assoc, mV_of _ _ (by omega) (by omega), hU, show 2 * m + 2 = 2 * (m + 1) by omega, Nat.mul_assoc 2, Nat.mul_left_comm 2, show 2 * (1024 * H) = 2048 * H by omega]
    · by_cases c : m = 4503599627370496
      · obtain ⟨t, ht⟩ : ∃ t, t + 1 = 2 * m := ⟨2 * m - 1, by omega⟩
        refine ⟨t, ?_, .inr (.inr (.inr ⟨ht, c⟩))⟩
        rw [show g' = (1084 - k) * 4503599627370496 + t by omega, mV_of _ _ (by omega) (by omega), hU2]
      · obtain ⟨n, rfl⟩ : ∃ n, m = n + 1 := ⟨m - 1, by omega⟩
        refine ⟨2 * n, ?_, .inr (.inr (.inl (by omega)))⟩
        rw [show g' = (1085 - k) * 4503599627370496 + n by omega, mV_of _ _ (by omega) (by omega), hU, Nat.mul_assoc 2, Nat.mul_left_comm 2, show 2 * (1024 * H) = 2048 * H by omega]
  obtain ⟨t, ht, hc⟩ := other
  unfold dfE
  rw [mg, ht, hU, hA]
  have e1 : ((m * (2048 * H) * d : Nat) : Int) - ((A * H : Nat) : Int) = (2048 * ((m : Int) * d) - A) * (H : Int) := by
    simp only [Int.natCast_mul]
    rw [Int.sub_mul]
    refine congrArg (fun t : Int => t - (A : Int) * (H : Int)) ?_
    show (m : Int) * (2048 * (H : Int)) * (d : Int) = _
    rw [show (m : Int) * (2048 * (H : Int)) * (d : Int) = 2048 * ((m : Int) * d) * H by
      rw [Int.mul_left_comm, Int.mul_assoc, Int.mul_assoc, Int.mul_assoc, Int.mul_assoc, Int.mul_comm (d : Int)]]
  have e2 : ((t * (1024 * H) * d : Nat) : Int) - ((A * H : Nat) : Int) = (1024 * ((t : Int) * d) - A) * (H : Int) := by
    simp only [Int.natCast_mul]
    rw [Int.sub_mul]
    refine congrArg (fun t : Int => t - (A : Int) * (H : Int)) ?_
    show (t : Int) * (1024 * (H : Int)) * (d : Int) = _
    rw [show (t : Int) * (1024 * (H : Int)) * (d : Int) = 1024 * ((t : Int) * d) * H by
      rw [Int.mul_left_comm, Int.mul_assoc, Int.mul_assoc, Int.mul_assoc, Int.mul_assoc, Int.mul_comm (d : Int)]]
  rw [e1, e2, Int.natAbs_mul, Int.natAbs_mul, Int.natAbs_natCast]
  have fin : (2048 * ((m : Int) * d) - A).natAbs < (1024 * ((t : Int) * d) - A).natAbs ∨ ((2048 * ((m : Int) * d) - A).natAbs = (1024 * ((t : Int) * d) - A).natAbs ∧ m % 2 = 0) := by
    have htd : (t : Int) * d = 2 * ((m : Int) * d) + 2 * d ∨ (t : Int) * d = 2 * ((m : Int) * d) + 4 * d ∨ (t : Int) * d = 2 * ((m : Int) * d) - 2 * d ∨ ((t : Int) * d = 2 * ((m : Int) * d) - d ∧ m = 4503599627370496) := by
      rcases hc with h | h | h | ⟨h, h'⟩
      · left; rw [show (t : Int) = 2 * (m : Int) + 2 by omega, Int.add_mul, Int.mul_assoc]
      · right; left; rw [show (t : Int) = 2 * (m : Int) + 4 by omega, Int.add_mul, Int.mul_assoc]
      · right; right; left; rw [show (t : Int) = 2 * (m : Int) - 2 by omega, Int.sub_mul, Int.mul_assoc]
      · right; right; right; refine ⟨?_, h'⟩; rw [show (t : Int) = 2 * (m : Int) - 1 by omega, Int.sub_mul, Int.mul_assoc, Int.one_mul]
    have hmd : m = 4503599627370496 → (m : Int) * d = 4503599627370496 * (d : Int) := fun h => by rw [h]; rfl
    obtain ⟨P, eP⟩ : ∃ P : Int, (m : Int) * d = P := ⟨_, rfl⟩
    obtain ⟨T, eT⟩ : ∃ T : Int, (t : Int) * d = T := ⟨_, rfl⟩
    rw [eP] at htd hmd x1 x2 x3 ⊢
    rw [eT] at htd ⊢
    rcases htd with rfl | rfl | rfl | ⟨rfl, h⟩
    · by_cases q : 2048 * P - A = -(1024 * (d : Int))
      · right; exact ⟨by omega, x3 (.inr q)⟩
      · left; omega
    · left; omega
    · by_cases q : 2048 * P - A = 1024 * (d : Int)
      · right; exact ⟨by omega, x3 (.inl q)⟩
      · left; omega
    · have := hmd h
      left; omega
  rcases fin with h | ⟨h, h'⟩
  · exact .inl (Nat.mul_lt_mul_of_pos_right h hH)
  · exact .inr ⟨by rw [h], h'⟩
/-- Of a ratio that is a float: that very float. -/
theorem near_same {a d k g : Nat} (hd : 0 < d) (hk : k ≤ 200) (h1 : 9223372036854775808 * d ≤ a * 2 ^ k) (h2 : a * 2 ^ k < 18446744073709551616 * d) (hg : 1 ≤ g / 4503599627370496) (he : mV g * d = a * Zn) :
    (1085 - k) * 4503599627370496 + nrM (a * 2 ^ k) d = g := by
  obtain ⟨w, hw⟩ : ∃ w, g % 4503599627370496 + 4503599627370496 = w := ⟨_, rfl⟩
  obtain ⟨e, hE⟩ : ∃ e, g / 4503599627370496 = e + 1 := ⟨g / 4503599627370496 - 1, by omega⟩
  have hg2 : g = e * 4503599627370496 + w := by omega
  rw [hg2, mV_of e w (by omega) (by omega)] at he
  have hA : a * 2 ^ k * Zn = w * 2 ^ (e + k) * d := by
    rw [Nat.mul_right_comm, ← he, Nat.pow_add, ← Nat.mul_assoc, Nat.mul_right_comm]
  have hZ := Zn_pos
  have z1 : 2 ^ 63 * Zn = 2 ^ (63 + 1074) := (pow_Zn 63).symm
  have z2 : 2 ^ 64 * Zn = 2 ^ (64 + 1074) := (pow_Zn 64).symm
  have l1 : 2 ^ (63 + 1074) ≤ w * 2 ^ (e + k) := by
    have := Nat.mul_le_mul_right Zn h1
    rw [hA, show 9223372036854775808 * d = 2 ^ 63 * d by rfl, Nat.mul_right_comm, z1] at this
    have q := Nat.le_of_mul_le_mul_right this hd
    exact q
  have l2 : w * 2 ^ (e + k) < 2 ^ (64 + 1074) := by
    have := Nat.mul_lt_mul_of_pos_right h2 hZ
    rw [hA, show 18446744073709551616 * d = 2 ^ 64 * d by rfl, Nat.mul_right_comm (2 ^ 64), z2] at this
    have q := Nat.lt_of_mul_lt_mul_right this
    exact q
  have w1 : 2 ^ 52 * 2 ^ (e + k) ≤ w * 2 ^ (e + k) := Nat.mul_le_mul_right _ (show 4503599627370496 ≤ w by omega)
  have w2 : w * 2 ^ (e + k) < 2 ^ 53 * 2 ^ (e + k) := Nat.mul_lt_mul_of_pos_right (show w < 9007199254740992 by omega) (Nat.pow_pos (by decide))
  have f1 : e + k = 11 + 1074 := by
    have a1 := Nat.lt_of_le_of_lt w1 l2
    have a2 := Nat.lt_of_le_of_lt l1 w2
    rw [← Nat.pow_add] at a1 a2
    have b1 := (Nat.pow_lt_pow_iff_right (show 1 < 2 by decide)).1 a1
    have b2 := (Nat.pow_lt_pow_iff_right (show 1 < 2 by decide)).1 a2
    clear a1 a2 w1 w2 l1 l2 z1 z2
    omega
  have hA2 : a * 2 ^ k = w * 2048 * d := by
    have z3 : 2 ^ (e + k) = 2048 * Zn := pow_Zn' f1 (by decide)
    rw [z3] at hA
    clear z3 z1 z2 l1 l2 w1 w2 he
    obtain ⟨Z, eZ⟩ : ∃ Z, Zn = Z := ⟨_, rfl⟩
    rw [eZ] at hA hZ
    rw [← Nat.mul_assoc, Nat.mul_right_comm (w * 2048)] at hA
    exact Nat.eq_of_mul_eq_mul_right hZ hA
  clear w1 w2 l1 l2 z1 z2
  have hm : nrM (a * 2 ^ k) d = w := by
    unfold nrM
    rw [hA2, Nat.mul_div_cancel _ hd, Nat.mul_mod_left]
    rw [if_neg (by omega)]
    omega
  rw [hm, hg2]
  omega
/-- How far apart a float and a ratio are, in the document's way: by what the least parts say. -/
theorem fV_parts (b : Nat) : fV b * (fLo b : Int) = fNu b * (fUp b : Int) * (Zn : Int) := by
  rw [← Zn_int]
  have g := fPo_ge b
  unfold fV fLo fUp
  rw [Int.mul_assoc, Int.mul_assoc]
  refine congrArg (fun t => fNu b * t) ?_
  exact pow_parts (fPo b) 1074 (by omega)
theorem dfE_is {b : Nat} (hb : b < 18446744073709551616) (N : Int) (d : Nat) (hs : fSg b = decide (N < 0)) :
    ((fNu b * (fUp b : Int) * (d : Int) - N * (fLo b : Int)).natAbs : Nat) * Zn = dfE (fG b) N.natAbs d * fLo b := by
  have hp := fV_parts b
  have e : (fNu b * (fUp b : Int) * (d : Int) - N * (fLo b : Int)) * (Zn : Int) = (fV b * d - N * (Zn : Int)) * (fLo b : Int) := by
    obtain ⟨Z, eZ⟩ : ∃ Z, Zn = Z := ⟨_, rfl⟩
    rw [eZ] at hp ⊢
    rw [Int.sub_mul, Int.sub_mul, Int.mul_right_comm, ← hp, Int.mul_right_comm, Int.mul_right_comm N]
  have h2 : (fV b * d - N * (Zn : Int)).natAbs = dfE (fG b) N.natAbs d := by
    unfold dfE
    rw [fV_mV hb, hs]
    by_cases h : N < 0
    · rw [decide_eq_true h, if_pos rfl]
      have hN : N = -((N.natAbs : Nat) : Int) := by omega
      obtain ⟨n, en⟩ : ∃ n, N.natAbs = n := ⟨_, rfl⟩
      rw [en] at hN ⊢
      rw [hN, Int.neg_mul, Int.neg_mul, Int.natCast_mul, Int.natCast_mul]
      omega
    · rw [decide_eq_false h]
      have hN : N = ((N.natAbs : Nat) : Int) := by omega
      obtain ⟨n, en⟩ : ∃ n, N.natAbs = n := ⟨_, rfl⟩
      rw [en] at hN ⊢
      rw [hN, Int.natCast_mul, Int.natCast_mul]
      simp
  rw [← h2]
  have := congrArg Int.natAbs e
  rw [Int.natAbs_mul, Int.natAbs_mul, Int.natAbs_natCast, Int.natAbs_natCast] at this
  exact this
/-- The document's comparison of two such distances. -/
theorem apart_cmp {b c : Nat} (hb : b < 18446744073709551616) (hc : c < 18446744073709551616) (N : Int) (d : Nat) (hd : 0 < d) (sb : fSg b = decide (N < 0)) (sc : fSg c = decide (N < 0)) :
    (((fNu b * (fUp b : Int) * (d : Int) - N * (fLo b : Int)).natAbs * (fLo c * d) < (fNu c * (fUp c : Int) * (d : Int) - N * (fLo c : Int)).natAbs * (fLo b * d)) ↔ dfE (fG b) N.natAbs d < dfE (fG c) N.natAbs d) ∧
    (((fNu c * (fUp c : Int) * (d : Int) - N * (fLo c : Int)).natAbs * (fLo b * d) < (fNu b * (fUp b : Int) * (d : Int) - N * (fLo b : Int)).natAbs * (fLo c * d)) ↔ dfE (fG c) N.natAbs d < dfE (fG b) N.natAbs d) := by
  have e1 := dfE_is hb N d sb
  have e2 := dfE_is hc N d sc
  have hZ := Zn_pos
  have l1 : 0 < fLo b := Nat.pow_pos (by omega)
  have l2 : 0 < fLo c := Nat.pow_pos (by omega)
  obtain ⟨Z, eZ⟩ : ∃ Z, Zn = Z := ⟨_, rfl⟩
  rw [eZ] at e1 e2 hZ
  obtain ⟨X, eX⟩ : ∃ X, (fNu b * (fUp b : Int) * (d : Int) - N * (fLo b : Int)).natAbs = X := ⟨_, rfl⟩
  obtain ⟨Y, eY⟩ : ∃ X, (fNu c * (fUp c : Int) * (d : Int) - N * (fLo c : Int)).natAbs = X := ⟨_, rfl⟩
  obtain ⟨E, eE⟩ : ∃ X, dfE (fG b) N.natAbs d = X := ⟨_, rfl⟩
  obtain ⟨F, eF⟩ : ∃ X, dfE (fG c) N.natAbs d = X := ⟨_, rfl⟩
  obtain ⟨l, el⟩ : ∃ X, fLo b = X := ⟨_, rfl⟩
  obtain ⟨m, em⟩ : ∃ X, fLo c = X := ⟨_, rfl⟩
  rw [eX, eE, el] at e1
  rw [eY, eF, em] at e2
  rw [el] at l1
  rw [em] at l2
  rw [eX, eY, eE, eF, el, em]
  have q1 : X * (m * d) * Z = E * (l * m * d) := by
    rw [Nat.mul_right_comm, e1, Nat.mul_assoc, ← Nat.mul_assoc l]
  have q2 : Y * (l * d) * Z = F * (l * m * d) := by
    rw [Nat.mul_right_comm, e2, Nat.mul_assoc, ← Nat.mul_assoc m, Nat.mul_comm m l]
  have hp : 0 < l * m * d := Nat.mul_pos (Nat.mul_pos l1 l2) hd
  have r : ∀ x y e f : Nat, x * Z = e * (l * m * d) → y * Z = f * (l * m * d) → (x < y ↔ e < f) := by
    intro x y e f h1 h2
    constructor
    · intro h
      have := Nat.mul_lt_mul_of_pos_right h hZ
      rw [h1, h2] at this
      exact Nat.lt_of_mul_lt_mul_right this
    · intro h
      have := Nat.mul_lt_mul_of_pos_right h hp
      rw [← h1, ← h2] at this
      exact Nat.lt_of_mul_lt_mul_right this
  exact ⟨r _ _ _ _ q1 q2, r _ _ _ _ q2 q1⟩
end Go.Proofs.YtigjjddblijpbaaGreatDoor
namespace Go.Proofs.YtigjjddblijpbaaGreatDoor
open Go.RowKit
set_option linter.unusedSimpArgs false
set_option linter.unusedVariables false

/-- By how many bits a ratio is moved so that its first 64 bits stand before the point. -/
def nrK (a d : Nat) : Nat := if a / d = 0 then 64 + lzN ((a * 18446744073709551616 / d : Nat) : Int) else lzN ((a / d : Nat) : Int)
theorem lz_nat {y : Nat} (h0 : 0 < y) (h1 : y < 18446744073709551616) : lzN (y : Int) ≤ 63 ∧ 9223372036854775808 ≤ y * 2 ^ lzN (y : Int) ∧ y * 2 ^ lzN (y : Int) < 18446744073709551616 := by
  obtain ⟨s, hs⟩ : ∃ s, lzN (y : Int) = s := ⟨_, rfl⟩
  obtain ⟨a, b, c⟩ := lz_spec (y : Int) s (by omega) (by omega) hs
  rw [hs]
  have e : (y : Int) * 2 ^ s = ((y * 2 ^ s : Nat) : Int) := by simp
  rw [e] at b c
  exact ⟨a, by omega, by omega⟩
theorem lz_ratio {a d : Nat} (hd : 0 < d) (h0 : 0 < a / d) (h1 : a / d < 18446744073709551616) : 9223372036854775808 * d ≤ a * 2 ^ lzN ((a / d : Nat) : Int) ∧ a * 2 ^ lzN ((a / d : Nat) : Int) < 18446744073709551616 * d := by
  obtain ⟨l0, l1, l2⟩ := lz_nat h0 h1
  obtain ⟨s, hs⟩ : ∃ s, lzN ((a / d : Nat) : Int) = s := ⟨_, rfl⟩
  rw [hs] at l0 l1 l2 ⊢
  have hdm := Nat.div_add_mod a d
  have hml := Nat.mod_lt a hd
  obtain ⟨q, eq⟩ : ∃ q, a / d = q := ⟨_, rfl⟩
  obtain ⟨r, er⟩ : ∃ r, a % d = r := ⟨_, rfl⟩
  rw [eq, er] at hdm
  rw [er] at hml
  rw [eq] at l1 l2
  have hp : 0 < 2 ^ s := Nat.pow_pos (by decide)
  constructor
  · have h1 := Nat.mul_le_mul_right d l1
    have h2 : q * 2 ^ s * d ≤ a * 2 ^ s := by
      rw [Nat.mul_right_comm, Nat.mul_comm q d]
      exact Nat.mul_le_mul_right _ (by omega)
    exact Nat.le_trans h1 h2
  · have h3 : (q + 1) * 2 ^ s ≤ 18446744073709551616 := by
      have e : 18446744073709551616 = 2 ^ (64 - s) * 2 ^ s := by rw [← Nat.pow_add, show 64 - s + s = 64 by omega]
      rw [e] at l2 ⊢
      exact Nat.mul_le_mul_right _ (Nat.lt_of_mul_lt_mul_right l2)
    have h4 := Nat.mul_le_mul_right d h3
    have h5 : a * 2 ^ s < (q + 1) * 2 ^ s * d := by
      rw [Nat.mul_right_comm]
      refine Nat.mul_lt_mul_of_pos_right ?_ hp
      rw [Nat.add_mul, Nat.mul_comm q d]
      omega
    exact Nat.lt_of_lt_of_le h5 h4
/-- Where a ratio of ints stands so. -/
theorem nrK_spec {a d : Nat} (ha : 0 < a) (ha2 : a ≤ 9223372036854775808) (hd : 0 < d) (hd2 : d ≤ 9223372036854775807) :
    nrK a d ≤ 127 ∧ 9223372036854775808 * d ≤ a * 2 ^ nrK a d ∧ a * 2 ^ nrK a d < 18446744073709551616 * d := by
  unfold nrK
  by_cases h : a / d = 0
  · rw [if_pos h]
    have had : a < d := by
      rcases Nat.lt_or_ge a d with l | l
      · exact l
      · have := Nat.div_pos l hd
        omega
    have h1 : 0 < a * 18446744073709551616 / d := Nat.div_pos (by omega) hd
    have h2 : a * 18446744073709551616 / d < 18446744073709551616 := (Nat.div_lt_iff_lt_mul hd).2 (by
      rw [Nat.mul_comm 18446744073709551616 d]
      exact Nat.mul_lt_mul_of_pos_right had (by decide))
    obtain ⟨l0, -, -⟩ := lz_nat h1 h2
    have hl := lz_ratio hd h1 h2
    rw [show a * 18446744073709551616 = a * 2 ^ 64 by rfl] at hl l0 ⊢
    rw [Nat.mul_assoc, ← Nat.pow_add] at hl
    exact ⟨by omega, hl⟩
  · rw [if_neg h]
    have h1 : 0 < a / d := Nat.pos_of_ne_zero h
    have h2 : a / d < 18446744073709551616 := by
      have := Nat.div_le_self a d
      omega
    obtain ⟨l0, -, -⟩ := lz_nat h1 h2
    exact ⟨by omega, lz_ratio hd h1 h2⟩
/-- Finite floats of one sign and one number are one. -/
theorem fin_inj {x y : Nat} (hx : x < 18446744073709551616) (hy : y < 18446744073709551616) (hs : fSg x = fSg y) (h : fV x = fV y) : x = y := by
  have h1 := mt (fV_lt_iff hx hy).2 (by omega)
  have h2 := mt (fV_lt_iff hy hx).2 (by omega)
  have ox := fG_of hx
  have oy := fG_of hy
  unfold fK at h1 h2
  rw [hs] at h1 h2 ox
  cases h3 : fSg y <;> rw [h3] at h1 h2 ox oy <;> simp at h1 h2 ox oy <;> omega
theorem fin_small {b : Nat} (h : fG b < 9218868437227405312) (hb : b < 18446744073709551616) : Fin64 b :=
  ⟨hb, fun e => by rw [nan_iff hb] at e; omega, fun e => by rw [inf_iff hb] at e; omega⟩
theorem fG_self {b : Nat} (h : b < 9223372036854775808) : fG b = b ∧ fSg b = false := by
  refine ⟨Nat.mod_eq_of_lt h, ?_⟩
  unfold fSg
  exact decide_eq_false (by omega)
theorem pow_Znk {n k : Nat} (h : n = k + 1074) (hk : k = 0) : 2 ^ n = Zn := by rw [h, pow_Zn, hk, Nat.pow_zero, Nat.one_mul]
/-- A whole number of 53 bits as a float. -/
theorem fl_m53 (m : Nat) (h1 : 4503599627370496 ≤ m) (h2 : m ≤ 9007199254740992) : Go.floatOfInt .f64 (m : Int) = 1074 * 4503599627370496 + m := by
  have hc : Fin64 (Go.floatOfInt .f64 (m : Int)) ∧ fSg (Go.floatOfInt .f64 (m : Int)) = false ∧ fV (Go.floatOfInt .f64 (m : Int)) = (m : Int) * (Zn : Int) := by
    show Fin64 (Ieee.double.nearest (decide ((m : Int) < 0)) (m : Int).natAbs 0) ∧ fSg (Ieee.double.nearest (decide ((m : Int) < 0)) (m : Int).natAbs 0) = false ∧ fV (Ieee.double.nearest (decide ((m : Int) < 0)) (m : Int).natAbs 0) = _
    rw [Int.natAbs_natCast, decide_eq_false (show ¬ (m : Int) < 0 by omega)]
    by_cases c : m = 9007199254740992
    · subst c
      have h := near_exact false 4503599627370496 1 0 (by decide) (by decide) (by decide) (by decide)
      refine ⟨h.1, h.2.1, h.2.2.trans ?_⟩
      have e : ((2 ^ (0 + ((1 : Nat) : Int) + 1074).toNat : Nat) : Int) = 2 * (Zn : Int) := by
        have q : ((2 ^ (1 + 1074) : Nat) : Int) = ((2 ^ 1 * Zn : Nat) : Int) := congrArg Int.ofNat (pow_Zn 1)
        rw [Int.natCast_mul] at q
        rw [show (0 + ((1 : Nat) : Int) + 1074).toNat = 1 + 1074 by decide, q]
        rfl
      rw [e]
      show (4503599627370496 : Int) * (2 * (Zn : Int)) = 9007199254740992 * (Zn : Int)
      omega
    · have hl : m.log2 ≤ 52 := log2_lt (by omega) (by
        have : (2 : Nat) ^ (52 + 1) = 9007199254740992 := by decide
        omega)
      have h := near_exact false m 0 0 (by omega) (by rw [Nat.pow_zero, Nat.mul_one]; omega) (by rw [Nat.pow_zero, Nat.mul_one]; omega) (by omega)
      rw [Nat.pow_zero, Nat.mul_one] at h
      refine ⟨h.1, h.2.1, h.2.2.trans ?_⟩
      have e : ((2 ^ (0 + ((0 : Nat) : Int) + 1074).toNat : Nat) : Int) = (Zn : Int) := by
        have q := @pow_Znk (0 + ((0 : Nat) : Int) + 1074).toNat 0 (by decide) rfl
        rw [q]
      rw [e]
      rfl
  obtain ⟨f1, f2, f3⟩ := hc
  have hy : 1074 * 4503599627370496 + m < 9223372036854775808 := by omega
  obtain ⟨g1, g2⟩ := fG_self hy
  refine fin_inj f1.1 (by omega) (by rw [f2, g2]) ?_
  rw [f3, fV_mV (by omega), g2, g1]
  clear f3 g1 g2 f1 f2 hy
  obtain ⟨e, he⟩ : ∃ e : Nat, e = 1074 := ⟨_, rfl⟩
  rw [← he, mV_of e m h1 h2, pow_Znk (k := 0) (by rw [he]) rfl]
  rw [Int.natCast_mul]
  simp only [Bool.false_eq_true, if_false]
/-- One times a float. -/
theorem fl_one {b : Nat} (hb : Fin64 b) (hn : 4503599627370496 ≤ fG b) (hp : fPo b ≤ 900) : Go.floatBits .mul .f64 4607182418800017408 b = some b := by
  have h1 : Ieee.double.read 4607182418800017408 = .number false (2 ^ 52) (-52) := by decide
  have e : Go.floatBits .mul .f64 4607182418800017408 b = some (Ieee.double.nearest (fSg b) (fWh b * 2 ^ 52) (-52 + fPo b)) := by
    show Ieee.double.mul 4607182418800017408 b = _
    unfold Ieee.Format.mul
    rw [h1, read_fin hb]
    show some (Ieee.double.nearest (false ^^ fSg b) (2 ^ 52 * fWh b) (-52 + fPo b)) = _
    rw [Bool.false_xor, Nat.mul_comm]
  rw [e]
  obtain ⟨p1, p2⟩ := fG_parts hb.1
  have hx : fEx b ≠ 0 := by omega
  have hw0 : 4503599627370496 ≤ fWh b := by unfold fWh; rw [if_neg hx]; omega
  have hw := fWh_lt b
  have hlog : (fWh b * 2 ^ 52).log2 = (fWh b).log2 + 52 := log2_mul_pow (by omega) 52
  have hl52 : (fWh b).log2 ≤ 52 := log2_lt (by omega) (by
    have : (2 : Nat) ^ (52 + 1) = 9007199254740992 := by decide
    omega)
  have hg := fPo_ge b
  obtain ⟨f1, f2, f3⟩ := near_exact (fSg b) (fWh b) 52 (-52 + fPo b) (by omega) (by rw [hlog]; omega) (by rw [hlog]; omega) (by omega)
  refine congrArg some (fin_inj f1.1 hb.1 f2 (f3.trans ?_))
  rw [show (-52 + fPo b + ((52 : Nat) : Int) + 1074).toNat = (fPo b + 1074).toNat by omega]
  rfl
end Go.Proofs.YtigjjddblijpbaaGreatDoor
namespace Go.Proofs.YtigjjddblijpbaaGreatDoor
open Go.RowKit
set_option linter.unusedSimpArgs false
set_option linter.unusedVariables false

theorem flo_from2 (b : Nat) (w : World) : (callFunc 84 #[.int .u64 (b : Int)]).run Tryz.prog w = .ok (.value (.float .f64 b)) w := by
  rw [run_callFunc_extern Tryz.func84 (by kernel_rfl) (by kernel_rfl) (by kernel_rfl) (e := Extern.MathFloatBits.float64frombits) (by kernel_rfl)]
  rfl
theorem abs_bits2 (b : Nat) (hb : b < 18446744073709551616) : bits .andNot .u64 (b : Int) 9223372036854775808 = ((b % 9223372036854775808 : Nat) : Int) := by
  have h := u64_andNot_nat b 9223372036854775808 hb (by omega)
  have e : b &&& (18446744073709551615 - 9223372036854775808) = b % 9223372036854775808 := by
    have := Nat.and_two_pow_sub_one_eq_mod b 63
    rw [show (2 : Nat) ^ 63 = 9223372036854775808 by decide] at this
    exact this
  rw [e] at h
  exact h
set_option maxRecDepth 100000 in
set_option maxHeartbeats 1600000 in
theorem math_isnan (b : Nat) (hb : b < 18446744073709551616) (w : World) : Calls Tryz.prog 47 #[.float .f64 b] w fun e w' => e = .returned (.bool (decide (fKi b = 1))) ∧ w' = w := by
  have m1 : (FloatKind.f64.format.order b b != some .eq) = decide (fKi b = 1) := by
    rw [bne, show FloatKind.f64.format = Ieee.double from rfl, fl_eq_is b b hb hb]
    by_cases h : fKi b = 1 <;> simp [h]
  go_enter Tryz.func47, Tryz.ntmps47
  go_wp2_with fail
  go_ret
  exact ⟨by first | rfl | rw [m1], rfl⟩
/-- A positive float that is a number, against the greatest one and the least normal one. -/
theorem pos_key {b : Nat} (h : b < 9218868437227405312) : fKi b ≠ 1 ∧ fK b = (b : Int) := by
  obtain ⟨g1, g2⟩ := fG_self (b := b) (by omega)
  refine ⟨fun e => by rw [nan_iff (by omega), g1] at e; omega, ?_⟩
  unfold fK
  rw [g1, g2]
  rfl
theorem bits_ma2 (b : Nat) (hb : b < 9223372036854775808) : bits .andNot .u64 (b : Int) 9218868437227405312 = ((b % 4503599627370496 : Nat) : Int) := by
  have h := u64_andNot_nat b 9218868437227405312 (by omega) (by omega)
  have e : b &&& (18446744073709551615 - 9218868437227405312) = b % 4503599627370496 := by
    have e1 : 18446744073709551615 - 9218868437227405312 = 2 ^ 63 ||| (2 ^ 52 - 1) := by decide
    have e2 : b &&& 2 ^ 63 = 0 := by
      refine Nat.eq_of_testBit_eq fun i => ?_
      rw [Nat.testBit_and, Nat.testBit_two_pow, Nat.zero_testBit]
      by_cases hi : 63 = i
      · subst hi
        rw [Nat.testBit_lt_two_pow (show b < 2 ^ 63 from hb)]; rfl
      · simp [hi]
    rw [e1, Nat.and_or_distrib_left, e2, Nat.zero_or, Nat.and_two_pow_sub_one_eq_mod]
  rw [e] at h
  exact h
theorem or_ex (m E : Nat) (hm : m < 4503599627370496) (hE : E < 2048) : bits .or .u64 (m : Int) ((E * 4503599627370496 : Nat) : Int) = ((E * 4503599627370496 + m : Nat) : Int) := by
  have h := bits_or_u64_nat m (E * 4503599627370496) (by omega) (by omega)
  have e : m ||| E * 4503599627370496 = E * 4503599627370496 + m := by
    have := Nat.two_pow_add_eq_or_of_lt (i := 52) (b := m) hm E
    rw [show (2 : Nat) ^ 52 = 4503599627370496 by decide, Nat.mul_comm] at this
    rw [Nat.or_comm, ← this]
  rw [e] at h
  exact h
theorem and_i64b (x : Int) (n m : Nat) (hm : m = 2 ^ n - 1) (hn : n ≤ 62) : bits .and .i64 x (m : Int) = x % ((2 ^ n : Nat) : Int) := by
  have hm2 : m < 2 ^ 62 := by
    have : 2 ^ n ≤ 2 ^ 62 := Nat.pow_le_pow_right (by omega) hn
    have := Nat.pow_pos (n := n) (show 0 < 2 by omega)
    omega
  have h2 : (BitVec.ofInt 64 (m : Int)).toNat = m := by
    rw [BitVec.ofInt_natCast, BitVec.toNat_ofNat]; exact Nat.mod_eq_of_lt (by omega)
  have h1 : (((BitVec.ofInt 64 x).toNat : Nat) : Int) = x % 18446744073709551616 := by
    rw [BitVec.toNat_ofInt]
    have := Int.emod_nonneg x (show (18446744073709551616 : Int) ≠ 0 by decide)
    rw [Int.toNat_of_nonneg (by simpa using this)]
    rfl
  show IntKind.i64.wrap ((BitVec.ofInt 64 x &&& BitVec.ofInt 64 (m : Int)).toNat : Int) = _
  rw [BitVec.toNat_and, h2, hm, Nat.and_two_pow_sub_one_eq_mod]
  have hd : ((2 ^ n : Nat) : Int) ∣ 18446744073709551616 := by
    refine ⟨((2 ^ (64 - n) : Nat) : Int), ?_⟩
    rw [← Int.natCast_mul, ← Nat.pow_add, show n + (64 - n) = 64 by omega]
    rfl
  have e : (((BitVec.ofInt 64 x).toNat % 2 ^ n : Nat) : Int) = x % ((2 ^ n : Nat) : Int) := by
    rw [Int.natCast_emod, h1, Int.emod_emod_of_dvd _ hd]
  rw [e]
  have hp : (0 : Int) < ((2 ^ n : Nat) : Int) := by
    have := Nat.pow_pos (n := n) (show 0 < 2 by omega)
    omega
  have q1 := Int.emod_nonneg x (show ((2 ^ n : Nat) : Int) ≠ 0 by omega)
  have q2 := Int.emod_lt_of_pos x hp
  have q3 : ((2 ^ n : Nat) : Int) ≤ 4611686018427387904 := by
    have : 2 ^ n ≤ 2 ^ 62 := Nat.pow_le_pow_right (by omega) hn
    have e2 : (2 : Nat) ^ 62 = 4611686018427387904 := by decide
    omega
  rw [IntKind.wrap_i64]
  omega
end Go.Proofs.YtigjjddblijpbaaGreatDoor
