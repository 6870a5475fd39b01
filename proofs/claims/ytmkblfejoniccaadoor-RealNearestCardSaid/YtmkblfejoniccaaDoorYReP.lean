/-
  The laws RealExact, RealBack, RealMonotone, in plain numbers.
-/
import Derived.Test.YtmkblfejoniccaaDoorZ11
import Derived.Test.YtmkblfejoniccaaDoorZ9
namespace Go.Proofs.YtmkblfejoniccaaDoor
open Go.RowKit
set_option linter.unusedSimpArgs false
set_option linter.unusedVariables false

theorem ex_fit (b : Nat) : IFit (exN b) ∧ IFit (exD b) ∧ (exE b = 0 → goodB (exN b) (exD b) = true) ∧ (exE b ≠ 0 → exN b = 0 ∧ exD b = 0) := by
  unfold exN exD exE
  by_cases h1 : fKi b = 1
  · simp only [h1, true_or, if_true]
    exact ⟨by unfold IFit; omega, by unfold IFit; omega, fun h => by omega, fun _ => by simp⟩
  · by_cases h2 : fKi b = 2
    · simp only [h2, or_true, if_true]
      exact ⟨by unfold IFit; omega, by unfold IFit; omega, fun h => by simp at h, fun _ => by simp⟩
    · have h3 : ¬ (fKi b = 1 ∨ fKi b = 2) := fun h => h.elim h1 h2
      simp only [if_neg h1, if_neg h2, if_neg h3]
      cases ho : ofB (fP b) (fQ b)
      · simp only [Bool.false_eq_true, if_false]
        exact ⟨by unfold IFit; omega, by unfold IFit; omega, fun h => by omega, fun _ => by simp⟩
      · simp only [if_true]
        have hf := ofB_iff.1 ho
        have hq := fQ_pos b
        exact ⟨hf.1, hf.2, fun _ => good_low _ _ (by omega), fun h => absurd rfl h⟩
theorem ex_zero_iff {b : Nat} (h : exE b = 0) : fKi b ≠ 1 ∧ fKi b ≠ 2 ∧ ofB (fP b) (fQ b) = true ∧ exN b = numR (fP b) (fQ b) ∧ exD b = denR (fP b) (fQ b) := by
  unfold exE at h
  by_cases h1 : fKi b = 1
  · rw [if_pos h1] at h; omega
  · by_cases h2 : fKi b = 2
    · rw [if_neg h1, if_pos h2] at h; omega
    · rw [if_neg h1, if_neg h2] at h
      cases ho : ofB (fP b) (fQ b)
      · rw [ho] at h; simp at h
      · have h3 : ¬ (fKi b = 1 ∨ fKi b = 2) := fun h => h.elim h1 h2
        refine ⟨h1, h2, rfl, ?_, ?_⟩
        · unfold exN; rw [if_neg h3, if_pos ho]
        · unfold exD; rw [if_neg h3, if_pos ho]
/-- The ratio in lowest terms is the number. -/
theorem low_cross (n d : Int) (hd : 0 < d) : (numR n d).natAbs * d.natAbs = n.natAbs * (denR n d).natAbs := by
  have hg : 0 < Nat.gcd n.natAbs d.natAbs := Nat.gcd_pos_of_pos_right _ (by omega)
  have e1 : (numR n d).natAbs = n.natAbs / Nat.gcd n.natAbs d.natAbs := by
    unfold numR
    obtain ⟨q, eq⟩ : ∃ q, n.natAbs / Nat.gcd n.natAbs d.natAbs = q := ⟨_, rfl⟩
    rw [eq]
    split <;> omega
  have e2 : (denR n d).natAbs = d.natAbs / Nat.gcd n.natAbs d.natAbs := by
    unfold denR
    exact Int.natAbs_natCast _
  rw [e1, e2]
  have d1 := Nat.div_mul_cancel (Nat.gcd_dvd_left n.natAbs d.natAbs)
  have d2 := Nat.div_mul_cancel (Nat.gcd_dvd_right n.natAbs d.natAbs)
  obtain ⟨g, eg⟩ : ∃ g, Nat.gcd n.natAbs d.natAbs = g := ⟨_, rfl⟩
  rw [eg] at d1 d2 ⊢
  obtain ⟨x, ex⟩ : ∃ x, n.natAbs / g = x := ⟨_, rfl⟩
  obtain ⟨y, ey⟩ : ∃ x, d.natAbs / g = x := ⟨_, rfl⟩
  rw [ex] at d1 ⊢
  rw [ey] at d2 ⊢
  rw [← d1, ← d2, Nat.mul_assoc, Nat.mul_comm g y]
theorem mV_fP (b : Nat) (hb : b < 18446744073709551616) : mV (fG b) * fLo b = (fP b).natAbs * Zn := by
  have h := fV_parts b
  have h2 := congrArg Int.natAbs h
  rw [Int.natAbs_mul, Int.natAbs_natCast, Int.natAbs_mul, Int.natAbs_natCast] at h2
  have h3 : (fV b).natAbs = mV (fG b) := by
    rw [fV_mV hb]
    cases fSg b <;> simp
  rw [h3] at h2
  exact h2
/-- The nearest float to what a float is. -/
theorem back_ok {b : Nat} (hb : b < 18446744073709551616) (h : exE b = 0) :
    nrB (exN b) (exD b) < 18446744073709551616 ∧ (Ieee.double.order (nrB (exN b) (exD b)) b == some .eq) = true ∧ ((Ieee.double.order b 0 != some .eq) = true ∨ ((Ieee.double.order b 0 != some .eq) = false ∧ nrB (exN b) (exD b) = 0)) := by
  obtain ⟨k1, k2, ho, hN, hD⟩ := ex_zero_iff h
  have k0 : fKi 0 = 3 := by decide
  by_cases h0 : fWh b = 0
  · obtain ⟨z1, z2, z3⟩ := ex_zero ⟨k1, k2⟩ h0
    rw [z1, z2, show nrB 0 1 = 0 by kernel_rfl]
    have hg : fG b = 0 := by
      obtain ⟨p1, p2⟩ := fG_parts hb
      unfold fWh at h0
      split at h0 <;> omega
    have hk : fK b = 0 := by unfold fK; rw [hg]; split <;> rfl
    have hk0 : fK 0 = 0 := by decide
    refine ⟨by omega, ?_, .inr ⟨?_, rfl⟩⟩
    · rw [fl_eq_is 0 b (by omega) hb, hk, hk0, k0]; simp [k1]
    · rw [bne, fl_eq_is b 0 hb (by omega), hk, hk0, k0]; simp [k1]
  · have hl := fWh_lt b
    obtain ⟨m, hm, hz⟩ := ctz_spec (fWh b) (by omega) h0
    obtain ⟨Z, eZ⟩ : ∃ Z, Lib.ctz 64 (fWh b) = Z := ⟨_, rfl⟩
    rw [eZ] at hm hz
    rw [Nat.mul_comm] at hm
    obtain ⟨l1, l2⟩ := ex_low hm (by omega)
    -- it is normal
    have hx : fEx b ≠ 0 := by
      intro e
      have hp : fPo b = -1074 := by unfold fPo; rw [if_pos e]
      obtain ⟨_, _, r3⟩ := ex_range ⟨k1, k2⟩ hm (by omega) (.inl (by omega))
      omega
    have hgn : 1 ≤ fG b / 4503599627370496 := by
      obtain ⟨p1, p2⟩ := fG_parts hb
      omega
    have hq := fQ_pos b
    obtain ⟨f1, f2, f3, -⟩ := ex_fit b
    have hgood := f3 h
    have hmag : 0 < (2 * m + 1) * 2 ^ (fPo b + Z).toNat := Nat.mul_pos (by omega) (Nat.pow_pos (by decide))
    rw [← hN] at l1
    have hN0 : exN b ≠ 0 := by rw [l1]; split <;> omega
    have hsg : fSg b = decide (exN b < 0) := by
      rw [l1]
      cases fSg b
      · simp only [Bool.false_eq_true, if_false]; rw [decide_eq_false (by omega)]
      · simp only [if_true]; rw [decide_eq_true (by omega)]
    have hD0 : 0 < (exD b).natAbs := by
      rw [hD, l2, Int.natAbs_natCast]; exact Nat.pow_pos (by decide)
    have hDp : 0 ≤ exD b := by rw [hD, l2]; exact Int.natCast_nonneg _
    have hcr := low_cross (fP b) (fQ b) hq
    rw [← hN, ← hD] at hcr
    have hmv := mV_fP b hb
    have hL : (fQ b).natAbs = fLo b := by unfold fQ; exact Int.natAbs_natCast _
    have he : mV (fG b) * (exD b).natAbs = (exN b).natAbs * Zn := by
      have hLp : 0 < fLo b := Nat.pow_pos (by omega)
      refine Nat.eq_of_mul_eq_mul_right hLp ?_
      rw [Nat.mul_right_comm, hmv, Nat.mul_right_comm (exN b).natAbs, ← hL, hcr, Nat.mul_right_comm]
    have hsp := nrK_spec (a := (exN b).natAbs) (d := (exD b).natAbs) (by omega) (by unfold IFit at f1; omega) hD0 (by unfold IFit at f2; omega)
    have hs := near_same hD0 (by omega) hsp.2.1 hsp.2.2 hgn he
    have hnr : nrB (exN b) (exD b) = b := by
      have hof := fG_of hb
      unfold nrB nrG
      rw [if_neg (by rw [hgood]; decide), if_neg hN0, hs]
      rw [hsg] at hof
      by_cases hn : exN b < 0
      · rw [if_pos hn]; rw [decide_eq_true hn] at hof; exact hof.symm
      · rw [if_neg hn]; rw [decide_eq_false hn] at hof; exact hof.symm
    rw [hnr]
    refine ⟨hb, ?_, .inl ?_⟩
    · rw [fl_eq_is b b hb hb]; simp [k1]
    · have hg0 : fG b ≠ 0 := fun e => by rw [e] at hgn; omega
      have hk : fK b ≠ 0 := by unfold fK; split <;> omega
      have hk0 : fK 0 = 0 := by decide
      rw [bne, fl_eq_is b 0 hb (by omega), hk0, k0]; simp [k1, hk]
theorem grid_nan (b : Nat) {den low high : Int} (h1 : 1 ≤ den) (h2 : den ≤ 1048576) (h3 : low ≤ high) : ((gridR b den low high).2 == 4) = decide (fKi b = 1) := by
  unfold gridR
  have hx : ¬ (den < 1 ∨ 1048576 < den ∨ high < low) := by omega
  rw [if_neg hx]
  by_cases h : fKi b = 1
  · rw [if_pos h, decide_eq_true h]; rfl
  · rw [if_neg h, decide_eq_false h]
    split <;> rfl
theorem pow_le_Zn {n : Nat} (h : n ≤ 1074) : 2 ^ n ≤ Zn := by
  rw [Zn_split h]
  exact Nat.le_mul_of_pos_right _ (pow2_pos _)
theorem Zn_le {k n : Nat} (h : k + 1074 ≤ n) : 2 ^ k * Zn ≤ 2 ^ n := by
  rw [← pow_Zn]
  exact Nat.pow_le_pow_right (by decide) h
/-- An int by 64, on the grid. -/
theorem grid_int (n : Int) (h1 : -2147483648 ≤ n) (h2 : n ≤ 2147483648) : ∃ r0 r, Go.floatOfInt .f64 n = r0 ∧ Go.floatBits .quo .f64 r0 4634204016564240384 = some r ∧ r < 18446744073709551616 ∧ gridR r 64 (-1099511627776) 1099511627776 = (n, 0) := by
  obtain ⟨r0, e0, f0, v0⟩ := fl_int n h1 h2
  rw [Zn_int] at v0
  have hw := fWh_fV r0
  have hg := fPo_ge r0
  have hwl := fWh_lt r0
  have hV : (fV r0).natAbs = n.natAbs * Zn := by rw [v0, Int.natAbs_mul, Int.natAbs_natCast]
  rw [hV] at hw
  have hw' : fWh r0 * 2 ^ (fPo r0 + 1074).toNat = n.natAbs * Zn := Int.ofNat_inj.1 hw
  have hz := Zn_pos
  have hb1 : fWh r0 = 0 ∨ -1000 ≤ fPo r0 := by
    by_cases c : fWh r0 = 0
    · exact .inl c
    · right
      apply Int.not_lt.1
      intro hlt
      have hn : 1 ≤ n.natAbs := by
        rcases Nat.eq_zero_or_pos n.natAbs with q | q
        · rw [q, Nat.zero_mul] at hw'
          rcases Nat.mul_eq_zero.1 hw' with q | q
          · exact absurd q c
          · have := pow2_pos (fPo r0 + 1074).toNat
            omega
        · exact q
      have a1 : fWh r0 * 2 ^ (fPo r0 + 1074).toNat < 2 ^ 53 * 2 ^ (fPo r0 + 1074).toNat := Nat.mul_lt_mul_of_pos_right (by rw [show (2 : Nat) ^ 53 = 9007199254740992 by decide]; exact hwl) (pow2_pos _)
      rw [hw', ← Nat.pow_add] at a1
      have a2 : 2 ^ (53 + (fPo r0 + 1074).toNat) ≤ Zn := pow_le_Zn (by omega)
      have a3 := Nat.mul_le_mul_right Zn hn
      omega
  have hb2 : fPo r0 ≤ 900 := by
    by_cases c : fWh r0 = 0
    · have : fEx r0 = 0 := by
        unfold fWh at c
        split at c
        · assumption
        · omega
      unfold fPo; rw [if_pos this]; omega
    · apply Int.not_lt.1
      intro hlt
      have a1 : 2 ^ (fPo r0 + 1074).toNat ≤ fWh r0 * 2 ^ (fPo r0 + 1074).toNat := Nat.le_mul_of_pos_left _ (by omega)
      have a2 : 2 ^ 32 * Zn ≤ 2 ^ (fPo r0 + 1074).toNat := Zn_le (by omega)
      have a3 : n.natAbs * Zn < 2 ^ 32 * Zn := Nat.mul_lt_mul_of_pos_right (by
        rw [show (2 : Nat) ^ 32 = 4294967296 by decide]; omega) hz
      omega
  obtain ⟨r, e1, f1, v1⟩ := fl_div64 f0 hb1 hb2
  refine ⟨r0, r, e0, e1, f1.1, grid_stays f1 ?_ (by omega) (by omega)⟩
  rw [v1, v0, ← Zn_int]
end Go.Proofs.YtmkblfejoniccaaDoor
