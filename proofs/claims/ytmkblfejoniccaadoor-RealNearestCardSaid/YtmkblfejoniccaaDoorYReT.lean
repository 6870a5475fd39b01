/-
  The law RealNearest, in plain numbers.
-/
import Derived.Test.YtmkblfejoniccaaDoorYReS
namespace Go.Proofs.YtmkblfejoniccaaDoor
open Go.RowKit
set_option linter.unusedSimpArgs false
set_option linter.unusedVariables false

theorem cmpI_nat {a b c d : Nat} (h1 : a < b ↔ c < d) (h2 : b < a ↔ d < c) : cmpI (a : Int) (b : Int) = cmpI (c : Int) (d : Int) := by
  unfold cmpI
  by_cases x : a < b
  · have := h1.1 x
    rw [if_pos (by omega), if_pos (by omega)]
  · have y := mt h1.2 x
    rw [if_neg (by omega), if_neg (show ¬ (c : Int) < (d : Int) by omega)]
    by_cases x2 : b < a
    · have := h2.1 x2
      rw [if_pos (by omega), if_pos (by omega)]
    · have y2 := mt h2.2 x2
      rw [if_neg (by omega), if_neg (show ¬ (d : Int) < (c : Int) by omega)]
/-- What the law asks of one that is beside. -/
def besideI (N D : Int) (b c : Nat) : Int := cmpI ((((fP b * D - N * fQ b).natAbs : Nat) : Int) * (fQ c * D)) ((((fP c * D - N * fQ c).natAbs : Nat) : Int) * (fQ b * D))
theorem near_law {N D : Int} (hN : IFit N) (hD : IFit D) (hg : goodB N D = true) (h0 : N ≠ 0) {b : Nat} (hb : nrB N D = b) :
    b < 18446744073709551616 ∧ 1 ≤ b ∧ b + 1 < 18446744073709551616 ∧ fKi b = 5 ∧ fDn b = decide (N < 0) ∧ ∀ c, (c + 1 = b ∨ c = b + 1) → besideI N D b c ≤ 0 ∧ (besideI N D b c = 0 → b % 2 = 0) := by
  have hd1 : 1 ≤ D := by
    have := hg
    unfold goodB at this
    rw [Bool.and_eq_true, decide_eq_true_eq] at this
    exact this.1
  obtain ⟨d, rfl⟩ : ∃ d : Nat, D = (d : Int) := ⟨D.toNat, by omega⟩
  obtain ⟨N1, N2⟩ := hN
  obtain ⟨D1, D2⟩ := hD
  obtain ⟨a, ea⟩ : ∃ a, N.natAbs = a := ⟨_, rfl⟩
  have hsp := nrK_spec (a := a) (d := d) (by omega) (by omega) (by omega) (by omega)
  have hbd := nrM_bnd (by omega) hsp.2.1 hsp.2.2
  have hG : nrG a d = (1085 - nrK a d) * 4503599627370496 + nrM (a * 2 ^ nrK a d) d := rfl
  have hbe := fun g' hg' => near_best (a := a) (d := d) (k := nrK a d) (g' := g') (by omega) (by omega) hsp.2.1 hsp.2.2 hg'
  rw [← hG] at hbe
  have hb' : b = (if N < 0 then 9223372036854775808 else 0) + nrG a d := by
    rw [← hb]
    unfold nrB
    rw [if_neg (by rw [hg]; decide), if_neg h0, ea, Int.natAbs_natCast]
  obtain ⟨k, ek⟩ : ∃ k, nrK a d = k := ⟨_, rfl⟩
  obtain ⟨m, em⟩ : ∃ m, nrM (a * 2 ^ nrK a d) d = m := ⟨_, rfl⟩
  rw [em, ek] at hG
  rw [em] at hbd hbe
  rw [ek] at hsp
  obtain ⟨G, eG⟩ : ∃ G, nrG a d = G := ⟨_, rfl⟩
  rw [eG] at hG hbe hb'
  have hk := hsp.1
  have hGl : 4314448443020935168 ≤ G ∧ G < 9000000000000000000 := by omega
  have hlt : b < 18446744073709551616 := by rw [hb']; split <;> omega
  have parts : ∀ x y : Nat, 4314448443020935168 - 1 ≤ y → y < 9000000000000000001 → x = (if N < 0 then 9223372036854775808 else 0) + y → x < 18446744073709551616 ∧ fG x = y ∧ fSg x = decide (N < 0) := by
    intro x y y1 y2 hx
    by_cases hn : N < 0
    · rw [if_pos hn] at hx
      refine ⟨by omega, by unfold fG; omega, ?_⟩
      unfold fSg
      rw [decide_eq_true hn]
      exact decide_eq_true (by omega)
    · rw [if_neg hn] at hx
      refine ⟨by omega, by unfold fG; omega, ?_⟩
      unfold fSg
      rw [decide_eq_false hn]
      exact decide_eq_false (by omega)
  obtain ⟨q1, q2, q3⟩ := parts b G (by omega) (by omega) hb'
  have hx : fEx b ≠ 0 ∧ fEx b ≠ 2047 := by
    obtain ⟨p1, p2⟩ := fG_parts hlt
    rw [q2] at p1
    omega
  have hki : fKi b = 5 := by unfold fKi; rw [if_neg hx.2, if_neg hx.1]
  refine ⟨hlt, by rw [hb']; split <;> omega, by rw [hb']; split <;> omega, hki, by unfold fDn; rw [if_neg (by omega), q3], fun c hc => ?_⟩
  obtain ⟨G', hc'⟩ : ∃ G', (G' = G + 1 ∨ G' + 1 = G) ∧ c = (if N < 0 then 9223372036854775808 else 0) + G' := by
    rcases hc with h | h
    · refine ⟨G - 1, .inr (by omega), ?_⟩
      obtain ⟨s, es⟩ : ∃ s, (if N < 0 then 9223372036854775808 else 0) = s := ⟨_, rfl⟩
      rw [es] at hb' ⊢
      omega
    · refine ⟨G + 1, .inl rfl, ?_⟩
      rw [h, hb']; omega
  obtain ⟨r1, r2, r3⟩ := parts c G' (by omega) (by omega) hc'.2
  have hbest := hbe G' (by rcases hc'.1 with h | h <;> omega)
  obtain ⟨u1, u2⟩ := apart_cmp hlt r1 N d (by omega) q3 r3
  have hI : besideI N d b c = cmpI ((dfE G a d : Nat) : Int) ((dfE G' a d : Nat) : Int) := by
    rw [ea, q2, r2] at u1 u2
    unfold besideI fQ fP
    rw [← Int.natCast_mul, ← Int.natCast_mul, ← Int.natCast_mul, ← Int.natCast_mul]
    exact cmpI_nat u1 u2
  have hpar : m % 2 = 0 → b % 2 = 0 := by
    intro h
    rw [hb', hG]
    split <;> omega
  rw [hI]
  obtain ⟨E, eE⟩ : ∃ E, dfE G a d = E := ⟨_, rfl⟩
  obtain ⟨F, eF⟩ : ∃ E, dfE G' a d = E := ⟨_, rfl⟩
  rw [eE, eF] at hbest ⊢
  unfold cmpI
  rcases hbest with h | ⟨h, h'⟩
  · rw [if_pos (by omega)]
    exact ⟨by omega, fun e => by omega⟩
  · rw [if_neg (by omega), if_neg (by omega)]
    exact ⟨by omega, fun _ => hpar h'⟩
end Go.Proofs.YtmkblfejoniccaaDoor
