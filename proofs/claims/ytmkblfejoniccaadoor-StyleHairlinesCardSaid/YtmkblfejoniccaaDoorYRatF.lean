/-
  The functions of package ratio, each by its contract. Last part: Cmp, Times; and the plain law of a product in lowest terms.
-/
import Derived.Test.YtmkblfejoniccaaDoorYLawI
import Derived.Test.YtmkblfejoniccaaDoorZ2
import Derived.Test.YtmkblfejoniccaaDoorZ1
import Derived.Test.YtmkblfejoniccaaDoorYLawC
namespace Go.Proofs.YtmkblfejoniccaaDoor
open Go.RowKit
set_option linter.unusedSimpArgs false
set_option linter.unusedVariables false

theorem gcd_pairs (n1 n2 d1 d2 : Nat) (h1 : Nat.gcd n1 d1 = 1) (h2 : Nat.gcd n2 d2 = 1) (p1 : 0 < d1) (p2 : 0 < d2) :
    Nat.gcd (n1 * n2) (d1 * d2) = Nat.gcd n1 d2 * Nat.gcd n2 d1 ∧
    n1 * n2 / (Nat.gcd n1 d2 * Nat.gcd n2 d1) = (n1 / Nat.gcd n1 d2) * (n2 / Nat.gcd n2 d1) ∧
    d1 * d2 / (Nat.gcd n1 d2 * Nat.gcd n2 d1) = (d2 / Nat.gcd n1 d2) * (d1 / Nat.gcd n2 d1) := by
  have q1 : 0 < Nat.gcd n1 d2 := Nat.gcd_pos_of_pos_right _ p2
  have q2 : 0 < Nat.gcd n2 d1 := Nat.gcd_pos_of_pos_right _ p1
  have c1 := Nat.coprime_div_gcd_div_gcd q1
  have c2 := Nat.coprime_div_gcd_div_gcd q2
  have e1 : n1 = Nat.gcd n1 d2 * (n1 / Nat.gcd n1 d2) := (Nat.mul_div_cancel' (Nat.gcd_dvd_left _ _)).symm
  have e2 : d2 = Nat.gcd n1 d2 * (d2 / Nat.gcd n1 d2) := (Nat.mul_div_cancel' (Nat.gcd_dvd_right _ _)).symm
  have e3 : n2 = Nat.gcd n2 d1 * (n2 / Nat.gcd n2 d1) := (Nat.mul_div_cancel' (Nat.gcd_dvd_left _ _)).symm
  have e4 : d1 = Nat.gcd n2 d1 * (d1 / Nat.gcd n2 d1) := (Nat.mul_div_cancel' (Nat.gcd_dvd_right _ _)).symm
  generalize Nat.gcd n1 d2 = g1 at *
  generalize Nat.gcd n2 d1 = g2 at *
  generalize n1 / g1 = a at *
  generalize d2 / g1 = e at *
  generalize n2 / g2 = b at *
  generalize d1 / g2 = c at *
  subst e1 e2 e3 e4
  have h3 : Nat.Coprime a c := Nat.Coprime.coprime_dvd_left ⟨g1, Nat.mul_comm _ _⟩ (Nat.Coprime.coprime_dvd_right ⟨g2, Nat.mul_comm _ _⟩ h1)
  have h4 : Nat.Coprime b e := Nat.Coprime.coprime_dvd_left ⟨g2, Nat.mul_comm _ _⟩ (Nat.Coprime.coprime_dvd_right ⟨g1, Nat.mul_comm _ _⟩ h2)
  have h5 : Nat.gcd (a * b) (c * e) = 1 := Nat.Coprime.mul_left (Nat.Coprime.mul_right h3 c1) (Nat.Coprime.mul_right c2 h4)
  have x1 : g1 * a * (g2 * b) = (g1 * g2) * (a * b) := by rw [Nat.mul_assoc, Nat.mul_assoc, Nat.mul_left_comm a]
  have x2 : g2 * c * (g1 * e) = (g1 * g2) * (c * e) := by rw [Nat.mul_assoc, Nat.mul_left_comm c, ← Nat.mul_assoc, Nat.mul_comm g2]
  have x3 : 0 < g1 * g2 := Nat.mul_pos q1 q2
  refine ⟨?_, ?_, ?_⟩
  · rw [x1, x2, Nat.gcd_mul_left, h5, Nat.mul_one]
  · rw [x1, Nat.mul_div_cancel_left _ x3]
  · rw [x2, Nat.mul_div_cancel_left _ x3, Nat.mul_comm]
theorem numR_pos (n d : Int) (hd : 1 ≤ d) : numR n d = if n < 0 then -((n.natAbs / Nat.gcd n.natAbs d.natAbs : Nat) : Int) else ((n.natAbs / Nat.gcd n.natAbs d.natAbs : Nat) : Int) := by
  unfold numR
  rw [show decide (d < 0) = false by simp; omega]
  by_cases h : n < 0
  · rw [if_neg (by simp [h]), if_pos h]
  · rw [if_pos (by simp; omega), if_neg h]
theorem low_pairs (n1 n2 d1 d2 : Int) (p1 : 1 ≤ d1) (p2 : 1 ≤ d2) (h1 : Nat.gcd n1.natAbs d1.natAbs = 1) (h2 : Nat.gcd n2.natAbs d2.natAbs = 1) :
    numR (n1 * n2) (d1 * d2) = numR n1 d2 * numR n2 d1 ∧ denR (n1 * n2) (d1 * d2) = denR n1 d2 * denR n2 d1 := by
  obtain ⟨g1, g2, g3⟩ := gcd_pairs n1.natAbs n2.natAbs d1.natAbs d2.natAbs h1 h2 (by omega) (by omega)
  have hd : 1 ≤ d1 * d2 := by
    have := Int.mul_le_mul p1 p2 (by omega) (by omega)
    omega
  refine ⟨?_, ?_⟩
  · rw [numR_pos _ _ hd, numR_pos _ _ p2, numR_pos _ _ p1, Int.natAbs_mul, Int.natAbs_mul, g1, g2]
    have z1 : n1 = 0 → n1.natAbs / Nat.gcd n1.natAbs d2.natAbs = 0 := fun h => by subst h; simp
    have z2 : n2 = 0 → n2.natAbs / Nat.gcd n2.natAbs d1.natAbs = 0 := fun h => by subst h; simp
    generalize n1.natAbs / Nat.gcd n1.natAbs d2.natAbs = a at *
    generalize n2.natAbs / Nat.gcd n2.natAbs d1.natAbs = b at *
    rw [Int.natCast_mul]
    rcases Int.lt_trichotomy n1 0 with s1 | s1 | s1
    · rcases Int.lt_trichotomy n2 0 with s2 | s2 | s2
      · have : 0 < n1 * n2 := Int.mul_pos_of_neg_of_neg s1 s2
        rw [if_neg (by omega), if_pos s1, if_pos s2, Int.neg_mul_neg]
      · subst s2; rw [z2 rfl]; simp
      · have : n1 * n2 < 0 := Int.mul_neg_of_neg_of_pos s1 s2
        rw [if_pos this, if_pos s1, if_neg (by omega), Int.neg_mul]
    · subst s1; rw [z1 rfl]; simp
    · rcases Int.lt_trichotomy n2 0 with s2 | s2 | s2
      · have : n1 * n2 < 0 := Int.mul_neg_of_pos_of_neg s1 s2
        rw [if_pos this, if_neg (by omega), if_pos s2, Int.mul_neg]
      · subst s2; rw [z2 rfl]; simp
      · have : 0 < n1 * n2 := Int.mul_pos s1 s2
        rw [if_neg (by omega), if_neg (by omega), if_neg (by omega)]
  · unfold denR
    rw [Int.natAbs_mul, Int.natAbs_mul, g1, g3, Int.natCast_mul]
theorem mul_wfit {a b : Int} (ha : IFit a) (hb : IFit b) : WFit (a * b) := by
  obtain ⟨a1, a2⟩ := ha
  obtain ⟨b1, b2⟩ := hb
  have h1 : a.natAbs ≤ 9223372036854775808 := by omega
  have h2 : b.natAbs ≤ 9223372036854775808 := by omega
  have h3 := Nat.mul_le_mul h1 h2
  rw [← Int.natAbs_mul] at h3
  unfold WFit
  omega
theorem rx_blk {w : World} {b : Nat} {x y : Value} (h : Rx w b x y) : w.cell? ⟨b, 0, none⟩ = some x ∧ w.cell? ⟨b, 1, none⟩ = some y := ⟨h.cells.1, h.cells.2.1⟩
end Go.Proofs.YtmkblfejoniccaaDoor
