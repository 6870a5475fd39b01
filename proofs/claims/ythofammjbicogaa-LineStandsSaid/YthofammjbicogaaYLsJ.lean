/-
  Layer 13: what the law of a line's places asks, in plain numbers.
-/
import Derived.Test.YthofammjbicogaaYLsF
namespace Go.Proofs.Ythofammjbicogaa
open Go.RowKit
set_option linter.unusedSimpArgs false
set_option linter.unusedVariables false

theorem sprAt_bnd {F text B : Int} (h : -B ≤ F ∧ F ≤ B) : -B ≤ sprAt F text ∧ sprAt F text ≤ B := by
  unfold sprAt; split
  · exact h
  · split <;> omega
theorem pos_bnd {l : List It} (h : ItSm l) (a m : Nat) {F B : Int} (text : Int) (last : Bool) {j : Nat} (hj : j < m) (hm : m ≤ 40) (hF : -B ≤ F ∧ F ≤ B) : -B ≤ posF l a m F text last j ∧ posF l a m F text last j ≤ 2 * B + 5242800 := by
  have b1 := gP_bnd F m text last (j := j) (by omega)
  have b2 := sF_bnd h a j
  have b3 := sprAt_bnd (text := text) hF
  unfold posF
  omega
/-- What the law asks of the text's four ways to stand. -/
theorem stands_plain (F ww av x0 en g : Int) (m : Nat) (tn : Nat) (la : Bool) (hF : av - ww = F) (h0 : x0 = sprAt F tn) (h1 : en = sprAt F tn + ww + g) (hg : g = if sprB F m tn la then F else 0) :
    (tn = 1 → x0 = 0 ∧ en = ww) ∧ (tn = 2 → en = av) ∧ (tn = 3 → x0 ≤ av - en ∧ av - en ≤ x0 + 1) ∧ (tn = 4 → x0 = 0 ∧ (1 < m → la = false → 0 < F → en = av)) := by
  refine ⟨fun h => ?_, fun h => ?_, fun h => ?_, fun h => ?_⟩
  · subst h; simp [sprAt, sprB] at h0 hg h1; omega
  · subst h; simp [sprAt, sprB] at h0 hg h1; omega
  · subst h; simp [sprAt, sprB] at h0 hg h1; omega
  · subst h
    simp [sprAt, sprB] at h0 hg h1
    refine ⟨h0, fun p1 p2 p3 => ?_⟩
    rw [if_pos ⟨⟨p3, p2⟩, p1⟩] at hg
    omega
theorem gP_last (F : Int) (m : Nat) (text : Int) (last : Bool) : gP F m text last (m - 1) = if sprB F m text last then F else 0 := by
  by_cases h : sprB F m text last = true
  · rw [gP_end h, if_pos h]
  · unfold gP
    rw [if_neg h, if_neg h]
end Go.Proofs.Ythofammjbicogaa
