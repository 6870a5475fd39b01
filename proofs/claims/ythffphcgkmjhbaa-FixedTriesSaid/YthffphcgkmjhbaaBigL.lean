/-
  The reference's whole numbers, each function by its contract. Twelfth part: Fits.
-/
import Derived.Test.YthffphcgkmjhbaaBigK
import Derived.Deep.RegionHeld3
namespace Go.Proofs.Ythffphcgkmjhbaa
open Go.RowKit
set_option linter.unusedSimpArgs false
set_option linter.unusedVariables false

theorem below_step {a w w' : World} (h : Below a.heap.size a w) (h' : Below w.heap.size w w') : Below a.heap.size a w' := h.trans (h'.mono h.size)
def fitsB (X : Int) : Bool := decide (-170141183460469231731687303715884105728 ≤ X) && decide (X < 170141183460469231731687303715884105728)
theorem fitsB_lo {X : Int} (h : cmpI X (-170141183460469231731687303715884105728) < 0) : fitsB X = false := by
  unfold cmpI at h
  unfold fitsB
  have : X < -170141183460469231731687303715884105728 := by
    by_cases h1 : X < -170141183460469231731687303715884105728
    · exact h1
    · rw [if_neg h1] at h; split at h <;> omega
  simp; omega
theorem fitsB_hi {X : Int} (h : 0 ≤ cmpI X (-170141183460469231731687303715884105728)) : fitsB X = decide (cmpI X 170141183460469231731687303715884105728 < 0) := by
  unfold cmpI at *
  unfold fitsB
  have : -170141183460469231731687303715884105728 ≤ X := by
    by_cases h1 : X < -170141183460469231731687303715884105728
    · rw [if_pos h1] at h; omega
    · omega
  by_cases h2 : X < 170141183460469231731687303715884105728
  · simp [h2, this]
  · simp [h2]; split <;> simp

set_option maxRecDepth 100000 in
set_option maxHeartbeats 1600000 in
theorem big_fits (neg : Bool) (ao : Option Addr) (k cap : Nat) (X : Int) (w : World) (h : IsBig w neg ao k cap X) (hk : k ≤ 100000) :
    Calls Try.prog 35 #[.agg #[.bool neg, .slice ao k cap]] w fun e w' => e = .returned (.bool (fitsB X)) ∧ Below w.heap.size w w' := by
  obtain ⟨P, eP'⟩ : ∃ P : Int, P = 170141183460469231731687303715884105728 := ⟨_, rfl⟩
  have eP : P = ((2 ^ 127 : Nat) : Int) := by rw [eP']; decide
  have hp1 : 127 ≤ 1000 := by omega
  have sP : BM.Sz P 8 := by rw [eP']; unfold BM.Sz; decide
  obtain ⟨c1, e1⟩ : ∃ c1, c1 = cmpI X (-P) := ⟨_, rfl⟩
  obtain ⟨c2, e2⟩ : ∃ c2, c2 = cmpI X P := ⟨_, rfl⟩
  have E1 := Lib.hid e1.symm
  have E2 := Lib.hid e2.symm
  have hA : c1 < 0 → fitsB X = false := fun h => fitsB_lo (by rw [← eP', ← e1]; exact h)
  have hB : 0 ≤ c1 → fitsB X = decide (c2 < 0) := fun h => by rw [fitsB_hi (by rw [← eP', ← e1]; exact h), ← eP', ← e2]
  have hx := h.keep (w' := w.alloc (.cells #[.bool neg, .slice ao k cap] 29)) (by repeat' (first | (with_reducible exact Below.refl _ _) | (with_reducible assumption) | (with_reducible refine below_alloc ?_ _ ?_) | (with_reducible refine below_set _ ?_ ?_) | (with_reducible refine Below.drew ?_) | (with_reducible refine below_dN ?_ _) | (apply below_thenA; assumption) | omega | (simp; done) | (simp; omega) | (simp [*]; done)))
  have t0 : Two (w.alloc (.cells #[.bool neg, .slice ao k cap] 29)) w.heap.size (.bool neg) (.slice ao k cap) := Two.new w _ _ _ rfl
  obtain ⟨q1, q2, q3, q4⟩ := t0.cells
  have hq : Below (w.alloc (.cells #[.bool neg, .slice ao k cap] 29)).heap.size (w.alloc (.cells #[.bool neg, .slice ao k cap] 29)) (w.alloc (.cells #[.bool neg, .slice ao k cap] 29)) := Below.refl _ _
  have hfin : ∀ w', Below (w.alloc (.cells #[.bool neg, .slice ao k cap] 29)).heap.size (w.alloc (.cells #[.bool neg, .slice ao k cap] 29)) w' → Below w.heap.size w w' := fun w' h' => below_thenA h' (by repeat' (first | (with_reducible exact Below.refl _ _) | (with_reducible assumption) | (with_reducible refine below_alloc ?_ _ ?_) | (with_reducible refine below_set _ ?_ ?_) | (with_reducible refine Below.drew ?_) | (with_reducible refine below_dN ?_ _) | (apply below_thenA; assumption) | omega | (simp; done) | (simp; omega) | (simp [*]; done))) (by simp)
  clear eP' e1 e2 h
  by_cases hc : 0 ≤ c1
  · have hB' := Lib.hid (hB hc)
    have hd : decide (0 ≤ c1) = true := by simp [hc]
    clear hA hB
    by_cases hc2 : c2 < 0
    · have hd2 : decide (c2 < 0) = true := by simp [hc2]
      have hV : fitsB X = true := by rw [hB'.out, hd2]
      have HVV := Lib.hid hV
      clear hV
      go_enter Try.func35, Try.ntmps35
      go_wp2_with fail
      go_region_held3 (fun w' => w'.cell? ⟨w.heap.size, 0, none⟩ = some (.bool neg) ∧ w'.cell? ⟨w.heap.size, 1, none⟩ = some (.slice ao k cap))
        (first | exact ⟨q1, q2⟩ | go_keep)
        (first
        | (go_at_call 99; with_reducible refine (big_power_lit 127 127 rfl hp1 P eP _).mono ?_; rintro e w2 hB2; obtain ⟨n2, a2, k2, c2, rfl, hI2, hb2⟩ := hB2.out; (try replace hb2 := below_undrew hb2); replace hq := below_step hq hb2; replace t0 := t0.below hb2; obtain ⟨q1, q2, q3, q4⟩ := t0.cells)
        | (go_at_call 40; with_reducible refine (big_minus n2 a2 k2 c2 P _ hI2 ?_).mono ?_; (have := hI2.le sP; omega); rintro e w3 hB3; obtain ⟨n3, a3, k3, c3, rfl, hI3, hb3⟩ := hB3.out; (try replace hb3 := below_undrew hb3); replace hq := below_step hq hb3; replace t0 := t0.below hb3; obtain ⟨q1, q2, q3, q4⟩ := t0.cells)
        | (go_at_call 42; with_reducible refine (big_cmp neg n3 ao a3 k k3 cap c3 X (-P) _ (hx.keep hq) hI3 ?_ ?_).mono ?_; omega; (have := hI3.le sP.neg; omega); rintro e w4 ⟨rfl, hb4⟩; rw [E1.out]; (try replace hb4 := below_undrew hb4); replace hq := below_step hq hb4; replace t0 := t0.below hb4; obtain ⟨q1, q2, q3, q4⟩ := t0.cells)
        | (go_at_call 42; with_reducible refine (big_cmp neg n2 ao a2 k k2 cap c2 X P _ (hx.keep hq) hI2 ?_ ?_).mono ?_; omega; (have := hI2.le sP; omega); rintro e w4 ⟨rfl, hb4⟩; rw [E2.out]; (try replace hb4 := below_undrew hb4); replace hq := below_step hq hb4; replace t0 := t0.below hb4; obtain ⟨q1, q2, q3, q4⟩ := t0.cells))
      go_wp2_with fail
      go_ret
      exact ⟨by rw [HVV.out]; rfl, hfin _ hq⟩
    · have hd2 : decide (c2 < 0) = false := by simp; omega
      have hV : fitsB X = false := by rw [hB'.out, hd2]
      have HVV := Lib.hid hV
      clear hV
      go_enter Try.func35, Try.ntmps35
      go_wp2_with fail
      go_region_held3 (fun w' => w'.cell? ⟨w.heap.size, 0, none⟩ = some (.bool neg) ∧ w'.cell? ⟨w.heap.size, 1, none⟩ = some (.slice ao k cap))
        (first | exact ⟨q1, q2⟩ | go_keep)
        (first
        | (go_at_call 99; with_reducible refine (big_power_lit 127 127 rfl hp1 P eP _).mono ?_; rintro e w2 hB2; obtain ⟨n2, a2, k2, c2, rfl, hI2, hb2⟩ := hB2.out; (try replace hb2 := below_undrew hb2); replace hq := below_step hq hb2; replace t0 := t0.below hb2; obtain ⟨q1, q2, q3, q4⟩ := t0.cells)
        | (go_at_call 40; with_reducible refine (big_minus n2 a2 k2 c2 P _ hI2 ?_).mono ?_; (have := hI2.le sP; omega); rintro e w3 hB3; obtain ⟨n3, a3, k3, c3, rfl, hI3, hb3⟩ := hB3.out; (try replace hb3 := below_undrew hb3); replace hq := below_step hq hb3; replace t0 := t0.below hb3; obtain ⟨q1, q2, q3, q4⟩ := t0.cells)
        | (go_at_call 42; with_reducible refine (big_cmp neg n3 ao a3 k k3 cap c3 X (-P) _ (hx.keep hq) hI3 ?_ ?_).mono ?_; omega; (have := hI3.le sP.neg; omega); rintro e w4 ⟨rfl, hb4⟩; rw [E1.out]; (try replace hb4 := below_undrew hb4); replace hq := below_step hq hb4; replace t0 := t0.below hb4; obtain ⟨q1, q2, q3, q4⟩ := t0.cells)
        | (go_at_call 42; with_reducible refine (big_cmp neg n2 ao a2 k k2 cap c2 X P _ (hx.keep hq) hI2 ?_ ?_).mono ?_; omega; (have := hI2.le sP; omega); rintro e w4 ⟨rfl, hb4⟩; rw [E2.out]; (try replace hb4 := below_undrew hb4); replace hq := below_step hq hb4; replace t0 := t0.below hb4; obtain ⟨q1, q2, q3, q4⟩ := t0.cells))
      go_wp2_with fail
      go_ret
      exact ⟨by rw [HVV.out]; rfl, hfin _ hq⟩
  · have HVV := Lib.hid (hA (by omega))
    have hd : decide (0 ≤ c1) = false := by simp; omega
    clear hA hB
    go_enter Try.func35, Try.ntmps35
    go_wp2_with fail
    go_region_with (first
        | (go_at_call 99; with_reducible refine (big_power_lit 127 127 rfl hp1 P eP _).mono ?_; rintro e w2 hB2; obtain ⟨n2, a2, k2, c2, rfl, hI2, hb2⟩ := hB2.out; (try replace hb2 := below_undrew hb2); replace hq := below_step hq hb2; replace t0 := t0.below hb2; obtain ⟨q1, q2, q3, q4⟩ := t0.cells)
        | (go_at_call 40; with_reducible refine (big_minus n2 a2 k2 c2 P _ hI2 ?_).mono ?_; (have := hI2.le sP; omega); rintro e w3 hB3; obtain ⟨n3, a3, k3, c3, rfl, hI3, hb3⟩ := hB3.out; (try replace hb3 := below_undrew hb3); replace hq := below_step hq hb3; replace t0 := t0.below hb3; obtain ⟨q1, q2, q3, q4⟩ := t0.cells)
        | (go_at_call 42; with_reducible refine (big_cmp neg n3 ao a3 k k3 cap c3 X (-P) _ (hx.keep hq) hI3 ?_ ?_).mono ?_; omega; (have := hI3.le sP.neg; omega); rintro e w4 ⟨rfl, hb4⟩; rw [E1.out]; (try replace hb4 := below_undrew hb4); replace hq := below_step hq hb4; replace t0 := t0.below hb4; obtain ⟨q1, q2, q3, q4⟩ := t0.cells)
        | (go_at_call 42; with_reducible refine (big_cmp neg n2 ao a2 k k2 cap c2 X P _ (hx.keep hq) hI2 ?_ ?_).mono ?_; omega; (have := hI2.le sP; omega); rintro e w4 ⟨rfl, hb4⟩; rw [E2.out]; (try replace hb4 := below_undrew hb4); replace hq := below_step hq hb4; replace t0 := t0.below hb4; obtain ⟨q1, q2, q3, q4⟩ := t0.cells))
    all_goals
      go_wp2_with fail
      go_ret
      exact ⟨by rw [HVV.out]; rfl, hfin _ hq⟩
end Go.Proofs.Ythffphcgkmjhbaa
