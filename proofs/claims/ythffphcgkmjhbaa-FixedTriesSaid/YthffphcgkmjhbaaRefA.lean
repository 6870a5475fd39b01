/-
  The reference of layer 4, each function by its contract: Length, Told.
-/
import Derived.Test.YthffphcgkmjhbaaBigM
namespace Go.Proofs.Ythffphcgkmjhbaa
open Go.RowKit
set_option linter.unusedSimpArgs false
set_option linter.unusedVariables false

/-- Is a whole number a length? -/
def lenB (X : Int) : Bool := decide (-17592186044416 ≤ X) && decide (X ≤ 17592186044416)
theorem lenB_hi {X : Int} (h : ¬ cmpI X 17592186044416 ≤ 0) : lenB X = false := by
  unfold cmpI at h
  unfold lenB
  have : 17592186044416 < X := by
    by_cases h1 : X < 17592186044416
    · rw [if_pos h1] at h; omega
    · rw [if_neg h1] at h
      by_cases h2 : 17592186044416 < X
      · exact h2
      · rw [if_neg h2] at h; omega
  simp; omega
theorem lenB_lo {X : Int} (h : cmpI X 17592186044416 ≤ 0) : lenB X = decide (0 ≤ cmpI X (-17592186044416)) := by
  unfold cmpI at *
  unfold lenB
  have : X ≤ 17592186044416 := by
    by_cases h1 : X < 17592186044416
    · omega
    · rw [if_neg h1] at h
      by_cases h2 : 17592186044416 < X
      · rw [if_pos h2] at h; omega
      · omega
  by_cases h3 : X < -17592186044416
  · simp [h3]; omega
  · simp only [if_neg h3]
    split <;> simp <;> omega

set_option maxRecDepth 100000 in
set_option maxHeartbeats 1600000 in
theorem ref_length (neg : Bool) (ao : Option Addr) (k cap : Nat) (X : Int) (w : World) (h : IsBig w neg ao k cap X) (hk : k ≤ 100000) :
    Calls Try.prog 119 #[.agg #[.bool neg, .slice ao k cap]] w fun e w' => e = .returned (.bool (lenB X)) ∧ Below w.heap.size w w' := by
  obtain ⟨M, eM⟩ : ∃ M : Int, M = 17592186044416 := ⟨_, rfl⟩
  have eP : M = ((2 ^ 44 : Nat) : Int) := by rw [eM]; decide
  have sM : BM.Sz M 4 := by rw [eM]; unfold BM.Sz; decide
  obtain ⟨c1, e1⟩ : ∃ c1, c1 = cmpI X M := ⟨_, rfl⟩
  obtain ⟨c2, e2⟩ : ∃ c2, c2 = cmpI X (-M) := ⟨_, rfl⟩
  have E1 := Lib.hid e1.symm
  have E2 := Lib.hid e2.symm
  have hA : ¬ c1 ≤ 0 → lenB X = false := fun h => lenB_hi (by rw [← eM, ← e1]; exact h)
  have hB : c1 ≤ 0 → lenB X = decide (0 ≤ c2) := fun h => by rw [lenB_lo (by rw [← eM, ← e1]; exact h), ← eM, ← e2]
  have t0 : Two (w.alloc (.cells #[.bool neg, .slice ao k cap] 29)) w.heap.size (.bool neg) (.slice ao k cap) := Two.new w _ _ _ rfl
  clear eM e1 e2
  by_cases hc : c1 ≤ 0
  · have HVV := Lib.hid (hB hc)
    have hd : decide (c1 ≤ 0) = true := by simp [hc]
    clear hA hB hc
    go_enter Try.func119, Try.ntmps119
    go_wp2_with fail
    refine (big_power_lit 44 44 rfl (by omega) M eP _).mono ?_
    rintro e w1 ⟨m3, b3, j3, d3, rfl, hM, hb1⟩
    replace t0 := (t0.below hb1).alloc (.cells #[.bool m3, .slice b3 j3 d3] 29)
    have t1 : Two (w1.alloc (.cells #[.bool m3, .slice b3 j3 d3] 29)) w1.heap.size (.bool m3) (.slice b3 j3 d3) := Two.new w1 _ _ _ rfl
    replace hM := hM.keep (w' := w1.alloc (.cells #[.bool m3, .slice b3 j3 d3] 29)) (by repeat' (first | (with_reducible exact Below.refl _ _) | (with_reducible assumption) | (with_reducible refine below_alloc ?_ _ ?_) | (with_reducible refine below_set _ ?_ ?_) | (with_reducible refine Below.drew ?_) | (with_reducible refine below_dN ?_ _) | (apply below_thenA; assumption) | omega | (simp; done) | (simp; omega) | (simp [*]; done)))
    have hx := ((h.keep (w' := w.alloc (.cells #[.bool neg, .slice ao k cap] 29)) (by repeat' (first | (with_reducible exact Below.refl _ _) | (with_reducible assumption) | (with_reducible refine below_alloc ?_ _ ?_) | (with_reducible refine below_set _ ?_ ?_) | (with_reducible refine Below.drew ?_) | (with_reducible refine below_dN ?_ _) | (apply below_thenA; assumption) | omega | (simp; done) | (simp; omega) | (simp [*]; done)))).keep hb1).keep (w' := w1.alloc (.cells #[.bool m3, .slice b3 j3 d3] 29)) (by repeat' (first | (with_reducible exact Below.refl _ _) | (with_reducible assumption) | (with_reducible refine below_alloc ?_ _ ?_) | (with_reducible refine below_set _ ?_ ?_) | (with_reducible refine Below.drew ?_) | (with_reducible refine below_dN ?_ _) | (apply below_thenA; assumption) | omega | (simp; done) | (simp; omega) | (simp [*]; done)))
    have hs1 : w.heap.size + 1 ≤ w1.heap.size := by have := hb1.size; simpa using this
    have hB1 : Below w.heap.size w (w1.alloc (.cells #[.bool m3, .slice b3 j3 d3] 29)) := (by repeat' (first | (with_reducible exact Below.refl _ _) | (with_reducible assumption) | (with_reducible refine below_alloc ?_ _ ?_) | (with_reducible refine below_set _ ?_ ?_) | (with_reducible refine Below.drew ?_) | (with_reducible refine below_dN ?_ _) | (apply below_thenA; assumption) | omega | (simp; done) | (simp; omega) | (simp [*]; done)))
    have hq : Below (w1.alloc (.cells #[.bool m3, .slice b3 j3 d3] 29)).heap.size (w1.alloc (.cells #[.bool m3, .slice b3 j3 d3] 29)) (w1.alloc (.cells #[.bool m3, .slice b3 j3 d3] 29)) := Below.refl _ _
    have hfin : ∀ w', Below (w1.alloc (.cells #[.bool m3, .slice b3 j3 d3] 29)).heap.size (w1.alloc (.cells #[.bool m3, .slice b3 j3 d3] 29)) w' → Below w.heap.size w w' := fun w' h' => hB1.trans (h'.mono hB1.size)
    clear hb1 hB1 hs1
    obtain ⟨q1, q2, q3, q4⟩ := t0.cells
    obtain ⟨r1, r2, r3, r4⟩ := t1.cells
    go_wp2_with fail
    go_region_held3 (fun w' => w'.cell? ⟨w.heap.size, 0, none⟩ = some (.bool neg) ∧ w'.cell? ⟨w.heap.size, 1, none⟩ = some (.slice ao k cap) ∧ w'.cell? ⟨w1.heap.size, 0, none⟩ = some (.bool m3) ∧ w'.cell? ⟨w1.heap.size, 1, none⟩ = some (.slice b3 j3 d3))
      (first | exact ⟨q1, q2, r1, r2⟩ | go_keep)
      (first
      | (go_at_call 42; with_reducible refine (big_cmp neg m3 ao b3 k j3 cap d3 X M _ (hx.keep (Below.drew hq)) (hM.keep (Below.drew hq)) ?_ ?_).mono ?_; omega; (have := hM.le sM; omega); rintro e w5 ⟨rfl, hb4⟩; rw [E1.out]; (try replace hb4 := below_undrew hb4); replace hq := below_step hq hb4; replace t0 := t0.below hb4; replace t1 := t1.below hb4; obtain ⟨q1, q2, q3, q4⟩ := t0.cells; obtain ⟨r1, r2, r3, r4⟩ := t1.cells)
      | (go_at_call 40; with_reducible refine (big_minus m3 b3 j3 d3 M _ (hM.keep hq) ?_).mono ?_; (have := hM.le sM; omega); rintro e w6 hB6; obtain ⟨n6, a6, k6, c6, rfl, hI6, hb4⟩ := hB6.out; (try replace hb4 := below_undrew hb4); replace hq := below_step hq hb4; replace t0 := t0.below hb4; replace t1 := t1.below hb4; obtain ⟨q1, q2, q3, q4⟩ := t0.cells; obtain ⟨r1, r2, r3, r4⟩ := t1.cells)
      | (go_at_call 42; with_reducible refine (big_cmp neg n6 ao a6 k k6 cap c6 X (-M) _ (hx.keep hq) hI6 ?_ ?_).mono ?_; omega; (have := hI6.le sM.neg; omega); rintro e w7 ⟨rfl, hb4⟩; rw [E2.out]; (try replace hb4 := below_undrew hb4); replace hq := below_step hq hb4; replace t0 := t0.below hb4; replace t1 := t1.below hb4; obtain ⟨q1, q2, q3, q4⟩ := t0.cells; obtain ⟨r1, r2, r3, r4⟩ := t1.cells))
    go_wp2_with fail
    go_ret
    exact ⟨by rw [HVV.out]; rfl, hfin _ hq⟩
  · have HVV := Lib.hid (hA hc)
    have hd : decide (c1 ≤ 0) = false := by simp; omega
    clear hA hB
    go_enter Try.func119, Try.ntmps119
    go_wp2_with fail
    refine (big_power_lit 44 44 rfl (by omega) M eP _).mono ?_
    rintro e w1 ⟨m3, b3, j3, d3, rfl, hM, hb1⟩
    replace t0 := (t0.below hb1).alloc (.cells #[.bool m3, .slice b3 j3 d3] 29)
    have t1 : Two (w1.alloc (.cells #[.bool m3, .slice b3 j3 d3] 29)) w1.heap.size (.bool m3) (.slice b3 j3 d3) := Two.new w1 _ _ _ rfl
    replace hM := hM.keep (w' := w1.alloc (.cells #[.bool m3, .slice b3 j3 d3] 29)) (by repeat' (first | (with_reducible exact Below.refl _ _) | (with_reducible assumption) | (with_reducible refine below_alloc ?_ _ ?_) | (with_reducible refine below_set _ ?_ ?_) | (with_reducible refine Below.drew ?_) | (with_reducible refine below_dN ?_ _) | (apply below_thenA; assumption) | omega | (simp; done) | (simp; omega) | (simp [*]; done)))
    have hx := ((h.keep (w' := w.alloc (.cells #[.bool neg, .slice ao k cap] 29)) (by repeat' (first | (with_reducible exact Below.refl _ _) | (with_reducible assumption) | (with_reducible refine below_alloc ?_ _ ?_) | (with_reducible refine below_set _ ?_ ?_) | (with_reducible refine Below.drew ?_) | (with_reducible refine below_dN ?_ _) | (apply below_thenA; assumption) | omega | (simp; done) | (simp; omega) | (simp [*]; done)))).keep hb1).keep (w' := w1.alloc (.cells #[.bool m3, .slice b3 j3 d3] 29)) (by repeat' (first | (with_reducible exact Below.refl _ _) | (with_reducible assumption) | (with_reducible refine below_alloc ?_ _ ?_) | (with_reducible refine below_set _ ?_ ?_) | (with_reducible refine Below.drew ?_) | (with_reducible refine below_dN ?_ _) | (apply below_thenA; assumption) | omega | (simp; done) | (simp; omega) | (simp [*]; done)))
    have hs1 : w.heap.size + 1 ≤ w1.heap.size := by have := hb1.size; simpa using this
    have hB1 : Below w.heap.size w (w1.alloc (.cells #[.bool m3, .slice b3 j3 d3] 29)) := (by repeat' (first | (with_reducible exact Below.refl _ _) | (with_reducible assumption) | (with_reducible refine below_alloc ?_ _ ?_) | (with_reducible refine below_set _ ?_ ?_) | (with_reducible refine Below.drew ?_) | (with_reducible refine below_dN ?_ _) | (apply below_thenA; assumption) | omega | (simp; done) | (simp; omega) | (simp [*]; done)))
    have hq : Below (w1.alloc (.cells #[.bool m3, .slice b3 j3 d3] 29)).heap.size (w1.alloc (.cells #[.bool m3, .slice b3 j3 d3] 29)) (w1.alloc (.cells #[.bool m3, .slice b3 j3 d3] 29)) := Below.refl _ _
    have hfin : ∀ w', Below (w1.alloc (.cells #[.bool m3, .slice b3 j3 d3] 29)).heap.size (w1.alloc (.cells #[.bool m3, .slice b3 j3 d3] 29)) w' → Below w.heap.size w w' := fun w' h' => hB1.trans (h'.mono hB1.size)
    clear hb1 hB1 hs1
    obtain ⟨q1, q2, q3, q4⟩ := t0.cells
    obtain ⟨r1, r2, r3, r4⟩ := t1.cells
    go_wp2_with fail
    go_region_with (first
      | (go_at_call 42; with_reducible refine (big_cmp neg m3 ao b3 k j3 cap d3 X M _ (hx.keep (Below.drew hq)) (hM.keep (Below.drew hq)) ?_ ?_).mono ?_; omega; (have := hM.le sM; omega); rintro e w5 ⟨rfl, hb4⟩; rw [E1.out]; (try replace hb4 := below_undrew hb4); replace hq := below_step hq hb4; replace t0 := t0.below hb4; replace t1 := t1.below hb4; obtain ⟨q1, q2, q3, q4⟩ := t0.cells; obtain ⟨r1, r2, r3, r4⟩ := t1.cells)
      | (go_at_call 40; with_reducible refine (big_minus m3 b3 j3 d3 M _ (hM.keep hq) ?_).mono ?_; (have := hM.le sM; omega); rintro e w6 hB6; obtain ⟨n6, a6, k6, c6, rfl, hI6, hb4⟩ := hB6.out; (try replace hb4 := below_undrew hb4); replace hq := below_step hq hb4; replace t0 := t0.below hb4; replace t1 := t1.below hb4; obtain ⟨q1, q2, q3, q4⟩ := t0.cells; obtain ⟨r1, r2, r3, r4⟩ := t1.cells)
      | (go_at_call 42; with_reducible refine (big_cmp neg n6 ao a6 k k6 cap c6 X (-M) _ (hx.keep hq) hI6 ?_ ?_).mono ?_; omega; (have := hI6.le sM.neg; omega); rintro e w7 ⟨rfl, hb4⟩; rw [E2.out]; (try replace hb4 := below_undrew hb4); replace hq := below_step hq hb4; replace t0 := t0.below hb4; replace t1 := t1.below hb4; obtain ⟨q1, q2, q3, q4⟩ := t0.cells; obtain ⟨r1, r2, r3, r4⟩ := t1.cells))
    all_goals
      go_wp2_with fail
      go_ret
      exact ⟨by rw [HVV.out]; rfl, hfin _ hq⟩
set_option maxRecDepth 100000 in
set_option maxHeartbeats 1600000 in
theorem ref_told (neg : Bool) (ao : Option Addr) (k cap : Nat) (X : Int) (w : World) (h : IsBig w neg ao k cap X) (hk : k ≤ 100000) :
    Calls Try.prog 70 #[.agg #[.bool neg, .slice ao k cap]] w fun e w' => e = .returned (.tuple #[.int .i64 (if lenB X then X else 0), .int .i64 (if lenB X then 0 else 2)]) ∧ Below w.heap.size w w' := by
  have LN := fun W (hW : IsBig W neg ao k cap X) => ref_length neg ao k cap X W hW hk
  have IN := fun W (hW : IsBig W neg ao k cap X) => big_int neg ao k cap X W hW hk
  have t0 : Two (w.alloc (.cells #[.bool neg, .slice ao k cap] 29)) w.heap.size (.bool neg) (.slice ao k cap) := Two.new w _ _ _ rfl
  have hx := h.keep (w' := w.alloc (.cells #[.bool neg, .slice ao k cap] 29)) (by repeat' (first | (with_reducible exact Below.refl _ _) | (with_reducible assumption) | (with_reducible refine below_alloc ?_ _ ?_) | (with_reducible refine below_set _ ?_ ?_) | (with_reducible refine Below.drew ?_) | (with_reducible refine below_dN ?_ _) | (apply below_thenA; assumption) | omega | (simp; done) | (simp; omega) | (simp [*]; done)))
  have hB : Below w.heap.size w (w.alloc (.cells #[.bool neg, .slice ao k cap] 29)) := (by repeat' (first | (with_reducible exact Below.refl _ _) | (with_reducible assumption) | (with_reducible refine below_alloc ?_ _ ?_) | (with_reducible refine below_set _ ?_ ?_) | (with_reducible refine Below.drew ?_) | (with_reducible refine below_dN ?_ _) | (apply below_thenA; assumption) | omega | (simp; done) | (simp; omega) | (simp [*]; done)))
  obtain ⟨q1, q2, q3, q4⟩ := t0.cells
  clear h
  cases hl : lenB X
  · rw [hl] at LN
    clear hl
    go_enter Try.func70, Try.ntmps70
    go_wp2_with fail
    refine (LN _ hx).mono ?_
    rintro e w1 ⟨rfl, hb1⟩
    replace hB := hB.trans (hb1.mono hB.size)
    go_wp2_with fail
    go_ret2
    exact ⟨rfl, hB⟩
  · have hfit : intB X = true := by unfold lenB at hl; unfold intB; simp at hl ⊢; omega
    have hV : intV X = X := by unfold intV; rw [hfit]; rfl
    rw [hl] at LN
    rw [hV] at IN
    clear hl hfit hV
    go_enter Try.func70, Try.ntmps70
    go_wp2_with fail
    refine (LN _ hx).mono ?_
    rintro e w1 ⟨rfl, hb1⟩
    replace hB := hB.trans (hb1.mono hB.size)
    replace t0 := t0.below hb1
    replace hx := hx.keep hb1
    clear q1 q2 q3 q4
    obtain ⟨q1, q2, q3, q4⟩ := t0.cells
    go_wp2_with fail
    refine (IN _ hx).mono ?_
    rintro e w2 ⟨rfl, hb2⟩
    replace hB := hB.trans (hb2.mono hB.size)
    go_wp2_with fail
    go_ret2
    exact ⟨rfl, hB⟩
end Go.Proofs.Ythffphcgkmjhbaa
