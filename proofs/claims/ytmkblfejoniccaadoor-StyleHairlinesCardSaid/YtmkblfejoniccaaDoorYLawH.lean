/-
  The statements of layer 2 that name no reference: what each begins with; RatioScales.
-/
import Derived.Test.YtmkblfejoniccaaDoorYRatD
namespace Go.Proofs.YtmkblfejoniccaaDoor
open Go.RowKit
set_option linter.unusedSimpArgs false
set_option linter.unusedVariables false

set_option maxRecDepth 100000 in
set_option maxHeartbeats 1600000 in
theorem rat_of_zero (n : Int) (w : World) : Calls Tryd.prog 19 #[.int .i64 n, .int .i64 0] w fun e w' => e = .returned (.tuple #[.agg #[.int .i64 0, .int .i64 0], .int .i64 3]) ∧ Below w.heap.size w w' := by
  have t1 := Rx.new w (.int .i64 0) (.int .i64 0) _ rfl
  have hB1 : Below w.heap.size w (w.alloc (.cells #[.int .i64 0, .int .i64 0] 25)) := (by repeat' (first | (with_reducible exact Below.refl _ _) | (with_reducible assumption) | (with_reducible refine below_alloc ?_ _ ?_) | (with_reducible refine below_set _ ?_ ?_) | (with_reducible refine Below.drew ?_) | (with_reducible refine below_dN ?_ _) | (apply below_thenA; assumption) | omega | (simp; done) | (simp; omega) | (simp [*]; done)))
  obtain ⟨p1, p2, p3, p4⟩ := t1.cells
  go_enter Tryd.func19, Tryd.ntmps19
  go_wp2_with fail
  (go_light; simp [bodyPost, results, Tryd.results19, go_sem, *])
theorem rat_down_ok (x N D F : Int) (hx : IFit x) (hN : IFit N) (hD : IFit D) (hg : goodB N D = true) (hF : fq (x * N) D = F) (hf : IFit F) (w : World) :
    Calls Tryd.prog 104 #[.agg #[.int .i64 N, .int .i64 D], .int .i64 x] w fun e w' => e = .returned (.tuple #[.int .i64 F, .int .i64 0]) ∧ Below w.heap.size w w' := by
  subst hF
  exact (rat_down x N D hx hN hD w).mono fun _ _ h => ⟨h.2.1 hg hf, h.2.2.2⟩
theorem rat_good_ok (N D : Int) (hN : IFit N) (hD : IFit D) (hg : goodB N D = true) (w : World) :
    Calls Tryd.prog 18 #[.agg #[.int .i64 N, .int .i64 D]] w fun e w' => e = .returned (.bool true) ∧ Below w.heap.size w w' := by
  have := rat_good N D hN hD w; rwa [hg] at this
theorem rat_of_small (p q : Int) (p1 : 1 ≤ p) (p2 : p ≤ 4096) (q1 : 1 ≤ q) (q2 : q ≤ 4096) :
    ∃ N D : Int, 1 ≤ N ∧ N ≤ 4096 ∧ 1 ≤ D ∧ D ≤ 4096 ∧ goodB N D = true ∧
      ∀ W, Calls Tryd.prog 19 #[.int .i64 p, .int .i64 q] W fun e w' => e = .returned (.tuple #[.agg #[.int .i64 N, .int .i64 D], .int .i64 0]) ∧ Below W.heap.size W w' := by
  have hg : 0 < Nat.gcd p.natAbs q.natAbs := Nat.gcd_pos_of_pos_right _ (by omega)
  have hco := Nat.coprime_div_gcd_div_gcd hg
  have h1 : 0 < p.natAbs / Nat.gcd p.natAbs q.natAbs := Nat.div_pos (Nat.le_of_dvd (by omega) (Nat.gcd_dvd_left _ _)) hg
  have h2 : 0 < q.natAbs / Nat.gcd p.natAbs q.natAbs := Nat.div_pos (Nat.le_of_dvd (by omega) (Nat.gcd_dvd_right _ _)) hg
  have h3 : p.natAbs / Nat.gcd p.natAbs q.natAbs ≤ p.natAbs := Nat.div_le_self _ _
  have h4 : q.natAbs / Nat.gcd p.natAbs q.natAbs ≤ q.natAbs := Nat.div_le_self _ _
  have OF := fun W => rat_of_pos p q (by unfold IFit; omega) (by unfold IFit; omega) (by omega) (.inr (.inr ⟨by omega, by omega⟩)) _ _ rfl rfl W
  obtain ⟨A, eA⟩ : ∃ A, p.natAbs / Nat.gcd p.natAbs q.natAbs = A := ⟨_, rfl⟩
  obtain ⟨B, eB⟩ : ∃ B, q.natAbs / Nat.gcd p.natAbs q.natAbs = B := ⟨_, rfl⟩
  rw [eA, eB] at hco
  rw [eA] at h1 h3
  rw [eB] at h2 h4
  refine ⟨(A : Int), (B : Int), by omega, by omega, by omega, by omega, ?_, fun W => ?_⟩
  · unfold goodB
    rw [Int.natAbs_natCast, Int.natAbs_natCast, show Nat.gcd A B = 1 from hco]
    simp; omega
  · have h := OF W
    rw [eA, eB] at h
    refine h.mono fun e w' x => ⟨?_, x.2.2⟩
    have := x.1 ⟨by unfold limR; simp; omega, by omega⟩
    simpa using this
theorem scales_plain (x N D : Int) (x1 : -35184372088832 ≤ x) (x2 : x ≤ 35184372088831) (N1 : 1 ≤ N) (N2 : N ≤ 4096) (D1 : 1 ≤ D) (D2 : D ≤ 4096) (hg : goodB N D = true) :
    (0 ≤ x * N - fq (x * N) D * D ∧ x * N - fq (x * N) D * D < D) ∧ (-D ≤ 2 * (x * N - hq (x * N) D * D) ∧ 2 * (x * N - hq (x * N) D * D) < D) ∧
    (-144115188075855872 ≤ x * N ∧ x * N ≤ 144115188075855872) ∧ (-144115188075855872 ≤ fq (x * N) D ∧ fq (x * N) D ≤ 144115188075855872) ∧
    (hq (x * N) D = fq (x * N) D ∨ hq (x * N) D = fq (x * N) D + 1) ∧ (N = D → fq (x * N) D = x ∧ hq (x * N) D = x) := by
  have b1 : -144115188075855872 ≤ x * N ∧ x * N ≤ 144115188075855872 := by
    have h1 : (x + 35184372088832) * N ≥ 0 := Int.mul_nonneg (by omega) (by omega)
    have h2 : (35184372088832 - x) * N ≥ 0 := Int.mul_nonneg (by omega) (by omega)
    rw [Int.add_mul] at h1
    rw [Int.sub_mul] at h2
    omega
  have hfr : fr (x * N) D = x * N - fq (x * N) D * D := rfl
  have hr : 0 ≤ fr (x * N) D ∧ fr (x * N) D < D := by
    rw [fr_pos (by omega)]
    exact ⟨Int.emod_nonneg _ (by omega), Int.emod_lt_of_pos _ (by omega)⟩
  have hab := fq_abs (a := x * N) (d := D) (by omega)
  have hq1 : hq (x * N) D = fq (x * N) D ∧ ¬ D - fr (x * N) D ≤ fr (x * N) D ∨ hq (x * N) D = fq (x * N) D + 1 ∧ D - fr (x * N) D ≤ fr (x * N) D := by
    unfold hq
    by_cases h : D - fr (x * N) D ≤ fr (x * N) D
    · rw [if_pos h]; exact .inr ⟨rfl, h⟩
    · rw [if_neg h]; exact .inl ⟨rfl, h⟩
  refine ⟨by omega, ?_, b1, by omega, by omega, fun e => ?_⟩
  · rcases hq1 with ⟨h, h'⟩ | ⟨h, h'⟩
    · rw [h]; omega
    · rw [h, Int.add_mul]; omega
  · subst e
    have h1 : N = 1 := by
      unfold goodB at hg
      simp at hg
      omega
    subst h1
    have e1 : fq (x * 1) 1 = x := by unfold fq; rw [if_neg (by decide)]; omega
    refine ⟨e1, ?_⟩
    unfold hq fr
    rw [e1, if_neg (by omega)]
theorem fq_mono {a b D : Int} (hD : 1 ≤ D) (h : a ≤ b) : fq a D ≤ fq b D := by
  unfold fq
  rw [if_neg (by omega), if_neg (by omega)]
  exact Int.ediv_le_ediv (by omega) h

end Go.Proofs.YtmkblfejoniccaaDoor
