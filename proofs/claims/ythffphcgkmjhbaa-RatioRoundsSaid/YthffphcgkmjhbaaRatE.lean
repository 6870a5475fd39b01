/-
  The functions of package ratio, each by its contract. Fifth part: Half, where the ratio may not be.
-/
import Derived.Test.YthffphcgkmjhbaaRatD
namespace Go.Proofs.Ythffphcgkmjhbaa
open Go.RowKit
set_option linter.unusedSimpArgs false
set_option linter.unusedVariables false

set_option maxRecDepth 100000 in
set_option maxHeartbeats 1600000 in
theorem rat_half_bad (x N D : Int) (hN : IFit N) (hD : IFit D) (hg : goodB N D = false) (w : World) :
    Calls Try.prog 50 #[.agg #[.int .i64 N, .int .i64 D], .int .i64 x] w fun e w' => e = .returned (.tuple #[.int .i64 0, .int .i64 1]) ∧ Below w.heap.size w w' := by
  have GD := rat_good N D hN hD
  rw [hg] at GD
  have t := Rx.new w (.int .i64 N) (.int .i64 D) _ rfl
  have hB : Below w.heap.size w (w.alloc (.cells #[.int .i64 N, .int .i64 D] 57)) := (by repeat' (first | (with_reducible exact Below.refl _ _) | (with_reducible assumption) | (with_reducible refine below_alloc ?_ _ ?_) | (with_reducible refine below_set _ ?_ ?_) | (with_reducible refine Below.drew ?_) | (with_reducible refine below_dN ?_ _) | (apply below_thenA; assumption) | omega | (simp; done) | (simp; omega) | (simp [*]; done)))
  obtain ⟨p1, p2, p3, p4⟩ := t.cells
  clear hg
  go_enter Try.func50, Try.ntmps50
  go_wp2_with fail
  refine (GD _).mono ?_
  rintro e w1 ⟨rfl, hb1⟩
  replace hB := hB.trans (hb1.mono hB.size)
  go_wp2_with fail
  go_ret2
  exact ⟨rfl, hB⟩
/-- Half, whatever it is given. -/
theorem rat_half (x N D : Int) (hx : IFit x) (hN : IFit N) (hD : IFit D) (w : World) :
    Calls Try.prog 50 #[.agg #[.int .i64 N, .int .i64 D], .int .i64 x] w (HalfAns x N D w) := by
  by_cases hg : goodB N D = true
  · exact (rat_half_good x N D hx hN hD hg w).mono fun _ _ h => ⟨fun e => absurd (hg.symm.trans e) (by decide), fun _ => h.1, fun _ => h.2.1, h.2.2⟩
  · have hg' : goodB N D = false := by simpa using hg
    exact (rat_half_bad x N D hN hD hg' w).mono fun _ _ h => ⟨fun _ => h.1, fun e => absurd e hg, fun e => absurd e hg, h.2⟩
end Go.Proofs.Ythffphcgkmjhbaa
