/-
  The functions of package ratio, each by its contract: Times of a ratio that may not be; Of whatever it is given.
-/
import Derived.Test.YthffphcgkmjhbaaRatG
namespace Go.Proofs.Ythffphcgkmjhbaa
open Go.RowKit
set_option linter.unusedSimpArgs false
set_option linter.unusedVariables false

set_option maxRecDepth 100000 in
set_option maxHeartbeats 1600000 in
theorem rat_times_bad (n1 d1 n2 d2 : Int) (hn1 : IFit n1) (hd1 : IFit d1) (hn2 : IFit n2) (hd2 : IFit d2) (hg : (goodB n1 d1 && goodB n2 d2) = false) (w : World) :
    Calls Try.prog 94 #[.agg #[.int .i64 n1, .int .i64 d1], .agg #[.int .i64 n2, .int .i64 d2]] w fun e w' => e = .returned (.tuple #[.agg #[.int .i64 0, .int .i64 0], .int .i64 1]) ∧ Below w.heap.size w w' := by
  have G1 := rat_good n1 d1 hn1 hd1
  have G2 := rat_good n2 d2 hn2 hd2
  have t1 := (Blk.new w #[.int .i64 n1, .int .i64 d1] 57 _ rfl).alloc (.cells #[.int .i64 n2, .int .i64 d2] 57) |>.alloc (.cells #[.int .i64 0, .int .i64 0] 57)
  have t2 := (Blk.new (w.alloc (.cells #[.int .i64 n1, .int .i64 d1] 57)) #[.int .i64 n2, .int .i64 d2] 57 (w.heap.size + 1) (by simp)).alloc (.cells #[.int .i64 0, .int .i64 0] 57)
  have t4 := Blk.new ((w.alloc (.cells #[.int .i64 n1, .int .i64 d1] 57)).alloc (.cells #[.int .i64 n2, .int .i64 d2] 57)) #[.int .i64 0, .int .i64 0] 57 (w.heap.size + 1 + 1) (by simp)
  have hB : Below w.heap.size w (((w.alloc (.cells #[.int .i64 n1, .int .i64 d1] 57)).alloc (.cells #[.int .i64 n2, .int .i64 d2] 57)).alloc (.cells #[.int .i64 0, .int .i64 0] 57)) := (by repeat' (first | (with_reducible exact Below.refl _ _) | (with_reducible assumption) | (with_reducible refine below_alloc ?_ _ ?_) | (with_reducible refine below_set _ ?_ ?_) | (with_reducible refine Below.drew ?_) | (with_reducible refine below_dN ?_ _) | (apply below_thenA; assumption) | omega | (simp; done) | (simp; omega) | (simp [*]; done)))
  have c0 := t1.cell 0 _ rfl
  have c1 := t1.cell 1 _ rfl
  cases h1 : goodB n1 d1
  · rw [h1] at G1
    clear h1 hg hn1 hd1 hn2 hd2
    go_enter Try.func94, Try.ntmps94
    go_wp2_with fail
    refine (G1 _).mono ?_
    rintro e w1 ⟨rfl, hb1⟩
    replace hB := hB.trans (hb1.mono hB.size)
    replace t4 := t4.below hb1
    clear c0 c1
    have c0 := t4.cell 0 _ rfl
    have c1 := t4.cell 1 _ rfl
    have c2 := t4.free 0
    have c3 := t4.free 1
    have hsz := hB.size
    go_wp2_with fail
    (go_light; simp [bodyPost, results, Try.results94, go_sem, *])
    try exact ⟨rfl, (by repeat' (first | (with_reducible exact Below.refl _ _) | (with_reducible assumption) | (with_reducible refine below_alloc ?_ _ ?_) | (with_reducible refine below_set _ ?_ ?_) | (with_reducible refine Below.drew ?_) | (with_reducible refine below_dN ?_ _) | (apply below_thenA; assumption) | omega | (simp; done) | (simp; omega) | (simp [*]; done)))⟩
    try exact (by repeat' (first | (with_reducible exact Below.refl _ _) | (with_reducible assumption) | (with_reducible refine below_alloc ?_ _ ?_) | (with_reducible refine below_set _ ?_ ?_) | (with_reducible refine Below.drew ?_) | (with_reducible refine below_dN ?_ _) | (apply below_thenA; assumption) | omega | (simp; done) | (simp; omega) | (simp [*]; done)))
  · rw [h1] at G1 hg
    rw [show goodB n2 d2 = false by simpa using hg] at G2
    clear h1 hg hn1 hd1 hn2 hd2
    go_enter Try.func94, Try.ntmps94
    go_wp2_with fail
    refine (G1 _).mono ?_
    rintro e w1 ⟨rfl, hb1⟩
    replace hB := hB.trans (hb1.mono hB.size)
    replace t2 := t2.below hb1
    replace t4 := t4.below hb1
    clear c0 c1
    have c0 := t2.cell 0 _ rfl
    have c1 := t2.cell 1 _ rfl
    go_wp2_with fail
    refine (G2 _).mono ?_
    rintro e w2 ⟨rfl, hb2⟩
    replace hB := hB.trans (hb2.mono hB.size)
    replace t4 := t4.below hb2
    clear c0 c1
    have c0 := t4.cell 0 _ rfl
    have c1 := t4.cell 1 _ rfl
    have c2 := t4.free 0
    have c3 := t4.free 1
    have hsz := hB.size
    go_wp2_with fail
    (go_light; simp [bodyPost, results, Try.results94, go_sem, *])
    try exact ⟨rfl, (by repeat' (first | (with_reducible exact Below.refl _ _) | (with_reducible assumption) | (with_reducible refine below_alloc ?_ _ ?_) | (with_reducible refine below_set _ ?_ ?_) | (with_reducible refine Below.drew ?_) | (with_reducible refine below_dN ?_ _) | (apply below_thenA; assumption) | omega | (simp; done) | (simp; omega) | (simp [*]; done)))⟩
    try exact (by repeat' (first | (with_reducible exact Below.refl _ _) | (with_reducible assumption) | (with_reducible refine below_alloc ?_ _ ?_) | (with_reducible refine below_set _ ?_ ?_) | (with_reducible refine Below.drew ?_) | (with_reducible refine below_dN ?_ _) | (apply below_thenA; assumption) | omega | (simp; done) | (simp; omega) | (simp [*]; done)))
/-- What Of answers, whatever it is given. -/
def ofB (n d : Int) : Bool := intB (numR n d) && intB (denR n d)
theorem ofB_iff {n d : Int} : ofB n d = true ↔ fitR n d := by
  unfold ofB fitR
  rw [Bool.and_eq_true, intB_iff', intB_iff']
def ofN (n d : Int) : Int := if d = 0 then 0 else if ofB n d then numR n d else 0
def ofD (n d : Int) : Int := if d = 0 then 0 else if ofB n d then denR n d else 0
def ofE (n d : Int) : Int := if d = 0 then 3 else if ofB n d then 0 else 2
theorem rat_of_all (n d : Int) (hn : IFit n) (hd : IFit d) (w : World) :
    Calls Try.prog 44 #[.int .i64 n, .int .i64 d] w fun e w' => e = .returned (.tuple #[.agg #[.int .i64 (ofN n d), .int .i64 (ofD n d)], .int .i64 (ofE n d)]) ∧ Below w.heap.size w w' := by
  unfold ofN ofD ofE
  by_cases h0 : d = 0
  · subst h0
    simp only [if_true]
    exact rat_of_zero n w
  · simp only [if_neg h0]
    refine (rat_of_any n d hn hd h0 w).mono fun e w' h => ?_
    by_cases hf : ofB n d = true
    · simp only [if_pos hf]
      exact ⟨h.1 (ofB_iff.1 hf), h.2.2⟩
    · simp only [if_neg hf]
      exact ⟨h.2.1 (fun x => hf (ofB_iff.2 x)), h.2.2⟩
theorem ofE_zero {n d : Int} (h : ofE n d = 0) : IFit (ofN n d) ∧ IFit (ofD n d) ∧ goodB (ofN n d) (ofD n d) = true := by
  unfold ofE at h
  by_cases h0 : d = 0
  · rw [if_pos h0] at h; cases h
  · rw [if_neg h0] at h
    by_cases hf : ofB n d = true
    · unfold ofN ofD
      simp only [if_neg h0, if_pos hf]
      have := ofB_iff.1 hf
      exact ⟨this.1, this.2, good_low n d h0⟩
    · rw [if_neg hf] at h; cases h
end Go.Proofs.Ythffphcgkmjhbaa
