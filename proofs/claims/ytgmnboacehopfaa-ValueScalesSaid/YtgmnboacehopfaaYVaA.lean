/-
  Package value: In, whatever comes; the reference's In.
-/
import Derived.Test.YtgmnboacehopfaaYGrD
import Derived.Test.YtgmnboacehopfaaZ6
namespace Go.Proofs.Ytgmnboacehopfaa
open Go.RowKit
set_option linter.unusedSimpArgs false
set_option linter.unusedVariables false

/-- A value in device units: the length, whether it is one, why it was given up. -/
def vI (kind N base p q : Int) : Int × Bool × Int :=
  if kind = 3 then (scaleN N p q, scaleE N p q == 0, scaleE N p q) else if kind = 4 then (partN base N 6400, partE base N 6400 == 0, partE base N 6400) else (0, false, 0)
def VGives (n : Int) (ok : Bool) (c : Int) (w : World) (e : Ending) (w' : World) : Prop := (c = 0 → e = .returned (.tuple #[.int .i64 n, .bool ok])) ∧ (c ≠ 0 → e = .panicked (gave c)) ∧ Below w.heap.size w w'
theorem partN_no {a n d : Int} (h : partE a n d ≠ 0) : partN a n d = 0 := by
  unfold partE at h
  unfold partN
  split
  · rfl
  · rename_i h0
    rw [if_neg h0] at h
    split
    · rename_i h1; rw [if_pos h1] at h; exact absurd rfl h
    · rfl
theorem scaleN_no {n p q : Int} (h : scaleE n p q ≠ 0) : scaleN n p q = 0 := by
  unfold scaleE at h
  unfold scaleN
  split
  · rename_i h0; rw [if_pos h0] at h; exact partN_no h
  · rfl
theorem vI_err {kind N base p q : Int} (h : (vI kind N base p q).2.2 ≠ 0) : (vI kind N base p q).1 = 0 ∧ (vI kind N base p q).2.1 = false := by
  unfold vI at h ⊢
  split
  · rename_i h0
    rw [if_pos h0] at h
    exact ⟨scaleN_no h, by simpa using h⟩
  · rename_i h0
    rw [if_neg h0] at h
    split
    · rename_i h1
      rw [if_pos h1] at h
      exact ⟨partN_no (a := base) (n := N) (d := 6400) h, by simpa using h⟩
    · exact ⟨rfl, rfl⟩
set_option maxRecDepth 100000 in
set_option maxHeartbeats 1600000 in
theorem val_in (kind N base p q : Int) (hN : IFit N) (hb : IFit base) (hp : IFit p) (hq : IFit q) (w : World) :
    Calls Try.prog 20 #[.agg #[.int .i64 kind, .int .i64 N], .int .i64 base, .agg #[.int .i64 p, .int .i64 q]] w (VGives (vI kind N base p q).1 (vI kind N base p q).2.1 (vI kind N base p q).2.2 w) := by
  have c1 := fun W => fix_scale N p q hN hp hq W
  have c2 := fun W => fix_part_any base N 6400 hb hN (by unfold IFit; omega) W
  unfold Gives at c1 c2
  obtain ⟨Q, eQ⟩ : ∃ Q, Q = VGives (vI kind N base p q).1 (vI kind N base p q).2.1 (vI kind N base p q).2.2 w := ⟨_, rfl⟩
  rw [← eQ]
  have t1 := (Blk.new w #[.int .i64 kind, .int .i64 N] 55 _ rfl).alloc (.cells #[.int .i64 p, .int .i64 q] 51)
  have t2 := Blk.new (w.alloc (.cells #[.int .i64 kind, .int .i64 N] 55)) #[.int .i64 p, .int .i64 q] 51 (w.heap.size + 1) (by simp)
  have hB : Below w.heap.size w ((w.alloc (.cells #[.int .i64 kind, .int .i64 N] 55)).alloc (.cells #[.int .i64 p, .int .i64 q] 51)) := (by repeat' (first | (with_reducible exact Below.refl _ _) | (with_reducible assumption) | (with_reducible refine below_alloc ?_ _ ?_) | (with_reducible refine below_set _ ?_ ?_) | (with_reducible refine Below.drew ?_) | (with_reducible refine below_dN ?_ _) | (apply below_thenA; assumption) | omega | (simp; done) | (simp; omega) | (simp [*]; done)))
  have hs := hB.size
  have HB := Lib.hid hB
  clear hB hN hb hp hq
  have q0 := t1.cell 0 _ rfl
  have q1 := t1.cell 1 _ rfl
  have q2 := t2.cell 0 _ rfl
  have q3 := t2.cell 1 _ rfl
  by_cases k3 : kind = 3
  · subst k3
    unfold vI at eQ
    rw [if_pos rfl] at eQ
    obtain ⟨n, en⟩ : ∃ n, scaleN N p q = n := ⟨_, rfl⟩
    obtain ⟨c, ec⟩ : ∃ n, scaleE N p q = n := ⟨_, rfl⟩
    rw [en, ec] at eQ
    simp only [en, ec] at c1
    have EQ := Lib.hid eQ
    clear eQ c2
    by_cases h : c = 0
    · have C : ∀ W, Calls Try.prog 31 #[.int .i64 N, .agg #[.int .i64 p, .int .i64 q]] W fun e w' => e = .returned (.int .i64 n) ∧ Below W.heap.size W w' := fun W => (c1 W).mono fun e w' g => ⟨g.1 h, g.2.2⟩
      have H := Lib.hid h
      clear c1 h
      go_enter Try.func20, Try.ntmps20
      go_wp2_with (go_at_call 31; with_reducible refine (C _).mono ?_; rintro e w1 ⟨rfl, hb1⟩)
      rw [EQ.out]
      exact ⟨fun _ => by rw [H.out]; rfl, fun g => absurd H.out g, HB.out.trans (hb1.mono hs)⟩
    · have C : ∀ W, Calls Try.prog 31 #[.int .i64 N, .agg #[.int .i64 p, .int .i64 q]] W fun e w' => e = .panicked (gave c) ∧ Below W.heap.size W w' := fun W => (c1 W).mono fun e w' g => ⟨g.2.1 h, g.2.2⟩
      have H := Lib.hid h
      clear c1 h
      go_enter Try.func20, Try.ntmps20
      go_wp2_with (go_at_call 31; with_reducible refine (C _).mono ?_; rintro e w1 ⟨rfl, hb1⟩)
      simp only [bodyPost]
      rw [EQ.out]
      exact ⟨trivial, fun g => absurd g H.out, fun _ => rfl, HB.out.trans (hb1.mono hs)⟩
  by_cases k4 : kind = 4
  · subst k4
    unfold vI at eQ
    rw [if_neg (by omega), if_pos rfl] at eQ
    obtain ⟨n, en⟩ : ∃ n, partN base N 6400 = n := ⟨_, rfl⟩
    obtain ⟨c, ec⟩ : ∃ n, partE base N 6400 = n := ⟨_, rfl⟩
    rw [en, ec] at eQ
    simp only [en, ec] at c2
    have EQ := Lib.hid eQ
    clear eQ c1 k3
    by_cases h : c = 0
    · have C : ∀ W, Calls Try.prog 38 #[.int .i64 base, .int .i64 N, .int .i64 6400] W fun e w' => e = .returned (.int .i64 n) ∧ Below W.heap.size W w' := fun W => (c2 W).mono fun e w' g => ⟨g.1 h, g.2.2⟩
      have H := Lib.hid h
      clear c2 h
      go_enter Try.func20, Try.ntmps20
      go_wp2_with (go_at_call 38; with_reducible refine (C _).mono ?_; rintro e w1 ⟨rfl, hb1⟩)
      rw [EQ.out]
      exact ⟨fun _ => by rw [H.out]; rfl, fun g => absurd H.out g, HB.out.trans (hb1.mono hs)⟩
    · have C : ∀ W, Calls Try.prog 38 #[.int .i64 base, .int .i64 N, .int .i64 6400] W fun e w' => e = .panicked (gave c) ∧ Below W.heap.size W w' := fun W => (c2 W).mono fun e w' g => ⟨g.2.1 h, g.2.2⟩
      have H := Lib.hid h
      clear c2 h
      go_enter Try.func20, Try.ntmps20
      go_wp2_with (go_at_call 38; with_reducible refine (C _).mono ?_; rintro e w1 ⟨rfl, hb1⟩)
      simp only [bodyPost]
      rw [EQ.out]
      exact ⟨trivial, fun g => absurd g H.out, fun _ => rfl, HB.out.trans (hb1.mono hs)⟩
  · unfold vI at eQ
    rw [if_neg k3, if_neg k4] at eQ
    have EQ := Lib.hid eQ
    have b3 : (kind == 3) = false := by simp [k3]
    have b4 : (kind == 4) = false := by simp [k4]
    clear eQ c1 c2 k3 k4
    go_enter Try.func20, Try.ntmps20
    go_wp2_with fail
    rw [EQ.out]
    exact ⟨fun _ => rfl, fun g => absurd rfl g, HB.out⟩
set_option maxRecDepth 100000 in
set_option maxHeartbeats 1600000 in
theorem ref9_in (kind N base p q : Int) (hN : IFit N) (hb : IFit base) (hp : IFit p) (hq : IFit q) (w : World) :
    Calls Try.prog 21 #[.agg #[.int .i64 kind, .int .i64 N], .int .i64 base, .int .i64 p, .int .i64 q] w fun e w' => e = .returned (.tuple #[.int .i64 ((vI kind N base p q).1), .bool (vI kind N base p q).2.1, .int .i64 ((vI kind N base p q).2.2)]) ∧ Below w.heap.size w w' := by
  have GD := fun W => ref_good p q hp hq W
  have c1 := fun W => ref4_part N p q hN hp hq W
  have c2 := fun W => ref4_part base N 6400 hb hN (by unfold IFit; omega) W
  obtain ⟨Q, eQ⟩ : ∃ Q : Ending → World → Prop, Q = fun e w' => e = .returned (.tuple #[.int .i64 ((vI kind N base p q).1), .bool (vI kind N base p q).2.1, .int .i64 ((vI kind N base p q).2.2)]) ∧ Below w.heap.size w w' := ⟨_, rfl⟩
  rw [← eQ]
  have t1 := Blk.new w #[.int .i64 kind, .int .i64 N] 60 _ rfl
  have hB : Below w.heap.size w (w.alloc (.cells #[.int .i64 kind, .int .i64 N] 60)) := (by repeat' (first | (with_reducible exact Below.refl _ _) | (with_reducible assumption) | (with_reducible refine below_alloc ?_ _ ?_) | (with_reducible refine below_set _ ?_ ?_) | (with_reducible refine Below.drew ?_) | (with_reducible refine below_dN ?_ _) | (apply below_thenA; assumption) | omega | (simp; done) | (simp; omega) | (simp [*]; done)))
  have hs := hB.size
  have HB := Lib.hid hB
  clear hB hN hb hp hq
  have q0 := t1.cell 0 _ rfl
  have q1 := t1.cell 1 _ rfl
  have T1 := Lib.hid t1
  by_cases k3 : kind = 3
  · subst k3
    unfold vI at eQ
    rw [if_pos rfl] at eQ
    unfold scaleN scaleE at eQ
    cases hg : goodB p q
    · rw [hg] at eQ GD
      simp only [Bool.false_eq_true, if_false] at eQ
      have EQ := Lib.hid eQ
      clear eQ c1 c2 hg t1
      go_enter Try.func21, Try.ntmps21
      go_wp2_with (go_at_call 32; with_reducible refine (GD _).mono ?_; rintro e w1 ⟨rfl, hb1⟩)
      rw [EQ.out]
      exact ⟨rfl, HB.out.trans (hb1.mono hs)⟩
    · rw [hg] at eQ GD
      simp only [if_true] at eQ
      obtain ⟨n, en⟩ : ∃ n, partN N p q = n := ⟨_, rfl⟩
      obtain ⟨c, ec⟩ : ∃ n, partE N p q = n := ⟨_, rfl⟩
      rw [en, ec] at eQ
      simp only [en, ec] at c1
      have EQ := Lib.hid eQ
      clear eQ c2 hg t1
      go_enter Try.func21, Try.ntmps21
      go_wp2_with (first
        | (go_at_call 32; with_reducible refine (GD _).mono ?_; rintro e w1 ⟨rfl, hb1⟩; have hs1 := hb1.size; have t1 := T1.out.below hb1; have q0 := t1.cell 0 _ rfl; have q1 := t1.cell 1 _ rfl)
        | (go_at_call 33; with_reducible refine (c1 _).mono ?_; rintro e w2 ⟨rfl, hb2⟩))
      rw [EQ.out]
      exact ⟨rfl, (HB.out.trans (hb1.mono hs)).trans (hb2.mono (by omega))⟩
  by_cases k4 : kind = 4
  · subst k4
    unfold vI at eQ
    rw [if_neg (by omega), if_pos rfl] at eQ
    obtain ⟨n, en⟩ : ∃ n, partN base N 6400 = n := ⟨_, rfl⟩
    obtain ⟨c, ec⟩ : ∃ n, partE base N 6400 = n := ⟨_, rfl⟩
    rw [en, ec] at eQ
    simp only [en, ec] at c2
    have EQ := Lib.hid eQ
    clear eQ c1 k3 t1
    go_enter Try.func21, Try.ntmps21
    go_wp2_with (go_at_call 33; with_reducible refine (c2 _).mono ?_; rintro e w2 ⟨rfl, hb2⟩)
    rw [EQ.out]
    exact ⟨rfl, HB.out.trans (hb2.mono hs)⟩
  · unfold vI at eQ
    rw [if_neg k3, if_neg k4] at eQ
    have EQ := Lib.hid eQ
    have b3 : (kind == 3) = false := by simp [k3]
    have b4 : (kind == 4) = false := by simp [k4]
    clear eQ c1 c2 k3 k4 t1
    go_enter Try.func21, Try.ntmps21
    go_wp2_with fail
    rw [EQ.out]
    exact ⟨rfl, HB.out⟩
end Go.Proofs.Ytgmnboacehopfaa
