/-
  Packages value (In) and sizing, each function by its contract, and the references'.
-/
import Derived.Test.YthffphcgkmjhbaaFixD
import Derived.Test.YthffphcgkmjhbaaRefF
namespace Go.Proofs.Ythffphcgkmjhbaa
open Go.RowKit
set_option linter.unusedSimpArgs false
set_option linter.unusedVariables false

/-- A number and whether it is one, or a giving up. -/
def Gives2 (n : Int) (ok : Bool) (c : Int) (w : World) (e : Ending) (w' : World) : Prop := (c = 0 → e = .returned (.tuple #[.int .i64 n, .bool ok])) ∧ (c ≠ 0 → e = .panicked (gave c)) ∧ Below w.heap.size w w'
theorem Gives2.ret {n : Int} {ok : Bool} {c : Int} {w w' : World} (hc : c = 0) (hb : Below w.heap.size w w') : Gives2 n ok c w (.returned (.tuple #[.int .i64 n, .bool ok])) w' := ⟨fun _ => rfl, fun h => absurd hc h, hb⟩
theorem Gives2.pan {n : Int} {ok : Bool} {c : Int} {w w' : World} (hc : c ≠ 0) (hb : Below w.heap.size w w') : Gives2 n ok c w (.panicked (gave c)) w' := ⟨fun h => absurd h hc, fun _ => rfl, hb⟩
theorem Gives.ret {n c : Int} {w w' : World} (hc : c = 0) (hb : Below w.heap.size w w') : Gives n c w (.returned (.int .i64 n)) w' := ⟨fun _ => rfl, fun h => absurd hc h, hb⟩
theorem Gives.pan {n c : Int} {w w' : World} (hc : c ≠ 0) (hb : Below w.heap.size w w') : Gives n c w (.panicked (gave c)) w' := ⟨fun h => absurd h hc, fun _ => rfl, hb⟩
def inE (kind N base p q : Int) : Int := if kind = 3 then scaleE N p q else if kind = 4 then partE base N 6400 else 0
def inN (kind N base p q : Int) : Int := if kind = 3 then scaleN N p q else if kind = 4 then partN base N 6400 else 0
def inOk (kind : Int) : Bool := decide (kind = 3) || decide (kind = 4)
set_option maxRecDepth 100000 in
set_option maxHeartbeats 1600000 in
theorem val_in (kind N base p q : Int) (hN : IFit N) (hb : IFit base) (hp : IFit p) (hq : IFit q) (w : World) :
    Calls Try.prog 121 #[.agg #[.int .i64 kind, .int .i64 N], .int .i64 base, .agg #[.int .i64 p, .int .i64 q]] w (Gives2 (inN kind N base p q) (inOk kind) (inE kind N base p q) w) := by
  have t1 := (Blk.new w #[.int .i64 kind, .int .i64 N] 107 _ rfl).alloc (.cells #[.int .i64 p, .int .i64 q] 57)
  have t2 := Blk.new (w.alloc (.cells #[.int .i64 kind, .int .i64 N] 107)) #[.int .i64 p, .int .i64 q] 57 (w.heap.size + 1) (by simp)
  have hB : Below w.heap.size w ((w.alloc (.cells #[.int .i64 kind, .int .i64 N] 107)).alloc (.cells #[.int .i64 p, .int .i64 q] 57)) := (by repeat' (first | (with_reducible exact Below.refl _ _) | (with_reducible assumption) | (with_reducible refine below_alloc ?_ _ ?_) | (with_reducible refine below_set _ ?_ ?_) | (with_reducible refine Below.drew ?_) | (with_reducible refine below_dN ?_ _) | (apply below_thenA; assumption) | omega | (simp; done) | (simp; omega) | (simp [*]; done)))
  have c0 := t1.cell 0 _ rfl
  have c1 := t1.cell 1 _ rfl
  have c2 := t2.cell 0 _ rfl
  have c3 := t2.cell 1 _ rfl
  unfold inN inE inOk
  by_cases h3 : kind = 3
  · subst h3
    simp only [if_true, decide_true, Bool.true_or]
    have PT := fun W => fix_scale N p q hN hp hq W
    obtain ⟨n, en⟩ : ∃ n, scaleN N p q = n := ⟨_, rfl⟩
    obtain ⟨c, ec⟩ : ∃ n, scaleE N p q = n := ⟨_, rfl⟩
    rw [en, ec] at PT ⊢
    clear en ec hN hb hp hq
    go_enter Try.func121, Try.ntmps121
    go_wp2_with fail
    refine (PT _).mono ?_
    rintro e w1 ⟨h1, h2, hb1⟩
    replace hB := hB.trans (hb1.mono hB.size)
    by_cases hE : c = 0
    · obtain rfl := h1 hE
      have HE := Lib.hid hE
      clear h1 h2 hE
      go_wp2_with fail
      go_ret2
      exact Gives2.ret HE.out hB
    · obtain rfl := h2 hE
      have HE := Lib.hid hE
      clear h1 h2 hE
      go_wp2_with fail
      simp only [bodyPost]
      exact ⟨trivial, Gives2.pan HE.out hB⟩
  · have d3 : (kind == 3) = false := by simp [h3]
    simp only [if_neg h3, show decide (kind = 3) = false by simp [h3], Bool.false_or]
    by_cases h4 : kind = 4
    · subst h4
      simp only [if_true, decide_true]
      have PT := fun W => fix_part_any base N 6400 hb hN (by unfold IFit; omega) W
      obtain ⟨n, en⟩ : ∃ n, partN base N 6400 = n := ⟨_, rfl⟩
      obtain ⟨c, ec⟩ : ∃ n, partE base N 6400 = n := ⟨_, rfl⟩
      rw [en, ec] at PT ⊢
      clear en ec hN hb hp hq h3
      go_enter Try.func121, Try.ntmps121
      go_wp2_with fail
      refine (PT _).mono ?_
      rintro e w1 ⟨h1, h2, hb1⟩
      replace hB := hB.trans (hb1.mono hB.size)
      by_cases hE : c = 0
      · obtain rfl := h1 hE
        have HE := Lib.hid hE
        clear h1 h2 hE
        go_wp2_with fail
        go_ret2
        exact Gives2.ret HE.out hB
      · obtain rfl := h2 hE
        have HE := Lib.hid hE
        clear h1 h2 hE
        go_wp2_with fail
        simp only [bodyPost]
        exact ⟨trivial, Gives2.pan HE.out hB⟩
    · have d4 : (kind == 4) = false := by simp [h4]
      simp only [if_neg h4, show decide (kind = 4) = false by simp [h4]]
      clear h3 h4 hN hb hp hq
      go_enter Try.func121, Try.ntmps121
      go_wp2_with fail
      go_ret2
      exact Gives2.ret rfl hB
/-- The reference's In: the length, whether it is one, the error. -/
def inR (kind N base p q : Int) : Int × Bool × Int :=
  if kind = 3 then (scaleN N p q, decide (scaleE N p q = 0), scaleE N p q) else if kind = 4 then (partN base N 6400, decide (partE base N 6400 = 0), partE base N 6400) else (0, false, 0)
set_option maxRecDepth 100000 in
set_option maxHeartbeats 1600000 in
theorem ref9_in (kind N base p q : Int) (hN : IFit N) (hb : IFit base) (hp : IFit p) (hq : IFit q) (w : World) :
    Calls Try.prog 122 #[.agg #[.int .i64 kind, .int .i64 N], .int .i64 base, .int .i64 p, .int .i64 q] w fun e w' =>
      e = .returned (.tuple #[.int .i64 ((inR kind N base p q).1), .bool (inR kind N base p q).2.1, .int .i64 ((inR kind N base p q).2.2)]) ∧ Below w.heap.size w w' := by
  have t1 := Blk.new w #[.int .i64 kind, .int .i64 N] 110 _ rfl
  have hB : Below w.heap.size w (w.alloc (.cells #[.int .i64 kind, .int .i64 N] 110)) := (by repeat' (first | (with_reducible exact Below.refl _ _) | (with_reducible assumption) | (with_reducible refine below_alloc ?_ _ ?_) | (with_reducible refine below_set _ ?_ ?_) | (with_reducible refine Below.drew ?_) | (with_reducible refine below_dN ?_ _) | (apply below_thenA; assumption) | omega | (simp; done) | (simp; omega) | (simp [*]; done)))
  have c0 := t1.cell 0 _ rfl
  have c1 := t1.cell 1 _ rfl
  unfold inR
  by_cases h3 : kind = 3
  · subst h3
    simp only [if_true]
    have GD := fun W => ref_good p q hp hq W
    have PT := fun W => ref4_part N p q hN hp hq W
    unfold scaleN scaleE
    cases hg : goodB p q
    · rw [hg] at GD
      simp only [Bool.false_eq_true, if_false]
      clear hg PT hN hb hp hq
      go_enter Try.func122, Try.ntmps122
      go_wp2_with fail
      refine (GD _).mono ?_
      rintro e w1 ⟨rfl, hb1⟩
      replace hB := hB.trans (hb1.mono hB.size)
      go_wp2_with fail
      go_ret3
      exact ⟨rfl, hB⟩
    · rw [hg] at GD
      simp only [if_true]
      obtain ⟨n, en⟩ : ∃ n, partN N p q = n := ⟨_, rfl⟩
      obtain ⟨c, ec⟩ : ∃ n, partE N p q = n := ⟨_, rfl⟩
      rw [en, ec] at PT ⊢
      clear en ec hg hN hb hp hq
      have hd : decide (c = 0) = (c == 0) := rfl
      rw [hd]
      clear hd
      go_enter Try.func122, Try.ntmps122
      go_wp2_with fail
      refine (GD _).mono ?_
      rintro e w1 ⟨rfl, hb1⟩
      replace hB := hB.trans (hb1.mono hB.size)
      replace t1 := t1.below hb1
      clear c0 c1
      have c1 := t1.cell 1 _ rfl
      go_wp2_with fail
      refine (PT _).mono ?_
      rintro e w2 ⟨rfl, hb2⟩
      replace hB := hB.trans (hb2.mono hB.size)
      go_wp2_with fail
      go_ret3
      exact ⟨rfl, hB⟩
  · have d3 : (kind == 3) = false := by simp [h3]
    simp only [if_neg h3]
    by_cases h4 : kind = 4
    · subst h4
      simp only [if_true]
      have PT := fun W => ref4_part base N 6400 hb hN (by unfold IFit; omega) W
      obtain ⟨n, en⟩ : ∃ n, partN base N 6400 = n := ⟨_, rfl⟩
      obtain ⟨c, ec⟩ : ∃ n, partE base N 6400 = n := ⟨_, rfl⟩
      rw [en, ec] at PT ⊢
      clear en ec hN hb hp hq h3
      have hd : decide (c = 0) = (c == 0) := rfl
      rw [hd]
      clear hd
      go_enter Try.func122, Try.ntmps122
      go_wp2_with fail
      refine (PT _).mono ?_
      rintro e w2 ⟨rfl, hb2⟩
      replace hB := hB.trans (hb2.mono hB.size)
      go_wp2_with fail
      go_ret3
      exact ⟨rfl, hB⟩
    · have d4 : (kind == 4) = false := by simp [h4]
      simp only [if_neg h4]
      clear h3 h4 hN hb hp hq
      go_enter Try.func122, Try.ntmps122
      go_wp2_with fail
      go_ret3
      exact ⟨rfl, hB⟩
end Go.Proofs.Ythffphcgkmjhbaa
