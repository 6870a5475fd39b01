/-
  Package sizing: Of, Limits.Of, Fit; and what the laws of layer 14 begin with; SizingFits.
-/
import Derived.Test.YthffphcgkmjhbaaSizA
namespace Go.Proofs.Ythffphcgkmjhbaa
open Go.RowKit
set_option linter.unusedSimpArgs false
set_option linter.unusedVariables false

/-- The size that a value tells: it, whether it is told, the error. -/
def ofR (kind N base : Int) (known : Bool) (p q : Int) (whole : Bool) (edges : Int) : Int × Bool × Int :=
  if kind = 4 ∧ known = false then (0, false, 0)
  else if inE kind N base p q ≠ 0 then (0, false, inE kind N base p q)
  else if inOk kind = false then (0, false, 0)
  else if whole = false then (max (inN kind N base p q) 0, true, 0)
  else if lenE (inN kind N base p q - edges) ≠ 0 then (0, false, lenE (inN kind N base p q - edges))
  else (max (inN kind N base p q - edges) 0, true, 0)
theorem partN_len {a n d : Int} : LenB (partN a n d) := by
  unfold partN
  by_cases h0 : d = 0
  · simp [h0]; unfold LenB; omega
  · simp only [if_neg h0]
    cases hl : lenB (fq (a * n) d)
    · simp; unfold LenB; omega
    · simp; exact (lenB_iff _).1 hl
theorem scaleN_len {n p q : Int} : LenB (scaleN n p q) := by
  unfold scaleN
  split
  · exact partN_len
  · unfold LenB; omega
theorem inN_len {kind N base p q : Int} : LenB (inN kind N base p q) := by
  unfold inN
  split
  · exact scaleN_len
  · split
    · exact partN_len
    · unfold LenB; omega
section
variable (kind N base : Int) (known : Bool) (p q siz edges : Int) (w : World)
set_option maxRecDepth 100000 in
set_option maxHeartbeats 800000 in
theorem siz_none (known4 : kind = 4) (hn : known = false) :
    Calls Try.prog 81 #[.agg #[.int .i64 kind, .int .i64 N], .agg #[.int .i64 base, .bool known, .int .i64 p, .int .i64 q, .int .i64 siz, .int .i64 edges]] w (Gives2 0 false 0 w) := by
  have t1 := (Blk.new w #[.int .i64 kind, .int .i64 N] 107 _ rfl).alloc (.cells #[.int .i64 base, .bool known, .int .i64 p, .int .i64 q, .int .i64 siz, .int .i64 edges] 101)
  have t2 := Blk.new (w.alloc (.cells #[.int .i64 kind, .int .i64 N] 107)) #[.int .i64 base, .bool known, .int .i64 p, .int .i64 q, .int .i64 siz, .int .i64 edges] 101 (w.heap.size + 1) (by simp)
  have hB : Below w.heap.size w ((w.alloc (.cells #[.int .i64 kind, .int .i64 N] 107)).alloc (.cells #[.int .i64 base, .bool known, .int .i64 p, .int .i64 q, .int .i64 siz, .int .i64 edges] 101)) := (by repeat' (first | (with_reducible exact Below.refl _ _) | (with_reducible assumption) | (with_reducible refine below_alloc ?_ _ ?_) | (with_reducible refine below_set _ ?_ ?_) | (with_reducible refine Below.drew ?_) | (with_reducible refine below_dN ?_ _) | (apply below_thenA; assumption) | omega | (simp; done) | (simp; omega) | (simp [*]; done)))
  have c0 := t1.cell 0 _ rfl
  have c1 := t1.cell 1 _ rfl
  have d0 := t2.cell 0 _ rfl
  have d1 := t2.cell 1 _ rfl
  have d2 := t2.cell 2 _ rfl
  have d3 := t2.cell 3 _ rfl
  subst known4 hn
  go_enter Try.func81, Try.ntmps81
  go_wp2_with fail
  go_ret2
  exact Gives2.ret rfl hB
set_option maxRecDepth 100000 in
set_option maxHeartbeats 800000 in
theorem siz_gives (h4 : (kind == 4) = false) (c : Int) (hc : c ≠ 0) (PT : ∀ W, Calls Try.prog 121 #[.agg #[.int .i64 kind, .int .i64 N], .int .i64 base, .agg #[.int .i64 p, .int .i64 q]] W fun e w' => e = .panicked (gave c) ∧ Below W.heap.size W w') :
    Calls Try.prog 81 #[.agg #[.int .i64 kind, .int .i64 N], .agg #[.int .i64 base, .bool known, .int .i64 p, .int .i64 q, .int .i64 siz, .int .i64 edges]] w (Gives2 0 false c w) := by
  have t1 := (Blk.new w #[.int .i64 kind, .int .i64 N] 107 _ rfl).alloc (.cells #[.int .i64 base, .bool known, .int .i64 p, .int .i64 q, .int .i64 siz, .int .i64 edges] 101)
  have t2 := Blk.new (w.alloc (.cells #[.int .i64 kind, .int .i64 N] 107)) #[.int .i64 base, .bool known, .int .i64 p, .int .i64 q, .int .i64 siz, .int .i64 edges] 101 (w.heap.size + 1) (by simp)
  have hB : Below w.heap.size w ((w.alloc (.cells #[.int .i64 kind, .int .i64 N] 107)).alloc (.cells #[.int .i64 base, .bool known, .int .i64 p, .int .i64 q, .int .i64 siz, .int .i64 edges] 101)) := (by repeat' (first | (with_reducible exact Below.refl _ _) | (with_reducible assumption) | (with_reducible refine below_alloc ?_ _ ?_) | (with_reducible refine below_set _ ?_ ?_) | (with_reducible refine Below.drew ?_) | (with_reducible refine below_dN ?_ _) | (apply below_thenA; assumption) | omega | (simp; done) | (simp; omega) | (simp [*]; done)))
  have c0 := t1.cell 0 _ rfl
  have c1 := t1.cell 1 _ rfl
  have d0 := t2.cell 0 _ rfl
  have d1 := t2.cell 1 _ rfl
  have d2 := t2.cell 2 _ rfl
  have d3 := t2.cell 3 _ rfl
  have HC := Lib.hid hc
  clear hc
  go_enter Try.func81, Try.ntmps81
  go_wp2_with fail
  refine (PT _).mono ?_
  rintro e w1 ⟨rfl, hb1⟩
  replace hB := hB.trans (hb1.mono hB.size)
  replace t2 := t2.below hb1
  clear c0 c1 d0 d1 d2 d3 t1 hb1 PT
  go_wp2_with fail
  simp only [bodyPost]
  exact ⟨trivial, Gives2.pan HC.out hB⟩
set_option maxRecDepth 100000 in
set_option maxHeartbeats 800000 in
theorem siz_not (h4 : (kind == 4) = false) (n : Int) (PT : ∀ W, Calls Try.prog 121 #[.agg #[.int .i64 kind, .int .i64 N], .int .i64 base, .agg #[.int .i64 p, .int .i64 q]] W fun e w' => e = .returned (.tuple #[.int .i64 n, .bool false]) ∧ Below W.heap.size W w') :
    Calls Try.prog 81 #[.agg #[.int .i64 kind, .int .i64 N], .agg #[.int .i64 base, .bool known, .int .i64 p, .int .i64 q, .int .i64 siz, .int .i64 edges]] w (Gives2 0 false 0 w) := by
  have t1 := (Blk.new w #[.int .i64 kind, .int .i64 N] 107 _ rfl).alloc (.cells #[.int .i64 base, .bool known, .int .i64 p, .int .i64 q, .int .i64 siz, .int .i64 edges] 101)
  have t2 := Blk.new (w.alloc (.cells #[.int .i64 kind, .int .i64 N] 107)) #[.int .i64 base, .bool known, .int .i64 p, .int .i64 q, .int .i64 siz, .int .i64 edges] 101 (w.heap.size + 1) (by simp)
  have hB : Below w.heap.size w ((w.alloc (.cells #[.int .i64 kind, .int .i64 N] 107)).alloc (.cells #[.int .i64 base, .bool known, .int .i64 p, .int .i64 q, .int .i64 siz, .int .i64 edges] 101)) := (by repeat' (first | (with_reducible exact Below.refl _ _) | (with_reducible assumption) | (with_reducible refine below_alloc ?_ _ ?_) | (with_reducible refine below_set _ ?_ ?_) | (with_reducible refine Below.drew ?_) | (with_reducible refine below_dN ?_ _) | (apply below_thenA; assumption) | omega | (simp; done) | (simp; omega) | (simp [*]; done)))
  have c0 := t1.cell 0 _ rfl
  have c1 := t1.cell 1 _ rfl
  have d0 := t2.cell 0 _ rfl
  have d1 := t2.cell 1 _ rfl
  have d2 := t2.cell 2 _ rfl
  have d3 := t2.cell 3 _ rfl
  go_enter Try.func81, Try.ntmps81
  go_wp2_with fail
  refine (PT _).mono ?_
  rintro e w1 ⟨rfl, hb1⟩
  replace hB := hB.trans (hb1.mono hB.size)
  replace t2 := t2.below hb1
  clear c0 c1 d0 d1 d2 d3 t1 hb1 PT
  go_wp2_with fail
  go_ret2
  exact Gives2.ret rfl hB
set_option maxRecDepth 100000 in
set_option maxHeartbeats 800000 in
theorem siz_part (h4 : (kind == 4) = false) (hs : (siz == 2) = false) (n : Int) (PT : ∀ W, Calls Try.prog 121 #[.agg #[.int .i64 kind, .int .i64 N], .int .i64 base, .agg #[.int .i64 p, .int .i64 q]] W fun e w' => e = .returned (.tuple #[.int .i64 n, .bool true]) ∧ Below W.heap.size W w') :
    Calls Try.prog 81 #[.agg #[.int .i64 kind, .int .i64 N], .agg #[.int .i64 base, .bool known, .int .i64 p, .int .i64 q, .int .i64 siz, .int .i64 edges]] w (Gives2 (max n 0) true 0 w) := by
  have t1 := (Blk.new w #[.int .i64 kind, .int .i64 N] 107 _ rfl).alloc (.cells #[.int .i64 base, .bool known, .int .i64 p, .int .i64 q, .int .i64 siz, .int .i64 edges] 101)
  have t2 := Blk.new (w.alloc (.cells #[.int .i64 kind, .int .i64 N] 107)) #[.int .i64 base, .bool known, .int .i64 p, .int .i64 q, .int .i64 siz, .int .i64 edges] 101 (w.heap.size + 1) (by simp)
  have hB : Below w.heap.size w ((w.alloc (.cells #[.int .i64 kind, .int .i64 N] 107)).alloc (.cells #[.int .i64 base, .bool known, .int .i64 p, .int .i64 q, .int .i64 siz, .int .i64 edges] 101)) := (by repeat' (first | (with_reducible exact Below.refl _ _) | (with_reducible assumption) | (with_reducible refine below_alloc ?_ _ ?_) | (with_reducible refine below_set _ ?_ ?_) | (with_reducible refine Below.drew ?_) | (with_reducible refine below_dN ?_ _) | (apply below_thenA; assumption) | omega | (simp; done) | (simp; omega) | (simp [*]; done)))
  have c0 := t1.cell 0 _ rfl
  have c1 := t1.cell 1 _ rfl
  have d0 := t2.cell 0 _ rfl
  have d1 := t2.cell 1 _ rfl
  have d2 := t2.cell 2 _ rfl
  have d3 := t2.cell 3 _ rfl
  go_enter Try.func81, Try.ntmps81
  go_wp2_with fail
  refine (PT _).mono ?_
  rintro e w1 ⟨rfl, hb1⟩
  replace hB := hB.trans (hb1.mono hB.size)
  replace t2 := t2.below hb1
  clear c0 c1 d0 d1 d2 d3 t1 hb1 PT
  have d4 := t2.cell 4 _ rfl
  have d5 := t2.cell 5 _ rfl
  go_wp2_with fail
  go_ret2
  exact Gives2.ret rfl hB
set_option maxRecDepth 100000 in
set_option maxHeartbeats 800000 in
theorem siz_whole (h4 : (kind == 4) = false) (hs : (siz == 2) = true) (n m : Int) (PT : ∀ W, Calls Try.prog 121 #[.agg #[.int .i64 kind, .int .i64 N], .int .i64 base, .agg #[.int .i64 p, .int .i64 q]] W fun e w' => e = .returned (.tuple #[.int .i64 n, .bool true]) ∧ Below W.heap.size W w')
    (PS : ∀ W, Calls Try.prog 66 #[.int .i64 n, .int .i64 edges] W fun e w' => e = .returned (.int .i64 m) ∧ Below W.heap.size W w') :
    Calls Try.prog 81 #[.agg #[.int .i64 kind, .int .i64 N], .agg #[.int .i64 base, .bool known, .int .i64 p, .int .i64 q, .int .i64 siz, .int .i64 edges]] w (Gives2 (max m 0) true 0 w) := by
  have t1 := (Blk.new w #[.int .i64 kind, .int .i64 N] 107 _ rfl).alloc (.cells #[.int .i64 base, .bool known, .int .i64 p, .int .i64 q, .int .i64 siz, .int .i64 edges] 101)
  have t2 := Blk.new (w.alloc (.cells #[.int .i64 kind, .int .i64 N] 107)) #[.int .i64 base, .bool known, .int .i64 p, .int .i64 q, .int .i64 siz, .int .i64 edges] 101 (w.heap.size + 1) (by simp)
  have hB : Below w.heap.size w ((w.alloc (.cells #[.int .i64 kind, .int .i64 N] 107)).alloc (.cells #[.int .i64 base, .bool known, .int .i64 p, .int .i64 q, .int .i64 siz, .int .i64 edges] 101)) := (by repeat' (first | (with_reducible exact Below.refl _ _) | (with_reducible assumption) | (with_reducible refine below_alloc ?_ _ ?_) | (with_reducible refine below_set _ ?_ ?_) | (with_reducible refine Below.drew ?_) | (with_reducible refine below_dN ?_ _) | (apply below_thenA; assumption) | omega | (simp; done) | (simp; omega) | (simp [*]; done)))
  have c0 := t1.cell 0 _ rfl
  have c1 := t1.cell 1 _ rfl
  have d0 := t2.cell 0 _ rfl
  have d1 := t2.cell 1 _ rfl
  have d2 := t2.cell 2 _ rfl
  have d3 := t2.cell 3 _ rfl
  go_enter Try.func81, Try.ntmps81
  go_wp2_with fail
  refine (PT _).mono ?_
  rintro e w1 ⟨rfl, hb1⟩
  replace hB := hB.trans (hb1.mono hB.size)
  replace t2 := t2.below hb1
  clear c0 c1 d0 d1 d2 d3 t1 hb1 PT
  have d4 := t2.cell 4 _ rfl
  have d5 := t2.cell 5 _ rfl
  go_wp2_with fail
  refine (PS _).mono ?_
  rintro e w2 ⟨rfl, hb2⟩
  replace hB := hB.trans (hb2.mono hB.size)
  clear d4 d5 PS
  go_wp2_with fail
  go_ret2
  exact Gives2.ret rfl hB
set_option maxRecDepth 100000 in
set_option maxHeartbeats 800000 in
theorem siz_far (h4 : (kind == 4) = false) (hs : (siz == 2) = true) (n f : Int) (hf : f ≠ 0) (PT : ∀ W, Calls Try.prog 121 #[.agg #[.int .i64 kind, .int .i64 N], .int .i64 base, .agg #[.int .i64 p, .int .i64 q]] W fun e w' => e = .returned (.tuple #[.int .i64 n, .bool true]) ∧ Below W.heap.size W w')
    (PS : ∀ W, Calls Try.prog 66 #[.int .i64 n, .int .i64 edges] W fun e w' => e = .panicked (gave f) ∧ Below W.heap.size W w') :
    Calls Try.prog 81 #[.agg #[.int .i64 kind, .int .i64 N], .agg #[.int .i64 base, .bool known, .int .i64 p, .int .i64 q, .int .i64 siz, .int .i64 edges]] w (Gives2 0 false f w) := by
  have t1 := (Blk.new w #[.int .i64 kind, .int .i64 N] 107 _ rfl).alloc (.cells #[.int .i64 base, .bool known, .int .i64 p, .int .i64 q, .int .i64 siz, .int .i64 edges] 101)
  have t2 := Blk.new (w.alloc (.cells #[.int .i64 kind, .int .i64 N] 107)) #[.int .i64 base, .bool known, .int .i64 p, .int .i64 q, .int .i64 siz, .int .i64 edges] 101 (w.heap.size + 1) (by simp)
  have hB : Below w.heap.size w ((w.alloc (.cells #[.int .i64 kind, .int .i64 N] 107)).alloc (.cells #[.int .i64 base, .bool known, .int .i64 p, .int .i64 q, .int .i64 siz, .int .i64 edges] 101)) := (by repeat' (first | (with_reducible exact Below.refl _ _) | (with_reducible assumption) | (with_reducible refine below_alloc ?_ _ ?_) | (with_reducible refine below_set _ ?_ ?_) | (with_reducible refine Below.drew ?_) | (with_reducible refine below_dN ?_ _) | (apply below_thenA; assumption) | omega | (simp; done) | (simp; omega) | (simp [*]; done)))
  have c0 := t1.cell 0 _ rfl
  have c1 := t1.cell 1 _ rfl
  have d0 := t2.cell 0 _ rfl
  have d1 := t2.cell 1 _ rfl
  have d2 := t2.cell 2 _ rfl
  have d3 := t2.cell 3 _ rfl
  have HF := Lib.hid hf
  clear hf
  go_enter Try.func81, Try.ntmps81
  go_wp2_with fail
  refine (PT _).mono ?_
  rintro e w1 ⟨rfl, hb1⟩
  replace hB := hB.trans (hb1.mono hB.size)
  replace t2 := t2.below hb1
  clear c0 c1 d0 d1 d2 d3 t1 hb1 PT
  have d4 := t2.cell 4 _ rfl
  have d5 := t2.cell 5 _ rfl
  go_wp2_with fail
  refine (PS _).mono ?_
  rintro e w2 ⟨rfl, hb2⟩
  replace hB := hB.trans (hb2.mono hB.size)
  clear d4 d5 PS
  go_wp2_with fail
  simp only [bodyPost]
  exact ⟨trivial, Gives2.pan HF.out hB⟩
set_option maxRecDepth 100000 in
set_option maxHeartbeats 800000 in
theorem siz_gives_4 (h4 : (kind == 4) = true ∧ known = true) (c : Int) (hc : c ≠ 0) (PT : ∀ W, Calls Try.prog 121 #[.agg #[.int .i64 kind, .int .i64 N], .int .i64 base, .agg #[.int .i64 p, .int .i64 q]] W fun e w' => e = .panicked (gave c) ∧ Below W.heap.size W w') :
    Calls Try.prog 81 #[.agg #[.int .i64 kind, .int .i64 N], .agg #[.int .i64 base, .bool known, .int .i64 p, .int .i64 q, .int .i64 siz, .int .i64 edges]] w (Gives2 0 false c w) := by
  have t1 := (Blk.new w #[.int .i64 kind, .int .i64 N] 107 _ rfl).alloc (.cells #[.int .i64 base, .bool known, .int .i64 p, .int .i64 q, .int .i64 siz, .int .i64 edges] 101)
  have t2 := Blk.new (w.alloc (.cells #[.int .i64 kind, .int .i64 N] 107)) #[.int .i64 base, .bool known, .int .i64 p, .int .i64 q, .int .i64 siz, .int .i64 edges] 101 (w.heap.size + 1) (by simp)
  have hB : Below w.heap.size w ((w.alloc (.cells #[.int .i64 kind, .int .i64 N] 107)).alloc (.cells #[.int .i64 base, .bool known, .int .i64 p, .int .i64 q, .int .i64 siz, .int .i64 edges] 101)) := (by repeat' (first | (with_reducible exact Below.refl _ _) | (with_reducible assumption) | (with_reducible refine below_alloc ?_ _ ?_) | (with_reducible refine below_set _ ?_ ?_) | (with_reducible refine Below.drew ?_) | (with_reducible refine below_dN ?_ _) | (apply below_thenA; assumption) | omega | (simp; done) | (simp; omega) | (simp [*]; done)))
  have c0 := t1.cell 0 _ rfl
  have c1 := t1.cell 1 _ rfl
  have d0 := t2.cell 0 _ rfl
  have d1 := t2.cell 1 _ rfl
  have d2 := t2.cell 2 _ rfl
  have d3 := t2.cell 3 _ rfl
  obtain ⟨h4, rfl⟩ := h4
  have HC := Lib.hid hc
  clear hc
  go_enter Try.func81, Try.ntmps81
  go_wp2_with fail
  refine (PT _).mono ?_
  rintro e w1 ⟨rfl, hb1⟩
  replace hB := hB.trans (hb1.mono hB.size)
  replace t2 := t2.below hb1
  clear c0 c1 d0 d1 d2 d3 t1 hb1 PT
  go_wp2_with fail
  simp only [bodyPost]
  exact ⟨trivial, Gives2.pan HC.out hB⟩
set_option maxRecDepth 100000 in
set_option maxHeartbeats 800000 in
theorem siz_not_4 (h4 : (kind == 4) = true ∧ known = true) (n : Int) (PT : ∀ W, Calls Try.prog 121 #[.agg #[.int .i64 kind, .int .i64 N], .int .i64 base, .agg #[.int .i64 p, .int .i64 q]] W fun e w' => e = .returned (.tuple #[.int .i64 n, .bool false]) ∧ Below W.heap.size W w') :
    Calls Try.prog 81 #[.agg #[.int .i64 kind, .int .i64 N], .agg #[.int .i64 base, .bool known, .int .i64 p, .int .i64 q, .int .i64 siz, .int .i64 edges]] w (Gives2 0 false 0 w) := by
  have t1 := (Blk.new w #[.int .i64 kind, .int .i64 N] 107 _ rfl).alloc (.cells #[.int .i64 base, .bool known, .int .i64 p, .int .i64 q, .int .i64 siz, .int .i64 edges] 101)
  have t2 := Blk.new (w.alloc (.cells #[.int .i64 kind, .int .i64 N] 107)) #[.int .i64 base, .bool known, .int .i64 p, .int .i64 q, .int .i64 siz, .int .i64 edges] 101 (w.heap.size + 1) (by simp)
  have hB : Below w.heap.size w ((w.alloc (.cells #[.int .i64 kind, .int .i64 N] 107)).alloc (.cells #[.int .i64 base, .bool known, .int .i64 p, .int .i64 q, .int .i64 siz, .int .i64 edges] 101)) := (by repeat' (first | (with_reducible exact Below.refl _ _) | (with_reducible assumption) | (with_reducible refine below_alloc ?_ _ ?_) | (with_reducible refine below_set _ ?_ ?_) | (with_reducible refine Below.drew ?_) | (with_reducible refine below_dN ?_ _) | (apply below_thenA; assumption) | omega | (simp; done) | (simp; omega) | (simp [*]; done)))
  have c0 := t1.cell 0 _ rfl
  have c1 := t1.cell 1 _ rfl
  have d0 := t2.cell 0 _ rfl
  have d1 := t2.cell 1 _ rfl
  have d2 := t2.cell 2 _ rfl
  have d3 := t2.cell 3 _ rfl
  obtain ⟨h4, rfl⟩ := h4
  go_enter Try.func81, Try.ntmps81
  go_wp2_with fail
  refine (PT _).mono ?_
  rintro e w1 ⟨rfl, hb1⟩
  replace hB := hB.trans (hb1.mono hB.size)
  replace t2 := t2.below hb1
  clear c0 c1 d0 d1 d2 d3 t1 hb1 PT
  go_wp2_with fail
  go_ret2
  exact Gives2.ret rfl hB
set_option maxRecDepth 100000 in
set_option maxHeartbeats 800000 in
theorem siz_part_4 (h4 : (kind == 4) = true ∧ known = true) (hs : (siz == 2) = false) (n : Int) (PT : ∀ W, Calls Try.prog 121 #[.agg #[.int .i64 kind, .int .i64 N], .int .i64 base, .agg #[.int .i64 p, .int .i64 q]] W fun e w' => e = .returned (.tuple #[.int .i64 n, .bool true]) ∧ Below W.heap.size W w') :
    Calls Try.prog 81 #[.agg #[.int .i64 kind, .int .i64 N], .agg #[.int .i64 base, .bool known, .int .i64 p, .int .i64 q, .int .i64 siz, .int .i64 edges]] w (Gives2 (max n 0) true 0 w) := by
  have t1 := (Blk.new w #[.int .i64 kind, .int .i64 N] 107 _ rfl).alloc (.cells #[.int .i64 base, .bool known, .int .i64 p, .int .i64 q, .int .i64 siz, .int .i64 edges] 101)
  have t2 := Blk.new (w.alloc (.cells #[.int .i64 kind, .int .i64 N] 107)) #[.int .i64 base, .bool known, .int .i64 p, .int .i64 q, .int .i64 siz, .int .i64 edges] 101 (w.heap.size + 1) (by simp)
  have hB : Below w.heap.size w ((w.alloc (.cells #[.int .i64 kind, .int .i64 N] 107)).alloc (.cells #[.int .i64 base, .bool known, .int .i64 p, .int .i64 q, .int .i64 siz, .int .i64 edges] 101)) := (by repeat' (first | (with_reducible exact Below.refl _ _) | (with_reducible assumption) | (with_reducible refine below_alloc ?_ _ ?_) | (with_reducible refine below_set _ ?_ ?_) | (with_reducible refine Below.drew ?_) | (with_reducible refine below_dN ?_ _) | (apply below_thenA; assumption) | omega | (simp; done) | (simp; omega) | (simp [*]; done)))
  have c0 := t1.cell 0 _ rfl
  have c1 := t1.cell 1 _ rfl
  have d0 := t2.cell 0 _ rfl
  have d1 := t2.cell 1 _ rfl
  have d2 := t2.cell 2 _ rfl
  have d3 := t2.cell 3 _ rfl
  obtain ⟨h4, rfl⟩ := h4
  go_enter Try.func81, Try.ntmps81
  go_wp2_with fail
  refine (PT _).mono ?_
  rintro e w1 ⟨rfl, hb1⟩
  replace hB := hB.trans (hb1.mono hB.size)
  replace t2 := t2.below hb1
  clear c0 c1 d0 d1 d2 d3 t1 hb1 PT
  have d4 := t2.cell 4 _ rfl
  have d5 := t2.cell 5 _ rfl
  go_wp2_with fail
  go_ret2
  exact Gives2.ret rfl hB
set_option maxRecDepth 100000 in
set_option maxHeartbeats 800000 in
theorem siz_whole_4 (h4 : (kind == 4) = true ∧ known = true) (hs : (siz == 2) = true) (n m : Int) (PT : ∀ W, Calls Try.prog 121 #[.agg #[.int .i64 kind, .int .i64 N], .int .i64 base, .agg #[.int .i64 p, .int .i64 q]] W fun e w' => e = .returned (.tuple #[.int .i64 n, .bool true]) ∧ Below W.heap.size W w')
    (PS : ∀ W, Calls Try.prog 66 #[.int .i64 n, .int .i64 edges] W fun e w' => e = .returned (.int .i64 m) ∧ Below W.heap.size W w') :
    Calls Try.prog 81 #[.agg #[.int .i64 kind, .int .i64 N], .agg #[.int .i64 base, .bool known, .int .i64 p, .int .i64 q, .int .i64 siz, .int .i64 edges]] w (Gives2 (max m 0) true 0 w) := by
  have t1 := (Blk.new w #[.int .i64 kind, .int .i64 N] 107 _ rfl).alloc (.cells #[.int .i64 base, .bool known, .int .i64 p, .int .i64 q, .int .i64 siz, .int .i64 edges] 101)
  have t2 := Blk.new (w.alloc (.cells #[.int .i64 kind, .int .i64 N] 107)) #[.int .i64 base, .bool known, .int .i64 p, .int .i64 q, .int .i64 siz, .int .i64 edges] 101 (w.heap.size + 1) (by simp)
  have hB : Below w.heap.size w ((w.alloc (.cells #[.int .i64 kind, .int .i64 N] 107)).alloc (.cells #[.int .i64 base, .bool known, .int .i64 p, .int .i64 q, .int .i64 siz, .int .i64 edges] 101)) := (by repeat' (first | (with_reducible exact Below.refl _ _) | (with_reducible assumption) | (with_reducible refine below_alloc ?_ _ ?_) | (with_reducible refine below_set _ ?_ ?_) | (with_reducible refine Below.drew ?_) | (with_reducible refine below_dN ?_ _) | (apply below_thenA; assumption) | omega | (simp; done) | (simp; omega) | (simp [*]; done)))
  have c0 := t1.cell 0 _ rfl
  have c1 := t1.cell 1 _ rfl
  have d0 := t2.cell 0 _ rfl
  have d1 := t2.cell 1 _ rfl
  have d2 := t2.cell 2 _ rfl
  have d3 := t2.cell 3 _ rfl
  obtain ⟨h4, rfl⟩ := h4
  go_enter Try.func81, Try.ntmps81
  go_wp2_with fail
  refine (PT _).mono ?_
  rintro e w1 ⟨rfl, hb1⟩
  replace hB := hB.trans (hb1.mono hB.size)
  replace t2 := t2.below hb1
  clear c0 c1 d0 d1 d2 d3 t1 hb1 PT
  have d4 := t2.cell 4 _ rfl
  have d5 := t2.cell 5 _ rfl
  go_wp2_with fail
  refine (PS _).mono ?_
  rintro e w2 ⟨rfl, hb2⟩
  replace hB := hB.trans (hb2.mono hB.size)
  clear d4 d5 PS
  go_wp2_with fail
  go_ret2
  exact Gives2.ret rfl hB
set_option maxRecDepth 100000 in
set_option maxHeartbeats 800000 in
theorem siz_far_4 (h4 : (kind == 4) = true ∧ known = true) (hs : (siz == 2) = true) (n f : Int) (hf : f ≠ 0) (PT : ∀ W, Calls Try.prog 121 #[.agg #[.int .i64 kind, .int .i64 N], .int .i64 base, .agg #[.int .i64 p, .int .i64 q]] W fun e w' => e = .returned (.tuple #[.int .i64 n, .bool true]) ∧ Below W.heap.size W w')
    (PS : ∀ W, Calls Try.prog 66 #[.int .i64 n, .int .i64 edges] W fun e w' => e = .panicked (gave f) ∧ Below W.heap.size W w') :
    Calls Try.prog 81 #[.agg #[.int .i64 kind, .int .i64 N], .agg #[.int .i64 base, .bool known, .int .i64 p, .int .i64 q, .int .i64 siz, .int .i64 edges]] w (Gives2 0 false f w) := by
  have t1 := (Blk.new w #[.int .i64 kind, .int .i64 N] 107 _ rfl).alloc (.cells #[.int .i64 base, .bool known, .int .i64 p, .int .i64 q, .int .i64 siz, .int .i64 edges] 101)
  have t2 := Blk.new (w.alloc (.cells #[.int .i64 kind, .int .i64 N] 107)) #[.int .i64 base, .bool known, .int .i64 p, .int .i64 q, .int .i64 siz, .int .i64 edges] 101 (w.heap.size + 1) (by simp)
  have hB : Below w.heap.size w ((w.alloc (.cells #[.int .i64 kind, .int .i64 N] 107)).alloc (.cells #[.int .i64 base, .bool known, .int .i64 p, .int .i64 q, .int .i64 siz, .int .i64 edges] 101)) := (by repeat' (first | (with_reducible exact Below.refl _ _) | (with_reducible assumption) | (with_reducible refine below_alloc ?_ _ ?_) | (with_reducible refine below_set _ ?_ ?_) | (with_reducible refine Below.drew ?_) | (with_reducible refine below_dN ?_ _) | (apply below_thenA; assumption) | omega | (simp; done) | (simp; omega) | (simp [*]; done)))
  have c0 := t1.cell 0 _ rfl
  have c1 := t1.cell 1 _ rfl
  have d0 := t2.cell 0 _ rfl
  have d1 := t2.cell 1 _ rfl
  have d2 := t2.cell 2 _ rfl
  have d3 := t2.cell 3 _ rfl
  obtain ⟨h4, rfl⟩ := h4
  have HF := Lib.hid hf
  clear hf
  go_enter Try.func81, Try.ntmps81
  go_wp2_with fail
  refine (PT _).mono ?_
  rintro e w1 ⟨rfl, hb1⟩
  replace hB := hB.trans (hb1.mono hB.size)
  replace t2 := t2.below hb1
  clear c0 c1 d0 d1 d2 d3 t1 hb1 PT
  have d4 := t2.cell 4 _ rfl
  have d5 := t2.cell 5 _ rfl
  go_wp2_with fail
  refine (PS _).mono ?_
  rintro e w2 ⟨rfl, hb2⟩
  replace hB := hB.trans (hb2.mono hB.size)
  clear d4 d5 PS
  go_wp2_with fail
  simp only [bodyPost]
  exact ⟨trivial, Gives2.pan HF.out hB⟩
end
theorem siz_of (kind N base : Int) (known : Bool) (p q siz edges : Int) (hN : IFit N) (hb : IFit base) (hp : IFit p) (hq : IFit q) (he : IFit edges) (w : World) :
    Calls Try.prog 81 #[.agg #[.int .i64 kind, .int .i64 N], .agg #[.int .i64 base, .bool known, .int .i64 p, .int .i64 q, .int .i64 siz, .int .i64 edges]] w
      (Gives2 (ofR kind N base known p q (siz == 2) edges).1 (ofR kind N base known p q (siz == 2) edges).2.1 (ofR kind N base known p q (siz == 2) edges).2.2 w) := by
  have PT := fun W => val_in kind N base p q hN hb hp hq W
  have PS := fun W => fix_sub (inN kind N base p q) edges inN_len.fit he W
  unfold ofR
  by_cases hA : kind = 4 ∧ known = false
  · rw [if_pos hA]
    exact siz_none kind N base known p q siz edges w hA.1 hA.2
  · rw [if_neg hA]
    have hA' : (kind == 4) = false ∨ ((kind == 4) = true ∧ known = true) := by
      by_cases h : kind = 4
      · right; refine ⟨by simp [h], ?_⟩; cases known
        · exact absurd ⟨h, rfl⟩ hA
        · rfl
      · left; simp [h]
    by_cases hc : inE kind N base p q = 0
    · rw [if_neg (fun h => h hc)]
      have P0 : ∀ W, Calls Try.prog 121 #[.agg #[.int .i64 kind, .int .i64 N], .int .i64 base, .agg #[.int .i64 p, .int .i64 q]] W fun e w' => e = .returned (.tuple #[.int .i64 (inN kind N base p q), .bool (inOk kind)]) ∧ Below W.heap.size W w' := fun W => (PT W).mono fun e w' h => ⟨h.1 hc, h.2.2⟩
      cases hok : inOk kind
      · rw [hok] at P0
        rw [if_pos rfl]
        rcases hA' with h4 | h4
        · exact siz_not kind N base known p q siz edges w h4 _ P0
        · exact siz_not_4 kind N base known p q siz edges w h4 _ P0
      · rw [hok] at P0
        rw [if_neg (by decide)]
        cases hs : (siz == 2)
        · rw [if_pos rfl]
          rcases hA' with h4 | h4
          · exact siz_part kind N base known p q siz edges w h4 hs _ P0
          · exact siz_part_4 kind N base known p q siz edges w h4 hs _ P0
        · rw [if_neg (by decide)]
          by_cases hf : lenE (inN kind N base p q - edges) = 0
          · rw [if_neg (fun h => h hf)]
            have e : lenN (inN kind N base p q - edges) = inN kind N base p q - edges := by
              unfold lenE at hf
              unfold lenN
              cases hl : lenB (inN kind N base p q - edges)
              · rw [hl] at hf; cases hf
              · rfl
            rw [e] at PS
            have S0 : ∀ W, Calls Try.prog 66 #[.int .i64 (inN kind N base p q), .int .i64 edges] W fun e w' => e = .returned (.int .i64 (inN kind N base p q - edges)) ∧ Below W.heap.size W w' := fun W => (PS W).mono fun e w' h => ⟨h.1 hf, h.2.2⟩
            rcases hA' with h4 | h4
            · exact siz_whole kind N base known p q siz edges w h4 hs _ _ P0 S0
            · exact siz_whole_4 kind N base known p q siz edges w h4 hs _ _ P0 S0
          · rw [if_pos hf]
            have S0 : ∀ W, Calls Try.prog 66 #[.int .i64 (inN kind N base p q), .int .i64 edges] W fun e w' => e = .panicked (gave (lenE (inN kind N base p q - edges))) ∧ Below W.heap.size W w' := fun W => (PS W).mono fun e w' h => ⟨h.2.1 hf, h.2.2⟩
            rcases hA' with h4 | h4
            · exact siz_far kind N base known p q siz edges w h4 hs _ _ hf P0 S0
            · exact siz_far_4 kind N base known p q siz edges w h4 hs _ _ hf P0 S0
    · rw [if_pos hc]
      have P0 : ∀ W, Calls Try.prog 121 #[.agg #[.int .i64 kind, .int .i64 N], .int .i64 base, .agg #[.int .i64 p, .int .i64 q]] W fun e w' => e = .panicked (gave (inE kind N base p q)) ∧ Below W.heap.size W w' := fun W => (PT W).mono fun e w' h => ⟨h.2.1 hc, h.2.2⟩
      rcases hA' with h4 | h4
      · exact siz_gives kind N base known p q siz edges w h4 _ hc P0
      · exact siz_gives_4 kind N base known p q siz edges w h4 _ hc P0
set_option maxRecDepth 100000 in
set_option maxHeartbeats 1600000 in
theorem siz_fit (a l m : Int) (ha : IFit a) (hl : IFit l) (hm : IFit m) (w : World) :
    Calls Try.prog 83 #[.int .i64 a, .int .i64 l, .int .i64 m] w fun e w' => e = .returned (.int .i64 (max (min a m) l)) ∧ w' = w := by
  go_enter Try.func83, Try.ntmps83
  go_wp2_with fail
  go_ret
  exact ⟨rfl, rfl⟩
def limN (least most : Int) (bound : Bool) (n : Int) : Int := max (if bound then min n most else n) least
set_option maxRecDepth 100000 in
set_option maxHeartbeats 1600000 in
theorem lim_of (least most : Int) (bound : Bool) (n : Int) (w : World) :
    Calls Try.prog 92 #[.agg #[.int .i64 least, .int .i64 most, .bool bound], .int .i64 n] w fun e w' => e = .returned (.int .i64 (limN least most bound n)) ∧ Below w.heap.size w w' := by
  have t1 := Blk.new w #[.int .i64 least, .int .i64 most, .bool bound] 131 _ rfl
  have hB : Below w.heap.size w (w.alloc (.cells #[.int .i64 least, .int .i64 most, .bool bound] 131)) := (by repeat' (first | (with_reducible exact Below.refl _ _) | (with_reducible assumption) | (with_reducible refine below_alloc ?_ _ ?_) | (with_reducible refine below_set _ ?_ ?_) | (with_reducible refine Below.drew ?_) | (with_reducible refine below_dN ?_ _) | (apply below_thenA; assumption) | omega | (simp; done) | (simp; omega) | (simp [*]; done)))
  have c0 := t1.cell 0 _ rfl
  have c1 := t1.cell 1 _ rfl
  have c2 := t1.cell 2 _ rfl
  cases bound
  all_goals
    go_enter Try.func92, Try.ntmps92
    go_wp2_with fail
    go_ret
    exact ⟨rfl, hB⟩
end Go.Proofs.Ythffphcgkmjhbaa
