/-
  Layer 11 (style): the bounds of a word, a number in its parts.
-/
/-
  Layer 11 (style): a number in its parts, of the reference.
-/
/-
  Aggregates of many cells: their cells told by a function; loads and stores of parts and of the whole.
-/
/-
  Layer 11 (style): plain: raw styles, computed styles, the first error.
-/
import Derived.Test.YtmkblfejoniccaaDoorZ9
import Derived.Test.YtmkblfejoniccaaDoorZ1
import Derived.Deep.MidRow
namespace Go.Proofs.YtmkblfejoniccaaDoor
open Go.RowKit
set_option linter.unusedSimpArgs false
set_option linter.unusedVariables false

theorem gr_ok {b : Nat} {den low high : Int} (h : ¬ (den < 1 ∨ 1048576 < den ∨ high < low)) (hk : fKi b ≠ 1) : ∃ n, gridR b den low high = (n, 0) := by
  by_cases hk2 : fKi b = 2
  · exact ⟨_, gridR_inf h hk2⟩
  · exact ⟨_, gridR_num h hk hk2⟩
set_option maxRecDepth 100000 in
set_option maxHeartbeats 3200000 in
theorem ref11_word (i : Nat) (hi : i < 12) (n : Int) (hn : IFit n) (w : World) : Calls Tryd.prog 79 #[.int .i64 ((i : Int)), .int .i64 n] w fun e w' => e = .returned (.bool (okW i n)) ∧ Below w.heap.size w w' := by
  match i, hi with
  | 0, _ =>
    show Calls Tryd.prog 79 #[.int .i64 0, .int .i64 n] w fun e w' => e = .returned (.bool (decide (1 ≤ n) && decide (n ≤ 4))) ∧ Below w.heap.size w w'
    by_cases h1 : 1 ≤ n
    · have d1 : decide (1 ≤ n) = true := by simp; omega
      rw [d1]
      clear h1
      go_enter Tryd.func79, Tryd.ntmps79
      go_wp2_with fail
      (go_light; simp [bodyPost, results, Tryd.results79, go_sem, *])
      exact (by repeat' (first | (with_reducible exact Below.refl _ _) | (with_reducible assumption) | (with_reducible refine below_alloc ?_ _ ?_) | (with_reducible refine below_set _ ?_ ?_) | (with_reducible refine Below.drew ?_) | (with_reducible refine below_dN ?_ _) | (apply below_thenA; assumption) | omega | (simp; done) | (simp; omega) | (simp [*]; done)))
    · have d1 : decide (1 ≤ n) = false := by simp; omega
      rw [d1]
      clear h1
      go_enter Tryd.func79, Tryd.ntmps79
      go_wp2_with fail
      (go_light; simp [bodyPost, results, Tryd.results79, go_sem, *])
      exact (by repeat' (first | (with_reducible exact Below.refl _ _) | (with_reducible assumption) | (with_reducible refine below_alloc ?_ _ ?_) | (with_reducible refine below_set _ ?_ ?_) | (with_reducible refine Below.drew ?_) | (with_reducible refine below_dN ?_ _) | (apply below_thenA; assumption) | omega | (simp; done) | (simp; omega) | (simp [*]; done)))
  | 1, _ =>
    show Calls Tryd.prog 79 #[.int .i64 1, .int .i64 n] w fun e w' => e = .returned (.bool (decide (1 ≤ n) && decide (n ≤ 3))) ∧ Below w.heap.size w w'
    by_cases h1 : 1 ≤ n
    · have d1 : decide (1 ≤ n) = true := by simp; omega
      rw [d1]
      clear h1
      go_enter Tryd.func79, Tryd.ntmps79
      go_wp2_with fail
      (go_light; simp [bodyPost, results, Tryd.results79, go_sem, *])
      exact (by repeat' (first | (with_reducible exact Below.refl _ _) | (with_reducible assumption) | (with_reducible refine below_alloc ?_ _ ?_) | (with_reducible refine below_set _ ?_ ?_) | (with_reducible refine Below.drew ?_) | (with_reducible refine below_dN ?_ _) | (apply below_thenA; assumption) | omega | (simp; done) | (simp; omega) | (simp [*]; done)))
    · have d1 : decide (1 ≤ n) = false := by simp; omega
      rw [d1]
      clear h1
      go_enter Tryd.func79, Tryd.ntmps79
      go_wp2_with fail
      (go_light; simp [bodyPost, results, Tryd.results79, go_sem, *])
      exact (by repeat' (first | (with_reducible exact Below.refl _ _) | (with_reducible assumption) | (with_reducible refine below_alloc ?_ _ ?_) | (with_reducible refine below_set _ ?_ ?_) | (with_reducible refine Below.drew ?_) | (with_reducible refine below_dN ?_ _) | (apply below_thenA; assumption) | omega | (simp; done) | (simp; omega) | (simp [*]; done)))
  | 2, _ =>
    show Calls Tryd.prog 79 #[.int .i64 2, .int .i64 n] w fun e w' => e = .returned (.bool (decide (1 ≤ n) && decide (n ≤ 3))) ∧ Below w.heap.size w w'
    by_cases h1 : 1 ≤ n
    · have d1 : decide (1 ≤ n) = true := by simp; omega
      rw [d1]
      clear h1
      go_enter Tryd.func79, Tryd.ntmps79
      go_wp2_with fail
      (go_light; simp [bodyPost, results, Tryd.results79, go_sem, *])
      exact (by repeat' (first | (with_reducible exact Below.refl _ _) | (with_reducible assumption) | (with_reducible refine below_alloc ?_ _ ?_) | (with_reducible refine below_set _ ?_ ?_) | (with_reducible refine Below.drew ?_) | (with_reducible refine below_dN ?_ _) | (apply below_thenA; assumption) | omega | (simp; done) | (simp; omega) | (simp [*]; done)))
    · have d1 : decide (1 ≤ n) = false := by simp; omega
      rw [d1]
      clear h1
      go_enter Tryd.func79, Tryd.ntmps79
      go_wp2_with fail
      (go_light; simp [bodyPost, results, Tryd.results79, go_sem, *])
      exact (by repeat' (first | (with_reducible exact Below.refl _ _) | (with_reducible assumption) | (with_reducible refine below_alloc ?_ _ ?_) | (with_reducible refine below_set _ ?_ ?_) | (with_reducible refine Below.drew ?_) | (with_reducible refine below_dN ?_ _) | (apply below_thenA; assumption) | omega | (simp; done) | (simp; omega) | (simp [*]; done)))
  | 3, _ =>
    show Calls Tryd.prog 79 #[.int .i64 3, .int .i64 n] w fun e w' => e = .returned (.bool (decide (1 ≤ n) && decide (n ≤ 2))) ∧ Below w.heap.size w w'
    by_cases h1 : 1 ≤ n
    · have d1 : decide (1 ≤ n) = true := by simp; omega
      rw [d1]
      clear h1
      go_enter Tryd.func79, Tryd.ntmps79
      go_wp2_with fail
      (go_light; simp [bodyPost, results, Tryd.results79, go_sem, *])
      exact (by repeat' (first | (with_reducible exact Below.refl _ _) | (with_reducible assumption) | (with_reducible refine below_alloc ?_ _ ?_) | (with_reducible refine below_set _ ?_ ?_) | (with_reducible refine Below.drew ?_) | (with_reducible refine below_dN ?_ _) | (apply below_thenA; assumption) | omega | (simp; done) | (simp; omega) | (simp [*]; done)))
    · have d1 : decide (1 ≤ n) = false := by simp; omega
      rw [d1]
      clear h1
      go_enter Tryd.func79, Tryd.ntmps79
      go_wp2_with fail
      (go_light; simp [bodyPost, results, Tryd.results79, go_sem, *])
      exact (by repeat' (first | (with_reducible exact Below.refl _ _) | (with_reducible assumption) | (with_reducible refine below_alloc ?_ _ ?_) | (with_reducible refine below_set _ ?_ ?_) | (with_reducible refine Below.drew ?_) | (with_reducible refine below_dN ?_ _) | (apply below_thenA; assumption) | omega | (simp; done) | (simp; omega) | (simp [*]; done)))
  | 4, _ =>
    show Calls Tryd.prog 79 #[.int .i64 4, .int .i64 n] w fun e w' => e = .returned (.bool (decide ((-1000) ≤ n) && decide (n ≤ 1000))) ∧ Below w.heap.size w w'
    by_cases h1 : (-1000) ≤ n
    · have d1 : decide ((-1000) ≤ n) = true := by simp; omega
      rw [d1]
      clear h1
      go_enter Tryd.func79, Tryd.ntmps79
      go_wp2_with fail
      (go_light; simp [bodyPost, results, Tryd.results79, go_sem, *])
      exact (by repeat' (first | (with_reducible exact Below.refl _ _) | (with_reducible assumption) | (with_reducible refine below_alloc ?_ _ ?_) | (with_reducible refine below_set _ ?_ ?_) | (with_reducible refine Below.drew ?_) | (with_reducible refine below_dN ?_ _) | (apply below_thenA; assumption) | omega | (simp; done) | (simp; omega) | (simp [*]; done)))
    · have d1 : decide ((-1000) ≤ n) = false := by simp; omega
      rw [d1]
      clear h1
      go_enter Tryd.func79, Tryd.ntmps79
      go_wp2_with fail
      (go_light; simp [bodyPost, results, Tryd.results79, go_sem, *])
      exact (by repeat' (first | (with_reducible exact Below.refl _ _) | (with_reducible assumption) | (with_reducible refine below_alloc ?_ _ ?_) | (with_reducible refine below_set _ ?_ ?_) | (with_reducible refine Below.drew ?_) | (with_reducible refine below_dN ?_ _) | (apply below_thenA; assumption) | omega | (simp; done) | (simp; omega) | (simp [*]; done)))
  | 5, _ =>
    show Calls Tryd.prog 79 #[.int .i64 5, .int .i64 n] w fun e w' => e = .returned (.bool (decide (1 ≤ n) && decide (n ≤ 4))) ∧ Below w.heap.size w w'
    by_cases h1 : 1 ≤ n
    · have d1 : decide (1 ≤ n) = true := by simp; omega
      rw [d1]
      clear h1
      go_enter Tryd.func79, Tryd.ntmps79
      go_wp2_with fail
      (go_light; simp [bodyPost, results, Tryd.results79, go_sem, *])
      exact (by repeat' (first | (with_reducible exact Below.refl _ _) | (with_reducible assumption) | (with_reducible refine below_alloc ?_ _ ?_) | (with_reducible refine below_set _ ?_ ?_) | (with_reducible refine Below.drew ?_) | (with_reducible refine below_dN ?_ _) | (apply below_thenA; assumption) | omega | (simp; done) | (simp; omega) | (simp [*]; done)))
    · have d1 : decide (1 ≤ n) = false := by simp; omega
      rw [d1]
      clear h1
      go_enter Tryd.func79, Tryd.ntmps79
      go_wp2_with fail
      (go_light; simp [bodyPost, results, Tryd.results79, go_sem, *])
      exact (by repeat' (first | (with_reducible exact Below.refl _ _) | (with_reducible assumption) | (with_reducible refine below_alloc ?_ _ ?_) | (with_reducible refine below_set _ ?_ ?_) | (with_reducible refine Below.drew ?_) | (with_reducible refine below_dN ?_ _) | (apply below_thenA; assumption) | omega | (simp; done) | (simp; omega) | (simp [*]; done)))
  | 6, _ =>
    show Calls Tryd.prog 79 #[.int .i64 6, .int .i64 n] w fun e w' => e = .returned (.bool (decide (1 ≤ n) && decide (n ≤ 3))) ∧ Below w.heap.size w w'
    by_cases h1 : 1 ≤ n
    · have d1 : decide (1 ≤ n) = true := by simp; omega
      rw [d1]
      clear h1
      go_enter Tryd.func79, Tryd.ntmps79
      go_wp2_with fail
      (go_light; simp [bodyPost, results, Tryd.results79, go_sem, *])
      exact (by repeat' (first | (with_reducible exact Below.refl _ _) | (with_reducible assumption) | (with_reducible refine below_alloc ?_ _ ?_) | (with_reducible refine below_set _ ?_ ?_) | (with_reducible refine Below.drew ?_) | (with_reducible refine below_dN ?_ _) | (apply below_thenA; assumption) | omega | (simp; done) | (simp; omega) | (simp [*]; done)))
    · have d1 : decide (1 ≤ n) = false := by simp; omega
      rw [d1]
      clear h1
      go_enter Tryd.func79, Tryd.ntmps79
      go_wp2_with fail
      (go_light; simp [bodyPost, results, Tryd.results79, go_sem, *])
      exact (by repeat' (first | (with_reducible exact Below.refl _ _) | (with_reducible assumption) | (with_reducible refine below_alloc ?_ _ ?_) | (with_reducible refine below_set _ ?_ ?_) | (with_reducible refine Below.drew ?_) | (with_reducible refine below_dN ?_ _) | (apply below_thenA; assumption) | omega | (simp; done) | (simp; omega) | (simp [*]; done)))
  | 7, _ =>
    show Calls Tryd.prog 79 #[.int .i64 7, .int .i64 n] w fun e w' => e = .returned (.bool (decide (1 ≤ n) && decide (n ≤ 6))) ∧ Below w.heap.size w w'
    by_cases h1 : 1 ≤ n
    · have d1 : decide (1 ≤ n) = true := by simp; omega
      rw [d1]
      clear h1
      go_enter Tryd.func79, Tryd.ntmps79
      go_wp2_with fail
      (go_light; simp [bodyPost, results, Tryd.results79, go_sem, *])
      exact (by repeat' (first | (with_reducible exact Below.refl _ _) | (with_reducible assumption) | (with_reducible refine below_alloc ?_ _ ?_) | (with_reducible refine below_set _ ?_ ?_) | (with_reducible refine Below.drew ?_) | (with_reducible refine below_dN ?_ _) | (apply below_thenA; assumption) | omega | (simp; done) | (simp; omega) | (simp [*]; done)))
    · have d1 : decide (1 ≤ n) = false := by simp; omega
      rw [d1]
      clear h1
      go_enter Tryd.func79, Tryd.ntmps79
      go_wp2_with fail
      (go_light; simp [bodyPost, results, Tryd.results79, go_sem, *])
      exact (by repeat' (first | (with_reducible exact Below.refl _ _) | (with_reducible assumption) | (with_reducible refine below_alloc ?_ _ ?_) | (with_reducible refine below_set _ ?_ ?_) | (with_reducible refine Below.drew ?_) | (with_reducible refine below_dN ?_ _) | (apply below_thenA; assumption) | omega | (simp; done) | (simp; omega) | (simp [*]; done)))
  | 8, _ =>
    show Calls Tryd.prog 79 #[.int .i64 8, .int .i64 n] w fun e w' => e = .returned (.bool (decide (1 ≤ n) && decide (n ≤ 4))) ∧ Below w.heap.size w w'
    by_cases h1 : 1 ≤ n
    · have d1 : decide (1 ≤ n) = true := by simp; omega
      rw [d1]
      clear h1
      go_enter Tryd.func79, Tryd.ntmps79
      go_wp2_with fail
      (go_light; simp [bodyPost, results, Tryd.results79, go_sem, *])
      exact (by repeat' (first | (with_reducible exact Below.refl _ _) | (with_reducible assumption) | (with_reducible refine below_alloc ?_ _ ?_) | (with_reducible refine below_set _ ?_ ?_) | (with_reducible refine Below.drew ?_) | (with_reducible refine below_dN ?_ _) | (apply below_thenA; assumption) | omega | (simp; done) | (simp; omega) | (simp [*]; done)))
    · have d1 : decide (1 ≤ n) = false := by simp; omega
      rw [d1]
      clear h1
      go_enter Tryd.func79, Tryd.ntmps79
      go_wp2_with fail
      (go_light; simp [bodyPost, results, Tryd.results79, go_sem, *])
      exact (by repeat' (first | (with_reducible exact Below.refl _ _) | (with_reducible assumption) | (with_reducible refine below_alloc ?_ _ ?_) | (with_reducible refine below_set _ ?_ ?_) | (with_reducible refine Below.drew ?_) | (with_reducible refine below_dN ?_ _) | (apply below_thenA; assumption) | omega | (simp; done) | (simp; omega) | (simp [*]; done)))
  | 9, _ =>
    show Calls Tryd.prog 79 #[.int .i64 9, .int .i64 n] w fun e w' => e = .returned (.bool (decide (0 ≤ n) && decide (n ≤ 4))) ∧ Below w.heap.size w w'
    by_cases h1 : 0 ≤ n
    · have d1 : decide (0 ≤ n) = true := by simp; omega
      rw [d1]
      clear h1
      go_enter Tryd.func79, Tryd.ntmps79
      go_wp2_with fail
      (go_light; simp [bodyPost, results, Tryd.results79, go_sem, *])
      exact (by repeat' (first | (with_reducible exact Below.refl _ _) | (with_reducible assumption) | (with_reducible refine below_alloc ?_ _ ?_) | (with_reducible refine below_set _ ?_ ?_) | (with_reducible refine Below.drew ?_) | (with_reducible refine below_dN ?_ _) | (apply below_thenA; assumption) | omega | (simp; done) | (simp; omega) | (simp [*]; done)))
    · have d1 : decide (0 ≤ n) = false := by simp; omega
      rw [d1]
      clear h1
      go_enter Tryd.func79, Tryd.ntmps79
      go_wp2_with fail
      (go_light; simp [bodyPost, results, Tryd.results79, go_sem, *])
      exact (by repeat' (first | (with_reducible exact Below.refl _ _) | (with_reducible assumption) | (with_reducible refine below_alloc ?_ _ ?_) | (with_reducible refine below_set _ ?_ ?_) | (with_reducible refine Below.drew ?_) | (with_reducible refine below_dN ?_ _) | (apply below_thenA; assumption) | omega | (simp; done) | (simp; omega) | (simp [*]; done)))
  | 10, _ =>
    show Calls Tryd.prog 79 #[.int .i64 10, .int .i64 n] w fun e w' => e = .returned (.bool (decide (1 ≤ n) && decide (n ≤ 7))) ∧ Below w.heap.size w w'
    by_cases h1 : 1 ≤ n
    · have d1 : decide (1 ≤ n) = true := by simp; omega
      rw [d1]
      clear h1
      go_enter Tryd.func79, Tryd.ntmps79
      go_wp2_with fail
      (go_light; simp [bodyPost, results, Tryd.results79, go_sem, *])
      exact (by repeat' (first | (with_reducible exact Below.refl _ _) | (with_reducible assumption) | (with_reducible refine below_alloc ?_ _ ?_) | (with_reducible refine below_set _ ?_ ?_) | (with_reducible refine Below.drew ?_) | (with_reducible refine below_dN ?_ _) | (apply below_thenA; assumption) | omega | (simp; done) | (simp; omega) | (simp [*]; done)))
    · have d1 : decide (1 ≤ n) = false := by simp; omega
      rw [d1]
      clear h1
      go_enter Tryd.func79, Tryd.ntmps79
      go_wp2_with fail
      (go_light; simp [bodyPost, results, Tryd.results79, go_sem, *])
      exact (by repeat' (first | (with_reducible exact Below.refl _ _) | (with_reducible assumption) | (with_reducible refine below_alloc ?_ _ ?_) | (with_reducible refine below_set _ ?_ ?_) | (with_reducible refine Below.drew ?_) | (with_reducible refine below_dN ?_ _) | (apply below_thenA; assumption) | omega | (simp; done) | (simp; omega) | (simp [*]; done)))
  | 11, _ =>
    show Calls Tryd.prog 79 #[.int .i64 11, .int .i64 n] w fun e w' => e = .returned (.bool (decide (1 ≤ n) && decide (n ≤ 4))) ∧ Below w.heap.size w w'
    by_cases h1 : 1 ≤ n
    · have d1 : decide (1 ≤ n) = true := by simp; omega
      rw [d1]
      clear h1
      go_enter Tryd.func79, Tryd.ntmps79
      go_wp2_with fail
      (go_light; simp [bodyPost, results, Tryd.results79, go_sem, *])
      exact (by repeat' (first | (with_reducible exact Below.refl _ _) | (with_reducible assumption) | (with_reducible refine below_alloc ?_ _ ?_) | (with_reducible refine below_set _ ?_ ?_) | (with_reducible refine Below.drew ?_) | (with_reducible refine below_dN ?_ _) | (apply below_thenA; assumption) | omega | (simp; done) | (simp; omega) | (simp [*]; done)))
    · have d1 : decide (1 ≤ n) = false := by simp; omega
      rw [d1]
      clear h1
      go_enter Tryd.func79, Tryd.ntmps79
      go_wp2_with fail
      (go_light; simp [bodyPost, results, Tryd.results79, go_sem, *])
      exact (by repeat' (first | (with_reducible exact Below.refl _ _) | (with_reducible assumption) | (with_reducible refine below_alloc ?_ _ ?_) | (with_reducible refine below_set _ ?_ ?_) | (with_reducible refine Below.drew ?_) | (with_reducible refine below_dN ?_ _) | (apply below_thenA; assumption) | omega | (simp; done) | (simp; omega) | (simp [*]; done)))
  | n + 12, h => exact absurd h (by omega)
set_option maxRecDepth 100000 in
set_option maxHeartbeats 3200000 in
theorem sty_number (i : Nat) (hi : i < 10) (b : Nat) (hb : b < 18446744073709551616) (w : World) (hT : StyW w) : Calls Tryd.prog 75 #[.int .i64 ((i : Int)), .float .f64 b] w fun e w' => e = .returned (.tuple #[.int .i64 ((nF i b).1), .int .i64 ((nF i b).2)]) ∧ Below w.heap.size w w' := by
  have HN := hT.num
  have hsz := hT.nsz
  match i, hi with
  | 0, _ =>
    have c0 : w.cell? ⟨5, 0, none⟩ = some (.int .i64 64) := HN 0 (by omega)
    have c1 : w.cell? ⟨5, 1, none⟩ = some (.int .i64 0) := HN 1 (by omega)
    have c2 : w.cell? ⟨5, 2, none⟩ = some (.int .i64 1073741824) := HN 2 (by omega)
    clear HN
    have GR := fun W => real_Grid b hb (64) (0) (1073741824) (by unfold IFit; omega) (by unfold IFit; omega) (by unfold IFit; omega) W
    by_cases hk : fKi b = 1
    · rw [gridR_nan (by omega) hk] at GR
      rw [show nF 0 b = (0, 4) from by unfold nF; rw [if_neg (by omega), if_neg (by omega)]; exact gridR_nan (by decide) hk]
      clear hk
      dsimp only at GR ⊢
      go_enter Tryd.func75, Tryd.ntmps75
      go_wp2_with (go_at_call 26; with_reducible refine (GR _).mono ?_; rintro e w1 ⟨rfl, hb1⟩; have hs1 := hb1.size; simp at hs1; obtain ⟨hc1, hf1⟩ := bcell hb1)
      go_ret2
      exact ⟨rfl, (by repeat' (first | (with_reducible exact Below.refl _ _) | (with_reducible assumption) | (with_reducible refine below_alloc ?_ _ ?_) | (with_reducible refine below_set _ ?_ ?_) | (with_reducible refine Below.drew ?_) | (with_reducible refine below_dN ?_ _) | (apply below_thenA; assumption) | omega | (simp; done) | (simp; omega) | (simp [*]; done)))⟩
    · obtain ⟨n, en⟩ := gr_ok (b := b) (den := 64) (low := 0) (high := 1073741824) (by omega) hk
      rw [en] at GR
      rw [show nF 0 b = (n, 0) from by unfold nF; rw [if_neg (fun q => hk q.1), if_neg (fun q => hk q.1)]; exact en]
      clear en
      clear hk
      dsimp only at GR ⊢
      go_enter Tryd.func75, Tryd.ntmps75
      go_wp2_with (go_at_call 26; with_reducible refine (GR _).mono ?_; rintro e w1 ⟨rfl, hb1⟩; have hs1 := hb1.size; simp at hs1; obtain ⟨hc1, hf1⟩ := bcell hb1)
      go_ret2
      exact ⟨rfl, (by repeat' (first | (with_reducible exact Below.refl _ _) | (with_reducible assumption) | (with_reducible refine below_alloc ?_ _ ?_) | (with_reducible refine below_set _ ?_ ?_) | (with_reducible refine Below.drew ?_) | (with_reducible refine below_dN ?_ _) | (apply below_thenA; assumption) | omega | (simp; done) | (simp; omega) | (simp [*]; done)))⟩
  | 1, _ =>
    have c0 : w.cell? ⟨5, 3, none⟩ = some (.int .i64 64) := HN 3 (by omega)
    have c1 : w.cell? ⟨5, 4, none⟩ = some (.int .i64 0) := HN 4 (by omega)
    have c2 : w.cell? ⟨5, 5, none⟩ = some (.int .i64 1073741824) := HN 5 (by omega)
    clear HN
    have GR := fun W => real_Grid b hb (64) (0) (1073741824) (by unfold IFit; omega) (by unfold IFit; omega) (by unfold IFit; omega) W
    by_cases hk : fKi b = 1
    · rw [gridR_nan (by omega) hk] at GR
      rw [show nF 1 b = (0, 4) from by unfold nF; rw [if_neg (by omega), if_neg (by omega)]; exact gridR_nan (by decide) hk]
      clear hk
      dsimp only at GR ⊢
      go_enter Tryd.func75, Tryd.ntmps75
      go_wp2_with (go_at_call 26; with_reducible refine (GR _).mono ?_; rintro e w1 ⟨rfl, hb1⟩; have hs1 := hb1.size; simp at hs1; obtain ⟨hc1, hf1⟩ := bcell hb1)
      go_ret2
      exact ⟨rfl, (by repeat' (first | (with_reducible exact Below.refl _ _) | (with_reducible assumption) | (with_reducible refine below_alloc ?_ _ ?_) | (with_reducible refine below_set _ ?_ ?_) | (with_reducible refine Below.drew ?_) | (with_reducible refine below_dN ?_ _) | (apply below_thenA; assumption) | omega | (simp; done) | (simp; omega) | (simp [*]; done)))⟩
    · obtain ⟨n, en⟩ := gr_ok (b := b) (den := 64) (low := 0) (high := 1073741824) (by omega) hk
      rw [en] at GR
      rw [show nF 1 b = (n, 0) from by unfold nF; rw [if_neg (fun q => hk q.1), if_neg (fun q => hk q.1)]; exact en]
      clear en
      clear hk
      dsimp only at GR ⊢
      go_enter Tryd.func75, Tryd.ntmps75
      go_wp2_with (go_at_call 26; with_reducible refine (GR _).mono ?_; rintro e w1 ⟨rfl, hb1⟩; have hs1 := hb1.size; simp at hs1; obtain ⟨hc1, hf1⟩ := bcell hb1)
      go_ret2
      exact ⟨rfl, (by repeat' (first | (with_reducible exact Below.refl _ _) | (with_reducible assumption) | (with_reducible refine below_alloc ?_ _ ?_) | (with_reducible refine below_set _ ?_ ?_) | (with_reducible refine Below.drew ?_) | (with_reducible refine below_dN ?_ _) | (apply below_thenA; assumption) | omega | (simp; done) | (simp; omega) | (simp [*]; done)))⟩
  | 2, _ =>
    have c0 : w.cell? ⟨5, 6, none⟩ = some (.int .i64 64) := HN 6 (by omega)
    have c1 : w.cell? ⟨5, 7, none⟩ = some (.int .i64 0) := HN 7 (by omega)
    have c2 : w.cell? ⟨5, 8, none⟩ = some (.int .i64 1073741824) := HN 8 (by omega)
    clear HN
    have GR := fun W => real_Grid b hb (64) (0) (1073741824) (by unfold IFit; omega) (by unfold IFit; omega) (by unfold IFit; omega) W
    by_cases hk : fKi b = 1
    · rw [gridR_nan (by omega) hk] at GR
      rw [show nF 2 b = (0, 4) from by unfold nF; rw [if_neg (by omega), if_neg (by omega)]; exact gridR_nan (by decide) hk]
      clear hk
      dsimp only at GR ⊢
      go_enter Tryd.func75, Tryd.ntmps75
      go_wp2_with (go_at_call 26; with_reducible refine (GR _).mono ?_; rintro e w1 ⟨rfl, hb1⟩; have hs1 := hb1.size; simp at hs1; obtain ⟨hc1, hf1⟩ := bcell hb1)
      go_ret2
      exact ⟨rfl, (by repeat' (first | (with_reducible exact Below.refl _ _) | (with_reducible assumption) | (with_reducible refine below_alloc ?_ _ ?_) | (with_reducible refine below_set _ ?_ ?_) | (with_reducible refine Below.drew ?_) | (with_reducible refine below_dN ?_ _) | (apply below_thenA; assumption) | omega | (simp; done) | (simp; omega) | (simp [*]; done)))⟩
    · obtain ⟨n, en⟩ := gr_ok (b := b) (den := 64) (low := 0) (high := 1073741824) (by omega) hk
      rw [en] at GR
      rw [show nF 2 b = (n, 0) from by unfold nF; rw [if_neg (fun q => hk q.1), if_neg (fun q => hk q.1)]; exact en]
      clear en
      clear hk
      dsimp only at GR ⊢
      go_enter Tryd.func75, Tryd.ntmps75
      go_wp2_with (go_at_call 26; with_reducible refine (GR _).mono ?_; rintro e w1 ⟨rfl, hb1⟩; have hs1 := hb1.size; simp at hs1; obtain ⟨hc1, hf1⟩ := bcell hb1)
      go_ret2
      exact ⟨rfl, (by repeat' (first | (with_reducible exact Below.refl _ _) | (with_reducible assumption) | (with_reducible refine below_alloc ?_ _ ?_) | (with_reducible refine below_set _ ?_ ?_) | (with_reducible refine Below.drew ?_) | (with_reducible refine below_dN ?_ _) | (apply below_thenA; assumption) | omega | (simp; done) | (simp; omega) | (simp [*]; done)))⟩
  | 3, _ =>
    have c0 : w.cell? ⟨5, 9, none⟩ = some (.int .i64 64) := HN 9 (by omega)
    have c1 : w.cell? ⟨5, 10, none⟩ = some (.int .i64 0) := HN 10 (by omega)
    have c2 : w.cell? ⟨5, 11, none⟩ = some (.int .i64 1073741824) := HN 11 (by omega)
    clear HN
    have GR := fun W => real_Grid b hb (64) (0) (1073741824) (by unfold IFit; omega) (by unfold IFit; omega) (by unfold IFit; omega) W
    by_cases hk : fKi b = 1
    · rw [gridR_nan (by omega) hk] at GR
      rw [show nF 3 b = (0, 4) from by unfold nF; rw [if_neg (by omega), if_neg (by omega)]; exact gridR_nan (by decide) hk]
      clear hk
      dsimp only at GR ⊢
      go_enter Tryd.func75, Tryd.ntmps75
      go_wp2_with (go_at_call 26; with_reducible refine (GR _).mono ?_; rintro e w1 ⟨rfl, hb1⟩; have hs1 := hb1.size; simp at hs1; obtain ⟨hc1, hf1⟩ := bcell hb1)
      go_ret2
      exact ⟨rfl, (by repeat' (first | (with_reducible exact Below.refl _ _) | (with_reducible assumption) | (with_reducible refine below_alloc ?_ _ ?_) | (with_reducible refine below_set _ ?_ ?_) | (with_reducible refine Below.drew ?_) | (with_reducible refine below_dN ?_ _) | (apply below_thenA; assumption) | omega | (simp; done) | (simp; omega) | (simp [*]; done)))⟩
    · obtain ⟨n, en⟩ := gr_ok (b := b) (den := 64) (low := 0) (high := 1073741824) (by omega) hk
      rw [en] at GR
      rw [show nF 3 b = (n, 0) from by unfold nF; rw [if_neg (fun q => hk q.1), if_neg (fun q => hk q.1)]; exact en]
      clear en
      clear hk
      dsimp only at GR ⊢
      go_enter Tryd.func75, Tryd.ntmps75
      go_wp2_with (go_at_call 26; with_reducible refine (GR _).mono ?_; rintro e w1 ⟨rfl, hb1⟩; have hs1 := hb1.size; simp at hs1; obtain ⟨hc1, hf1⟩ := bcell hb1)
      go_ret2
      exact ⟨rfl, (by repeat' (first | (with_reducible exact Below.refl _ _) | (with_reducible assumption) | (with_reducible refine below_alloc ?_ _ ?_) | (with_reducible refine below_set _ ?_ ?_) | (with_reducible refine Below.drew ?_) | (with_reducible refine below_dN ?_ _) | (apply below_thenA; assumption) | omega | (simp; done) | (simp; omega) | (simp [*]; done)))⟩
  | 4, _ =>
    have c0 : w.cell? ⟨5, 12, none⟩ = some (.int .i64 1) := HN 12 (by omega)
    have c1 : w.cell? ⟨5, 13, none⟩ = some (.int .i64 (-1000)) := HN 13 (by omega)
    have c2 : w.cell? ⟨5, 14, none⟩ = some (.int .i64 1000) := HN 14 (by omega)
    clear HN
    have GR := fun W => real_Grid b hb (1) (-1000) (1000) (by unfold IFit; omega) (by unfold IFit; omega) (by unfold IFit; omega) W
    by_cases hk : fKi b = 1
    · rw [gridR_nan (by omega) hk] at GR
      rw [show nF 4 b = (0, 0) from if_pos ⟨hk, rfl⟩]
      clear hk
      dsimp only at GR ⊢
      go_enter Tryd.func75, Tryd.ntmps75
      go_wp2_with (go_at_call 26; with_reducible refine (GR _).mono ?_; rintro e w1 ⟨rfl, hb1⟩; have hs1 := hb1.size; simp at hs1; obtain ⟨hc1, hf1⟩ := bcell hb1)
      go_ret2
      exact ⟨rfl, (by repeat' (first | (with_reducible exact Below.refl _ _) | (with_reducible assumption) | (with_reducible refine below_alloc ?_ _ ?_) | (with_reducible refine below_set _ ?_ ?_) | (with_reducible refine Below.drew ?_) | (with_reducible refine below_dN ?_ _) | (apply below_thenA; assumption) | omega | (simp; done) | (simp; omega) | (simp [*]; done)))⟩
    · obtain ⟨n, en⟩ := gr_ok (b := b) (den := 1) (low := -1000) (high := 1000) (by omega) hk
      rw [en] at GR
      rw [show nF 4 b = (n, 0) from by unfold nF; rw [if_neg (fun q => hk q.1), if_neg (fun q => hk q.1)]; exact en]
      clear en
      clear hk
      dsimp only at GR ⊢
      go_enter Tryd.func75, Tryd.ntmps75
      go_wp2_with (go_at_call 26; with_reducible refine (GR _).mono ?_; rintro e w1 ⟨rfl, hb1⟩; have hs1 := hb1.size; simp at hs1; obtain ⟨hc1, hf1⟩ := bcell hb1)
      go_ret2
      exact ⟨rfl, (by repeat' (first | (with_reducible exact Below.refl _ _) | (with_reducible assumption) | (with_reducible refine below_alloc ?_ _ ?_) | (with_reducible refine below_set _ ?_ ?_) | (with_reducible refine Below.drew ?_) | (with_reducible refine below_dN ?_ _) | (apply below_thenA; assumption) | omega | (simp; done) | (simp; omega) | (simp [*]; done)))⟩
  | 5, _ =>
    have c0 : w.cell? ⟨5, 15, none⟩ = some (.int .i64 4096) := HN 15 (by omega)
    have c1 : w.cell? ⟨5, 16, none⟩ = some (.int .i64 0) := HN 16 (by omega)
    have c2 : w.cell? ⟨5, 17, none⟩ = some (.int .i64 4096000) := HN 17 (by omega)
    clear HN
    have GR := fun W => real_Grid b hb (4096) (0) (4096000) (by unfold IFit; omega) (by unfold IFit; omega) (by unfold IFit; omega) W
    by_cases hk : fKi b = 1
    · rw [gridR_nan (by omega) hk] at GR
      rw [show nF 5 b = (0, 4) from by unfold nF; rw [if_neg (by omega), if_neg (by omega)]; exact gridR_nan (by decide) hk]
      clear hk
      dsimp only at GR ⊢
      go_enter Tryd.func75, Tryd.ntmps75
      go_wp2_with (go_at_call 26; with_reducible refine (GR _).mono ?_; rintro e w1 ⟨rfl, hb1⟩; have hs1 := hb1.size; simp at hs1; obtain ⟨hc1, hf1⟩ := bcell hb1)
      go_ret2
      exact ⟨rfl, (by repeat' (first | (with_reducible exact Below.refl _ _) | (with_reducible assumption) | (with_reducible refine below_alloc ?_ _ ?_) | (with_reducible refine below_set _ ?_ ?_) | (with_reducible refine Below.drew ?_) | (with_reducible refine below_dN ?_ _) | (apply below_thenA; assumption) | omega | (simp; done) | (simp; omega) | (simp [*]; done)))⟩
    · obtain ⟨n, en⟩ := gr_ok (b := b) (den := 4096) (low := 0) (high := 4096000) (by omega) hk
      rw [en] at GR
      rw [show nF 5 b = (n, 0) from by unfold nF; rw [if_neg (fun q => hk q.1), if_neg (fun q => hk q.1)]; exact en]
      clear en
      clear hk
      dsimp only at GR ⊢
      go_enter Tryd.func75, Tryd.ntmps75
      go_wp2_with (go_at_call 26; with_reducible refine (GR _).mono ?_; rintro e w1 ⟨rfl, hb1⟩; have hs1 := hb1.size; simp at hs1; obtain ⟨hc1, hf1⟩ := bcell hb1)
      go_ret2
      exact ⟨rfl, (by repeat' (first | (with_reducible exact Below.refl _ _) | (with_reducible assumption) | (with_reducible refine below_alloc ?_ _ ?_) | (with_reducible refine below_set _ ?_ ?_) | (with_reducible refine Below.drew ?_) | (with_reducible refine below_dN ?_ _) | (apply below_thenA; assumption) | omega | (simp; done) | (simp; omega) | (simp [*]; done)))⟩
  | 6, _ =>
    have c0 : w.cell? ⟨5, 18, none⟩ = some (.int .i64 4096) := HN 18 (by omega)
    have c1 : w.cell? ⟨5, 19, none⟩ = some (.int .i64 0) := HN 19 (by omega)
    have c2 : w.cell? ⟨5, 20, none⟩ = some (.int .i64 4096000) := HN 20 (by omega)
    clear HN
    have GR := fun W => real_Grid b hb (4096) (0) (4096000) (by unfold IFit; omega) (by unfold IFit; omega) (by unfold IFit; omega) W
    by_cases hk : fKi b = 1
    · rw [gridR_nan (by omega) hk] at GR
      rw [show nF 6 b = (0, 4) from by unfold nF; rw [if_neg (by omega), if_neg (by omega)]; exact gridR_nan (by decide) hk]
      clear hk
      dsimp only at GR ⊢
      go_enter Tryd.func75, Tryd.ntmps75
      go_wp2_with (go_at_call 26; with_reducible refine (GR _).mono ?_; rintro e w1 ⟨rfl, hb1⟩; have hs1 := hb1.size; simp at hs1; obtain ⟨hc1, hf1⟩ := bcell hb1)
      go_ret2
      exact ⟨rfl, (by repeat' (first | (with_reducible exact Below.refl _ _) | (with_reducible assumption) | (with_reducible refine below_alloc ?_ _ ?_) | (with_reducible refine below_set _ ?_ ?_) | (with_reducible refine Below.drew ?_) | (with_reducible refine below_dN ?_ _) | (apply below_thenA; assumption) | omega | (simp; done) | (simp; omega) | (simp [*]; done)))⟩
    · obtain ⟨n, en⟩ := gr_ok (b := b) (den := 4096) (low := 0) (high := 4096000) (by omega) hk
      rw [en] at GR
      rw [show nF 6 b = (n, 0) from by unfold nF; rw [if_neg (fun q => hk q.1), if_neg (fun q => hk q.1)]; exact en]
      clear en
      clear hk
      dsimp only at GR ⊢
      go_enter Tryd.func75, Tryd.ntmps75
      go_wp2_with (go_at_call 26; with_reducible refine (GR _).mono ?_; rintro e w1 ⟨rfl, hb1⟩; have hs1 := hb1.size; simp at hs1; obtain ⟨hc1, hf1⟩ := bcell hb1)
      go_ret2
      exact ⟨rfl, (by repeat' (first | (with_reducible exact Below.refl _ _) | (with_reducible assumption) | (with_reducible refine below_alloc ?_ _ ?_) | (with_reducible refine below_set _ ?_ ?_) | (with_reducible refine Below.drew ?_) | (with_reducible refine below_dN ?_ _) | (apply below_thenA; assumption) | omega | (simp; done) | (simp; omega) | (simp [*]; done)))⟩
  | 7, _ =>
    have c0 : w.cell? ⟨5, 21, none⟩ = some (.int .i64 64) := HN 21 (by omega)
    have c1 : w.cell? ⟨5, 22, none⟩ = some (.int .i64 0) := HN 22 (by omega)
    have c2 : w.cell? ⟨5, 23, none⟩ = some (.int .i64 1073741824) := HN 23 (by omega)
    clear HN
    have GR := fun W => real_Grid b hb (64) (0) (1073741824) (by unfold IFit; omega) (by unfold IFit; omega) (by unfold IFit; omega) W
    by_cases hk : fKi b = 1
    · rw [gridR_nan (by omega) hk] at GR
      rw [show nF 7 b = (0, 4) from by unfold nF; rw [if_neg (by omega), if_neg (by omega)]; exact gridR_nan (by decide) hk]
      clear hk
      dsimp only at GR ⊢
      go_enter Tryd.func75, Tryd.ntmps75
      go_wp2_with (go_at_call 26; with_reducible refine (GR _).mono ?_; rintro e w1 ⟨rfl, hb1⟩; have hs1 := hb1.size; simp at hs1; obtain ⟨hc1, hf1⟩ := bcell hb1)
      go_ret2
      exact ⟨rfl, (by repeat' (first | (with_reducible exact Below.refl _ _) | (with_reducible assumption) | (with_reducible refine below_alloc ?_ _ ?_) | (with_reducible refine below_set _ ?_ ?_) | (with_reducible refine Below.drew ?_) | (with_reducible refine below_dN ?_ _) | (apply below_thenA; assumption) | omega | (simp; done) | (simp; omega) | (simp [*]; done)))⟩
    · obtain ⟨n, en⟩ := gr_ok (b := b) (den := 64) (low := 0) (high := 1073741824) (by omega) hk
      rw [en] at GR
      rw [show nF 7 b = (n, 0) from by unfold nF; rw [if_neg (fun q => hk q.1), if_neg (fun q => hk q.1)]; exact en]
      clear en
      clear hk
      dsimp only at GR ⊢
      go_enter Tryd.func75, Tryd.ntmps75
      go_wp2_with (go_at_call 26; with_reducible refine (GR _).mono ?_; rintro e w1 ⟨rfl, hb1⟩; have hs1 := hb1.size; simp at hs1; obtain ⟨hc1, hf1⟩ := bcell hb1)
      go_ret2
      exact ⟨rfl, (by repeat' (first | (with_reducible exact Below.refl _ _) | (with_reducible assumption) | (with_reducible refine below_alloc ?_ _ ?_) | (with_reducible refine below_set _ ?_ ?_) | (with_reducible refine Below.drew ?_) | (with_reducible refine below_dN ?_ _) | (apply below_thenA; assumption) | omega | (simp; done) | (simp; omega) | (simp [*]; done)))⟩
  | 8, _ =>
    have c0 : w.cell? ⟨5, 24, none⟩ = some (.int .i64 64) := HN 24 (by omega)
    have c1 : w.cell? ⟨5, 25, none⟩ = some (.int .i64 0) := HN 25 (by omega)
    have c2 : w.cell? ⟨5, 26, none⟩ = some (.int .i64 1073741824) := HN 26 (by omega)
    clear HN
    have GR := fun W => real_Grid b hb (64) (0) (1073741824) (by unfold IFit; omega) (by unfold IFit; omega) (by unfold IFit; omega) W
    by_cases hk : fKi b = 1
    · rw [gridR_nan (by omega) hk] at GR
      rw [show nF 8 b = (0, 4) from by unfold nF; rw [if_neg (by omega), if_neg (by omega)]; exact gridR_nan (by decide) hk]
      clear hk
      dsimp only at GR ⊢
      go_enter Tryd.func75, Tryd.ntmps75
      go_wp2_with (go_at_call 26; with_reducible refine (GR _).mono ?_; rintro e w1 ⟨rfl, hb1⟩; have hs1 := hb1.size; simp at hs1; obtain ⟨hc1, hf1⟩ := bcell hb1)
      go_ret2
      exact ⟨rfl, (by repeat' (first | (with_reducible exact Below.refl _ _) | (with_reducible assumption) | (with_reducible refine below_alloc ?_ _ ?_) | (with_reducible refine below_set _ ?_ ?_) | (with_reducible refine Below.drew ?_) | (with_reducible refine below_dN ?_ _) | (apply below_thenA; assumption) | omega | (simp; done) | (simp; omega) | (simp [*]; done)))⟩
    · obtain ⟨n, en⟩ := gr_ok (b := b) (den := 64) (low := 0) (high := 1073741824) (by omega) hk
      rw [en] at GR
      rw [show nF 8 b = (n, 0) from by unfold nF; rw [if_neg (fun q => hk q.1), if_neg (fun q => hk q.1)]; exact en]
      clear en
      clear hk
      dsimp only at GR ⊢
      go_enter Tryd.func75, Tryd.ntmps75
      go_wp2_with (go_at_call 26; with_reducible refine (GR _).mono ?_; rintro e w1 ⟨rfl, hb1⟩; have hs1 := hb1.size; simp at hs1; obtain ⟨hc1, hf1⟩ := bcell hb1)
      go_ret2
      exact ⟨rfl, (by repeat' (first | (with_reducible exact Below.refl _ _) | (with_reducible assumption) | (with_reducible refine below_alloc ?_ _ ?_) | (with_reducible refine below_set _ ?_ ?_) | (with_reducible refine Below.drew ?_) | (with_reducible refine below_dN ?_ _) | (apply below_thenA; assumption) | omega | (simp; done) | (simp; omega) | (simp [*]; done)))⟩
  | 9, _ =>
    have c0 : w.cell? ⟨5, 27, none⟩ = some (.int .i64 64) := HN 27 (by omega)
    have c1 : w.cell? ⟨5, 28, none⟩ = some (.int .i64 0) := HN 28 (by omega)
    have c2 : w.cell? ⟨5, 29, none⟩ = some (.int .i64 1073741824) := HN 29 (by omega)
    clear HN
    have GR := fun W => real_Grid b hb (64) (0) (1073741824) (by unfold IFit; omega) (by unfold IFit; omega) (by unfold IFit; omega) W
    by_cases hk : fKi b = 1
    · rw [gridR_nan (by omega) hk] at GR
      rw [show nF 9 b = (1280, 0) from by unfold nF; rw [if_neg (by omega), if_pos ⟨hk, rfl⟩]]
      clear hk
      dsimp only at GR ⊢
      go_enter Tryd.func75, Tryd.ntmps75
      go_wp2_with (go_at_call 26; with_reducible refine (GR _).mono ?_; rintro e w1 ⟨rfl, hb1⟩; have hs1 := hb1.size; simp at hs1; obtain ⟨hc1, hf1⟩ := bcell hb1)
      go_ret2
      exact ⟨rfl, (by repeat' (first | (with_reducible exact Below.refl _ _) | (with_reducible assumption) | (with_reducible refine below_alloc ?_ _ ?_) | (with_reducible refine below_set _ ?_ ?_) | (with_reducible refine Below.drew ?_) | (with_reducible refine below_dN ?_ _) | (apply below_thenA; assumption) | omega | (simp; done) | (simp; omega) | (simp [*]; done)))⟩
    · obtain ⟨n, en⟩ := gr_ok (b := b) (den := 64) (low := 0) (high := 1073741824) (by omega) hk
      rw [en] at GR
      rw [show nF 9 b = (n, 0) from by unfold nF; rw [if_neg (fun q => hk q.1), if_neg (fun q => hk q.1)]; exact en]
      clear en
      clear hk
      dsimp only at GR ⊢
      go_enter Tryd.func75, Tryd.ntmps75
      go_wp2_with (go_at_call 26; with_reducible refine (GR _).mono ?_; rintro e w1 ⟨rfl, hb1⟩; have hs1 := hb1.size; simp at hs1; obtain ⟨hc1, hf1⟩ := bcell hb1)
      go_ret2
      exact ⟨rfl, (by repeat' (first | (with_reducible exact Below.refl _ _) | (with_reducible assumption) | (with_reducible refine below_alloc ?_ _ ?_) | (with_reducible refine below_set _ ?_ ?_) | (with_reducible refine Below.drew ?_) | (with_reducible refine below_dN ?_ _) | (apply below_thenA; assumption) | omega | (simp; done) | (simp; omega) | (simp [*]; done)))⟩
  | n + 10, h => exact absurd h (by omega)
end Go.Proofs.YtmkblfejoniccaaDoor
namespace Go.Proofs.YtmkblfejoniccaaDoor
open Go.RowKit
set_option linter.unusedSimpArgs false
set_option linter.unusedVariables false

set_option maxRecDepth 100000 in
set_option maxHeartbeats 3200000 in
theorem ref11_number (i : Nat) (hi : i < 10) (b : Nat) (hb : b < 18446744073709551616) (w : World) : Calls Tryd.prog 78 #[.int .i64 ((i : Int)), .int .u64 (b : Int)] w fun e w' => e = .returned (.tuple #[.int .i64 ((nF i b).1), .int .i64 ((nF i b).2)]) ∧ Below w.heap.size w w' := by
  have KI := ref3_kind b hb
  match i, hi with
  | 0, _ =>
    have GR := fun W => ref3_grid b hb (64) (0) (1073741824) (by unfold IFit; omega) (by unfold IFit; omega) (by unfold IFit; omega) W
    by_cases hk : fKi b = 1
    · rw [gridR_nan (by omega) hk] at GR
      rw [hk] at KI
      change ∀ w, Calls Tryd.prog 22 #[.int .u64 (b : Int)] w fun e w' => e = .returned (.tuple #[.int .i64 1, .bool (fDn b)]) ∧ w' = w at KI
      rw [show nF 0 b = (0, 4) from by unfold nF; rw [if_neg (by omega), if_neg (by omega)]; exact gridR_nan (by decide) hk]
      clear hk
      dsimp only at GR ⊢
      go_enter Tryd.func78, Tryd.ntmps78
      go_wp2_with (first | (go_at_call 22; with_reducible refine (KI _).mono ?_; rintro e w0 ⟨rfl, rfl⟩) | (go_at_call 27; with_reducible refine (GR _).mono ?_; rintro e w1 ⟨rfl, hb1⟩; have hs1 := hb1.size; obtain ⟨hc1, hf1⟩ := bcell hb1))
      go_ret2
      exact ⟨rfl, (by repeat' (first | (with_reducible exact Below.refl _ _) | (with_reducible assumption) | (with_reducible refine below_alloc ?_ _ ?_) | (with_reducible refine below_set _ ?_ ?_) | (with_reducible refine Below.drew ?_) | (with_reducible refine below_dN ?_ _) | (apply below_thenA; assumption) | omega | (simp; done) | (simp; omega) | (simp [*]; done)))⟩
    · obtain ⟨K, eK⟩ : ∃ K : Int, (fKi b : Int) = K := ⟨_, rfl⟩
      rw [eK] at KI
      have q1 : (K == 1) = false := by simp; omega
      clear eK
      obtain ⟨n, en⟩ := gr_ok (b := b) (den := 64) (low := 0) (high := 1073741824) (by omega) hk
      rw [en] at GR
      rw [show nF 0 b = (n, 0) from by unfold nF; rw [if_neg (fun q => hk q.1), if_neg (fun q => hk q.1)]; exact en]
      clear en
      clear hk
      dsimp only at GR ⊢
      go_enter Tryd.func78, Tryd.ntmps78
      go_wp2_with (first | (go_at_call 22; with_reducible refine (KI _).mono ?_; rintro e w0 ⟨rfl, rfl⟩) | (go_at_call 27; with_reducible refine (GR _).mono ?_; rintro e w1 ⟨rfl, hb1⟩; have hs1 := hb1.size; obtain ⟨hc1, hf1⟩ := bcell hb1))
      go_ret2
      exact ⟨rfl, (by repeat' (first | (with_reducible exact Below.refl _ _) | (with_reducible assumption) | (with_reducible refine below_alloc ?_ _ ?_) | (with_reducible refine below_set _ ?_ ?_) | (with_reducible refine Below.drew ?_) | (with_reducible refine below_dN ?_ _) | (apply below_thenA; assumption) | omega | (simp; done) | (simp; omega) | (simp [*]; done)))⟩
  | 1, _ =>
    have GR := fun W => ref3_grid b hb (64) (0) (1073741824) (by unfold IFit; omega) (by unfold IFit; omega) (by unfold IFit; omega) W
    by_cases hk : fKi b = 1
    · rw [gridR_nan (by omega) hk] at GR
      rw [hk] at KI
      change ∀ w, Calls Tryd.prog 22 #[.int .u64 (b : Int)] w fun e w' => e = .returned (.tuple #[.int .i64 1, .bool (fDn b)]) ∧ w' = w at KI
      rw [show nF 1 b = (0, 4) from by unfold nF; rw [if_neg (by omega), if_neg (by omega)]; exact gridR_nan (by decide) hk]
      clear hk
      dsimp only at GR ⊢
      go_enter Tryd.func78, Tryd.ntmps78
      go_wp2_with (first | (go_at_call 22; with_reducible refine (KI _).mono ?_; rintro e w0 ⟨rfl, rfl⟩) | (go_at_call 27; with_reducible refine (GR _).mono ?_; rintro e w1 ⟨rfl, hb1⟩; have hs1 := hb1.size; obtain ⟨hc1, hf1⟩ := bcell hb1))
      go_ret2
      exact ⟨rfl, (by repeat' (first | (with_reducible exact Below.refl _ _) | (with_reducible assumption) | (with_reducible refine below_alloc ?_ _ ?_) | (with_reducible refine below_set _ ?_ ?_) | (with_reducible refine Below.drew ?_) | (with_reducible refine below_dN ?_ _) | (apply below_thenA; assumption) | omega | (simp; done) | (simp; omega) | (simp [*]; done)))⟩
    · obtain ⟨K, eK⟩ : ∃ K : Int, (fKi b : Int) = K := ⟨_, rfl⟩
      rw [eK] at KI
      have q1 : (K == 1) = false := by simp; omega
      clear eK
      obtain ⟨n, en⟩ := gr_ok (b := b) (den := 64) (low := 0) (high := 1073741824) (by omega) hk
      rw [en] at GR
      rw [show nF 1 b = (n, 0) from by unfold nF; rw [if_neg (fun q => hk q.1), if_neg (fun q => hk q.1)]; exact en]
      clear en
      clear hk
      dsimp only at GR ⊢
      go_enter Tryd.func78, Tryd.ntmps78
      go_wp2_with (first | (go_at_call 22; with_reducible refine (KI _).mono ?_; rintro e w0 ⟨rfl, rfl⟩) | (go_at_call 27; with_reducible refine (GR _).mono ?_; rintro e w1 ⟨rfl, hb1⟩; have hs1 := hb1.size; obtain ⟨hc1, hf1⟩ := bcell hb1))
      go_ret2
      exact ⟨rfl, (by repeat' (first | (with_reducible exact Below.refl _ _) | (with_reducible assumption) | (with_reducible refine below_alloc ?_ _ ?_) | (with_reducible refine below_set _ ?_ ?_) | (with_reducible refine Below.drew ?_) | (with_reducible refine below_dN ?_ _) | (apply below_thenA; assumption) | omega | (simp; done) | (simp; omega) | (simp [*]; done)))⟩
  | 2, _ =>
    have GR := fun W => ref3_grid b hb (64) (0) (1073741824) (by unfold IFit; omega) (by unfold IFit; omega) (by unfold IFit; omega) W
    by_cases hk : fKi b = 1
    · rw [gridR_nan (by omega) hk] at GR
      rw [hk] at KI
      change ∀ w, Calls Tryd.prog 22 #[.int .u64 (b : Int)] w fun e w' => e = .returned (.tuple #[.int .i64 1, .bool (fDn b)]) ∧ w' = w at KI
      rw [show nF 2 b = (0, 4) from by unfold nF; rw [if_neg (by omega), if_neg (by omega)]; exact gridR_nan (by decide) hk]
      clear hk
      dsimp only at GR ⊢
      go_enter Tryd.func78, Tryd.ntmps78
      go_wp2_with (first | (go_at_call 22; with_reducible refine (KI _).mono ?_; rintro e w0 ⟨rfl, rfl⟩) | (go_at_call 27; with_reducible refine (GR _).mono ?_; rintro e w1 ⟨rfl, hb1⟩; have hs1 := hb1.size; obtain ⟨hc1, hf1⟩ := bcell hb1))
      go_ret2
      exact ⟨rfl, (by repeat' (first | (with_reducible exact Below.refl _ _) | (with_reducible assumption) | (with_reducible refine below_alloc ?_ _ ?_) | (with_reducible refine below_set _ ?_ ?_) | (with_reducible refine Below.drew ?_) | (with_reducible refine below_dN ?_ _) | (apply below_thenA; assumption) | omega | (simp; done) | (simp; omega) | (simp [*]; done)))⟩
    · obtain ⟨K, eK⟩ : ∃ K : Int, (fKi b : Int) = K := ⟨_, rfl⟩
      rw [eK] at KI
      have q1 : (K == 1) = false := by simp; omega
      clear eK
      obtain ⟨n, en⟩ := gr_ok (b := b) (den := 64) (low := 0) (high := 1073741824) (by omega) hk
      rw [en] at GR
      rw [show nF 2 b = (n, 0) from by unfold nF; rw [if_neg (fun q => hk q.1), if_neg (fun q => hk q.1)]; exact en]
      clear en
      clear hk
      dsimp only at GR ⊢
      go_enter Tryd.func78, Tryd.ntmps78
      go_wp2_with (first | (go_at_call 22; with_reducible refine (KI _).mono ?_; rintro e w0 ⟨rfl, rfl⟩) | (go_at_call 27; with_reducible refine (GR _).mono ?_; rintro e w1 ⟨rfl, hb1⟩; have hs1 := hb1.size; obtain ⟨hc1, hf1⟩ := bcell hb1))
      go_ret2
      exact ⟨rfl, (by repeat' (first | (with_reducible exact Below.refl _ _) | (with_reducible assumption) | (with_reducible refine below_alloc ?_ _ ?_) | (with_reducible refine below_set _ ?_ ?_) | (with_reducible refine Below.drew ?_) | (with_reducible refine below_dN ?_ _) | (apply below_thenA; assumption) | omega | (simp; done) | (simp; omega) | (simp [*]; done)))⟩
  | 3, _ =>
    have GR := fun W => ref3_grid b hb (64) (0) (1073741824) (by unfold IFit; omega) (by unfold IFit; omega) (by unfold IFit; omega) W
    by_cases hk : fKi b = 1
    · rw [gridR_nan (by omega) hk] at GR
      rw [hk] at KI
      change ∀ w, Calls Tryd.prog 22 #[.int .u64 (b : Int)] w fun e w' => e = .returned (.tuple #[.int .i64 1, .bool (fDn b)]) ∧ w' = w at KI
      rw [show nF 3 b = (0, 4) from by unfold nF; rw [if_neg (by omega), if_neg (by omega)]; exact gridR_nan (by decide) hk]
      clear hk
      dsimp only at GR ⊢
      go_enter Tryd.func78, Tryd.ntmps78
      go_wp2_with (first | (go_at_call 22; with_reducible refine (KI _).mono ?_; rintro e w0 ⟨rfl, rfl⟩) | (go_at_call 27; with_reducible refine (GR _).mono ?_; rintro e w1 ⟨rfl, hb1⟩; have hs1 := hb1.size; obtain ⟨hc1, hf1⟩ := bcell hb1))
      go_ret2
      exact ⟨rfl, (by repeat' (first | (with_reducible exact Below.refl _ _) | (with_reducible assumption) | (with_reducible refine below_alloc ?_ _ ?_) | (with_reducible refine below_set _ ?_ ?_) | (with_reducible refine Below.drew ?_) | (with_reducible refine below_dN ?_ _) | (apply below_thenA; assumption) | omega | (simp; done) | (simp; omega) | (simp [*]; done)))⟩
    · obtain ⟨K, eK⟩ : ∃ K : Int, (fKi b : Int) = K := ⟨_, rfl⟩
      rw [eK] at KI
      have q1 : (K == 1) = false := by simp; omega
      clear eK
      obtain ⟨n, en⟩ := gr_ok (b := b) (den := 64) (low := 0) (high := 1073741824) (by omega) hk
      rw [en] at GR
      rw [show nF 3 b = (n, 0) from by unfold nF; rw [if_neg (fun q => hk q.1), if_neg (fun q => hk q.1)]; exact en]
      clear en
      clear hk
      dsimp only at GR ⊢
      go_enter Tryd.func78, Tryd.ntmps78
      go_wp2_with (first | (go_at_call 22; with_reducible refine (KI _).mono ?_; rintro e w0 ⟨rfl, rfl⟩) | (go_at_call 27; with_reducible refine (GR _).mono ?_; rintro e w1 ⟨rfl, hb1⟩; have hs1 := hb1.size; obtain ⟨hc1, hf1⟩ := bcell hb1))
      go_ret2
      exact ⟨rfl, (by repeat' (first | (with_reducible exact Below.refl _ _) | (with_reducible assumption) | (with_reducible refine below_alloc ?_ _ ?_) | (with_reducible refine below_set _ ?_ ?_) | (with_reducible refine Below.drew ?_) | (with_reducible refine below_dN ?_ _) | (apply below_thenA; assumption) | omega | (simp; done) | (simp; omega) | (simp [*]; done)))⟩
  | 4, _ =>
    have GR := fun W => ref3_grid b hb (1) (-1000) (1000) (by unfold IFit; omega) (by unfold IFit; omega) (by unfold IFit; omega) W
    by_cases hk : fKi b = 1
    · rw [gridR_nan (by omega) hk] at GR
      rw [hk] at KI
      change ∀ w, Calls Tryd.prog 22 #[.int .u64 (b : Int)] w fun e w' => e = .returned (.tuple #[.int .i64 1, .bool (fDn b)]) ∧ w' = w at KI
      rw [show nF 4 b = (0, 0) from if_pos ⟨hk, rfl⟩]
      clear hk
      dsimp only at GR ⊢
      go_enter Tryd.func78, Tryd.ntmps78
      go_wp2_with (first | (go_at_call 22; with_reducible refine (KI _).mono ?_; rintro e w0 ⟨rfl, rfl⟩) | (go_at_call 27; with_reducible refine (GR _).mono ?_; rintro e w1 ⟨rfl, hb1⟩; have hs1 := hb1.size; obtain ⟨hc1, hf1⟩ := bcell hb1))
      go_ret2
      exact ⟨rfl, (by repeat' (first | (with_reducible exact Below.refl _ _) | (with_reducible assumption) | (with_reducible refine below_alloc ?_ _ ?_) | (with_reducible refine below_set _ ?_ ?_) | (with_reducible refine Below.drew ?_) | (with_reducible refine below_dN ?_ _) | (apply below_thenA; assumption) | omega | (simp; done) | (simp; omega) | (simp [*]; done)))⟩
    · obtain ⟨K, eK⟩ : ∃ K : Int, (fKi b : Int) = K := ⟨_, rfl⟩
      rw [eK] at KI
      have q1 : (K == 1) = false := by simp; omega
      clear eK
      obtain ⟨n, en⟩ := gr_ok (b := b) (den := 1) (low := -1000) (high := 1000) (by omega) hk
      rw [en] at GR
      rw [show nF 4 b = (n, 0) from by unfold nF; rw [if_neg (fun q => hk q.1), if_neg (fun q => hk q.1)]; exact en]
      clear en
      clear hk
      dsimp only at GR ⊢
      go_enter Tryd.func78, Tryd.ntmps78
      go_wp2_with (first | (go_at_call 22; with_reducible refine (KI _).mono ?_; rintro e w0 ⟨rfl, rfl⟩) | (go_at_call 27; with_reducible refine (GR _).mono ?_; rintro e w1 ⟨rfl, hb1⟩; have hs1 := hb1.size; obtain ⟨hc1, hf1⟩ := bcell hb1))
      go_ret2
      exact ⟨rfl, (by repeat' (first | (with_reducible exact Below.refl _ _) | (with_reducible assumption) | (with_reducible refine below_alloc ?_ _ ?_) | (with_reducible refine below_set _ ?_ ?_) | (with_reducible refine Below.drew ?_) | (with_reducible refine below_dN ?_ _) | (apply below_thenA; assumption) | omega | (simp; done) | (simp; omega) | (simp [*]; done)))⟩
  | 5, _ =>
    have GR := fun W => ref3_grid b hb (4096) (0) (4096000) (by unfold IFit; omega) (by unfold IFit; omega) (by unfold IFit; omega) W
    by_cases hk : fKi b = 1
    · rw [gridR_nan (by omega) hk] at GR
      rw [hk] at KI
      change ∀ w, Calls Tryd.prog 22 #[.int .u64 (b : Int)] w fun e w' => e = .returned (.tuple #[.int .i64 1, .bool (fDn b)]) ∧ w' = w at KI
      rw [show nF 5 b = (0, 4) from by unfold nF; rw [if_neg (by omega), if_neg (by omega)]; exact gridR_nan (by decide) hk]
      clear hk
      dsimp only at GR ⊢
      go_enter Tryd.func78, Tryd.ntmps78
      go_wp2_with (first | (go_at_call 22; with_reducible refine (KI _).mono ?_; rintro e w0 ⟨rfl, rfl⟩) | (go_at_call 27; with_reducible refine (GR _).mono ?_; rintro e w1 ⟨rfl, hb1⟩; have hs1 := hb1.size; obtain ⟨hc1, hf1⟩ := bcell hb1))
      go_ret2
      exact ⟨rfl, (by repeat' (first | (with_reducible exact Below.refl _ _) | (with_reducible assumption) | (with_reducible refine below_alloc ?_ _ ?_) | (with_reducible refine below_set _ ?_ ?_) | (with_reducible refine Below.drew ?_) | (with_reducible refine below_dN ?_ _) | (apply below_thenA; assumption) | omega | (simp; done) | (simp; omega) | (simp [*]; done)))⟩
    · obtain ⟨K, eK⟩ : ∃ K : Int, (fKi b : Int) = K := ⟨_, rfl⟩
      rw [eK] at KI
      have q1 : (K == 1) = false := by simp; omega
      clear eK
      obtain ⟨n, en⟩ := gr_ok (b := b) (den := 4096) (low := 0) (high := 4096000) (by omega) hk
      rw [en] at GR
      rw [show nF 5 b = (n, 0) from by unfold nF; rw [if_neg (fun q => hk q.1), if_neg (fun q => hk q.1)]; exact en]
      clear en
      clear hk
      dsimp only at GR ⊢
      go_enter Tryd.func78, Tryd.ntmps78
      go_wp2_with (first | (go_at_call 22; with_reducible refine (KI _).mono ?_; rintro e w0 ⟨rfl, rfl⟩) | (go_at_call 27; with_reducible refine (GR _).mono ?_; rintro e w1 ⟨rfl, hb1⟩; have hs1 := hb1.size; obtain ⟨hc1, hf1⟩ := bcell hb1))
      go_ret2
      exact ⟨rfl, (by repeat' (first | (with_reducible exact Below.refl _ _) | (with_reducible assumption) | (with_reducible refine below_alloc ?_ _ ?_) | (with_reducible refine below_set _ ?_ ?_) | (with_reducible refine Below.drew ?_) | (with_reducible refine below_dN ?_ _) | (apply below_thenA; assumption) | omega | (simp; done) | (simp; omega) | (simp [*]; done)))⟩
  | 6, _ =>
    have GR := fun W => ref3_grid b hb (4096) (0) (4096000) (by unfold IFit; omega) (by unfold IFit; omega) (by unfold IFit; omega) W
    by_cases hk : fKi b = 1
    · rw [gridR_nan (by omega) hk] at GR
      rw [hk] at KI
      change ∀ w, Calls Tryd.prog 22 #[.int .u64 (b : Int)] w fun e w' => e = .returned (.tuple #[.int .i64 1, .bool (fDn b)]) ∧ w' = w at KI
      rw [show nF 6 b = (0, 4) from by unfold nF; rw [if_neg (by omega), if_neg (by omega)]; exact gridR_nan (by decide) hk]
      clear hk
      dsimp only at GR ⊢
      go_enter Tryd.func78, Tryd.ntmps78
      go_wp2_with (first | (go_at_call 22; with_reducible refine (KI _).mono ?_; rintro e w0 ⟨rfl, rfl⟩) | (go_at_call 27; with_reducible refine (GR _).mono ?_; rintro e w1 ⟨rfl, hb1⟩; have hs1 := hb1.size; obtain ⟨hc1, hf1⟩ := bcell hb1))
      go_ret2
      exact ⟨rfl, (by repeat' (first | (with_reducible exact Below.refl _ _) | (with_reducible assumption) | (with_reducible refine below_alloc ?_ _ ?_) | (with_reducible refine below_set _ ?_ ?_) | (with_reducible refine Below.drew ?_) | (with_reducible refine below_dN ?_ _) | (apply below_thenA; assumption) | omega | (simp; done) | (simp; omega) | (simp [*]; done)))⟩
    · obtain ⟨K, eK⟩ : ∃ K : Int, (fKi b : Int) = K := ⟨_, rfl⟩
      rw [eK] at KI
      have q1 : (K == 1) = false := by simp; omega
      clear eK
      obtain ⟨n, en⟩ := gr_ok (b := b) (den := 4096) (low := 0) (high := 4096000) (by omega) hk
      rw [en] at GR
      rw [show nF 6 b = (n, 0) from by unfold nF; rw [if_neg (fun q => hk q.1), if_neg (fun q => hk q.1)]; exact en]
      clear en
      clear hk
      dsimp only at GR ⊢
      go_enter Tryd.func78, Tryd.ntmps78
      go_wp2_with (first | (go_at_call 22; with_reducible refine (KI _).mono ?_; rintro e w0 ⟨rfl, rfl⟩) | (go_at_call 27; with_reducible refine (GR _).mono ?_; rintro e w1 ⟨rfl, hb1⟩; have hs1 := hb1.size; obtain ⟨hc1, hf1⟩ := bcell hb1))
      go_ret2
      exact ⟨rfl, (by repeat' (first | (with_reducible exact Below.refl _ _) | (with_reducible assumption) | (with_reducible refine below_alloc ?_ _ ?_) | (with_reducible refine below_set _ ?_ ?_) | (with_reducible refine Below.drew ?_) | (with_reducible refine below_dN ?_ _) | (apply below_thenA; assumption) | omega | (simp; done) | (simp; omega) | (simp [*]; done)))⟩
  | 7, _ =>
    have GR := fun W => ref3_grid b hb (64) (0) (1073741824) (by unfold IFit; omega) (by unfold IFit; omega) (by unfold IFit; omega) W
    by_cases hk : fKi b = 1
    · rw [gridR_nan (by omega) hk] at GR
      rw [hk] at KI
      change ∀ w, Calls Tryd.prog 22 #[.int .u64 (b : Int)] w fun e w' => e = .returned (.tuple #[.int .i64 1, .bool (fDn b)]) ∧ w' = w at KI
      rw [show nF 7 b = (0, 4) from by unfold nF; rw [if_neg (by omega), if_neg (by omega)]; exact gridR_nan (by decide) hk]
      clear hk
      dsimp only at GR ⊢
      go_enter Tryd.func78, Tryd.ntmps78
      go_wp2_with (first | (go_at_call 22; with_reducible refine (KI _).mono ?_; rintro e w0 ⟨rfl, rfl⟩) | (go_at_call 27; with_reducible refine (GR _).mono ?_; rintro e w1 ⟨rfl, hb1⟩; have hs1 := hb1.size; obtain ⟨hc1, hf1⟩ := bcell hb1))
      go_ret2
      exact ⟨rfl, (by repeat' (first | (with_reducible exact Below.refl _ _) | (with_reducible assumption) | (with_reducible refine below_alloc ?_ _ ?_) | (with_reducible refine below_set _ ?_ ?_) | (with_reducible refine Below.drew ?_) | (with_reducible refine below_dN ?_ _) | (apply below_thenA; assumption) | omega | (simp; done) | (simp; omega) | (simp [*]; done)))⟩
    · obtain ⟨K, eK⟩ : ∃ K : Int, (fKi b : Int) = K := ⟨_, rfl⟩
      rw [eK] at KI
      have q1 : (K == 1) = false := by simp; omega
      clear eK
      obtain ⟨n, en⟩ := gr_ok (b := b) (den := 64) (low := 0) (high := 1073741824) (by omega) hk
      rw [en] at GR
      rw [show nF 7 b = (n, 0) from by unfold nF; rw [if_neg (fun q => hk q.1), if_neg (fun q => hk q.1)]; exact en]
      clear en
      clear hk
      dsimp only at GR ⊢
      go_enter Tryd.func78, Tryd.ntmps78
      go_wp2_with (first | (go_at_call 22; with_reducible refine (KI _).mono ?_; rintro e w0 ⟨rfl, rfl⟩) | (go_at_call 27; with_reducible refine (GR _).mono ?_; rintro e w1 ⟨rfl, hb1⟩; have hs1 := hb1.size; obtain ⟨hc1, hf1⟩ := bcell hb1))
      go_ret2
      exact ⟨rfl, (by repeat' (first | (with_reducible exact Below.refl _ _) | (with_reducible assumption) | (with_reducible refine below_alloc ?_ _ ?_) | (with_reducible refine below_set _ ?_ ?_) | (with_reducible refine Below.drew ?_) | (with_reducible refine below_dN ?_ _) | (apply below_thenA; assumption) | omega | (simp; done) | (simp; omega) | (simp [*]; done)))⟩
  | 8, _ =>
    have GR := fun W => ref3_grid b hb (64) (0) (1073741824) (by unfold IFit; omega) (by unfold IFit; omega) (by unfold IFit; omega) W
    by_cases hk : fKi b = 1
    · rw [gridR_nan (by omega) hk] at GR
      rw [hk] at KI
      change ∀ w, Calls Tryd.prog 22 #[.int .u64 (b : Int)] w fun e w' => e = .returned (.tuple #[.int .i64 1, .bool (fDn b)]) ∧ w' = w at KI
      rw [show nF 8 b = (0, 4) from by unfold nF; rw [if_neg (by omega), if_neg (by omega)]; exact gridR_nan (by decide) hk]
      clear hk
      dsimp only at GR ⊢
      go_enter Tryd.func78, Tryd.ntmps78
      go_wp2_with (first | (go_at_call 22; with_reducible refine (KI _).mono ?_; rintro e w0 ⟨rfl, rfl⟩) | (go_at_call 27; with_reducible refine (GR _).mono ?_; rintro e w1 ⟨rfl, hb1⟩; have hs1 := hb1.size; obtain ⟨hc1, hf1⟩ := bcell hb1))
      go_ret2
      exact ⟨rfl, (by repeat' (first | (with_reducible exact Below.refl _ _) | (with_reducible assumption) | (with_reducible refine below_alloc ?_ _ ?_) | (with_reducible refine below_set _ ?_ ?_) | (with_reducible refine Below.drew ?_) | (with_reducible refine below_dN ?_ _) | (apply below_thenA; assumption) | omega | (simp; done) | (simp; omega) | (simp [*]; done)))⟩
    · obtain ⟨K, eK⟩ : ∃ K : Int, (fKi b : Int) = K := ⟨_, rfl⟩
      rw [eK] at KI
      have q1 : (K == 1) = false := by simp; omega
      clear eK
      obtain ⟨n, en⟩ := gr_ok (b := b) (den := 64) (low := 0) (high := 1073741824) (by omega) hk
      rw [en] at GR
      rw [show nF 8 b = (n, 0) from by unfold nF; rw [if_neg (fun q => hk q.1), if_neg (fun q => hk q.1)]; exact en]
      clear en
      clear hk
      dsimp only at GR ⊢
      go_enter Tryd.func78, Tryd.ntmps78
      go_wp2_with (first | (go_at_call 22; with_reducible refine (KI _).mono ?_; rintro e w0 ⟨rfl, rfl⟩) | (go_at_call 27; with_reducible refine (GR _).mono ?_; rintro e w1 ⟨rfl, hb1⟩; have hs1 := hb1.size; obtain ⟨hc1, hf1⟩ := bcell hb1))
      go_ret2
      exact ⟨rfl, (by repeat' (first | (with_reducible exact Below.refl _ _) | (with_reducible assumption) | (with_reducible refine below_alloc ?_ _ ?_) | (with_reducible refine below_set _ ?_ ?_) | (with_reducible refine Below.drew ?_) | (with_reducible refine below_dN ?_ _) | (apply below_thenA; assumption) | omega | (simp; done) | (simp; omega) | (simp [*]; done)))⟩
  | 9, _ =>
    have GR := fun W => ref3_grid b hb (64) (0) (1073741824) (by unfold IFit; omega) (by unfold IFit; omega) (by unfold IFit; omega) W
    by_cases hk : fKi b = 1
    · rw [gridR_nan (by omega) hk] at GR
      rw [hk] at KI
      change ∀ w, Calls Tryd.prog 22 #[.int .u64 (b : Int)] w fun e w' => e = .returned (.tuple #[.int .i64 1, .bool (fDn b)]) ∧ w' = w at KI
      rw [show nF 9 b = (1280, 0) from by unfold nF; rw [if_neg (by omega), if_pos ⟨hk, rfl⟩]]
      clear hk
      dsimp only at GR ⊢
      go_enter Tryd.func78, Tryd.ntmps78
      go_wp2_with (first | (go_at_call 22; with_reducible refine (KI _).mono ?_; rintro e w0 ⟨rfl, rfl⟩) | (go_at_call 27; with_reducible refine (GR _).mono ?_; rintro e w1 ⟨rfl, hb1⟩; have hs1 := hb1.size; obtain ⟨hc1, hf1⟩ := bcell hb1))
      go_ret2
      exact ⟨rfl, (by repeat' (first | (with_reducible exact Below.refl _ _) | (with_reducible assumption) | (with_reducible refine below_alloc ?_ _ ?_) | (with_reducible refine below_set _ ?_ ?_) | (with_reducible refine Below.drew ?_) | (with_reducible refine below_dN ?_ _) | (apply below_thenA; assumption) | omega | (simp; done) | (simp; omega) | (simp [*]; done)))⟩
    · obtain ⟨K, eK⟩ : ∃ K : Int, (fKi b : Int) = K := ⟨_, rfl⟩
      rw [eK] at KI
      have q1 : (K == 1) = false := by simp; omega
      clear eK
      obtain ⟨n, en⟩ := gr_ok (b := b) (den := 64) (low := 0) (high := 1073741824) (by omega) hk
      rw [en] at GR
      rw [show nF 9 b = (n, 0) from by unfold nF; rw [if_neg (fun q => hk q.1), if_neg (fun q => hk q.1)]; exact en]
      clear en
      clear hk
      dsimp only at GR ⊢
      go_enter Tryd.func78, Tryd.ntmps78
      go_wp2_with (first | (go_at_call 22; with_reducible refine (KI _).mono ?_; rintro e w0 ⟨rfl, rfl⟩) | (go_at_call 27; with_reducible refine (GR _).mono ?_; rintro e w1 ⟨rfl, hb1⟩; have hs1 := hb1.size; obtain ⟨hc1, hf1⟩ := bcell hb1))
      go_ret2
      exact ⟨rfl, (by repeat' (first | (with_reducible exact Below.refl _ _) | (with_reducible assumption) | (with_reducible refine below_alloc ?_ _ ?_) | (with_reducible refine below_set _ ?_ ?_) | (with_reducible refine Below.drew ?_) | (with_reducible refine below_dN ?_ _) | (apply below_thenA; assumption) | omega | (simp; done) | (simp; omega) | (simp [*]; done)))⟩
  | n + 10, h => exact absurd h (by omega)
end Go.Proofs.YtmkblfejoniccaaDoor
namespace Go.Proofs.YtmkblfejoniccaaDoor
open Go Go.RowKit
set_option linter.unusedSimpArgs false
set_option linter.unusedVariables false

/-- n cells, told by a function. -/
def cellsF (n : Nat) (f : Nat → Value) : Array Value := ((List.range n).map f).toArray
theorem cellsF_size (n : Nat) (f : Nat → Value) : (cellsF n f).size = n := by simp [cellsF]
theorem cellsF_get {n : Nat} (f : Nat → Value) {i : Nat} (h : i < n) : (cellsF n f)[i]? = some (f i) := by simp [cellsF, h]
theorem cellsF_none {n : Nat} (f : Nat → Value) {i : Nat} (h : n ≤ i) : (cellsF n f)[i]? = none := by rw [Array.getElem?_eq_none]; rw [cellsF_size]; exact h
theorem eq_cellsF {n : Nat} {f : Nat → Value} {a : Array Value} (hs : a.size = n) (h : ∀ i, i < n → a[i]? = some (f i)) : a = cellsF n f := by
  apply Array.ext_getElem?
  intro i
  by_cases hi : i < n
  · rw [h i hi, cellsF_get f hi]
  · rw [cellsF_none f (by omega), Array.getElem?_eq_none (by omega)]
theorem cellsF_ext {n : Nat} {f g : Nat → Value} (h : ∀ i, i < n → f i = g i) : cellsF n f = cellsF n g :=
  eq_cellsF (cellsF_size n f) (fun i hi => by rw [cellsF_get f hi, h i hi])
theorem cellsF_set (n : Nat) (f : Nat → Value) (i : Nat) (v : Value) : (cellsF n f).setIfInBounds i v = cellsF n (fun k => if k = i then v else f k) := by
  refine eq_cellsF (by simp [cellsF_size]) (fun k hk => ?_)
  rw [Array.getElem?_setIfInBounds]
  by_cases h : i = k
  · subst h
    rw [if_pos rfl, if_pos (by rw [cellsF_size]; exact hk), if_pos rfl]
  · rw [if_neg h, if_neg (fun e => h e.symm), cellsF_get f hk]
theorem cellsF_extract (n : Nat) (f : Nat → Value) (o m : Nat) (h : o + m ≤ n) : (cellsF n f).extract o (o + m) = cellsF m (fun k => f (o + k)) := by
  refine eq_cellsF (by simp [cellsF_size]; omega) (fun k hk => ?_)
  rw [Array.getElem?_extract, if_pos (by rw [cellsF_size]; omega), cellsF_get f (by omega)]
theorem cellsF_one {n : Nat} {f : Nat → Value} (h : ∀ i, i < n → (f i).oneCell' = true) : (cellsF n f).all (·.oneCell') = true := by
  rw [Array.all_eq_true_iff_forall_mem]
  intro v hv
  obtain ⟨i, hi, rfl⟩ := Array.getElem_of_mem hv
  have hi' : i < n := by rw [cellsF_size] at hi; exact hi
  have := cellsF_get f hi'
  rw [Array.getElem?_eq_getElem hi] at this
  rw [Option.some.inj this]
  exact h i hi'
theorem Blk.cellF {w : World} {b n : Nat} {f : Nat → Value} {T : TypeId} (t : Blk w b (cellsF n f) T) {i : Nat} (h : i < n) : w.cell? ⟨b, i, none⟩ = some (f i) := t.cell i _ (cellsF_get f h)
theorem Blk.rangeF {w : World} {b n : Nat} {f : Nat → Value} {T : TypeId} (t : Blk w b (cellsF n f) T) (o m : Nat) (h : o + m ≤ n) : w.rangeAt b o (cellsF m (fun k => f (o + k))).toList := by
  intro j v hv
  have hj : j < m := by
    have := (List.getElem?_eq_some_iff.1 hv).1
    simpa [cellsF_size] using this
  rw [Array.getElem?_toList, cellsF_get _ hj] at hv
  rw [t.cellF (show o + j < n by omega)]
  exact hv
/-- A part of a block is loaded. -/
theorem load_partF {P : Program} {w : World} {b n : Nat} {f : Nat → Value} {T : TypeId} (t : Blk w b (cellsF n f) T) (o m : Nat) (h : o + m ≤ n) (ty : TypeId) (d : TypeDesc) (hu : P.underlying ty = some d) (hd : d.isRow = true) (hi : (P.info? ty).map (·.size) = some m) :
    (loadVar ty ⟨b, o, none⟩).run P w = .ok (.agg (cellsF m (fun k => f (o + k)))) w := by
  have := run_loadVar_mid (P := P) w b o ty (cellsF m (fun k => f (o + k))).toList d (t.rangeF o m h) hu hd (by rw [hi, Array.length_toList, cellsF_size])
  simpa using this
/-- The whole of a block is loaded. -/
theorem load_allF {P : Program} {w : World} {b n : Nat} {f : Nat → Value} {T : TypeId} (t : Blk w b (cellsF n f) T) (ty : TypeId) (d : TypeDesc) (hu : P.underlying ty = some d) (hd : d.isRow = true) (hi : (P.info? ty).map (·.size) = some n) :
    (loadVar ty ⟨b, 0, none⟩).run P w = .ok (.agg (cellsF n f)) w := by
  have := load_partF t 0 n (by omega) ty d hu hd hi
  simpa using this
/-- Cells are set in a row. -/
theorem Blk.setCellsF {b n : Nat} {T : TypeId} : ∀ (m : Nat) (g : Nat → Value) (o : Nat) (w : World) (f : Nat → Value), Blk w b (cellsF n f) T →
    Blk (w.setCells b o (cellsF m g).toList) b (cellsF n (fun k => if o ≤ k ∧ k < o + m then g (k - o) else f k)) T
  | 0, g, o, w, f, t => by
    rw [show cellsF n (fun k => if o ≤ k ∧ k < o + 0 then g (k - o) else f k) = cellsF n f from cellsF_ext fun k _ => if_neg (by omega)]
    exact t
  | m + 1, g, o, w, f, t => by
    have e : (cellsF (m + 1) g).toList = g 0 :: (cellsF m (fun k => g (k + 1))).toList := by
      simp [cellsF, List.range_succ_eq_map, List.map_map, Function.comp_def]
    rw [e, World.setCells]
    have h1 := t.set o (g 0)
    rw [cellsF_set] at h1
    have h2 := Blk.setCellsF m (fun k => g (k + 1)) (o + 1) _ _ h1
    have e2 : cellsF n (fun k => if o + 1 ≤ k ∧ k < o + 1 + m then g (k - (o + 1) + 1) else if k = o then g 0 else f k) = cellsF n (fun k => if o ≤ k ∧ k < o + (m + 1) then g (k - o) else f k) := by
      refine cellsF_ext (fun k hk => ?_)
      by_cases h3 : k = o
      · subst h3
        rw [if_neg (by omega), if_pos rfl, if_pos (by omega), Nat.sub_self]
      · by_cases h4 : o + 1 ≤ k ∧ k < o + 1 + m
        · rw [if_pos h4, if_pos (by omega), show k - (o + 1) + 1 = k - o by omega]
        · rw [if_neg h4, if_neg h3, if_neg (by omega)]
    rw [e2] at h2
    exact h2
theorem But.setCells {b : Nat} : ∀ (vs : List Value) (o : Nat) (w : World), But b w (w.setCells b o vs)
  | [], _, w => But.of (Below.refl _ _)
  | v :: r, o, w => by
    rw [World.setCells]
    exact (But.set w o v).trans (But.setCells r (o + 1) _)
theorem World.drew_there {w : World} : w.drew.heap = w.heap := rfl
/-- A part of a block is stored. -/
theorem store_partF {P : Program} {w : World} {b n : Nat} {f : Nat → Value} {T : TypeId} (t : Blk w b (cellsF n f) T) (o m : Nat) (h : o + m ≤ n) (g : Nat → Value) (h1 : ∀ i, i < m → (g i).oneCell' = true) (ty : TypeId) (hi : (P.info? ty).map (·.size) = some m) :
    (storeVar ty ⟨b, o, none⟩ (.agg (cellsF m g))).run P w = .ok () (w.setCells b o (cellsF m g).toList) :=
  run_storeVar_mid w b o ty (cellsF m g) (fun j hj => ⟨by rw [cellsF_size] at hj; rw [t.cellF (show o + j < n by omega)]; rfl, t.free _⟩) (by rw [hi, cellsF_size]) (cellsF_one h1)
theorem Blk.storeF {w : World} {b n : Nat} {f g : Nat → Value} {T : TypeId} (t : Blk w b (cellsF n f) T) : Blk (w.setCells b 0 (cellsF n g).toList) b (cellsF n g) T := by
  have := t.setCellsF n g 0
  have e : cellsF n (fun k => if 0 ≤ k ∧ k < 0 + n then g (k - 0) else f k) = cellsF n g := cellsF_ext (fun k hk => by rw [if_pos ⟨Nat.zero_le _, by omega⟩, Nat.sub_zero])
  rw [e] at this
  exact this
theorem Blk.asF {w : World} {b n : Nat} {cs : Array Value} {T : TypeId} (t : Blk w b cs T) (hs : cs.size = n) : Blk w b (cellsF n (fun k => cs.getD k undef)) T := by
  rwa [← eq_cellsF hs (fun i hi => by rw [Array.getD_eq_getD_getElem?, Array.getElem?_eq_getElem (by omega)]; rfl)]
/-- The whole of a block is stored. -/
theorem store_allF {P : Program} {w : World} {b n : Nat} {cs : Array Value} {T : TypeId} (t : Blk w b cs T) (hs : cs.size = n) (g : Nat → Value) (h1 : ∀ i, (g i).oneCell' = true) (ty : TypeId) (hi : (P.info? ty).map (·.size) = some n) :
    (storeVar ty ⟨b, 0, none⟩ (.agg (cellsF n g))).run P w = .ok () (w.setCells b 0 (cellsF n g).toList) := store_partF (t.asF hs) 0 n (by omega) g (fun i _ => h1 i) ty hi
theorem Blk.storeA {w : World} {b n : Nat} {cs : Array Value} {T : TypeId} (t : Blk w b cs T) (hs : cs.size = n) (g : Nat → Value) : Blk (w.setCells b 0 (cellsF n g).toList) b (cellsF n g) T := (t.asF hs).storeF
/-- The operations, whatever the region. -/
theorem want_wp {P : Program} {o : Oper} {y : Nat → Option Bool} {a : Act} {w : World} {K : Act → World → Prop} {Q : Exit → Act → World → Prop} {Y : Prop} (hg : o.guard = none) (h : Oper.wp P o a w K Q) :
    if Region.wanted o y = true then Oper.wp P o a w K Q else Y := by
  rw [if_pos (by simp [Region.wanted, hg])]
  exact h
theorem wp_loadF {P : Program} {op : Oper} {a : Act} {w : World} {K : Act → World → Prop} {Q : Exit → Act → World → Prop} (ty : TypeId) (x : Operand) (ho : op.op = .load ty x)
    {b n : Nat} {f : Nat → Value} {T : TypeId} (t : Blk w b (cellsF n f) T) (o m : Nat) (h : o + m ≤ n) (d : TypeDesc) (hu : P.underlying ty = some d) (hd : d.isRow = true) (hi : (P.info? ty).map (·.size) = some m)
    (hx : a.eval x = .pointer (some ⟨b, o, none⟩)) (hk : K (a.put op.dst (.agg (cellsF m (fun k => f (o + k))))) w) : op.wp P a w K Q :=
  wp_load_mid ty x ho b o hx (cellsF m (fun k => f (o + k))).toList d (t.rangeF o m h) hu hd (by rw [hi, Array.length_toList, cellsF_size]) hk
theorem wp_loadA {P : Program} {op : Oper} {a : Act} {w : World} {K : Act → World → Prop} {Q : Exit → Act → World → Prop} (ty : TypeId) (x : Operand) (ho : op.op = .load ty x)
    {b n : Nat} {f : Nat → Value} {T : TypeId} (t : Blk w b (cellsF n f) T) (d : TypeDesc) (hu : P.underlying ty = some d) (hd : d.isRow = true) (hi : (P.info? ty).map (·.size) = some n)
    (hx : a.eval x = .pointer (some ⟨b, 0, none⟩)) (hk : K (a.put op.dst (.agg (cellsF n f))) w) : op.wp P a w K Q :=
  wp_load_mid ty x ho b 0 hx (cellsF n f).toList d (by have := t.rangeF 0 n (by omega); simpa using this) hu hd (by rw [hi, Array.length_toList, cellsF_size]) hk
theorem wp_storeF {P : Program} {op : Oper} {a : Act} {w : World} {K : Act → World → Prop} {Q : Exit → Act → World → Prop} (ty : TypeId) (x y : Operand) (ho : op.op = .store ty x y)
    {b n : Nat} {f : Nat → Value} {T : TypeId} (t : Blk w b (cellsF n f) T) (o m : Nat) (h : o + m ≤ n) (g : Nat → Value) (h1 : ∀ i, i < m → (g i).oneCell' = true) (hi : (P.info? ty).map (·.size) = some m)
    (hx : a.eval x = .pointer (some ⟨b, o, none⟩)) (hy : a.eval y = .agg (cellsF m g)) (hk : K (a.put op.dst undef) (w.setCells b o (cellsF m g).toList)) : op.wp P a w K Q :=
  wp_store_mid ty x y ho b o (cellsF m g) hx hy (fun j hj => ⟨by rw [cellsF_size] at hj; rw [t.cellF (show o + j < n by omega)]; rfl, t.free _⟩) (by rw [hi, cellsF_size]) (cellsF_one h1) hk
theorem wp_buildV {P : Program} {op : Oper} {a : Act} {w : World} {K : Act → World → Prop} {Q : Exit → Act → World → Prop} (ty : TypeId) (parts : Array (Nat × Operand)) (ho : op.op = .build ty parts)
    (q : Array (Nat × Value)) (v : Value) (hp : parts.map (fun (i, x) => (i, a.eval x)) = q) (hr : ∀ w, (Instr.build ty q).run P w = .ok v w) (hk : K (a.put op.dst v) w) : op.wp P a w K Q := by
  unfold Oper.wp execOp
  simp only [ho, hp, Sem.run_bind, Sem.run_pure, Result.andThen_ok, hr w]
  exact hk
theorem wpl_buildV {P : Program} {ops : Array Oper} {rest : List Oper} {op : Oper} {a : Act} {w : World} {Q : Exit → Act → World → Prop} (hg : op.guard = none) (ty : TypeId) (parts : Array (Nat × Operand)) (ho : op.op = .build ty parts)
    (q : Array (Nat × Value)) (v : Value) (hp : parts.map (fun (i, x) => (i, a.eval x)) = q) (hr : ∀ w, (Instr.build ty q).run P w = .ok v w) (hk : wpList P ops Q rest (a.put op.dst v) w) : wpList P ops Q (op :: rest) a w :=
  wpList_plain hg fun _ hK => wp_buildV ty parts ho q v hp hr (hK _ _ hk)
/-- The same in a region that keeps its order. -/
theorem wpl_loadF {P : Program} {ops : Array Oper} {rest : List Oper} {op : Oper} {a : Act} {w : World} {Q : Exit → Act → World → Prop} (hg : op.guard = none) (ty : TypeId) (x : Operand) (ho : op.op = .load ty x)
    {b n : Nat} {f : Nat → Value} {T : TypeId} (t : Blk w b (cellsF n f) T) (o m : Nat) (h : o + m ≤ n) (d : TypeDesc) (hu : P.underlying ty = some d) (hd : d.isRow = true) (hi : (P.info? ty).map (·.size) = some m)
    (hx : a.eval x = .pointer (some ⟨b, o, none⟩)) (hk : wpList P ops Q rest (a.put op.dst (.agg (cellsF m (fun k => f (o + k))))) w) : wpList P ops Q (op :: rest) a w :=
  wpList_plain hg fun _ hK => wp_loadF ty x ho t o m h d hu hd hi hx (hK _ _ hk)
theorem wpl_loadA {P : Program} {ops : Array Oper} {rest : List Oper} {op : Oper} {a : Act} {w : World} {Q : Exit → Act → World → Prop} (hg : op.guard = none) (ty : TypeId) (x : Operand) (ho : op.op = .load ty x)
    {b n : Nat} {f : Nat → Value} {T : TypeId} (t : Blk w b (cellsF n f) T) (d : TypeDesc) (hu : P.underlying ty = some d) (hd : d.isRow = true) (hi : (P.info? ty).map (·.size) = some n)
    (hx : a.eval x = .pointer (some ⟨b, 0, none⟩)) (hk : wpList P ops Q rest (a.put op.dst (.agg (cellsF n f))) w) : wpList P ops Q (op :: rest) a w :=
  wpList_plain hg fun _ hK => wp_loadA ty x ho t d hu hd hi hx (hK _ _ hk)
theorem wpl_storeF {P : Program} {ops : Array Oper} {rest : List Oper} {op : Oper} {a : Act} {w : World} {Q : Exit → Act → World → Prop} (hg : op.guard = none) (ty : TypeId) (x y : Operand) (ho : op.op = .store ty x y)
    {b n : Nat} {f : Nat → Value} {T : TypeId} (t : Blk w b (cellsF n f) T) (o m : Nat) (h : o + m ≤ n) (g : Nat → Value) (h1 : ∀ i, i < m → (g i).oneCell' = true) (hi : (P.info? ty).map (·.size) = some m)
    (hx : a.eval x = .pointer (some ⟨b, o, none⟩)) (hy : a.eval y = .agg (cellsF m g)) (hk : wpList P ops Q rest (a.put op.dst undef) (w.setCells b o (cellsF m g).toList)) : wpList P ops Q (op :: rest) a w :=
  wpList_plain hg fun _ hK => wp_storeF ty x y ho t o m h g h1 hi hx hy (hK _ _ hk)
/-- An element of an array. -/
theorem part_one {P : Program} {w : World} {n : Nat} {f : Nat → Value} (T e : TypeId) (len i : Nat) (hu : P.underlying T = some (.array len e)) (hi : i < len) (hn : i < n) (hz : (sizeOf e).run P w = .ok 1 w) (ha : (isAgg e).run P w = .ok false w) :
    (Instr.index T (.agg (cellsF n f)) (.int .i64 (i : Int))).run P w = .ok (f i) w := by
  simp [Instr.index, asIntOf, underlying, typeInfo, Sem.run_bind, hu, hz, ha, hi, part, cellsF_get f hn, go_sem]
end Go.Proofs.YtmkblfejoniccaaDoor
namespace Go.Proofs.YtmkblfejoniccaaDoor
open Go Go.RowKit
set_option linter.unusedSimpArgs false
set_option linter.unusedVariables false

/-- A raw style in plain data. -/
structure Rs where
  L : Nat → Nat
  P : Nat → Bool
  N : Nat → Nat
  W : Nat → Int
  B : Nat → Bool
  C : Int
structure Rs.Fit (x : Rs) : Prop where
  l : ∀ i, i < 19 → x.L i < 18446744073709551616
  n : ∀ i, i < 10 → x.N i < 18446744073709551616
  w : ∀ i, i < 12 → IFit (x.W i)
def rawF (x : Rs) (k : Nat) : Value :=
  if k < 38 then (if k % 2 = 0 then .float .f64 (x.L (k / 2)) else .bool (x.P (k / 2)))
  else if k < 48 then .float .f64 (x.N (k - 38)) else if k < 60 then .int .i64 (x.W (k - 48)) else if k < 64 then .bool (x.B (k - 60)) else .int .u8 x.C
/-- A computed style's cells. -/
def styF (K n : Nat → Int) (N : Nat → Int) (a : Bool) (W : Nat → Int) (c : Int) (k : Nat) : Value :=
  if k < 38 then (if k % 2 = 0 then .int .i64 (K (k / 2)) else .int .i64 (n (k / 2)))
  else if k < 48 then .int .i64 (N (k - 38)) else if k = 48 then .bool a else if k < 61 then .int .i64 (W (k - 49)) else .int .u8 c
/-- A length, decoded. -/
def dL (x : Rs) (i : Nat) : Int × Int × Int := vD (x.L i) (x.P i) (mayB (myL i) 1) (mayB (myL i) 2) (mayB (myL i) 4) (mayB (myL i) 8)
/-- A number in its parts; without a line there is none. -/
def dN (x : Rs) (i : Nat) : Int × Int := nF i (x.N i)
def dM (x : Rs) (i : Nat) : Int := if i < 4 ∧ x.B i = false then 0 else (dN x i).1
def dA (x : Rs) : Bool := decide (fKi (x.N 4) = 1)
/-- The first number that is not 0, of k from i on. -/
def fstE (f : Nat → Int) : Nat → Nat → Int
  | _, 0 => 0
  | i, k + 1 => if f i ≠ 0 then f i else fstE f (i + 1) k
theorem fstE_hit {f : Nat → Int} {i k : Nat} (h : f i ≠ 0) : fstE f i (k + 1) = f i := if_pos h
theorem fstE_on {f : Nat → Int} {i k : Nat} (h : f i = 0) : fstE f i (k + 1) = fstE f (i + 1) k := if_neg (by simpa using h)
/-- Why there is no style. -/
def dE (x : Rs) : Int :=
  if fstE (fun i => (dL x i).2.2) 0 19 ≠ 0 then fstE (fun i => (dL x i).2.2) 0 19
  else if fstE (fun i => (dN x i).2) 0 10 ≠ 0 then fstE (fun i => (dN x i).2) 0 10
  else fstE (fun i => if okW i (x.W i) then 0 else 11) 0 12
def zerF : Nat → Value := styF (fun _ => 0) (fun _ => 0) (fun _ => 0) false (fun _ => 0) 0
def outF (x : Rs) : Nat → Value := if dE x = 0 then styF (fun i => (dL x i).1) (fun i => (dL x i).2.1) (dM x) (dA x) x.W x.C else zerF
theorem styF_one (K n N : Nat → Int) (a : Bool) (W : Nat → Int) (c : Int) (k : Nat) : (styF K n N a W c k).oneCell' = true := by
  unfold styF
  repeat' split
  all_goals rfl
theorem zerF_cells : cellsF 62 zerF = #[.int .i64 0, .int .i64 0, .int .i64 0, .int .i64 0, .int .i64 0, .int .i64 0, .int .i64 0, .int .i64 0, .int .i64 0, .int .i64 0, .int .i64 0, .int .i64 0, .int .i64 0, .int .i64 0, .int .i64 0, .int .i64 0, .int .i64 0, .int .i64 0, .int .i64 0, .int .i64 0, .int .i64 0, .int .i64 0, .int .i64 0, .int .i64 0, .int .i64 0, .int .i64 0, .int .i64 0, .int .i64 0, .int .i64 0, .int .i64 0, .int .i64 0, .int .i64 0, .int .i64 0, .int .i64 0, .int .i64 0, .int .i64 0, .int .i64 0, .int .i64 0, .int .i64 0, .int .i64 0, .int .i64 0, .int .i64 0, .int .i64 0, .int .i64 0, .int .i64 0, .int .i64 0, .int .i64 0, .int .i64 0, .bool false, .int .i64 0, .int .i64 0, .int .i64 0, .int .i64 0, .int .i64 0, .int .i64 0, .int .i64 0, .int .i64 0, .int .i64 0, .int .i64 0, .int .i64 0, .int .i64 0, .int .u8 0] := by kernel_rfl
theorem raw_len {x : Rs} {i : Nat} (h : i < 19) : rawF x (2 * i) = .float .f64 (x.L i) ∧ rawF x (2 * i + 1) = .bool (x.P i) := by
  constructor
  · unfold rawF
    rw [if_pos (by omega), if_pos (by omega), show 2 * i / 2 = i by omega]
  · unfold rawF
    rw [if_pos (by omega), if_neg (by omega), show (2 * i + 1) / 2 = i by omega]
theorem raw_num {x : Rs} {i : Nat} (h : i < 10) : rawF x (38 + i) = .float .f64 (x.N i) := by
  unfold rawF
  rw [if_neg (by omega), if_pos (by omega), show 38 + i - 38 = i by omega]
theorem raw_wrd {x : Rs} {i : Nat} (h : i < 12) : rawF x (48 + i) = .int .i64 (x.W i) := by
  unfold rawF
  rw [if_neg (by omega), if_neg (by omega), if_pos (by omega), show 48 + i - 48 = i by omega]
theorem raw_lin {x : Rs} {i : Nat} (h : i < 4) : rawF x (60 + i) = .bool (x.B i) := by
  unfold rawF
  rw [if_neg (by omega), if_neg (by omega), if_neg (by omega), if_pos (by omega), show 60 + i - 60 = i by omega]
end Go.Proofs.YtmkblfejoniccaaDoor
