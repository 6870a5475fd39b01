/-
  Package value: Decode, whatever comes.
-/
/-
  The reference of layer 3: Fields, Kind.
-/
/-
  The reference of layer 2, each function by its contract. Fifth part: Down, Half.
-/
/-
  Boxes of any type that a drawn region makes and fills: claims on them.
-/
/-
  The reference of layer 3: Fraction.
-/
/-
  The reference of layer 3: Grid.
-/
/-
  The reference of layer 9: Decode.
-/
/-
  Package math/bits: TrailingZeros64, of a table that lies in a package-level variable; package real: finite.
-/
/-
  Layer 11 (style): what a length may be, what a number is in its parts, the bounds of a word; the small functions.
-/
/-
  Layer 11 (style): the bounds of a word, a number in its parts.
-/
/-
  Layer 11 (style): a number in its parts, of the reference.
-/
/-
  Aggregates of many cells: their cells told by a function; loads and stores of parts and of the whole.
-/
/-
  Layer 11 (style): plain: raw styles, computed styles, the first error.
-/
import Derived.Test.YtigjjddblijpbaaGreatDoorZ9
import Derived.Test.YtigjjddblijpbaaGreatDoorZ10
import Derived.Test.YtigjjddblijpbaaGreatDoorZ5
import Derived.Test.YtigjjddblijpbaaGreatDoorZ1
import Derived.Shelf.Spec.TrailingZeros
import Derived.Deep.MidRow
namespace Go.Proofs.YtigjjddblijpbaaGreatDoor
open Go.RowKit
set_option linter.unusedSimpArgs false
set_option linter.unusedVariables false

/-- A number's value: its kind, its number, why there is none. -/
def vN (b : Nat) (pct a4 a8 : Bool) : Int × Int × Int :=
  if (pct && !a4) = true then (0, 0, 11)
  else if gN b 64 < -1073741824 ∨ 1073741824 < gN b 64 then (0, 0, 2)
  else if gN b 64 < 0 ∧ a8 = false then (0, 0, 11)
  else (if pct then 4 else 3, gN b 64, 0)
def vD (b : Nat) (pct a1 a2 a4 a8 : Bool) : Int × Int × Int :=
  if fKi b = 1 then (if a1 then (1, 0, 0) else (0, 0, 4))
  else if fKi b = 2 then (if (fSg b || !a2) = true then (0, 0, 5) else (2, 0, 0))
  else vN b pct a4 a8
set_option maxRecDepth 100000 in
set_option maxHeartbeats 1600000 in
theorem val_number (b : Nat) (hb : b < 18446744073709551616) (pct a4 a8 : Bool) (may : Int) (hk : fKi b ≠ 1) (hk2 : fKi b ≠ 2) (m4 : (bits .and .i64 may 4 == 0) = !a4) (m8 : (bits .and .i64 may 8 == 0) = !a8) (w : World) :
    Calls Tryz.prog 85 #[.agg #[.float .f64 b, .bool pct], .int .i64 may] w fun e w' => e = .returned (.tuple #[.agg #[.int .i64 ((vN b pct a4 a8).1), .int .i64 ((vN b pct a4 a8).2.1)], .int .i64 ((vN b pct a4 a8).2.2)]) ∧ Below w.heap.size w w' := by
  have GR := fun W => real_Grid b hb 64 (-1073741825) 1073741825 (by unfold IFit; omega) (by unfold IFit; omega) (by unfold IFit; omega) W
  rw [gridR_num (by omega) hk hk2] at GR
  obtain ⟨r, er⟩ : ∃ r, vN b pct a4 a8 = r := ⟨_, rfl⟩
  rw [er]
  obtain ⟨K, n, c⟩ := r
  dsimp only at GR ⊢
  unfold vN at er
  obtain ⟨G, eG⟩ : ∃ G, gN b 64 = G := ⟨_, rfl⟩
  rw [eG] at er GR
  clear eG hk hk2
  have hcl : clampI G (-1073741825) 1073741825 = if G < -1073741824 then -1073741825 else if 1073741824 < G then 1073741825 else G := by
    unfold clampI
    split <;> split <;> omega
  rw [hcl] at GR
  clear hcl
  have t1 := Blk.new w #[.float .f64 b, .bool pct] 38 _ rfl
  cases pct
  · clear m4
    simp only [Bool.false_and, Bool.true_and, Bool.not_true, Bool.not_false, Bool.false_eq_true, if_false, if_true] at er
    by_cases h1 : G < -1073741824
    · rw [if_pos (.inl h1)] at er
      rw [if_pos h1] at GR
      obtain ⟨rfl, rfl, rfl⟩ : 0 = K ∧ 0 = n ∧ 2 = c := by simpa using er
      clear er h1
      go_enter Tryz.func85, Tryz.ntmps85
      go_wp2_with (go_at_call 30; with_reducible refine (GR _).mono ?_; rintro e w1 ⟨rfl, hb1⟩; have hs1 := hb1.size; simp at hs1; obtain ⟨hc1, hf1⟩ := bcell hb1)
      (go_light; simp [bodyPost, results, Tryz.results85, go_sem, *])
      exact (by repeat' (first | (with_reducible exact Below.refl _ _) | (with_reducible assumption) | (with_reducible refine below_alloc ?_ _ ?_) | (with_reducible refine below_set _ ?_ ?_) | (with_reducible refine Below.drew ?_) | (with_reducible refine below_dN ?_ _) | (apply below_thenA; assumption) | omega | (simp; done) | (simp; omega) | (simp [*]; done)))
    by_cases h2 : 1073741824 < G
    · rw [if_pos (.inr h2)] at er
      rw [if_neg h1, if_pos h2] at GR
      obtain ⟨rfl, rfl, rfl⟩ : 0 = K ∧ 0 = n ∧ 2 = c := by simpa using er
      clear er h1 h2
      go_enter Tryz.func85, Tryz.ntmps85
      go_wp2_with (go_at_call 30; with_reducible refine (GR _).mono ?_; rintro e w1 ⟨rfl, hb1⟩; have hs1 := hb1.size; simp at hs1; obtain ⟨hc1, hf1⟩ := bcell hb1)
      (go_light; simp [bodyPost, results, Tryz.results85, go_sem, *])
      exact (by repeat' (first | (with_reducible exact Below.refl _ _) | (with_reducible assumption) | (with_reducible refine below_alloc ?_ _ ?_) | (with_reducible refine below_set _ ?_ ?_) | (with_reducible refine Below.drew ?_) | (with_reducible refine below_dN ?_ _) | (apply below_thenA; assumption) | omega | (simp; done) | (simp; omega) | (simp [*]; done)))
    rw [if_neg (by omega)] at er
    rw [if_neg h1, if_neg h2] at GR
    have d1 : decide (G < -1073741824) = false := by simp; omega
    have d2 : decide (1073741824 < G) = false := by simp; omega
    by_cases h3 : G < 0
    · cases a8
      · rw [if_pos ⟨h3, rfl⟩] at er
        obtain ⟨rfl, rfl, rfl⟩ : 0 = K ∧ 0 = n ∧ 11 = c := by simpa using er
        clear er h1 h2
        go_enter Tryz.func85, Tryz.ntmps85
        go_wp2_with (go_at_call 30; with_reducible refine (GR _).mono ?_; rintro e w1 ⟨rfl, hb1⟩; have hs1 := hb1.size; simp at hs1; obtain ⟨hc1, hf1⟩ := bcell hb1)
        (go_light; simp [bodyPost, results, Tryz.results85, go_sem, *])
        exact (by repeat' (first | (with_reducible exact Below.refl _ _) | (with_reducible assumption) | (with_reducible refine below_alloc ?_ _ ?_) | (with_reducible refine below_set _ ?_ ?_) | (with_reducible refine Below.drew ?_) | (with_reducible refine below_dN ?_ _) | (apply below_thenA; assumption) | omega | (simp; done) | (simp; omega) | (simp [*]; done)))
      · rw [if_neg (by simp)] at er
        obtain ⟨rfl, rfl, rfl⟩ : 3 = K ∧ G = n ∧ 0 = c := by simpa using er
        clear er h1 h2
        go_enter Tryz.func85, Tryz.ntmps85
        go_wp2_with (go_at_call 30; with_reducible refine (GR _).mono ?_; rintro e w1 ⟨rfl, hb1⟩; have hs1 := hb1.size; simp at hs1; obtain ⟨hc1, hf1⟩ := bcell hb1)
        (go_light; simp [bodyPost, results, Tryz.results85, go_sem, *])
        exact (by repeat' (first | (with_reducible exact Below.refl _ _) | (with_reducible assumption) | (with_reducible refine below_alloc ?_ _ ?_) | (with_reducible refine below_set _ ?_ ?_) | (with_reducible refine Below.drew ?_) | (with_reducible refine below_dN ?_ _) | (apply below_thenA; assumption) | omega | (simp; done) | (simp; omega) | (simp [*]; done)))
    · have d3 : decide (G < 0) = false := by simp; omega
      rw [if_neg (fun q => h3 q.1)] at er
      obtain ⟨rfl, rfl, rfl⟩ : 3 = K ∧ G = n ∧ 0 = c := by simpa using er
      clear er h1 h2 h3 m8
      go_enter Tryz.func85, Tryz.ntmps85
      go_wp2_with (go_at_call 30; with_reducible refine (GR _).mono ?_; rintro e w1 ⟨rfl, hb1⟩; have hs1 := hb1.size; simp at hs1; obtain ⟨hc1, hf1⟩ := bcell hb1)
      (go_light; simp [bodyPost, results, Tryz.results85, go_sem, *])
      exact (by repeat' (first | (with_reducible exact Below.refl _ _) | (with_reducible assumption) | (with_reducible refine below_alloc ?_ _ ?_) | (with_reducible refine below_set _ ?_ ?_) | (with_reducible refine Below.drew ?_) | (with_reducible refine below_dN ?_ _) | (apply below_thenA; assumption) | omega | (simp; done) | (simp; omega) | (simp [*]; done)))
  · cases a4
    · simp only [Bool.true_and, Bool.not_false, if_true] at er m4
      obtain ⟨rfl, rfl, rfl⟩ : 0 = K ∧ 0 = n ∧ 11 = c := by simpa using er
      clear er
      go_enter Tryz.func85, Tryz.ntmps85
      go_wp2_with (go_at_call 30; with_reducible refine (GR _).mono ?_; rintro e w1 ⟨rfl, hb1⟩; have hs1 := hb1.size; simp at hs1; obtain ⟨hc1, hf1⟩ := bcell hb1)
      (go_light; simp [bodyPost, results, Tryz.results85, go_sem, *])
      exact (by repeat' (first | (with_reducible exact Below.refl _ _) | (with_reducible assumption) | (with_reducible refine below_alloc ?_ _ ?_) | (with_reducible refine below_set _ ?_ ?_) | (with_reducible refine Below.drew ?_) | (with_reducible refine below_dN ?_ _) | (apply below_thenA; assumption) | omega | (simp; done) | (simp; omega) | (simp [*]; done)))
    ·
      simp only [Bool.false_and, Bool.true_and, Bool.not_true, Bool.not_false, Bool.false_eq_true, if_false, if_true] at er m4
      by_cases h1 : G < -1073741824
      · rw [if_pos (.inl h1)] at er
        rw [if_pos h1] at GR
        obtain ⟨rfl, rfl, rfl⟩ : 0 = K ∧ 0 = n ∧ 2 = c := by simpa using er
        clear er h1
        go_enter Tryz.func85, Tryz.ntmps85
        go_wp2_with (go_at_call 30; with_reducible refine (GR _).mono ?_; rintro e w1 ⟨rfl, hb1⟩; have hs1 := hb1.size; simp at hs1; obtain ⟨hc1, hf1⟩ := bcell hb1)
        (go_light; simp [bodyPost, results, Tryz.results85, go_sem, *])
        exact (by repeat' (first | (with_reducible exact Below.refl _ _) | (with_reducible assumption) | (with_reducible refine below_alloc ?_ _ ?_) | (with_reducible refine below_set _ ?_ ?_) | (with_reducible refine Below.drew ?_) | (with_reducible refine below_dN ?_ _) | (apply below_thenA; assumption) | omega | (simp; done) | (simp; omega) | (simp [*]; done)))
      by_cases h2 : 1073741824 < G
      · rw [if_pos (.inr h2)] at er
        rw [if_neg h1, if_pos h2] at GR
        obtain ⟨rfl, rfl, rfl⟩ : 0 = K ∧ 0 = n ∧ 2 = c := by simpa using er
        clear er h1 h2
        go_enter Tryz.func85, Tryz.ntmps85
        go_wp2_with (go_at_call 30; with_reducible refine (GR _).mono ?_; rintro e w1 ⟨rfl, hb1⟩; have hs1 := hb1.size; simp at hs1; obtain ⟨hc1, hf1⟩ := bcell hb1)
        (go_light; simp [bodyPost, results, Tryz.results85, go_sem, *])
        exact (by repeat' (first | (with_reducible exact Below.refl _ _) | (with_reducible assumption) | (with_reducible refine below_alloc ?_ _ ?_) | (with_reducible refine below_set _ ?_ ?_) | (with_reducible refine Below.drew ?_) | (with_reducible refine below_dN ?_ _) | (apply below_thenA; assumption) | omega | (simp; done) | (simp; omega) | (simp [*]; done)))
      rw [if_neg (by omega)] at er
      rw [if_neg h1, if_neg h2] at GR
      have d1 : decide (G < -1073741824) = false := by simp; omega
      have d2 : decide (1073741824 < G) = false := by simp; omega
      by_cases h3 : G < 0
      · cases a8
        · rw [if_pos ⟨h3, rfl⟩] at er
          obtain ⟨rfl, rfl, rfl⟩ : 0 = K ∧ 0 = n ∧ 11 = c := by simpa using er
          clear er h1 h2
          go_enter Tryz.func85, Tryz.ntmps85
          go_wp2_with (go_at_call 30; with_reducible refine (GR _).mono ?_; rintro e w1 ⟨rfl, hb1⟩; have hs1 := hb1.size; simp at hs1; obtain ⟨hc1, hf1⟩ := bcell hb1)
          (go_light; simp [bodyPost, results, Tryz.results85, go_sem, *])
          exact (by repeat' (first | (with_reducible exact Below.refl _ _) | (with_reducible assumption) | (with_reducible refine below_alloc ?_ _ ?_) | (with_reducible refine below_set _ ?_ ?_) | (with_reducible refine Below.drew ?_) | (with_reducible refine below_dN ?_ _) | (apply below_thenA; assumption) | omega | (simp; done) | (simp; omega) | (simp [*]; done)))
        · rw [if_neg (by simp)] at er
          obtain ⟨rfl, rfl, rfl⟩ : 4 = K ∧ G = n ∧ 0 = c := by simpa using er
          clear er h1 h2
          go_enter Tryz.func85, Tryz.ntmps85
          go_wp2_with (go_at_call 30; with_reducible refine (GR _).mono ?_; rintro e w1 ⟨rfl, hb1⟩; have hs1 := hb1.size; simp at hs1; obtain ⟨hc1, hf1⟩ := bcell hb1)
          (go_light; simp [bodyPost, results, Tryz.results85, go_sem, *])
          exact (by repeat' (first | (with_reducible exact Below.refl _ _) | (with_reducible assumption) | (with_reducible refine below_alloc ?_ _ ?_) | (with_reducible refine below_set _ ?_ ?_) | (with_reducible refine Below.drew ?_) | (with_reducible refine below_dN ?_ _) | (apply below_thenA; assumption) | omega | (simp; done) | (simp; omega) | (simp [*]; done)))
      · have d3 : decide (G < 0) = false := by simp; omega
        rw [if_neg (fun q => h3 q.1)] at er
        obtain ⟨rfl, rfl, rfl⟩ : 4 = K ∧ G = n ∧ 0 = c := by simpa using er
        clear er h1 h2 h3 m8
        go_enter Tryz.func85, Tryz.ntmps85
        go_wp2_with (go_at_call 30; with_reducible refine (GR _).mono ?_; rintro e w1 ⟨rfl, hb1⟩; have hs1 := hb1.size; simp at hs1; obtain ⟨hc1, hf1⟩ := bcell hb1)
        (go_light; simp [bodyPost, results, Tryz.results85, go_sem, *])
        exact (by repeat' (first | (with_reducible exact Below.refl _ _) | (with_reducible assumption) | (with_reducible refine below_alloc ?_ _ ?_) | (with_reducible refine below_set _ ?_ ?_) | (with_reducible refine Below.drew ?_) | (with_reducible refine below_dN ?_ _) | (apply below_thenA; assumption) | omega | (simp; done) | (simp; omega) | (simp [*]; done)))
set_option maxRecDepth 100000 in
set_option maxHeartbeats 1600000 in
theorem val_decode (b : Nat) (hb : b < 18446744073709551616) (pct a1 a2 a4 a8 : Bool) (may : Int) (m1 : (bits .and .i64 may 1 == 0) = !a1) (m2 : (bits .and .i64 may 2 == 0) = !a2) (m4 : (bits .and .i64 may 4 == 0) = !a4) (m8 : (bits .and .i64 may 8 == 0) = !a8) (w : World) :
    Calls Tryz.prog 48 #[.agg #[.float .f64 b, .bool pct], .int .i64 may] w fun e w' => e = .returned (.tuple #[.agg #[.int .i64 ((vD b pct a1 a2 a4 a8).1), .int .i64 ((vD b pct a1 a2 a4 a8).2.1)], .int .i64 ((vD b pct a1 a2 a4 a8).2.2)]) ∧ Below w.heap.size w w' := by
  have KI := real_kind b hb
  have hdn : fDn b = if fKi b = 1 then false else fSg b := rfl
  have hk := fKi_all b
  have NU := fun h1 h2 W => val_number b hb pct a4 a8 may h1 h2 m4 m8 W
  obtain ⟨r, er⟩ : ∃ r, vD b pct a1 a2 a4 a8 = r := ⟨_, rfl⟩
  rw [er]
  obtain ⟨K, n, c⟩ := r
  dsimp only
  unfold vD at er
  clear m4 m8
  have t1 := Blk.new w #[.float .f64 b, .bool pct] 38 _ rfl
  obtain ⟨s, es⟩ : ∃ s, fSg b = s := ⟨_, rfl⟩
  rw [es] at er hdn
  rcases hk with ⟨_, _, hk⟩ | ⟨_, _, hk⟩ | hk345
  · rw [if_pos hk] at hdn er
    have K1 : ∀ w, Calls Tryz.prog 59 #[.float .f64 b] w fun e w' => e = .returned (.tuple #[.int .i64 1, .bool false]) ∧ w' = w := fun w => by
      have q := KI w
      rw [hk, hdn] at q
      exact q
    clear KI NU hk hdn es m2
    cases a1
    · simp only [Bool.false_eq_true, if_false, Bool.not_false] at er m1
      obtain ⟨rfl, rfl, rfl⟩ : 0 = K ∧ 0 = n ∧ 4 = c := by simpa using er
      clear er
      go_enter Tryz.func48, Tryz.ntmps48
      go_wp2_with (go_at_call 59; with_reducible refine (K1 _).mono ?_; rintro e w1 ⟨rfl, rfl⟩)
      (go_light; simp [bodyPost, results, Tryz.results48, go_sem, *])
      exact (by repeat' (first | (with_reducible exact Below.refl _ _) | (with_reducible assumption) | (with_reducible refine below_alloc ?_ _ ?_) | (with_reducible refine below_set _ ?_ ?_) | (with_reducible refine Below.drew ?_) | (with_reducible refine below_dN ?_ _) | (apply below_thenA; assumption) | omega | (simp; done) | (simp; omega) | (simp [*]; done)))
    · simp only [if_true, Bool.not_true] at er m1
      obtain ⟨rfl, rfl, rfl⟩ : 1 = K ∧ 0 = n ∧ 0 = c := by simpa using er
      clear er
      go_enter Tryz.func48, Tryz.ntmps48
      go_wp2_with (go_at_call 59; with_reducible refine (K1 _).mono ?_; rintro e w1 ⟨rfl, rfl⟩)
      (go_light; simp [bodyPost, results, Tryz.results48, go_sem, *])
      exact (by repeat' (first | (with_reducible exact Below.refl _ _) | (with_reducible assumption) | (with_reducible refine below_alloc ?_ _ ?_) | (with_reducible refine below_set _ ?_ ?_) | (with_reducible refine Below.drew ?_) | (with_reducible refine below_dN ?_ _) | (apply below_thenA; assumption) | omega | (simp; done) | (simp; omega) | (simp [*]; done)))
  · rw [if_neg (by omega)] at hdn er
    rw [if_pos hk] at er
    have K1 : ∀ w, Calls Tryz.prog 59 #[.float .f64 b] w fun e w' => e = .returned (.tuple #[.int .i64 2, .bool s]) ∧ w' = w := fun w => by
      have q := KI w
      rw [hk, hdn] at q
      exact q
    clear KI NU hk hdn es m1
    cases s
    · cases a2
      · simp only [Bool.false_or, Bool.not_false, if_true] at er m2
        obtain ⟨rfl, rfl, rfl⟩ : 0 = K ∧ 0 = n ∧ 5 = c := by simpa using er
        clear er
        go_enter Tryz.func48, Tryz.ntmps48
        go_wp2_with (go_at_call 59; with_reducible refine (K1 _).mono ?_; rintro e w1 ⟨rfl, rfl⟩)
        (go_light; simp [bodyPost, results, Tryz.results48, go_sem, *])
        exact (by repeat' (first | (with_reducible exact Below.refl _ _) | (with_reducible assumption) | (with_reducible refine below_alloc ?_ _ ?_) | (with_reducible refine below_set _ ?_ ?_) | (with_reducible refine Below.drew ?_) | (with_reducible refine below_dN ?_ _) | (apply below_thenA; assumption) | omega | (simp; done) | (simp; omega) | (simp [*]; done)))
      · simp only [Bool.false_or, Bool.not_true, Bool.false_eq_true, if_false] at er m2
        obtain ⟨rfl, rfl, rfl⟩ : 2 = K ∧ 0 = n ∧ 0 = c := by simpa using er
        clear er
        go_enter Tryz.func48, Tryz.ntmps48
        go_wp2_with (go_at_call 59; with_reducible refine (K1 _).mono ?_; rintro e w1 ⟨rfl, rfl⟩)
        (go_light; simp [bodyPost, results, Tryz.results48, go_sem, *])
        exact (by repeat' (first | (with_reducible exact Below.refl _ _) | (with_reducible assumption) | (with_reducible refine below_alloc ?_ _ ?_) | (with_reducible refine below_set _ ?_ ?_) | (with_reducible refine Below.drew ?_) | (with_reducible refine below_dN ?_ _) | (apply below_thenA; assumption) | omega | (simp; done) | (simp; omega) | (simp [*]; done)))
    · simp only [Bool.true_or, if_true] at er
      obtain ⟨rfl, rfl, rfl⟩ : 0 = K ∧ 0 = n ∧ 5 = c := by simpa using er
      clear er m2
      go_enter Tryz.func48, Tryz.ntmps48
      go_wp2_with (go_at_call 59; with_reducible refine (K1 _).mono ?_; rintro e w1 ⟨rfl, rfl⟩)
      (go_light; simp [bodyPost, results, Tryz.results48, go_sem, *])
      exact (by repeat' (first | (with_reducible exact Below.refl _ _) | (with_reducible assumption) | (with_reducible refine below_alloc ?_ _ ?_) | (with_reducible refine below_set _ ?_ ?_) | (with_reducible refine Below.drew ?_) | (with_reducible refine below_dN ?_ _) | (apply below_thenA; assumption) | omega | (simp; done) | (simp; omega) | (simp [*]; done)))
  · have hk1 : fKi b ≠ 1 ∧ fKi b ≠ 2 := by omega
    have N1 := NU hk1.1 hk1.2
    rw [if_neg hk1.1] at hdn er
    rw [if_neg hk1.2] at er
    rw [er] at N1
    dsimp only at N1
    obtain ⟨k, ek, h3⟩ : ∃ k, fKi b = k ∧ (k = 3 ∨ k = 4 ∨ k = 5) := ⟨_, rfl, by omega⟩
    rw [ek, hdn] at KI
    clear NU er hk345 hk1 ek hdn es m1 m2
    rcases h3 with rfl | rfl | rfl
    · have K1 : ∀ w, Calls Tryz.prog 59 #[.float .f64 b] w fun e w' => e = .returned (.tuple #[.int .i64 3, .bool s]) ∧ w' = w := KI
      clear KI
      go_enter Tryz.func48, Tryz.ntmps48
      go_wp2_with (first
        | (go_at_call 59; with_reducible refine (K1 _).mono ?_; rintro e w1 ⟨rfl, rfl⟩)
        | (go_at_call 85; with_reducible refine (N1 _).mono ?_; rintro e w2 ⟨rfl, hb2⟩; have hs2 := hb2.size; simp at hs2; obtain ⟨hc2, hf2⟩ := bcell hb2))
      (go_light; simp [bodyPost, results, Tryz.results48, go_sem, *])
      exact (by repeat' (first | (with_reducible exact Below.refl _ _) | (with_reducible assumption) | (with_reducible refine below_alloc ?_ _ ?_) | (with_reducible refine below_set _ ?_ ?_) | (with_reducible refine Below.drew ?_) | (with_reducible refine below_dN ?_ _) | (apply below_thenA; assumption) | omega | (simp; done) | (simp; omega) | (simp [*]; done)))
    · have K1 : ∀ w, Calls Tryz.prog 59 #[.float .f64 b] w fun e w' => e = .returned (.tuple #[.int .i64 4, .bool s]) ∧ w' = w := KI
      clear KI
      go_enter Tryz.func48, Tryz.ntmps48
      go_wp2_with (first
        | (go_at_call 59; with_reducible refine (K1 _).mono ?_; rintro e w1 ⟨rfl, rfl⟩)
        | (go_at_call 85; with_reducible refine (N1 _).mono ?_; rintro e w2 ⟨rfl, hb2⟩; have hs2 := hb2.size; simp at hs2; obtain ⟨hc2, hf2⟩ := bcell hb2))
      (go_light; simp [bodyPost, results, Tryz.results48, go_sem, *])
      exact (by repeat' (first | (with_reducible exact Below.refl _ _) | (with_reducible assumption) | (with_reducible refine below_alloc ?_ _ ?_) | (with_reducible refine below_set _ ?_ ?_) | (with_reducible refine Below.drew ?_) | (with_reducible refine below_dN ?_ _) | (apply below_thenA; assumption) | omega | (simp; done) | (simp; omega) | (simp [*]; done)))
    · have K1 : ∀ w, Calls Tryz.prog 59 #[.float .f64 b] w fun e w' => e = .returned (.tuple #[.int .i64 5, .bool s]) ∧ w' = w := KI
      clear KI
      go_enter Tryz.func48, Tryz.ntmps48
      go_wp2_with (first
        | (go_at_call 59; with_reducible refine (K1 _).mono ?_; rintro e w1 ⟨rfl, rfl⟩)
        | (go_at_call 85; with_reducible refine (N1 _).mono ?_; rintro e w2 ⟨rfl, hb2⟩; have hs2 := hb2.size; simp at hs2; obtain ⟨hc2, hf2⟩ := bcell hb2))
      (go_light; simp [bodyPost, results, Tryz.results48, go_sem, *])
      exact (by repeat' (first | (with_reducible exact Below.refl _ _) | (with_reducible assumption) | (with_reducible refine below_alloc ?_ _ ?_) | (with_reducible refine below_set _ ?_ ?_) | (with_reducible refine Below.drew ?_) | (with_reducible refine below_dN ?_ _) | (apply below_thenA; assumption) | omega | (simp; done) | (simp; omega) | (simp [*]; done)))
end Go.Proofs.YtigjjddblijpbaaGreatDoor
namespace Go.Proofs.YtigjjddblijpbaaGreatDoor
open Go.RowKit
set_option linter.unusedSimpArgs false
set_option linter.unusedVariables false

end Go.Proofs.YtigjjddblijpbaaGreatDoor
namespace Go.Proofs.YtigjjddblijpbaaGreatDoor
open Go.RowKit
set_option linter.unusedSimpArgs false
set_option linter.unusedVariables false

theorem pw4 : (65536 : Nat) ^ 4 = 18446744073709551616 := by decide
/-- A value is a whole number that lies in memory. -/
def BigV (n : Int) (v : Value) (w : World) : Prop := ∃ neg ao k cap, v = .agg #[.bool neg, .slice ao k cap] ∧ IsBig w neg ao k cap n
def Big2V (n p : Int) (v : Value) (w : World) : Prop := ∃ (qn : Bool) (qa : Option Addr) (qk qc : Nat) (rn : Bool) (ra : Option Addr) (rk rc : Nat), v = .tuple #[.agg #[.bool qn, .slice qa qk qc], .agg #[.bool rn, .slice ra rk rc]] ∧ IsBig w qn qa qk qc n ∧ IsBig w rn ra rk rc p
theorem BigV.below {n : Int} {v : Value} {w w' : World} (h : BigV n v w) (hb : Below w.heap.size w w') : BigV n v w' := by
  obtain ⟨a, b, c, d, e, f⟩ := h; exact ⟨a, b, c, d, e, f.keep hb⟩
theorem Big2V.below {n p : Int} {v : Value} {w w' : World} (h : Big2V n p v w) (hb : Below w.heap.size w w') : Big2V n p v w' := by
  obtain ⟨a, b, c, d, a', b', c', d', e, f, g⟩ := h; exact ⟨a, b, c, d, a', b', c', d', e, f.keep hb, g.keep hb⟩
def bigC (n : Int) : Cl := .own (BigV n) (fun _ _ _ h hb => h.below hb)
def big2C (n p : Int) : Cl := .own (Big2V n p) (fun _ _ _ h hb => h.below hb)
end Go.Proofs.YtigjjddblijpbaaGreatDoor
namespace Go.Proofs.YtigjjddblijpbaaGreatDoor
open Go.RowKit
set_option linter.unusedSimpArgs false
set_option linter.unusedVariables false

theorem Blk.same {w : World} {b : Nat} {cs cs' : Array Value} {T T' : TypeId} (h : Blk w b cs T) (h' : Blk w b cs' T') : cs = cs' ∧ T = T' := by
  unfold Blk at h h'
  rw [h] at h'
  simpa using h'
theorem Blk.cellx {w : World} {b : Nat} {cs : Array Value} {T : TypeId} (h : Blk w b cs T) (i : Nat) (hi : i < cs.size) : ∃ y, w.cell? ⟨b, i, none⟩ = some y := ⟨cs[i], h.cell i _ (by simp [hi])⟩
theorem Blk.set1 {w : World} {b : Nat} {cs : Array Value} {T : TypeId} (h : Blk w b cs T) (hs : cs.size = 1) (u : Value) : Blk (w.setCell ⟨b, 0, none⟩ u) b #[u] T := by
  have h1 := h.set 0 u
  have e : cs.setIfInBounds 0 u = #[u] := by
    obtain ⟨l⟩ := cs
    match l, hs with
    | [_], _ => rfl
  rwa [e] at h1
theorem Blk.set2 {w : World} {b : Nat} {cs : Array Value} {T : TypeId} (h : Blk w b cs T) (hs : cs.size = 2) (u v : Value) : Blk ((w.setCell ⟨b, 0, none⟩ u).setCell ⟨b, 1, none⟩ v) b #[u, v] T := by
  have h1 := (h.set 0 u).set 1 v
  have e : (cs.setIfInBounds 0 u).setIfInBounds 1 v = #[u, v] := by
    obtain ⟨l⟩ := cs
    match l, hs with
    | [_, _], _ => rfl
  rwa [e] at h1
theorem Blk.set3 {w : World} {b : Nat} {cs : Array Value} {T : TypeId} (h : Blk w b cs T) (hs : cs.size = 3) (u v x : Value) : Blk (((w.setCell ⟨b, 0, none⟩ u).setCell ⟨b, 1, none⟩ v).setCell ⟨b, 2, none⟩ x) b #[u, v, x] T := by
  have h1 := ((h.set 0 u).set 1 v).set 2 x
  have e : ((cs.setIfInBounds 0 u).setIfInBounds 1 v).setIfInBounds 2 x = #[u, v, x] := by
    obtain ⟨l⟩ := cs
    match l, hs with
    | [_, _, _], _ => rfl
  rwa [e] at h1
theorem But.set2 {b : Nat} (w : World) (u v : Value) : But b w ((w.setCell ⟨b, 0, none⟩ u).setCell ⟨b, 1, none⟩ v) := (But.set _ _ _).trans (But.set _ _ _)
theorem But.set3 {b : Nat} (w : World) (u v x : Value) : But b w (((w.setCell ⟨b, 0, none⟩ u).setCell ⟨b, 1, none⟩ v).setCell ⟨b, 2, none⟩ x) := ((But.set _ _ _).trans (But.set _ _ _)).trans (But.set _ _ _)
/-- A new box, whatever it holds; a new box that holds these cells. -/
def BxV (B : Nat) (T : TypeId) (n : Nat) (v : Value) (w : World) : Prop := ∃ b cs, v = .pointer (some ⟨b, 0, none⟩) ∧ B ≤ b ∧ Blk w b cs T ∧ cs.size = n
def BxC (B : Nat) (T : TypeId) (cs : Array Value) (v : Value) (w : World) : Prop := ∃ b, v = .pointer (some ⟨b, 0, none⟩) ∧ B ≤ b ∧ Blk w b cs T
theorem BxV.below {B n : Nat} {T : TypeId} {v : Value} {w w' : World} (h : BxV B T n v w) (hb : Below w.heap.size w w') : BxV B T n v w' := by
  obtain ⟨b, cs, e, h1, h2, h3⟩ := h; exact ⟨b, cs, e, h1, h2.below hb, h3⟩
theorem BxC.below {B : Nat} {T : TypeId} {cs : Array Value} {v : Value} {w w' : World} (h : BxC B T cs v w) (hb : Below w.heap.size w w') : BxC B T cs v w' := by
  obtain ⟨b, e, h1, h2⟩ := h; exact ⟨b, e, h1, h2.below hb⟩
def bxV (B : Nat) (T : TypeId) (n : Nat) : Cl := .own (BxV B T n) (fun _ _ _ h hb => h.below hb)
def bxC (j B : Nat) (T : TypeId) (cs : Array Value) : Cl := .at j (BxC B T cs) (fun _ _ _ h hb => h.below hb)
section
variable {w w' : World} {b : Nat} {cs0 cs1 : Array Value} {T0 : TypeId}
theorem BxV.but {B n : Nat} {T : TypeId} {v : Value} (h : BxV B T n v w) (hb : But b w w') (t0 : Blk w b cs0 T0) (t1 : Blk w' b cs1 T0) (hs : cs1.size = cs0.size) : BxV B T n v w' := by
  obtain ⟨c, cs, e, h1, h2, h3⟩ := h
  by_cases hc : c = b
  · subst hc
    obtain ⟨rfl, rfl⟩ := h2.same t0
    exact ⟨c, cs1, e, h1, t1, by rw [hs, h3]⟩
  · exact ⟨c, cs, e, h1, h2.but hb hc, h3⟩
theorem BxC.but {B : Nat} {T : TypeId} {cs : Array Value} {v : Value} (h : BxC B T cs v w) (hb : But b w w') (hne : v ≠ .pointer (some ⟨b, 0, none⟩)) : BxC B T cs v w' := by
  obtain ⟨c, e, h1, h2⟩ := h
  exact ⟨c, e, h1, h2.but hb (fun x => hne (by rw [e, x]))⟩
theorem keeps_but (hb : But b w w') (t0 : Blk w b cs0 T0) (hT : T0 ≠ 158) : Keeps w w' := by
  intro g cur hg
  have hne : g ≠ b := by
    rintro rfl
    exact hT (Blk.same (T := 158) (cs := cur) hg t0).2.symm
  exact (hb.block g (Array.getElem?_eq_some_iff.1 hg).1 hne).trans hg
theorem IsBig.but {neg : Bool} {ao : Option Addr} {k cap : Nat} {n : Int} (h : IsBig w neg ao k cap n) (hb : But b w w') (t0 : Blk w b cs0 T0) (hT : T0 ≠ 158) : IsBig w' neg ao k cap n := h.keeps (keeps_but hb t0 hT)
theorem BigV.but {n : Int} {v : Value} (h : BigV n v w) (hb : But b w w') (t0 : Blk w b cs0 T0) (hT : T0 ≠ 158) : BigV n v w' := by
  obtain ⟨a1, a2, a3, a4, e, h⟩ := h; exact ⟨a1, a2, a3, a4, e, h.but hb t0 hT⟩
theorem Big2V.but {n p : Int} {v : Value} (h : Big2V n p v w) (hb : But b w w') (t0 : Blk w b cs0 T0) (hT : T0 ≠ 158) : Big2V n p v w' := by
  obtain ⟨a1, a2, a3, a4, b1, b2, b3, b4, e, h, g⟩ := h; exact ⟨a1, a2, a3, a4, b1, b2, b3, b4, e, h.but hb t0 hT, g.but hb t0 hT⟩
end
end Go.Proofs.YtigjjddblijpbaaGreatDoor
namespace Go.Proofs.YtigjjddblijpbaaGreatDoor
open Go.RowKit
set_option linter.unusedSimpArgs false
set_option linter.unusedVariables false

theorem wp_worldF {P : Program} {c : Code} {Q : Exit → Act → World → Prop} {a : Act} {w : World} (R : World → Prop) (h : R w) (k : ∀ W, R W → c.wp P Q a W) : c.wp P Q a w := k w h
end Go.Proofs.YtigjjddblijpbaaGreatDoor
namespace Go.Proofs.YtigjjddblijpbaaGreatDoor
open Go.RowKit
set_option linter.unusedSimpArgs false
set_option linter.unusedVariables false

theorem Below.to0 {w w2 w3 : World} {o1 o2 : Obj} (h : Below ((w2.alloc o1).alloc o2).heap.size ((w2.alloc o1).alloc o2) w3) (h1 : w.heap.size ≤ w2.heap.size) (h0 : Below w.heap.size w w2) : Below w.heap.size w w3 := (h0.alloc h1 o1 |>.alloc (by simp; omega) o2).trans (h.mono (by simp; omega))
theorem sz_ediv {X D : Int} {K : Nat} (h : BM.Sz X K) (hD : 0 < D) : BM.Sz (X / D) K := by
  refine BM.Sz.le h ?_
  by_cases h0 : 0 ≤ X
  · have h1 := Int.ediv_nonneg h0 (show 0 ≤ D by omega)
    have h2 := Int.ediv_le_self D h0
    omega
  · have h1 : X ≤ X / D := (Int.le_ediv_iff_mul_le hD).2 (by
      have := Int.mul_nonpos_of_nonpos_of_nonneg (show X ≤ 0 by omega) (show 0 ≤ D - 1 by omega)
      rw [Int.mul_sub, Int.mul_one] at this
      omega)
    have h2 : X / D < 0 := Int.ediv_neg_of_neg_of_pos (by omega) hD
    omega
end Go.Proofs.YtigjjddblijpbaaGreatDoor
namespace Go.Proofs.YtigjjddblijpbaaGreatDoor
open Go.RowKit
set_option linter.unusedSimpArgs false
set_option linter.unusedVariables false

theorem ne_dec (x : Int) : (x != 0) = decide (x ≠ 0) := by by_cases h : x = 0 <;> simp [h]
/-- Is a power of two in a sum? -/
def mayB (m p : Int) : Bool := decide (m / p % 2 ≠ 0)
theorem may_tab : (List.range 256).all (fun m => ((bits .and .i64 (m : Int) 1 == 0) == !(mayB m 1)) && ((bits .and .i64 (m : Int) 2 == 0) == !(mayB m 2)) && ((bits .and .i64 (m : Int) 4 == 0) == !(mayB m 4)) && ((bits .and .i64 (m : Int) 8 == 0) == !(mayB m 8))) = true := by kernel_rfl
theorem may_bits {m : Int} (h0 : 0 ≤ m) (h1 : m ≤ 255) : (bits .and .i64 m 1 == 0) = !(mayB m 1) ∧ (bits .and .i64 m 2 == 0) = !(mayB m 2) ∧ (bits .and .i64 m 4 == 0) = !(mayB m 4) ∧ (bits .and .i64 m 8 == 0) = !(mayB m 8) := by
  obtain ⟨n, rfl⟩ := Int.eq_ofNat_of_zero_le h0
  have := List.all_eq_true.1 may_tab n (List.mem_range.2 (by omega))
  simp only [Bool.and_eq_true, beq_iff_eq] at this
  exact ⟨this.1.1.1, this.1.1.2, this.1.2, this.2⟩
end Go.Proofs.YtigjjddblijpbaaGreatDoor
namespace Go.Proofs.YtigjjddblijpbaaGreatDoor
open Go.RowKit
set_option linter.unusedSimpArgs false
set_option linter.unusedVariables false

theorem ctz_spec (x : Nat) (hx : x < 18446744073709551616) (h0 : x ≠ 0) : ∃ m, x = 2 ^ Lib.ctz 64 x * (2 * m + 1) ∧ Lib.ctz 64 x < 64 := by
  unfold Lib.ctz
  rw [if_neg h0]
  exact Lib.ctzFrom_spec 64 x (by omega) hx
end Go.Proofs.YtigjjddblijpbaaGreatDoor
namespace Go.Proofs.YtigjjddblijpbaaGreatDoor
open Go.RowKit
set_option linter.unusedSimpArgs false
set_option linter.unusedVariables false

def myL (i : Nat) : Int := [5, 5, 5, 5, 6, 6, 13, 13, 13, 13, 4, 4, 4, 4, 13, 13, 13, 13, 5].getD i 0
def numT : List Int := [64, 0, 1073741824, 64, 0, 1073741824, 64, 0, 1073741824, 64, 0, 1073741824, 1, -1000, 1000, 4096, 0, 4096000, 4096, 0, 4096000, 64, 0, 1073741824, 64, 0, 1073741824, 64, 0, 1073741824]
def wrdT : List Int := [1, 1, 4, 1, 1, 3, 1, 1, 3, 1, 1, 2, 1, -1000, 1000, 1, 1, 4, 1, 1, 3, 1, 1, 6, 1, 1, 4, 1, 0, 4, 1, 1, 7, 1, 1, 4]
/-- The two tables lie in their variables. -/
structure StyW (w : World) : Prop where
  nsz : 2 < w.heap.size
  wsz : 0 < w.heap.size
  num : ∀ j, j < 30 → w.cell? ⟨2, j, none⟩ = some (.int .i64 (numT.getD j 0))
  wrd : ∀ j, j < 36 → w.cell? ⟨0, j, none⟩ = some (.int .i64 (wrdT.getD j 0))
theorem StyW.below {w w' : World} (h : StyW w) (hb : Below w.heap.size w w') : StyW w' :=
  ⟨Nat.lt_of_lt_of_le h.nsz hb.size, Nat.lt_of_lt_of_le h.wsz hb.size, fun j hj => ((bcell hb).1 _ _ h.nsz).trans (h.num j hj), fun j hj => ((bcell hb).1 _ _ h.wsz).trans (h.wrd j hj)⟩
/-- A number in its parts: the number, why there is none. -/
def nF (i b : Nat) : Int × Int :=
  if fKi b = 1 ∧ i = 4 then (0, 0) else if fKi b = 1 ∧ i = 9 then (1280, 0) else gridR b (numT.getD (3 * i) 0) (numT.getD (3 * i + 1) 0) (numT.getD (3 * i + 2) 0)
def okW (i : Nat) (n : Int) : Bool := decide (wrdT.getD (3 * i + 1) 0 ≤ n) && decide (n ≤ wrdT.getD (3 * i + 2) 0)
set_option maxRecDepth 100000 in
set_option maxHeartbeats 3200000 in
theorem sty_may (i : Nat) (hi : i < 19) (w : World) : Calls Tryz.prog 44 #[.int .i64 ((i : Int))] w fun e w' => e = .returned (.int .i64 (myL i)) ∧ w' = w := by
  match i, hi with
  | 0, _ =>
    show Calls Tryz.prog 44 #[.int .i64 0] w fun e w' => e = .returned (.int .i64 5) ∧ w' = w
    go_enter Tryz.func44, Tryz.ntmps44
    go_wp2_with fail
    go_ret
    exact ⟨rfl, rfl⟩
  | 1, _ =>
    show Calls Tryz.prog 44 #[.int .i64 1] w fun e w' => e = .returned (.int .i64 5) ∧ w' = w
    go_enter Tryz.func44, Tryz.ntmps44
    go_wp2_with fail
    go_ret
    exact ⟨rfl, rfl⟩
  | 2, _ =>
    show Calls Tryz.prog 44 #[.int .i64 2] w fun e w' => e = .returned (.int .i64 5) ∧ w' = w
    go_enter Tryz.func44, Tryz.ntmps44
    go_wp2_with fail
    go_ret
    exact ⟨rfl, rfl⟩
  | 3, _ =>
    show Calls Tryz.prog 44 #[.int .i64 3] w fun e w' => e = .returned (.int .i64 5) ∧ w' = w
    go_enter Tryz.func44, Tryz.ntmps44
    go_wp2_with fail
    go_ret
    exact ⟨rfl, rfl⟩
  | 4, _ =>
    show Calls Tryz.prog 44 #[.int .i64 4] w fun e w' => e = .returned (.int .i64 6) ∧ w' = w
    go_enter Tryz.func44, Tryz.ntmps44
    go_wp2_with fail
    go_ret
    exact ⟨rfl, rfl⟩
  | 5, _ =>
    show Calls Tryz.prog 44 #[.int .i64 5] w fun e w' => e = .returned (.int .i64 6) ∧ w' = w
    go_enter Tryz.func44, Tryz.ntmps44
    go_wp2_with fail
    go_ret
    exact ⟨rfl, rfl⟩
  | 6, _ =>
    show Calls Tryz.prog 44 #[.int .i64 6] w fun e w' => e = .returned (.int .i64 13) ∧ w' = w
    go_enter Tryz.func44, Tryz.ntmps44
    go_wp2_with fail
    go_ret
    exact ⟨rfl, rfl⟩
  | 7, _ =>
    show Calls Tryz.prog 44 #[.int .i64 7] w fun e w' => e = .returned (.int .i64 13) ∧ w' = w
    go_enter Tryz.func44, Tryz.ntmps44
    go_wp2_with fail
    go_ret
    exact ⟨rfl, rfl⟩
  | 8, _ =>
    show Calls Tryz.prog 44 #[.int .i64 8] w fun e w' => e = .returned (.int .i64 13) ∧ w' = w
    go_enter Tryz.func44, Tryz.ntmps44
    go_wp2_with fail
    go_ret
    exact ⟨rfl, rfl⟩
  | 9, _ =>
    show Calls Tryz.prog 44 #[.int .i64 9] w fun e w' => e = .returned (.int .i64 13) ∧ w' = w
    go_enter Tryz.func44, Tryz.ntmps44
    go_wp2_with fail
    go_ret
    exact ⟨rfl, rfl⟩
  | 10, _ =>
    show Calls Tryz.prog 44 #[.int .i64 10] w fun e w' => e = .returned (.int .i64 4) ∧ w' = w
    go_enter Tryz.func44, Tryz.ntmps44
    go_wp2_with fail
    go_ret
    exact ⟨rfl, rfl⟩
  | 11, _ =>
    show Calls Tryz.prog 44 #[.int .i64 11] w fun e w' => e = .returned (.int .i64 4) ∧ w' = w
    go_enter Tryz.func44, Tryz.ntmps44
    go_wp2_with fail
    go_ret
    exact ⟨rfl, rfl⟩
  | 12, _ =>
    show Calls Tryz.prog 44 #[.int .i64 12] w fun e w' => e = .returned (.int .i64 4) ∧ w' = w
    go_enter Tryz.func44, Tryz.ntmps44
    go_wp2_with fail
    go_ret
    exact ⟨rfl, rfl⟩
  | 13, _ =>
    show Calls Tryz.prog 44 #[.int .i64 13] w fun e w' => e = .returned (.int .i64 4) ∧ w' = w
    go_enter Tryz.func44, Tryz.ntmps44
    go_wp2_with fail
    go_ret
    exact ⟨rfl, rfl⟩
  | 14, _ =>
    show Calls Tryz.prog 44 #[.int .i64 14] w fun e w' => e = .returned (.int .i64 13) ∧ w' = w
    go_enter Tryz.func44, Tryz.ntmps44
    go_wp2_with fail
    go_ret
    exact ⟨rfl, rfl⟩
  | 15, _ =>
    show Calls Tryz.prog 44 #[.int .i64 15] w fun e w' => e = .returned (.int .i64 13) ∧ w' = w
    go_enter Tryz.func44, Tryz.ntmps44
    go_wp2_with fail
    go_ret
    exact ⟨rfl, rfl⟩
  | 16, _ =>
    show Calls Tryz.prog 44 #[.int .i64 16] w fun e w' => e = .returned (.int .i64 13) ∧ w' = w
    go_enter Tryz.func44, Tryz.ntmps44
    go_wp2_with fail
    go_ret
    exact ⟨rfl, rfl⟩
  | 17, _ =>
    show Calls Tryz.prog 44 #[.int .i64 17] w fun e w' => e = .returned (.int .i64 13) ∧ w' = w
    go_enter Tryz.func44, Tryz.ntmps44
    go_wp2_with fail
    go_ret
    exact ⟨rfl, rfl⟩
  | 18, _ =>
    show Calls Tryz.prog 44 #[.int .i64 18] w fun e w' => e = .returned (.int .i64 5) ∧ w' = w
    go_enter Tryz.func44, Tryz.ntmps44
    go_wp2_with fail
    go_ret
    exact ⟨rfl, rfl⟩
  | n + 19, h => exact absurd h (by omega)
end Go.Proofs.YtigjjddblijpbaaGreatDoor
namespace Go.Proofs.YtigjjddblijpbaaGreatDoor
open Go.RowKit
set_option linter.unusedSimpArgs false
set_option linter.unusedVariables false

theorem gr_ok {b : Nat} {den low high : Int} (h : ¬ (den < 1 ∨ 1048576 < den ∨ high < low)) (hk : fKi b ≠ 1) : ∃ n, gridR b den low high = (n, 0) := by
  by_cases hk2 : fKi b = 2
  · exact ⟨_, gridR_inf h hk2⟩
  · exact ⟨_, gridR_num h hk hk2⟩
set_option maxRecDepth 100000 in
set_option maxHeartbeats 3200000 in
theorem sty_number (i : Nat) (hi : i < 10) (b : Nat) (hb : b < 18446744073709551616) (w : World) (hT : StyW w) : Calls Tryz.prog 49 #[.int .i64 ((i : Int)), .float .f64 b] w fun e w' => e = .returned (.tuple #[.int .i64 ((nF i b).1), .int .i64 ((nF i b).2)]) ∧ Below w.heap.size w w' := by
  have HN := hT.num
  have hsz := hT.nsz
  match i, hi with
  | 0, _ =>
    have c0 : w.cell? ⟨2, 0, none⟩ = some (.int .i64 64) := HN 0 (by omega)
    have c1 : w.cell? ⟨2, 1, none⟩ = some (.int .i64 0) := HN 1 (by omega)
    have c2 : w.cell? ⟨2, 2, none⟩ = some (.int .i64 1073741824) := HN 2 (by omega)
    clear HN
    have GR := fun W => real_Grid b hb (64) (0) (1073741824) (by unfold IFit; omega) (by unfold IFit; omega) (by unfold IFit; omega) W
    by_cases hk : fKi b = 1
    · rw [gridR_nan (by omega) hk] at GR
      rw [show nF 0 b = (0, 4) from by unfold nF; rw [if_neg (by omega), if_neg (by omega)]; exact gridR_nan (by decide) hk]
      clear hk
      dsimp only at GR ⊢
      go_enter Tryz.func49, Tryz.ntmps49
      go_wp2_with (go_at_call 30; with_reducible refine (GR _).mono ?_; rintro e w1 ⟨rfl, hb1⟩; have hs1 := hb1.size; simp at hs1; obtain ⟨hc1, hf1⟩ := bcell hb1)
      go_ret2
      exact ⟨rfl, (by repeat' (first | (with_reducible exact Below.refl _ _) | (with_reducible assumption) | (with_reducible refine below_alloc ?_ _ ?_) | (with_reducible refine below_set _ ?_ ?_) | (with_reducible refine Below.drew ?_) | (with_reducible refine below_dN ?_ _) | (apply below_thenA; assumption) | omega | (simp; done) | (simp; omega) | (simp [*]; done)))⟩
    · obtain ⟨n, en⟩ := gr_ok (b := b) (den := 64) (low := 0) (high := 1073741824) (by omega) hk
      rw [en] at GR
      rw [show nF 0 b = (n, 0) from by unfold nF; rw [if_neg (fun q => hk q.1), if_neg (fun q => hk q.1)]; exact en]
      clear en
      clear hk
      dsimp only at GR ⊢
      go_enter Tryz.func49, Tryz.ntmps49
      go_wp2_with (go_at_call 30; with_reducible refine (GR _).mono ?_; rintro e w1 ⟨rfl, hb1⟩; have hs1 := hb1.size; simp at hs1; obtain ⟨hc1, hf1⟩ := bcell hb1)
      go_ret2
      exact ⟨rfl, (by repeat' (first | (with_reducible exact Below.refl _ _) | (with_reducible assumption) | (with_reducible refine below_alloc ?_ _ ?_) | (with_reducible refine below_set _ ?_ ?_) | (with_reducible refine Below.drew ?_) | (with_reducible refine below_dN ?_ _) | (apply below_thenA; assumption) | omega | (simp; done) | (simp; omega) | (simp [*]; done)))⟩
  | 1, _ =>
    have c0 : w.cell? ⟨2, 3, none⟩ = some (.int .i64 64) := HN 3 (by omega)
    have c1 : w.cell? ⟨2, 4, none⟩ = some (.int .i64 0) := HN 4 (by omega)
    have c2 : w.cell? ⟨2, 5, none⟩ = some (.int .i64 1073741824) := HN 5 (by omega)
    clear HN
    have GR := fun W => real_Grid b hb (64) (0) (1073741824) (by unfold IFit; omega) (by unfold IFit; omega) (by unfold IFit; omega) W
    by_cases hk : fKi b = 1
    · rw [gridR_nan (by omega) hk] at GR
      rw [show nF 1 b = (0, 4) from by unfold nF; rw [if_neg (by omega), if_neg (by omega)]; exact gridR_nan (by decide) hk]
      clear hk
      dsimp only at GR ⊢
      go_enter Tryz.func49, Tryz.ntmps49
      go_wp2_with (go_at_call 30; with_reducible refine (GR _).mono ?_; rintro e w1 ⟨rfl, hb1⟩; have hs1 := hb1.size; simp at hs1; obtain ⟨hc1, hf1⟩ := bcell hb1)
      go_ret2
      exact ⟨rfl, (by repeat' (first | (with_reducible exact Below.refl _ _) | (with_reducible assumption) | (with_reducible refine below_alloc ?_ _ ?_) | (with_reducible refine below_set _ ?_ ?_) | (with_reducible refine Below.drew ?_) | (with_reducible refine below_dN ?_ _) | (apply below_thenA; assumption) | omega | (simp; done) | (simp; omega) | (simp [*]; done)))⟩
    · obtain ⟨n, en⟩ := gr_ok (b := b) (den := 64) (low := 0) (high := 1073741824) (by omega) hk
      rw [en] at GR
      rw [show nF 1 b = (n, 0) from by unfold nF; rw [if_neg (fun q => hk q.1), if_neg (fun q => hk q.1)]; exact en]
      clear en
      clear hk
      dsimp only at GR ⊢
      go_enter Tryz.func49, Tryz.ntmps49
      go_wp2_with (go_at_call 30; with_reducible refine (GR _).mono ?_; rintro e w1 ⟨rfl, hb1⟩; have hs1 := hb1.size; simp at hs1; obtain ⟨hc1, hf1⟩ := bcell hb1)
      go_ret2
      exact ⟨rfl, (by repeat' (first | (with_reducible exact Below.refl _ _) | (with_reducible assumption) | (with_reducible refine below_alloc ?_ _ ?_) | (with_reducible refine below_set _ ?_ ?_) | (with_reducible refine Below.drew ?_) | (with_reducible refine below_dN ?_ _) | (apply below_thenA; assumption) | omega | (simp; done) | (simp; omega) | (simp [*]; done)))⟩
  | 2, _ =>
    have c0 : w.cell? ⟨2, 6, none⟩ = some (.int .i64 64) := HN 6 (by omega)
    have c1 : w.cell? ⟨2, 7, none⟩ = some (.int .i64 0) := HN 7 (by omega)
    have c2 : w.cell? ⟨2, 8, none⟩ = some (.int .i64 1073741824) := HN 8 (by omega)
    clear HN
    have GR := fun W => real_Grid b hb (64) (0) (1073741824) (by unfold IFit; omega) (by unfold IFit; omega) (by unfold IFit; omega) W
    by_cases hk : fKi b = 1
    · rw [gridR_nan (by omega) hk] at GR
      rw [show nF 2 b = (0, 4) from by unfold nF; rw [if_neg (by omega), if_neg (by omega)]; exact gridR_nan (by decide) hk]
      clear hk
      dsimp only at GR ⊢
      go_enter Tryz.func49, Tryz.ntmps49
      go_wp2_with (go_at_call 30; with_reducible refine (GR _).mono ?_; rintro e w1 ⟨rfl, hb1⟩; have hs1 := hb1.size; simp at hs1; obtain ⟨hc1, hf1⟩ := bcell hb1)
      go_ret2
      exact ⟨rfl, (by repeat' (first | (with_reducible exact Below.refl _ _) | (with_reducible assumption) | (with_reducible refine below_alloc ?_ _ ?_) | (with_reducible refine below_set _ ?_ ?_) | (with_reducible refine Below.drew ?_) | (with_reducible refine below_dN ?_ _) | (apply below_thenA; assumption) | omega | (simp; done) | (simp; omega) | (simp [*]; done)))⟩
    · obtain ⟨n, en⟩ := gr_ok (b := b) (den := 64) (low := 0) (high := 1073741824) (by omega) hk
      rw [en] at GR
      rw [show nF 2 b = (n, 0) from by unfold nF; rw [if_neg (fun q => hk q.1), if_neg (fun q => hk q.1)]; exact en]
      clear en
      clear hk
      dsimp only at GR ⊢
      go_enter Tryz.func49, Tryz.ntmps49
      go_wp2_with (go_at_call 30; with_reducible refine (GR _).mono ?_; rintro e w1 ⟨rfl, hb1⟩; have hs1 := hb1.size; simp at hs1; obtain ⟨hc1, hf1⟩ := bcell hb1)
      go_ret2
      exact ⟨rfl, (by repeat' (first | (with_reducible exact Below.refl _ _) | (with_reducible assumption) | (with_reducible refine below_alloc ?_ _ ?_) | (with_reducible refine below_set _ ?_ ?_) | (with_reducible refine Below.drew ?_) | (with_reducible refine below_dN ?_ _) | (apply below_thenA; assumption) | omega | (simp; done) | (simp; omega) | (simp [*]; done)))⟩
  | 3, _ =>
    have c0 : w.cell? ⟨2, 9, none⟩ = some (.int .i64 64) := HN 9 (by omega)
    have c1 : w.cell? ⟨2, 10, none⟩ = some (.int .i64 0) := HN 10 (by omega)
    have c2 : w.cell? ⟨2, 11, none⟩ = some (.int .i64 1073741824) := HN 11 (by omega)
    clear HN
    have GR := fun W => real_Grid b hb (64) (0) (1073741824) (by unfold IFit; omega) (by unfold IFit; omega) (by unfold IFit; omega) W
    by_cases hk : fKi b = 1
    · rw [gridR_nan (by omega) hk] at GR
      rw [show nF 3 b = (0, 4) from by unfold nF; rw [if_neg (by omega), if_neg (by omega)]; exact gridR_nan (by decide) hk]
      clear hk
      dsimp only at GR ⊢
      go_enter Tryz.func49, Tryz.ntmps49
      go_wp2_with (go_at_call 30; with_reducible refine (GR _).mono ?_; rintro e w1 ⟨rfl, hb1⟩; have hs1 := hb1.size; simp at hs1; obtain ⟨hc1, hf1⟩ := bcell hb1)
      go_ret2
      exact ⟨rfl, (by repeat' (first | (with_reducible exact Below.refl _ _) | (with_reducible assumption) | (with_reducible refine below_alloc ?_ _ ?_) | (with_reducible refine below_set _ ?_ ?_) | (with_reducible refine Below.drew ?_) | (with_reducible refine below_dN ?_ _) | (apply below_thenA; assumption) | omega | (simp; done) | (simp; omega) | (simp [*]; done)))⟩
    · obtain ⟨n, en⟩ := gr_ok (b := b) (den := 64) (low := 0) (high := 1073741824) (by omega) hk
      rw [en] at GR
      rw [show nF 3 b = (n, 0) from by unfold nF; rw [if_neg (fun q => hk q.1), if_neg (fun q => hk q.1)]; exact en]
      clear en
      clear hk
      dsimp only at GR ⊢
      go_enter Tryz.func49, Tryz.ntmps49
      go_wp2_with (go_at_call 30; with_reducible refine (GR _).mono ?_; rintro e w1 ⟨rfl, hb1⟩; have hs1 := hb1.size; simp at hs1; obtain ⟨hc1, hf1⟩ := bcell hb1)
      go_ret2
      exact ⟨rfl, (by repeat' (first | (with_reducible exact Below.refl _ _) | (with_reducible assumption) | (with_reducible refine below_alloc ?_ _ ?_) | (with_reducible refine below_set _ ?_ ?_) | (with_reducible refine Below.drew ?_) | (with_reducible refine below_dN ?_ _) | (apply below_thenA; assumption) | omega | (simp; done) | (simp; omega) | (simp [*]; done)))⟩
  | 4, _ =>
    have c0 : w.cell? ⟨2, 12, none⟩ = some (.int .i64 1) := HN 12 (by omega)
    have c1 : w.cell? ⟨2, 13, none⟩ = some (.int .i64 (-1000)) := HN 13 (by omega)
    have c2 : w.cell? ⟨2, 14, none⟩ = some (.int .i64 1000) := HN 14 (by omega)
    clear HN
    have GR := fun W => real_Grid b hb (1) (-1000) (1000) (by unfold IFit; omega) (by unfold IFit; omega) (by unfold IFit; omega) W
    by_cases hk : fKi b = 1
    · rw [gridR_nan (by omega) hk] at GR
      rw [show nF 4 b = (0, 0) from if_pos ⟨hk, rfl⟩]
      clear hk
      dsimp only at GR ⊢
      go_enter Tryz.func49, Tryz.ntmps49
      go_wp2_with (go_at_call 30; with_reducible refine (GR _).mono ?_; rintro e w1 ⟨rfl, hb1⟩; have hs1 := hb1.size; simp at hs1; obtain ⟨hc1, hf1⟩ := bcell hb1)
      go_ret2
      exact ⟨rfl, (by repeat' (first | (with_reducible exact Below.refl _ _) | (with_reducible assumption) | (with_reducible refine below_alloc ?_ _ ?_) | (with_reducible refine below_set _ ?_ ?_) | (with_reducible refine Below.drew ?_) | (with_reducible refine below_dN ?_ _) | (apply below_thenA; assumption) | omega | (simp; done) | (simp; omega) | (simp [*]; done)))⟩
    · obtain ⟨n, en⟩ := gr_ok (b := b) (den := 1) (low := -1000) (high := 1000) (by omega) hk
      rw [en] at GR
      rw [show nF 4 b = (n, 0) from by unfold nF; rw [if_neg (fun q => hk q.1), if_neg (fun q => hk q.1)]; exact en]
      clear en
      clear hk
      dsimp only at GR ⊢
      go_enter Tryz.func49, Tryz.ntmps49
      go_wp2_with (go_at_call 30; with_reducible refine (GR _).mono ?_; rintro e w1 ⟨rfl, hb1⟩; have hs1 := hb1.size; simp at hs1; obtain ⟨hc1, hf1⟩ := bcell hb1)
      go_ret2
      exact ⟨rfl, (by repeat' (first | (with_reducible exact Below.refl _ _) | (with_reducible assumption) | (with_reducible refine below_alloc ?_ _ ?_) | (with_reducible refine below_set _ ?_ ?_) | (with_reducible refine Below.drew ?_) | (with_reducible refine below_dN ?_ _) | (apply below_thenA; assumption) | omega | (simp; done) | (simp; omega) | (simp [*]; done)))⟩
  | 5, _ =>
    have c0 : w.cell? ⟨2, 15, none⟩ = some (.int .i64 4096) := HN 15 (by omega)
    have c1 : w.cell? ⟨2, 16, none⟩ = some (.int .i64 0) := HN 16 (by omega)
    have c2 : w.cell? ⟨2, 17, none⟩ = some (.int .i64 4096000) := HN 17 (by omega)
    clear HN
    have GR := fun W => real_Grid b hb (4096) (0) (4096000) (by unfold IFit; omega) (by unfold IFit; omega) (by unfold IFit; omega) W
    by_cases hk : fKi b = 1
    · rw [gridR_nan (by omega) hk] at GR
      rw [show nF 5 b = (0, 4) from by unfold nF; rw [if_neg (by omega), if_neg (by omega)]; exact gridR_nan (by decide) hk]
      clear hk
      dsimp only at GR ⊢
      go_enter Tryz.func49, Tryz.ntmps49
      go_wp2_with (go_at_call 30; with_reducible refine (GR _).mono ?_; rintro e w1 ⟨rfl, hb1⟩; have hs1 := hb1.size; simp at hs1; obtain ⟨hc1, hf1⟩ := bcell hb1)
      go_ret2
      exact ⟨rfl, (by repeat' (first | (with_reducible exact Below.refl _ _) | (with_reducible assumption) | (with_reducible refine below_alloc ?_ _ ?_) | (with_reducible refine below_set _ ?_ ?_) | (with_reducible refine Below.drew ?_) | (with_reducible refine below_dN ?_ _) | (apply below_thenA; assumption) | omega | (simp; done) | (simp; omega) | (simp [*]; done)))⟩
    · obtain ⟨n, en⟩ := gr_ok (b := b) (den := 4096) (low := 0) (high := 4096000) (by omega) hk
      rw [en] at GR
      rw [show nF 5 b = (n, 0) from by unfold nF; rw [if_neg (fun q => hk q.1), if_neg (fun q => hk q.1)]; exact en]
      clear en
      clear hk
      dsimp only at GR ⊢
      go_enter Tryz.func49, Tryz.ntmps49
      go_wp2_with (go_at_call 30; with_reducible refine (GR _).mono ?_; rintro e w1 ⟨rfl, hb1⟩; have hs1 := hb1.size; simp at hs1; obtain ⟨hc1, hf1⟩ := bcell hb1)
      go_ret2
      exact ⟨rfl, (by repeat' (first | (with_reducible exact Below.refl _ _) | (with_reducible assumption) | (with_reducible refine below_alloc ?_ _ ?_) | (with_reducible refine below_set _ ?_ ?_) | (with_reducible refine Below.drew ?_) | (with_reducible refine below_dN ?_ _) | (apply below_thenA; assumption) | omega | (simp; done) | (simp; omega) | (simp [*]; done)))⟩
  | 6, _ =>
    have c0 : w.cell? ⟨2, 18, none⟩ = some (.int .i64 4096) := HN 18 (by omega)
    have c1 : w.cell? ⟨2, 19, none⟩ = some (.int .i64 0) := HN 19 (by omega)
    have c2 : w.cell? ⟨2, 20, none⟩ = some (.int .i64 4096000) := HN 20 (by omega)
    clear HN
    have GR := fun W => real_Grid b hb (4096) (0) (4096000) (by unfold IFit; omega) (by unfold IFit; omega) (by unfold IFit; omega) W
    by_cases hk : fKi b = 1
    · rw [gridR_nan (by omega) hk] at GR
      rw [show nF 6 b = (0, 4) from by unfold nF; rw [if_neg (by omega), if_neg (by omega)]; exact gridR_nan (by decide) hk]
      clear hk
      dsimp only at GR ⊢
      go_enter Tryz.func49, Tryz.ntmps49
      go_wp2_with (go_at_call 30; with_reducible refine (GR _).mono ?_; rintro e w1 ⟨rfl, hb1⟩; have hs1 := hb1.size; simp at hs1; obtain ⟨hc1, hf1⟩ := bcell hb1)
      go_ret2
      exact ⟨rfl, (by repeat' (first | (with_reducible exact Below.refl _ _) | (with_reducible assumption) | (with_reducible refine below_alloc ?_ _ ?_) | (with_reducible refine below_set _ ?_ ?_) | (with_reducible refine Below.drew ?_) | (with_reducible refine below_dN ?_ _) | (apply below_thenA; assumption) | omega | (simp; done) | (simp; omega) | (simp [*]; done)))⟩
    · obtain ⟨n, en⟩ := gr_ok (b := b) (den := 4096) (low := 0) (high := 4096000) (by omega) hk
      rw [en] at GR
      rw [show nF 6 b = (n, 0) from by unfold nF; rw [if_neg (fun q => hk q.1), if_neg (fun q => hk q.1)]; exact en]
      clear en
      clear hk
      dsimp only at GR ⊢
      go_enter Tryz.func49, Tryz.ntmps49
      go_wp2_with (go_at_call 30; with_reducible refine (GR _).mono ?_; rintro e w1 ⟨rfl, hb1⟩; have hs1 := hb1.size; simp at hs1; obtain ⟨hc1, hf1⟩ := bcell hb1)
      go_ret2
      exact ⟨rfl, (by repeat' (first | (with_reducible exact Below.refl _ _) | (with_reducible assumption) | (with_reducible refine below_alloc ?_ _ ?_) | (with_reducible refine below_set _ ?_ ?_) | (with_reducible refine Below.drew ?_) | (with_reducible refine below_dN ?_ _) | (apply below_thenA; assumption) | omega | (simp; done) | (simp; omega) | (simp [*]; done)))⟩
  | 7, _ =>
    have c0 : w.cell? ⟨2, 21, none⟩ = some (.int .i64 64) := HN 21 (by omega)
    have c1 : w.cell? ⟨2, 22, none⟩ = some (.int .i64 0) := HN 22 (by omega)
    have c2 : w.cell? ⟨2, 23, none⟩ = some (.int .i64 1073741824) := HN 23 (by omega)
    clear HN
    have GR := fun W => real_Grid b hb (64) (0) (1073741824) (by unfold IFit; omega) (by unfold IFit; omega) (by unfold IFit; omega) W
    by_cases hk : fKi b = 1
    · rw [gridR_nan (by omega) hk] at GR
      rw [show nF 7 b = (0, 4) from by unfold nF; rw [if_neg (by omega), if_neg (by omega)]; exact gridR_nan (by decide) hk]
      clear hk
      dsimp only at GR ⊢
      go_enter Tryz.func49, Tryz.ntmps49
      go_wp2_with (go_at_call 30; with_reducible refine (GR _).mono ?_; rintro e w1 ⟨rfl, hb1⟩; have hs1 := hb1.size; simp at hs1; obtain ⟨hc1, hf1⟩ := bcell hb1)
      go_ret2
      exact ⟨rfl, (by repeat' (first | (with_reducible exact Below.refl _ _) | (with_reducible assumption) | (with_reducible refine below_alloc ?_ _ ?_) | (with_reducible refine below_set _ ?_ ?_) | (with_reducible refine Below.drew ?_) | (with_reducible refine below_dN ?_ _) | (apply below_thenA; assumption) | omega | (simp; done) | (simp; omega) | (simp [*]; done)))⟩
    · obtain ⟨n, en⟩ := gr_ok (b := b) (den := 64) (low := 0) (high := 1073741824) (by omega) hk
      rw [en] at GR
      rw [show nF 7 b = (n, 0) from by unfold nF; rw [if_neg (fun q => hk q.1), if_neg (fun q => hk q.1)]; exact en]
      clear en
      clear hk
      dsimp only at GR ⊢
      go_enter Tryz.func49, Tryz.ntmps49
      go_wp2_with (go_at_call 30; with_reducible refine (GR _).mono ?_; rintro e w1 ⟨rfl, hb1⟩; have hs1 := hb1.size; simp at hs1; obtain ⟨hc1, hf1⟩ := bcell hb1)
      go_ret2
      exact ⟨rfl, (by repeat' (first | (with_reducible exact Below.refl _ _) | (with_reducible assumption) | (with_reducible refine below_alloc ?_ _ ?_) | (with_reducible refine below_set _ ?_ ?_) | (with_reducible refine Below.drew ?_) | (with_reducible refine below_dN ?_ _) | (apply below_thenA; assumption) | omega | (simp; done) | (simp; omega) | (simp [*]; done)))⟩
  | 8, _ =>
    have c0 : w.cell? ⟨2, 24, none⟩ = some (.int .i64 64) := HN 24 (by omega)
    have c1 : w.cell? ⟨2, 25, none⟩ = some (.int .i64 0) := HN 25 (by omega)
    have c2 : w.cell? ⟨2, 26, none⟩ = some (.int .i64 1073741824) := HN 26 (by omega)
    clear HN
    have GR := fun W => real_Grid b hb (64) (0) (1073741824) (by unfold IFit; omega) (by unfold IFit; omega) (by unfold IFit; omega) W
    by_cases hk : fKi b = 1
    · rw [gridR_nan (by omega) hk] at GR
      rw [show nF 8 b = (0, 4) from by unfold nF; rw [if_neg (by omega), if_neg (by omega)]; exact gridR_nan (by decide) hk]
      clear hk
      dsimp only at GR ⊢
      go_enter Tryz.func49, Tryz.ntmps49
      go_wp2_with (go_at_call 30; with_reducible refine (GR _).mono ?_; rintro e w1 ⟨rfl, hb1⟩; have hs1 := hb1.size; simp at hs1; obtain ⟨hc1, hf1⟩ := bcell hb1)
      go_ret2
      exact ⟨rfl, (by repeat' (first | (with_reducible exact Below.refl _ _) | (with_reducible assumption) | (with_reducible refine below_alloc ?_ _ ?_) | (with_reducible refine below_set _ ?_ ?_) | (with_reducible refine Below.drew ?_) | (with_reducible refine below_dN ?_ _) | (apply below_thenA; assumption) | omega | (simp; done) | (simp; omega) | (simp [*]; done)))⟩
    · obtain ⟨n, en⟩ := gr_ok (b := b) (den := 64) (low := 0) (high := 1073741824) (by omega) hk
      rw [en] at GR
      rw [show nF 8 b = (n, 0) from by unfold nF; rw [if_neg (fun q => hk q.1), if_neg (fun q => hk q.1)]; exact en]
      clear en
      clear hk
      dsimp only at GR ⊢
      go_enter Tryz.func49, Tryz.ntmps49
      go_wp2_with (go_at_call 30; with_reducible refine (GR _).mono ?_; rintro e w1 ⟨rfl, hb1⟩; have hs1 := hb1.size; simp at hs1; obtain ⟨hc1, hf1⟩ := bcell hb1)
      go_ret2
      exact ⟨rfl, (by repeat' (first | (with_reducible exact Below.refl _ _) | (with_reducible assumption) | (with_reducible refine below_alloc ?_ _ ?_) | (with_reducible refine below_set _ ?_ ?_) | (with_reducible refine Below.drew ?_) | (with_reducible refine below_dN ?_ _) | (apply below_thenA; assumption) | omega | (simp; done) | (simp; omega) | (simp [*]; done)))⟩
  | 9, _ =>
    have c0 : w.cell? ⟨2, 27, none⟩ = some (.int .i64 64) := HN 27 (by omega)
    have c1 : w.cell? ⟨2, 28, none⟩ = some (.int .i64 0) := HN 28 (by omega)
    have c2 : w.cell? ⟨2, 29, none⟩ = some (.int .i64 1073741824) := HN 29 (by omega)
    clear HN
    have GR := fun W => real_Grid b hb (64) (0) (1073741824) (by unfold IFit; omega) (by unfold IFit; omega) (by unfold IFit; omega) W
    by_cases hk : fKi b = 1
    · rw [gridR_nan (by omega) hk] at GR
      rw [show nF 9 b = (1280, 0) from by unfold nF; rw [if_neg (by omega), if_pos ⟨hk, rfl⟩]]
      clear hk
      dsimp only at GR ⊢
      go_enter Tryz.func49, Tryz.ntmps49
      go_wp2_with (go_at_call 30; with_reducible refine (GR _).mono ?_; rintro e w1 ⟨rfl, hb1⟩; have hs1 := hb1.size; simp at hs1; obtain ⟨hc1, hf1⟩ := bcell hb1)
      go_ret2
      exact ⟨rfl, (by repeat' (first | (with_reducible exact Below.refl _ _) | (with_reducible assumption) | (with_reducible refine below_alloc ?_ _ ?_) | (with_reducible refine below_set _ ?_ ?_) | (with_reducible refine Below.drew ?_) | (with_reducible refine below_dN ?_ _) | (apply below_thenA; assumption) | omega | (simp; done) | (simp; omega) | (simp [*]; done)))⟩
    · obtain ⟨n, en⟩ := gr_ok (b := b) (den := 64) (low := 0) (high := 1073741824) (by omega) hk
      rw [en] at GR
      rw [show nF 9 b = (n, 0) from by unfold nF; rw [if_neg (fun q => hk q.1), if_neg (fun q => hk q.1)]; exact en]
      clear en
      clear hk
      dsimp only at GR ⊢
      go_enter Tryz.func49, Tryz.ntmps49
      go_wp2_with (go_at_call 30; with_reducible refine (GR _).mono ?_; rintro e w1 ⟨rfl, hb1⟩; have hs1 := hb1.size; simp at hs1; obtain ⟨hc1, hf1⟩ := bcell hb1)
      go_ret2
      exact ⟨rfl, (by repeat' (first | (with_reducible exact Below.refl _ _) | (with_reducible assumption) | (with_reducible refine below_alloc ?_ _ ?_) | (with_reducible refine below_set _ ?_ ?_) | (with_reducible refine Below.drew ?_) | (with_reducible refine below_dN ?_ _) | (apply below_thenA; assumption) | omega | (simp; done) | (simp; omega) | (simp [*]; done)))⟩
  | n + 10, h => exact absurd h (by omega)
end Go.Proofs.YtigjjddblijpbaaGreatDoor
namespace Go.Proofs.YtigjjddblijpbaaGreatDoor
open Go.RowKit
set_option linter.unusedSimpArgs false
set_option linter.unusedVariables false

end Go.Proofs.YtigjjddblijpbaaGreatDoor
namespace Go.Proofs.YtigjjddblijpbaaGreatDoor
open Go Go.RowKit
set_option linter.unusedSimpArgs false
set_option linter.unusedVariables false

/-- n cells, told by a function. -/
def cellsF (n : Nat) (f : Nat → Value) : Array Value := ((List.range n).map f).toArray
theorem cellsF_size (n : Nat) (f : Nat → Value) : (cellsF n f).size = n := by simp [cellsF]
theorem cellsF_get {n : Nat} (f : Nat → Value) {i : Nat} (h : i < n) : (cellsF n f)[i]? = some (f i) := by simp [cellsF, h]
theorem cellsF_none {n : Nat} (f : Nat → Value) {i : Nat} (h : n ≤ i) : (cellsF n f)[i]? = none := by rw [Array.getElem?_eq_none]; rw [cellsF_size]; exact h
theorem eq_cellsF {n : Nat} {f : Nat → Value} {a : Array Value} (hs : a.size = n) (h : ∀ i, i < n → a[i]? = some (f i)) : a = cellsF n f := by
  apply Array.ext_getElem?
  intro i
  by_cases hi : i < n
  · rw [h i hi, cellsF_get f hi]
  · rw [cellsF_none f (by omega), Array.getElem?_eq_none (by omega)]
theorem cellsF_ext {n : Nat} {f g : Nat → Value} (h : ∀ i, i < n → f i = g i) : cellsF n f = cellsF n g :=
  eq_cellsF (cellsF_size n f) (fun i hi => by rw [cellsF_get f hi, h i hi])
theorem cellsF_set (n : Nat) (f : Nat → Value) (i : Nat) (v : Value) : (cellsF n f).setIfInBounds i v = cellsF n (fun k => if k = i then v else f k) := by
  refine eq_cellsF (by simp [cellsF_size]) (fun k hk => ?_)
  rw [Array.getElem?_setIfInBounds]
  by_cases h : i = k
  · subst h
    rw [if_pos rfl, if_pos (by rw [cellsF_size]; exact hk), if_pos rfl]
  · rw [if_neg h, if_neg (fun e => h e.symm), cellsF_get f hk]
theorem cellsF_extract (n : Nat) (f : Nat → Value) (o m : Nat) (h : o + m ≤ n) : (cellsF n f).extract o (o + m) = cellsF m (fun k => f (o + k)) := by
  refine eq_cellsF (by simp [cellsF_size]; omega) (fun k hk => ?_)
  rw [Array.getElem?_extract, if_pos (by rw [cellsF_size]; omega), cellsF_get f (by omega)]
theorem cellsF_one {n : Nat} {f : Nat → Value} (h : ∀ i, i < n → (f i).oneCell' = true) : (cellsF n f).all (·.oneCell') = true := by
  rw [Array.all_eq_true_iff_forall_mem]
  intro v hv
  obtain ⟨i, hi, rfl⟩ := Array.getElem_of_mem hv
  have hi' : i < n := by rw [cellsF_size] at hi; exact hi
  have := cellsF_get f hi'
  rw [Array.getElem?_eq_getElem hi] at this
  rw [Option.some.inj this]
  exact h i hi'
theorem Blk.cellF {w : World} {b n : Nat} {f : Nat → Value} {T : TypeId} (t : Blk w b (cellsF n f) T) {i : Nat} (h : i < n) : w.cell? ⟨b, i, none⟩ = some (f i) := t.cell i _ (cellsF_get f h)
theorem Blk.rangeF {w : World} {b n : Nat} {f : Nat → Value} {T : TypeId} (t : Blk w b (cellsF n f) T) (o m : Nat) (h : o + m ≤ n) : w.rangeAt b o (cellsF m (fun k => f (o + k))).toList := by
  intro j v hv
  have hj : j < m := by
    have := (List.getElem?_eq_some_iff.1 hv).1
    simpa [cellsF_size] using this
  rw [Array.getElem?_toList, cellsF_get _ hj] at hv
  rw [t.cellF (show o + j < n by omega)]
  exact hv
/-- A part of a block is loaded. -/
theorem load_partF {P : Program} {w : World} {b n : Nat} {f : Nat → Value} {T : TypeId} (t : Blk w b (cellsF n f) T) (o m : Nat) (h : o + m ≤ n) (ty : TypeId) (d : TypeDesc) (hu : P.underlying ty = some d) (hd : d.isRow = true) (hi : (P.info? ty).map (·.size) = some m) :
    (loadVar ty ⟨b, o, none⟩).run P w = .ok (.agg (cellsF m (fun k => f (o + k)))) w := by
  have := run_loadVar_mid (P := P) w b o ty (cellsF m (fun k => f (o + k))).toList d (t.rangeF o m h) hu hd (by rw [hi, Array.length_toList, cellsF_size])
  simpa using this
/-- The whole of a block is loaded. -/
theorem load_allF {P : Program} {w : World} {b n : Nat} {f : Nat → Value} {T : TypeId} (t : Blk w b (cellsF n f) T) (ty : TypeId) (d : TypeDesc) (hu : P.underlying ty = some d) (hd : d.isRow = true) (hi : (P.info? ty).map (·.size) = some n) :
    (loadVar ty ⟨b, 0, none⟩).run P w = .ok (.agg (cellsF n f)) w := by
  have := load_partF t 0 n (by omega) ty d hu hd hi
  simpa using this
/-- Cells are set in a row. -/
theorem Blk.setCellsF {b n : Nat} {T : TypeId} : ∀ (m : Nat) (g : Nat → Value) (o : Nat) (w : World) (f : Nat → Value), Blk w b (cellsF n f) T →
    Blk (w.setCells b o (cellsF m g).toList) b (cellsF n (fun k => if o ≤ k ∧ k < o + m then g (k - o) else f k)) T
  | 0, g, o, w, f, t => by
    rw [show cellsF n (fun k => if o ≤ k ∧ k < o + 0 then g (k - o) else f k) = cellsF n f from cellsF_ext fun k _ => if_neg (by omega)]
    exact t
  | m + 1, g, o, w, f, t => by
    have e : (cellsF (m + 1) g).toList = g 0 :: (cellsF m (fun k => g (k + 1))).toList := by
      simp [cellsF, List.range_succ_eq_map, List.map_map, Function.comp_def]
    rw [e, World.setCells]
    have h1 := t.set o (g 0)
    rw [cellsF_set] at h1
    have h2 := Blk.setCellsF m (fun k => g (k + 1)) (o + 1) _ _ h1
    have e2 : cellsF n (fun k => if o + 1 ≤ k ∧ k < o + 1 + m then g (k - (o + 1) + 1) else if k = o then g 0 else f k) = cellsF n (fun k => if o ≤ k ∧ k < o + (m + 1) then g (k - o) else f k) := by
      refine cellsF_ext (fun k hk => ?_)
      by_cases h3 : k = o
      · subst h3
        rw [if_neg (by omega), if_pos rfl, if_pos (by omega), Nat.sub_self]
      · by_cases h4 : o + 1 ≤ k ∧ k < o + 1 + m
        · rw [if_pos h4, if_pos (by omega), show k - (o + 1) + 1 = k - o by omega]
        · rw [if_neg h4, if_neg h3, if_neg (by omega)]
    rw [e2] at h2
    exact h2
theorem But.setCells {b : Nat} : ∀ (vs : List Value) (o : Nat) (w : World), But b w (w.setCells b o vs)
  | [], _, w => But.of (Below.refl _ _)
  | v :: r, o, w => by
    rw [World.setCells]
    exact (But.set w o v).trans (But.setCells r (o + 1) _)
theorem World.drew_there {w : World} : w.drew.heap = w.heap := rfl
/-- A part of a block is stored. -/
theorem store_partF {P : Program} {w : World} {b n : Nat} {f : Nat → Value} {T : TypeId} (t : Blk w b (cellsF n f) T) (o m : Nat) (h : o + m ≤ n) (g : Nat → Value) (h1 : ∀ i, i < m → (g i).oneCell' = true) (ty : TypeId) (hi : (P.info? ty).map (·.size) = some m) :
    (storeVar ty ⟨b, o, none⟩ (.agg (cellsF m g))).run P w = .ok () (w.setCells b o (cellsF m g).toList) :=
  run_storeVar_mid w b o ty (cellsF m g) (fun j hj => ⟨by rw [cellsF_size] at hj; rw [t.cellF (show o + j < n by omega)]; rfl, t.free _⟩) (by rw [hi, cellsF_size]) (cellsF_one h1)
theorem Blk.storeF {w : World} {b n : Nat} {f g : Nat → Value} {T : TypeId} (t : Blk w b (cellsF n f) T) : Blk (w.setCells b 0 (cellsF n g).toList) b (cellsF n g) T := by
  have := t.setCellsF n g 0
  have e : cellsF n (fun k => if 0 ≤ k ∧ k < 0 + n then g (k - 0) else f k) = cellsF n g := cellsF_ext (fun k hk => by rw [if_pos ⟨Nat.zero_le _, by omega⟩, Nat.sub_zero])
  rw [e] at this
  exact this
theorem Blk.asF {w : World} {b n : Nat} {cs : Array Value} {T : TypeId} (t : Blk w b cs T) (hs : cs.size = n) : Blk w b (cellsF n (fun k => cs.getD k undef)) T := by
  rwa [← eq_cellsF hs (fun i hi => by rw [Array.getD_eq_getD_getElem?, Array.getElem?_eq_getElem (by omega)]; rfl)]
/-- The whole of a block is stored. -/
theorem store_allF {P : Program} {w : World} {b n : Nat} {cs : Array Value} {T : TypeId} (t : Blk w b cs T) (hs : cs.size = n) (g : Nat → Value) (h1 : ∀ i, (g i).oneCell' = true) (ty : TypeId) (hi : (P.info? ty).map (·.size) = some n) :
    (storeVar ty ⟨b, 0, none⟩ (.agg (cellsF n g))).run P w = .ok () (w.setCells b 0 (cellsF n g).toList) := store_partF (t.asF hs) 0 n (by omega) g (fun i _ => h1 i) ty hi
theorem Blk.storeA {w : World} {b n : Nat} {cs : Array Value} {T : TypeId} (t : Blk w b cs T) (hs : cs.size = n) (g : Nat → Value) : Blk (w.setCells b 0 (cellsF n g).toList) b (cellsF n g) T := (t.asF hs).storeF
/-- The operations, whatever the region. -/
theorem want_wp {P : Program} {o : Oper} {y : Nat → Option Bool} {a : Act} {w : World} {K : Act → World → Prop} {Q : Exit → Act → World → Prop} {Y : Prop} (hg : o.guard = none) (h : Oper.wp P o a w K Q) :
    if Region.wanted o y = true then Oper.wp P o a w K Q else Y := by
  rw [if_pos (by simp [Region.wanted, hg])]
  exact h
theorem wp_loadF {P : Program} {op : Oper} {a : Act} {w : World} {K : Act → World → Prop} {Q : Exit → Act → World → Prop} (ty : TypeId) (x : Operand) (ho : op.op = .load ty x)
    {b n : Nat} {f : Nat → Value} {T : TypeId} (t : Blk w b (cellsF n f) T) (o m : Nat) (h : o + m ≤ n) (d : TypeDesc) (hu : P.underlying ty = some d) (hd : d.isRow = true) (hi : (P.info? ty).map (·.size) = some m)
    (hx : a.eval x = .pointer (some ⟨b, o, none⟩)) (hk : K (a.put op.dst (.agg (cellsF m (fun k => f (o + k))))) w) : op.wp P a w K Q :=
  wp_load_mid ty x ho b o hx (cellsF m (fun k => f (o + k))).toList d (t.rangeF o m h) hu hd (by rw [hi, Array.length_toList, cellsF_size]) hk
theorem wp_loadA {P : Program} {op : Oper} {a : Act} {w : World} {K : Act → World → Prop} {Q : Exit → Act → World → Prop} (ty : TypeId) (x : Operand) (ho : op.op = .load ty x)
    {b n : Nat} {f : Nat → Value} {T : TypeId} (t : Blk w b (cellsF n f) T) (d : TypeDesc) (hu : P.underlying ty = some d) (hd : d.isRow = true) (hi : (P.info? ty).map (·.size) = some n)
    (hx : a.eval x = .pointer (some ⟨b, 0, none⟩)) (hk : K (a.put op.dst (.agg (cellsF n f))) w) : op.wp P a w K Q :=
  wp_load_mid ty x ho b 0 hx (cellsF n f).toList d (by have := t.rangeF 0 n (by omega); simpa using this) hu hd (by rw [hi, Array.length_toList, cellsF_size]) hk
theorem wp_storeF {P : Program} {op : Oper} {a : Act} {w : World} {K : Act → World → Prop} {Q : Exit → Act → World → Prop} (ty : TypeId) (x y : Operand) (ho : op.op = .store ty x y)
    {b n : Nat} {f : Nat → Value} {T : TypeId} (t : Blk w b (cellsF n f) T) (o m : Nat) (h : o + m ≤ n) (g : Nat → Value) (h1 : ∀ i, i < m → (g i).oneCell' = true) (hi : (P.info? ty).map (·.size) = some m)
    (hx : a.eval x = .pointer (some ⟨b, o, none⟩)) (hy : a.eval y = .agg (cellsF m g)) (hk : K (a.put op.dst undef) (w.setCells b o (cellsF m g).toList)) : op.wp P a w K Q :=
  wp_store_mid ty x y ho b o (cellsF m g) hx hy (fun j hj => ⟨by rw [cellsF_size] at hj; rw [t.cellF (show o + j < n by omega)]; rfl, t.free _⟩) (by rw [hi, cellsF_size]) (cellsF_one h1) hk
theorem wp_buildV {P : Program} {op : Oper} {a : Act} {w : World} {K : Act → World → Prop} {Q : Exit → Act → World → Prop} (ty : TypeId) (parts : Array (Nat × Operand)) (ho : op.op = .build ty parts)
    (q : Array (Nat × Value)) (v : Value) (hp : parts.map (fun (i, x) => (i, a.eval x)) = q) (hr : ∀ w, (Instr.build ty q).run P w = .ok v w) (hk : K (a.put op.dst v) w) : op.wp P a w K Q := by
  unfold Oper.wp execOp
  simp only [ho, hp, Sem.run_bind, Sem.run_pure, Result.andThen_ok, hr w]
  exact hk
theorem wpl_buildV {P : Program} {ops : Array Oper} {rest : List Oper} {op : Oper} {a : Act} {w : World} {Q : Exit → Act → World → Prop} (hg : op.guard = none) (ty : TypeId) (parts : Array (Nat × Operand)) (ho : op.op = .build ty parts)
    (q : Array (Nat × Value)) (v : Value) (hp : parts.map (fun (i, x) => (i, a.eval x)) = q) (hr : ∀ w, (Instr.build ty q).run P w = .ok v w) (hk : wpList P ops Q rest (a.put op.dst v) w) : wpList P ops Q (op :: rest) a w :=
  wpList_plain hg fun _ hK => wp_buildV ty parts ho q v hp hr (hK _ _ hk)
/-- The same in a region that keeps its order. -/
theorem wpl_loadF {P : Program} {ops : Array Oper} {rest : List Oper} {op : Oper} {a : Act} {w : World} {Q : Exit → Act → World → Prop} (hg : op.guard = none) (ty : TypeId) (x : Operand) (ho : op.op = .load ty x)
    {b n : Nat} {f : Nat → Value} {T : TypeId} (t : Blk w b (cellsF n f) T) (o m : Nat) (h : o + m ≤ n) (d : TypeDesc) (hu : P.underlying ty = some d) (hd : d.isRow = true) (hi : (P.info? ty).map (·.size) = some m)
    (hx : a.eval x = .pointer (some ⟨b, o, none⟩)) (hk : wpList P ops Q rest (a.put op.dst (.agg (cellsF m (fun k => f (o + k))))) w) : wpList P ops Q (op :: rest) a w :=
  wpList_plain hg fun _ hK => wp_loadF ty x ho t o m h d hu hd hi hx (hK _ _ hk)
theorem wpl_loadA {P : Program} {ops : Array Oper} {rest : List Oper} {op : Oper} {a : Act} {w : World} {Q : Exit → Act → World → Prop} (hg : op.guard = none) (ty : TypeId) (x : Operand) (ho : op.op = .load ty x)
    {b n : Nat} {f : Nat → Value} {T : TypeId} (t : Blk w b (cellsF n f) T) (d : TypeDesc) (hu : P.underlying ty = some d) (hd : d.isRow = true) (hi : (P.info? ty).map (·.size) = some n)
    (hx : a.eval x = .pointer (some ⟨b, 0, none⟩)) (hk : wpList P ops Q rest (a.put op.dst (.agg (cellsF n f))) w) : wpList P ops Q (op :: rest) a w :=
  wpList_plain hg fun _ hK => wp_loadA ty x ho t d hu hd hi hx (hK _ _ hk)
theorem wpl_storeF {P : Program} {ops : Array Oper} {rest : List Oper} {op : Oper} {a : Act} {w : World} {Q : Exit → Act → World → Prop} (hg : op.guard = none) (ty : TypeId) (x y : Operand) (ho : op.op = .store ty x y)
    {b n : Nat} {f : Nat → Value} {T : TypeId} (t : Blk w b (cellsF n f) T) (o m : Nat) (h : o + m ≤ n) (g : Nat → Value) (h1 : ∀ i, i < m → (g i).oneCell' = true) (hi : (P.info? ty).map (·.size) = some m)
    (hx : a.eval x = .pointer (some ⟨b, o, none⟩)) (hy : a.eval y = .agg (cellsF m g)) (hk : wpList P ops Q rest (a.put op.dst undef) (w.setCells b o (cellsF m g).toList)) : wpList P ops Q (op :: rest) a w :=
  wpList_plain hg fun _ hK => wp_storeF ty x y ho t o m h g h1 hi hx hy (hK _ _ hk)
/-- An element of an array. -/
theorem part_one {P : Program} {w : World} {n : Nat} {f : Nat → Value} (T e : TypeId) (len i : Nat) (hu : P.underlying T = some (.array len e)) (hi : i < len) (hn : i < n) (hz : (sizeOf e).run P w = .ok 1 w) (ha : (isAgg e).run P w = .ok false w) :
    (Instr.index T (.agg (cellsF n f)) (.int .i64 (i : Int))).run P w = .ok (f i) w := by
  simp [Instr.index, asIntOf, underlying, typeInfo, Sem.run_bind, hu, hz, ha, hi, part, cellsF_get f hn, go_sem]
end Go.Proofs.YtigjjddblijpbaaGreatDoor
namespace Go.Proofs.YtigjjddblijpbaaGreatDoor
open Go Go.RowKit
set_option linter.unusedSimpArgs false
set_option linter.unusedVariables false

/-- A raw style in plain data. -/
structure Rs where
  L : Nat → Nat
  P : Nat → Bool
  N : Nat → Nat
  W : Nat → Int
  B : Nat → Bool
  C : Int
structure Rs.Fit (x : Rs) : Prop where
  l : ∀ i, i < 19 → x.L i < 18446744073709551616
  n : ∀ i, i < 10 → x.N i < 18446744073709551616
  w : ∀ i, i < 12 → IFit (x.W i)
def rawF (x : Rs) (k : Nat) : Value :=
  if k < 38 then (if k % 2 = 0 then .float .f64 (x.L (k / 2)) else .bool (x.P (k / 2)))
  else if k < 48 then .float .f64 (x.N (k - 38)) else if k < 60 then .int .i64 (x.W (k - 48)) else if k < 64 then .bool (x.B (k - 60)) else .int .u8 x.C
/-- A computed style's cells. -/
def styF (K n : Nat → Int) (N : Nat → Int) (a : Bool) (W : Nat → Int) (c : Int) (k : Nat) : Value :=
  if k < 38 then (if k % 2 = 0 then .int .i64 (K (k / 2)) else .int .i64 (n (k / 2)))
  else if k < 48 then .int .i64 (N (k - 38)) else if k = 48 then .bool a else if k < 61 then .int .i64 (W (k - 49)) else .int .u8 c
/-- A length, decoded. -/
def dL (x : Rs) (i : Nat) : Int × Int × Int := vD (x.L i) (x.P i) (mayB (myL i) 1) (mayB (myL i) 2) (mayB (myL i) 4) (mayB (myL i) 8)
/-- A number in its parts; without a line there is none. -/
def dN (x : Rs) (i : Nat) : Int × Int := nF i (x.N i)
def dM (x : Rs) (i : Nat) : Int := if i < 4 ∧ x.B i = false then 0 else (dN x i).1
def dA (x : Rs) : Bool := decide (fKi (x.N 4) = 1)
/-- The first number that is not 0, of k from i on. -/
def fstE (f : Nat → Int) : Nat → Nat → Int
  | _, 0 => 0
  | i, k + 1 => if f i ≠ 0 then f i else fstE f (i + 1) k
theorem fstE_hit {f : Nat → Int} {i k : Nat} (h : f i ≠ 0) : fstE f i (k + 1) = f i := if_pos h
theorem fstE_on {f : Nat → Int} {i k : Nat} (h : f i = 0) : fstE f i (k + 1) = fstE f (i + 1) k := if_neg (by simpa using h)
/-- Why there is no style. -/
def dE (x : Rs) : Int :=
  if fstE (fun i => (dL x i).2.2) 0 19 ≠ 0 then fstE (fun i => (dL x i).2.2) 0 19
  else if fstE (fun i => (dN x i).2) 0 10 ≠ 0 then fstE (fun i => (dN x i).2) 0 10
  else fstE (fun i => if okW i (x.W i) then 0 else 11) 0 12
def zerF : Nat → Value := styF (fun _ => 0) (fun _ => 0) (fun _ => 0) false (fun _ => 0) 0
def outF (x : Rs) : Nat → Value := if dE x = 0 then styF (fun i => (dL x i).1) (fun i => (dL x i).2.1) (dM x) (dA x) x.W x.C else zerF
theorem styF_one (K n N : Nat → Int) (a : Bool) (W : Nat → Int) (c : Int) (k : Nat) : (styF K n N a W c k).oneCell' = true := by
  unfold styF
  repeat' split
  all_goals rfl
theorem zerF_cells : cellsF 62 zerF = #[.int .i64 0, .int .i64 0, .int .i64 0, .int .i64 0, .int .i64 0, .int .i64 0, .int .i64 0, .int .i64 0, .int .i64 0, .int .i64 0, .int .i64 0, .int .i64 0, .int .i64 0, .int .i64 0, .int .i64 0, .int .i64 0, .int .i64 0, .int .i64 0, .int .i64 0, .int .i64 0, .int .i64 0, .int .i64 0, .int .i64 0, .int .i64 0, .int .i64 0, .int .i64 0, .int .i64 0, .int .i64 0, .int .i64 0, .int .i64 0, .int .i64 0, .int .i64 0, .int .i64 0, .int .i64 0, .int .i64 0, .int .i64 0, .int .i64 0, .int .i64 0, .int .i64 0, .int .i64 0, .int .i64 0, .int .i64 0, .int .i64 0, .int .i64 0, .int .i64 0, .int .i64 0, .int .i64 0, .int .i64 0, .bool false, .int .i64 0, .int .i64 0, .int .i64 0, .int .i64 0, .int .i64 0, .int .i64 0, .int .i64 0, .int .i64 0, .int .i64 0, .int .i64 0, .int .i64 0, .int .i64 0, .int .u8 0] := by kernel_rfl
theorem raw_len {x : Rs} {i : Nat} (h : i < 19) : rawF x (2 * i) = .float .f64 (x.L i) ∧ rawF x (2 * i + 1) = .bool (x.P i) := by
  constructor
  · unfold rawF
    rw [if_pos (by omega), if_pos (by omega), show 2 * i / 2 = i by omega]
  · unfold rawF
    rw [if_pos (by omega), if_neg (by omega), show (2 * i + 1) / 2 = i by omega]
theorem raw_num {x : Rs} {i : Nat} (h : i < 10) : rawF x (38 + i) = .float .f64 (x.N i) := by
  unfold rawF
  rw [if_neg (by omega), if_pos (by omega), show 38 + i - 38 = i by omega]
theorem raw_wrd {x : Rs} {i : Nat} (h : i < 12) : rawF x (48 + i) = .int .i64 (x.W i) := by
  unfold rawF
  rw [if_neg (by omega), if_neg (by omega), if_pos (by omega), show 48 + i - 48 = i by omega]
theorem raw_lin {x : Rs} {i : Nat} (h : i < 4) : rawF x (60 + i) = .bool (x.B i) := by
  unfold rawF
  rw [if_neg (by omega), if_neg (by omega), if_neg (by omega), if_pos (by omega), show 60 + i - 60 = i by omega]
end Go.Proofs.YtigjjddblijpbaaGreatDoor
