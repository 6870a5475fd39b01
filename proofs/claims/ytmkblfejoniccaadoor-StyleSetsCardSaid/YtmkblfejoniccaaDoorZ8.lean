/-
  Package value: Decode, whatever comes.
-/
/-
  The reference of layer 3: Fields, Kind.
-/
/-
  The reference of layer 2, each function by its contract. Fifth part: Down, Half.
-/
/-
  Boxes of any type that a drawn region makes and fills: claims on them.
-/
/-
  The reference of layer 3: Fraction.
-/
import Derived.Test.YtmkblfejoniccaaDoorZ3
import Derived.Test.YtmkblfejoniccaaDoorZ6
import Derived.Test.YtmkblfejoniccaaDoorZ7
import Derived.Test.YtmkblfejoniccaaDoorZ2
import Derived.Test.YtmkblfejoniccaaDoorZ1
namespace Go.Proofs.YtmkblfejoniccaaDoor
open Go.RowKit
set_option linter.unusedSimpArgs false
set_option linter.unusedVariables false

/-- A number's value: its kind, its number, why there is none. -/
def vN (b : Nat) (pct a4 a8 : Bool) : Int × Int × Int :=
  if (pct && !a4) = true then (0, 0, 11)
  else if gN b 64 < -1073741824 ∨ 1073741824 < gN b 64 then (0, 0, 2)
  else if gN b 64 < 0 ∧ a8 = false then (0, 0, 11)
  else (if pct then 4 else 3, gN b 64, 0)
def vD (b : Nat) (pct a1 a2 a4 a8 : Bool) : Int × Int × Int :=
  if fKi b = 1 then (if a1 then (1, 0, 0) else (0, 0, 4))
  else if fKi b = 2 then (if (fSg b || !a2) = true then (0, 0, 5) else (2, 0, 0))
  else vN b pct a4 a8
set_option maxRecDepth 100000 in
set_option maxHeartbeats 1600000 in
theorem val_number (b : Nat) (hb : b < 18446744073709551616) (pct a4 a8 : Bool) (may : Int) (hk : fKi b ≠ 1) (hk2 : fKi b ≠ 2) (m4 : (bits .and .i64 may 4 == 0) = !a4) (m8 : (bits .and .i64 may 8 == 0) = !a8) (w : World) :
    Calls Tryd.prog 102 #[.agg #[.float .f64 b, .bool pct], .int .i64 may] w fun e w' => e = .returned (.tuple #[.agg #[.int .i64 ((vN b pct a4 a8).1), .int .i64 ((vN b pct a4 a8).2.1)], .int .i64 ((vN b pct a4 a8).2.2)]) ∧ Below w.heap.size w w' := by
  have GR := fun W => real_Grid b hb 64 (-1073741825) 1073741825 (by unfold IFit; omega) (by unfold IFit; omega) (by unfold IFit; omega) W
  rw [gridR_num (by omega) hk hk2] at GR
  obtain ⟨r, er⟩ : ∃ r, vN b pct a4 a8 = r := ⟨_, rfl⟩
  rw [er]
  obtain ⟨K, n, c⟩ := r
  dsimp only at GR ⊢
  unfold vN at er
  obtain ⟨G, eG⟩ : ∃ G, gN b 64 = G := ⟨_, rfl⟩
  rw [eG] at er GR
  clear eG hk hk2
  have hcl : clampI G (-1073741825) 1073741825 = if G < -1073741824 then -1073741825 else if 1073741824 < G then 1073741825 else G := by
    unfold clampI
    split <;> split <;> omega
  rw [hcl] at GR
  clear hcl
  have t1 := Blk.new w #[.float .f64 b, .bool pct] 70 _ rfl
  cases pct
  · clear m4
    simp only [Bool.false_and, Bool.true_and, Bool.not_true, Bool.not_false, Bool.false_eq_true, if_false, if_true] at er
    by_cases h1 : G < -1073741824
    · rw [if_pos (.inl h1)] at er
      rw [if_pos h1] at GR
      obtain ⟨rfl, rfl, rfl⟩ : 0 = K ∧ 0 = n ∧ 2 = c := by simpa using er
      clear er h1
      go_enter Tryd.func102, Tryd.ntmps102
      go_wp2_with (go_at_call 26; with_reducible refine (GR _).mono ?_; rintro e w1 ⟨rfl, hb1⟩; have hs1 := hb1.size; simp at hs1; obtain ⟨hc1, hf1⟩ := bcell hb1)
      (go_light; simp [bodyPost, results, Tryd.results102, go_sem, *])
      exact (by repeat' (first | (with_reducible exact Below.refl _ _) | (with_reducible assumption) | (with_reducible refine below_alloc ?_ _ ?_) | (with_reducible refine below_set _ ?_ ?_) | (with_reducible refine Below.drew ?_) | (with_reducible refine below_dN ?_ _) | (apply below_thenA; assumption) | omega | (simp; done) | (simp; omega) | (simp [*]; done)))
    by_cases h2 : 1073741824 < G
    · rw [if_pos (.inr h2)] at er
      rw [if_neg h1, if_pos h2] at GR
      obtain ⟨rfl, rfl, rfl⟩ : 0 = K ∧ 0 = n ∧ 2 = c := by simpa using er
      clear er h1 h2
      go_enter Tryd.func102, Tryd.ntmps102
      go_wp2_with (go_at_call 26; with_reducible refine (GR _).mono ?_; rintro e w1 ⟨rfl, hb1⟩; have hs1 := hb1.size; simp at hs1; obtain ⟨hc1, hf1⟩ := bcell hb1)
      (go_light; simp [bodyPost, results, Tryd.results102, go_sem, *])
      exact (by repeat' (first | (with_reducible exact Below.refl _ _) | (with_reducible assumption) | (with_reducible refine below_alloc ?_ _ ?_) | (with_reducible refine below_set _ ?_ ?_) | (with_reducible refine Below.drew ?_) | (with_reducible refine below_dN ?_ _) | (apply below_thenA; assumption) | omega | (simp; done) | (simp; omega) | (simp [*]; done)))
    rw [if_neg (by omega)] at er
    rw [if_neg h1, if_neg h2] at GR
    have d1 : decide (G < -1073741824) = false := by simp; omega
    have d2 : decide (1073741824 < G) = false := by simp; omega
    by_cases h3 : G < 0
    · cases a8
      · rw [if_pos ⟨h3, rfl⟩] at er
        obtain ⟨rfl, rfl, rfl⟩ : 0 = K ∧ 0 = n ∧ 11 = c := by simpa using er
        clear er h1 h2
        go_enter Tryd.func102, Tryd.ntmps102
        go_wp2_with (go_at_call 26; with_reducible refine (GR _).mono ?_; rintro e w1 ⟨rfl, hb1⟩; have hs1 := hb1.size; simp at hs1; obtain ⟨hc1, hf1⟩ := bcell hb1)
        (go_light; simp [bodyPost, results, Tryd.results102, go_sem, *])
        exact (by repeat' (first | (with_reducible exact Below.refl _ _) | (with_reducible assumption) | (with_reducible refine below_alloc ?_ _ ?_) | (with_reducible refine below_set _ ?_ ?_) | (with_reducible refine Below.drew ?_) | (with_reducible refine below_dN ?_ _) | (apply below_thenA; assumption) | omega | (simp; done) | (simp; omega) | (simp [*]; done)))
      · rw [if_neg (by simp)] at er
        obtain ⟨rfl, rfl, rfl⟩ : 3 = K ∧ G = n ∧ 0 = c := by simpa using er
        clear er h1 h2
        go_enter Tryd.func102, Tryd.ntmps102
        go_wp2_with (go_at_call 26; with_reducible refine (GR _).mono ?_; rintro e w1 ⟨rfl, hb1⟩; have hs1 := hb1.size; simp at hs1; obtain ⟨hc1, hf1⟩ := bcell hb1)
        (go_light; simp [bodyPost, results, Tryd.results102, go_sem, *])
        exact (by repeat' (first | (with_reducible exact Below.refl _ _) | (with_reducible assumption) | (with_reducible refine below_alloc ?_ _ ?_) | (with_reducible refine below_set _ ?_ ?_) | (with_reducible refine Below.drew ?_) | (with_reducible refine below_dN ?_ _) | (apply below_thenA; assumption) | omega | (simp; done) | (simp; omega) | (simp [*]; done)))
    · have d3 : decide (G < 0) = false := by simp; omega
      rw [if_neg (fun q => h3 q.1)] at er
      obtain ⟨rfl, rfl, rfl⟩ : 3 = K ∧ G = n ∧ 0 = c := by simpa using er
      clear er h1 h2 h3 m8
      go_enter Tryd.func102, Tryd.ntmps102
      go_wp2_with (go_at_call 26; with_reducible refine (GR _).mono ?_; rintro e w1 ⟨rfl, hb1⟩; have hs1 := hb1.size; simp at hs1; obtain ⟨hc1, hf1⟩ := bcell hb1)
      (go_light; simp [bodyPost, results, Tryd.results102, go_sem, *])
      exact (by repeat' (first | (with_reducible exact Below.refl _ _) | (with_reducible assumption) | (with_reducible refine below_alloc ?_ _ ?_) | (with_reducible refine below_set _ ?_ ?_) | (with_reducible refine Below.drew ?_) | (with_reducible refine below_dN ?_ _) | (apply below_thenA; assumption) | omega | (simp; done) | (simp; omega) | (simp [*]; done)))
  · cases a4
    · simp only [Bool.true_and, Bool.not_false, if_true] at er m4
      obtain ⟨rfl, rfl, rfl⟩ : 0 = K ∧ 0 = n ∧ 11 = c := by simpa using er
      clear er
      go_enter Tryd.func102, Tryd.ntmps102
      go_wp2_with (go_at_call 26; with_reducible refine (GR _).mono ?_; rintro e w1 ⟨rfl, hb1⟩; have hs1 := hb1.size; simp at hs1; obtain ⟨hc1, hf1⟩ := bcell hb1)
      (go_light; simp [bodyPost, results, Tryd.results102, go_sem, *])
      exact (by repeat' (first | (with_reducible exact Below.refl _ _) | (with_reducible assumption) | (with_reducible refine below_alloc ?_ _ ?_) | (with_reducible refine below_set _ ?_ ?_) | (with_reducible refine Below.drew ?_) | (with_reducible refine below_dN ?_ _) | (apply below_thenA; assumption) | omega | (simp; done) | (simp; omega) | (simp [*]; done)))
    ·
      simp only [Bool.false_and, Bool.true_and, Bool.not_true, Bool.not_false, Bool.false_eq_true, if_false, if_true] at er m4
      by_cases h1 : G < -1073741824
      · rw [if_pos (.inl h1)] at er
        rw [if_pos h1] at GR
        obtain ⟨rfl, rfl, rfl⟩ : 0 = K ∧ 0 = n ∧ 2 = c := by simpa using er
        clear er h1
        go_enter Tryd.func102, Tryd.ntmps102
        go_wp2_with (go_at_call 26; with_reducible refine (GR _).mono ?_; rintro e w1 ⟨rfl, hb1⟩; have hs1 := hb1.size; simp at hs1; obtain ⟨hc1, hf1⟩ := bcell hb1)
        (go_light; simp [bodyPost, results, Tryd.results102, go_sem, *])
        exact (by repeat' (first | (with_reducible exact Below.refl _ _) | (with_reducible assumption) | (with_reducible refine below_alloc ?_ _ ?_) | (with_reducible refine below_set _ ?_ ?_) | (with_reducible refine Below.drew ?_) | (with_reducible refine below_dN ?_ _) | (apply below_thenA; assumption) | omega | (simp; done) | (simp; omega) | (simp [*]; done)))
      by_cases h2 : 1073741824 < G
      · rw [if_pos (.inr h2)] at er
        rw [if_neg h1, if_pos h2] at GR
        obtain ⟨rfl, rfl, rfl⟩ : 0 = K ∧ 0 = n ∧ 2 = c := by simpa using er
        clear er h1 h2
        go_enter Tryd.func102, Tryd.ntmps102
        go_wp2_with (go_at_call 26; with_reducible refine (GR _).mono ?_; rintro e w1 ⟨rfl, hb1⟩; have hs1 := hb1.size; simp at hs1; obtain ⟨hc1, hf1⟩ := bcell hb1)
        (go_light; simp [bodyPost, results, Tryd.results102, go_sem, *])
        exact (by repeat' (first | (with_reducible exact Below.refl _ _) | (with_reducible assumption) | (with_reducible refine below_alloc ?_ _ ?_) | (with_reducible refine below_set _ ?_ ?_) | (with_reducible refine Below.drew ?_) | (with_reducible refine below_dN ?_ _) | (apply below_thenA; assumption) | omega | (simp; done) | (simp; omega) | (simp [*]; done)))
      rw [if_neg (by omega)] at er
      rw [if_neg h1, if_neg h2] at GR
      have d1 : decide (G < -1073741824) = false := by simp; omega
      have d2 : decide (1073741824 < G) = false := by simp; omega
      by_cases h3 : G < 0
      · cases a8
        · rw [if_pos ⟨h3, rfl⟩] at er
          obtain ⟨rfl, rfl, rfl⟩ : 0 = K ∧ 0 = n ∧ 11 = c := by simpa using er
          clear er h1 h2
          go_enter Tryd.func102, Tryd.ntmps102
          go_wp2_with (go_at_call 26; with_reducible refine (GR _).mono ?_; rintro e w1 ⟨rfl, hb1⟩; have hs1 := hb1.size; simp at hs1; obtain ⟨hc1, hf1⟩ := bcell hb1)
          (go_light; simp [bodyPost, results, Tryd.results102, go_sem, *])
          exact (by repeat' (first | (with_reducible exact Below.refl _ _) | (with_reducible assumption) | (with_reducible refine below_alloc ?_ _ ?_) | (with_reducible refine below_set _ ?_ ?_) | (with_reducible refine Below.drew ?_) | (with_reducible refine below_dN ?_ _) | (apply below_thenA; assumption) | omega | (simp; done) | (simp; omega) | (simp [*]; done)))
        · rw [if_neg (by simp)] at er
          obtain ⟨rfl, rfl, rfl⟩ : 4 = K ∧ G = n ∧ 0 = c := by simpa using er
          clear er h1 h2
          go_enter Tryd.func102, Tryd.ntmps102
          go_wp2_with (go_at_call 26; with_reducible refine (GR _).mono ?_; rintro e w1 ⟨rfl, hb1⟩; have hs1 := hb1.size; simp at hs1; obtain ⟨hc1, hf1⟩ := bcell hb1)
          (go_light; simp [bodyPost, results, Tryd.results102, go_sem, *])
          exact (by repeat' (first | (with_reducible exact Below.refl _ _) | (with_reducible assumption) | (with_reducible refine below_alloc ?_ _ ?_) | (with_reducible refine below_set _ ?_ ?_) | (with_reducible refine Below.drew ?_) | (with_reducible refine below_dN ?_ _) | (apply below_thenA; assumption) | omega | (simp; done) | (simp; omega) | (simp [*]; done)))
      · have d3 : decide (G < 0) = false := by simp; omega
        rw [if_neg (fun q => h3 q.1)] at er
        obtain ⟨rfl, rfl, rfl⟩ : 4 = K ∧ G = n ∧ 0 = c := by simpa using er
        clear er h1 h2 h3 m8
        go_enter Tryd.func102, Tryd.ntmps102
        go_wp2_with (go_at_call 26; with_reducible refine (GR _).mono ?_; rintro e w1 ⟨rfl, hb1⟩; have hs1 := hb1.size; simp at hs1; obtain ⟨hc1, hf1⟩ := bcell hb1)
        (go_light; simp [bodyPost, results, Tryd.results102, go_sem, *])
        exact (by repeat' (first | (with_reducible exact Below.refl _ _) | (with_reducible assumption) | (with_reducible refine below_alloc ?_ _ ?_) | (with_reducible refine below_set _ ?_ ?_) | (with_reducible refine Below.drew ?_) | (with_reducible refine below_dN ?_ _) | (apply below_thenA; assumption) | omega | (simp; done) | (simp; omega) | (simp [*]; done)))
set_option maxRecDepth 100000 in
set_option maxHeartbeats 1600000 in
theorem val_decode (b : Nat) (hb : b < 18446744073709551616) (pct a1 a2 a4 a8 : Bool) (may : Int) (m1 : (bits .and .i64 may 1 == 0) = !a1) (m2 : (bits .and .i64 may 2 == 0) = !a2) (m4 : (bits .and .i64 may 4 == 0) = !a4) (m8 : (bits .and .i64 may 8 == 0) = !a8) (w : World) :
    Calls Tryd.prog 73 #[.agg #[.float .f64 b, .bool pct], .int .i64 may] w fun e w' => e = .returned (.tuple #[.agg #[.int .i64 ((vD b pct a1 a2 a4 a8).1), .int .i64 ((vD b pct a1 a2 a4 a8).2.1)], .int .i64 ((vD b pct a1 a2 a4 a8).2.2)]) ∧ Below w.heap.size w w' := by
  have KI := real_kind b hb
  have hdn : fDn b = if fKi b = 1 then false else fSg b := rfl
  have hk := fKi_all b
  have NU := fun h1 h2 W => val_number b hb pct a4 a8 may h1 h2 m4 m8 W
  obtain ⟨r, er⟩ : ∃ r, vD b pct a1 a2 a4 a8 = r := ⟨_, rfl⟩
  rw [er]
  obtain ⟨K, n, c⟩ := r
  dsimp only
  unfold vD at er
  clear m4 m8
  have t1 := Blk.new w #[.float .f64 b, .bool pct] 70 _ rfl
  obtain ⟨s, es⟩ : ∃ s, fSg b = s := ⟨_, rfl⟩
  rw [es] at er hdn
  rcases hk with ⟨_, _, hk⟩ | ⟨_, _, hk⟩ | hk345
  · rw [if_pos hk] at hdn er
    have K1 : ∀ w, Calls Tryd.prog 39 #[.float .f64 b] w fun e w' => e = .returned (.tuple #[.int .i64 1, .bool false]) ∧ w' = w := fun w => by
      have q := KI w
      rw [hk, hdn] at q
      exact q
    clear KI NU hk hdn es m2
    cases a1
    · simp only [Bool.false_eq_true, if_false, Bool.not_false] at er m1
      obtain ⟨rfl, rfl, rfl⟩ : 0 = K ∧ 0 = n ∧ 4 = c := by simpa using er
      clear er
      go_enter Tryd.func73, Tryd.ntmps73
      go_wp2_with (go_at_call 39; with_reducible refine (K1 _).mono ?_; rintro e w1 ⟨rfl, rfl⟩)
      (go_light; simp [bodyPost, results, Tryd.results73, go_sem, *])
      exact (by repeat' (first | (with_reducible exact Below.refl _ _) | (with_reducible assumption) | (with_reducible refine below_alloc ?_ _ ?_) | (with_reducible refine below_set _ ?_ ?_) | (with_reducible refine Below.drew ?_) | (with_reducible refine below_dN ?_ _) | (apply below_thenA; assumption) | omega | (simp; done) | (simp; omega) | (simp [*]; done)))
    · simp only [if_true, Bool.not_true] at er m1
      obtain ⟨rfl, rfl, rfl⟩ : 1 = K ∧ 0 = n ∧ 0 = c := by simpa using er
      clear er
      go_enter Tryd.func73, Tryd.ntmps73
      go_wp2_with (go_at_call 39; with_reducible refine (K1 _).mono ?_; rintro e w1 ⟨rfl, rfl⟩)
      (go_light; simp [bodyPost, results, Tryd.results73, go_sem, *])
      exact (by repeat' (first | (with_reducible exact Below.refl _ _) | (with_reducible assumption) | (with_reducible refine below_alloc ?_ _ ?_) | (with_reducible refine below_set _ ?_ ?_) | (with_reducible refine Below.drew ?_) | (with_reducible refine below_dN ?_ _) | (apply below_thenA; assumption) | omega | (simp; done) | (simp; omega) | (simp [*]; done)))
  · rw [if_neg (by omega)] at hdn er
    rw [if_pos hk] at er
    have K1 : ∀ w, Calls Tryd.prog 39 #[.float .f64 b] w fun e w' => e = .returned (.tuple #[.int .i64 2, .bool s]) ∧ w' = w := fun w => by
      have q := KI w
      rw [hk, hdn] at q
      exact q
    clear KI NU hk hdn es m1
    cases s
    · cases a2
      · simp only [Bool.false_or, Bool.not_false, if_true] at er m2
        obtain ⟨rfl, rfl, rfl⟩ : 0 = K ∧ 0 = n ∧ 5 = c := by simpa using er
        clear er
        go_enter Tryd.func73, Tryd.ntmps73
        go_wp2_with (go_at_call 39; with_reducible refine (K1 _).mono ?_; rintro e w1 ⟨rfl, rfl⟩)
        (go_light; simp [bodyPost, results, Tryd.results73, go_sem, *])
        exact (by repeat' (first | (with_reducible exact Below.refl _ _) | (with_reducible assumption) | (with_reducible refine below_alloc ?_ _ ?_) | (with_reducible refine below_set _ ?_ ?_) | (with_reducible refine Below.drew ?_) | (with_reducible refine below_dN ?_ _) | (apply below_thenA; assumption) | omega | (simp; done) | (simp; omega) | (simp [*]; done)))
      · simp only [Bool.false_or, Bool.not_true, Bool.false_eq_true, if_false] at er m2
        obtain ⟨rfl, rfl, rfl⟩ : 2 = K ∧ 0 = n ∧ 0 = c := by simpa using er
        clear er
        go_enter Tryd.func73, Tryd.ntmps73
        go_wp2_with (go_at_call 39; with_reducible refine (K1 _).mono ?_; rintro e w1 ⟨rfl, rfl⟩)
        (go_light; simp [bodyPost, results, Tryd.results73, go_sem, *])
        exact (by repeat' (first | (with_reducible exact Below.refl _ _) | (with_reducible assumption) | (with_reducible refine below_alloc ?_ _ ?_) | (with_reducible refine below_set _ ?_ ?_) | (with_reducible refine Below.drew ?_) | (with_reducible refine below_dN ?_ _) | (apply below_thenA; assumption) | omega | (simp; done) | (simp; omega) | (simp [*]; done)))
    · simp only [Bool.true_or, if_true] at er
      obtain ⟨rfl, rfl, rfl⟩ : 0 = K ∧ 0 = n ∧ 5 = c := by simpa using er
      clear er m2
      go_enter Tryd.func73, Tryd.ntmps73
      go_wp2_with (go_at_call 39; with_reducible refine (K1 _).mono ?_; rintro e w1 ⟨rfl, rfl⟩)
      (go_light; simp [bodyPost, results, Tryd.results73, go_sem, *])
      exact (by repeat' (first | (with_reducible exact Below.refl _ _) | (with_reducible assumption) | (with_reducible refine below_alloc ?_ _ ?_) | (with_reducible refine below_set _ ?_ ?_) | (with_reducible refine Below.drew ?_) | (with_reducible refine below_dN ?_ _) | (apply below_thenA; assumption) | omega | (simp; done) | (simp; omega) | (simp [*]; done)))
  · have hk1 : fKi b ≠ 1 ∧ fKi b ≠ 2 := by omega
    have N1 := NU hk1.1 hk1.2
    rw [if_neg hk1.1] at hdn er
    rw [if_neg hk1.2] at er
    rw [er] at N1
    dsimp only at N1
    obtain ⟨k, ek, h3⟩ : ∃ k, fKi b = k ∧ (k = 3 ∨ k = 4 ∨ k = 5) := ⟨_, rfl, by omega⟩
    rw [ek, hdn] at KI
    clear NU er hk345 hk1 ek hdn es m1 m2
    rcases h3 with rfl | rfl | rfl
    · have K1 : ∀ w, Calls Tryd.prog 39 #[.float .f64 b] w fun e w' => e = .returned (.tuple #[.int .i64 3, .bool s]) ∧ w' = w := KI
      clear KI
      go_enter Tryd.func73, Tryd.ntmps73
      go_wp2_with (first
        | (go_at_call 39; with_reducible refine (K1 _).mono ?_; rintro e w1 ⟨rfl, rfl⟩)
        | (go_at_call 102; with_reducible refine (N1 _).mono ?_; rintro e w2 ⟨rfl, hb2⟩; have hs2 := hb2.size; simp at hs2; obtain ⟨hc2, hf2⟩ := bcell hb2))
      (go_light; simp [bodyPost, results, Tryd.results73, go_sem, *])
      exact (by repeat' (first | (with_reducible exact Below.refl _ _) | (with_reducible assumption) | (with_reducible refine below_alloc ?_ _ ?_) | (with_reducible refine below_set _ ?_ ?_) | (with_reducible refine Below.drew ?_) | (with_reducible refine below_dN ?_ _) | (apply below_thenA; assumption) | omega | (simp; done) | (simp; omega) | (simp [*]; done)))
    · have K1 : ∀ w, Calls Tryd.prog 39 #[.float .f64 b] w fun e w' => e = .returned (.tuple #[.int .i64 4, .bool s]) ∧ w' = w := KI
      clear KI
      go_enter Tryd.func73, Tryd.ntmps73
      go_wp2_with (first
        | (go_at_call 39; with_reducible refine (K1 _).mono ?_; rintro e w1 ⟨rfl, rfl⟩)
        | (go_at_call 102; with_reducible refine (N1 _).mono ?_; rintro e w2 ⟨rfl, hb2⟩; have hs2 := hb2.size; simp at hs2; obtain ⟨hc2, hf2⟩ := bcell hb2))
      (go_light; simp [bodyPost, results, Tryd.results73, go_sem, *])
      exact (by repeat' (first | (with_reducible exact Below.refl _ _) | (with_reducible assumption) | (with_reducible refine below_alloc ?_ _ ?_) | (with_reducible refine below_set _ ?_ ?_) | (with_reducible refine Below.drew ?_) | (with_reducible refine below_dN ?_ _) | (apply below_thenA; assumption) | omega | (simp; done) | (simp; omega) | (simp [*]; done)))
    · have K1 : ∀ w, Calls Tryd.prog 39 #[.float .f64 b] w fun e w' => e = .returned (.tuple #[.int .i64 5, .bool s]) ∧ w' = w := KI
      clear KI
      go_enter Tryd.func73, Tryd.ntmps73
      go_wp2_with (first
        | (go_at_call 39; with_reducible refine (K1 _).mono ?_; rintro e w1 ⟨rfl, rfl⟩)
        | (go_at_call 102; with_reducible refine (N1 _).mono ?_; rintro e w2 ⟨rfl, hb2⟩; have hs2 := hb2.size; simp at hs2; obtain ⟨hc2, hf2⟩ := bcell hb2))
      (go_light; simp [bodyPost, results, Tryd.results73, go_sem, *])
      exact (by repeat' (first | (with_reducible exact Below.refl _ _) | (with_reducible assumption) | (with_reducible refine below_alloc ?_ _ ?_) | (with_reducible refine below_set _ ?_ ?_) | (with_reducible refine Below.drew ?_) | (with_reducible refine below_dN ?_ _) | (apply below_thenA; assumption) | omega | (simp; done) | (simp; omega) | (simp [*]; done)))
end Go.Proofs.YtmkblfejoniccaaDoor
namespace Go.Proofs.YtmkblfejoniccaaDoor
open Go.RowKit
set_option linter.unusedSimpArgs false
set_option linter.unusedVariables false

set_option maxRecDepth 100000 in
set_option maxHeartbeats 1600000 in
theorem ref3_fields (b : Nat) (hb : b < 18446744073709551616) (w : World) : Calls Tryd.prog 60 #[.int .u64 (b : Int)] w fun e w' => e = .returned (.tuple #[.bool (fSg b), .int .i64 ((fEx b : Int)), .int .u64 (fMa b : Int)]) ∧ w' = w := by
  have e1 := sg_eq b
  have e4 := fEx_lt b
  have e2 : (b : Int) / 4503599627370496 % 2048 = (fEx b : Int) := by unfold fEx; omega
  have e3 : (b : Int) % 4503599627370496 = (fMa b : Int) := by unfold fMa; omega
  have hb1 : (0 : Int) ≤ (b : Int) := by omega
  have hb2 : (b : Int) < 18446744073709551616 := by omega
  go_enter Tryd.func60, Tryd.ntmps60
  go_wp2_with fail
  (go_light; simp [bodyPost, results, Tryd.results60, go_sem, *])
set_option maxRecDepth 100000 in
set_option maxHeartbeats 1600000 in
theorem ref3_kind (b : Nat) (hb : b < 18446744073709551616) (w : World) : Calls Tryd.prog 22 #[.int .u64 (b : Int)] w fun e w' => e = .returned (.tuple #[.int .i64 ((fKi b : Int)), .bool (fDn b)]) ∧ w' = w := by
  have FI := ref3_fields b hb
  have hk := fKi_all b
  have hd : fDn b = if fKi b = 1 then false else fSg b := rfl
  obtain ⟨x, ex⟩ : ∃ x, fEx b = x := ⟨_, rfl⟩
  obtain ⟨m, em⟩ : ∃ x, fMa b = x := ⟨_, rfl⟩
  obtain ⟨s, es⟩ : ∃ x, fSg b = x := ⟨_, rfl⟩
  obtain ⟨k, ek⟩ : ∃ x, fKi b = x := ⟨_, rfl⟩
  rw [ex, em, es] at FI
  rw [ex, em, ek] at hk
  rw [ek, es] at hd
  rw [ek, hd]
  clear ex em es ek hd
  rcases hk with ⟨rfl, h2, rfl⟩ | ⟨rfl, rfl, rfl⟩ | ⟨rfl, rfl, rfl⟩ | ⟨rfl, h2, rfl⟩ | ⟨h1, h2, rfl⟩
  · have q1 : decide (0 < (m : Int)) = true := by simp; omega
    have q2 : (0 : Int) < (m : Int) := by omega
    have q3 : 0 < m := by omega
    go_enter Tryd.func22, Tryd.ntmps22
    go_wp2_with (go_at_call 60; with_reducible refine (FI _).mono ?_; rintro e w1 ⟨rfl, rfl⟩)
    (go_light; simp [bodyPost, results, Tryd.results22, go_sem, *])
  · go_enter Tryd.func22, Tryd.ntmps22
    go_wp2_with (go_at_call 60; with_reducible refine (FI _).mono ?_; rintro e w1 ⟨rfl, rfl⟩)
    (go_light; simp [bodyPost, results, Tryd.results22, go_sem, *])
  · go_enter Tryd.func22, Tryd.ntmps22
    go_wp2_with (go_at_call 60; with_reducible refine (FI _).mono ?_; rintro e w1 ⟨rfl, rfl⟩)
    (go_light; simp [bodyPost, results, Tryd.results22, go_sem, *])
  · have q1 : ((m : Int) == 0) = false := by simp; omega
    go_enter Tryd.func22, Tryd.ntmps22
    go_wp2_with (go_at_call 60; with_reducible refine (FI _).mono ?_; rintro e w1 ⟨rfl, rfl⟩)
    (go_light; simp [bodyPost, results, Tryd.results22, go_sem, *])
  · have q1 : ((x : Int) == 0) = false := by simp; omega
    have q2 : ((x : Int) == 2047) = false := by simp; omega
    go_enter Tryd.func22, Tryd.ntmps22
    go_wp2_with (go_at_call 60; with_reducible refine (FI _).mono ?_; rintro e w1 ⟨rfl, rfl⟩)
    (go_light; simp [bodyPost, results, Tryd.results22, go_sem, *])
end Go.Proofs.YtmkblfejoniccaaDoor
namespace Go.Proofs.YtmkblfejoniccaaDoor
open Go.RowKit
set_option linter.unusedSimpArgs false
set_option linter.unusedVariables false

theorem pw4 : (65536 : Nat) ^ 4 = 18446744073709551616 := by decide
/-- A value is a whole number that lies in memory. -/
def BigV (n : Int) (v : Value) (w : World) : Prop := ∃ neg ao k cap, v = .agg #[.bool neg, .slice ao k cap] ∧ IsBig w neg ao k cap n
def Big2V (n p : Int) (v : Value) (w : World) : Prop := ∃ (qn : Bool) (qa : Option Addr) (qk qc : Nat) (rn : Bool) (ra : Option Addr) (rk rc : Nat), v = .tuple #[.agg #[.bool qn, .slice qa qk qc], .agg #[.bool rn, .slice ra rk rc]] ∧ IsBig w qn qa qk qc n ∧ IsBig w rn ra rk rc p
/-- A value points to a box of this kind, from this block on. -/
def BoxV (B : Nat) (v : Value) (w : World) : Prop := ∃ b x y, v = .pointer (some ⟨b, 0, none⟩) ∧ B ≤ b ∧ Two w b x y
/-- A box holds a whole number. -/
def BoxBig (B : Nat) (n : Int) (v : Value) (w : World) : Prop := ∃ b neg ao k cap, v = .pointer (some ⟨b, 0, none⟩) ∧ B ≤ b ∧ Two w b (.bool neg) (.slice ao k cap) ∧ IsBig w neg ao k cap n
theorem BigV.below {n : Int} {v : Value} {w w' : World} (h : BigV n v w) (hb : Below w.heap.size w w') : BigV n v w' := by
  obtain ⟨a, b, c, d, e, f⟩ := h; exact ⟨a, b, c, d, e, f.keep hb⟩
theorem Big2V.below {n p : Int} {v : Value} {w w' : World} (h : Big2V n p v w) (hb : Below w.heap.size w w') : Big2V n p v w' := by
  obtain ⟨a, b, c, d, a', b', c', d', e, f, g⟩ := h; exact ⟨a, b, c, d, a', b', c', d', e, f.keep hb, g.keep hb⟩
theorem BoxV.below {B : Nat} {v : Value} {w w' : World} (h : BoxV B v w) (hb : Below w.heap.size w w') : BoxV B v w' := by
  obtain ⟨b, x, y, e, f, g⟩ := h; exact ⟨b, x, y, e, f, g.below hb⟩
theorem BoxBig.below {B : Nat} {n : Int} {v : Value} {w w' : World} (h : BoxBig B n v w) (hb : Below w.heap.size w w') : BoxBig B n v w' := by
  obtain ⟨b, x, y, c, d, e, f, g, i⟩ := h; exact ⟨b, x, y, c, d, e, f, g.below hb, i.keep hb⟩

def bigC (n : Int) : Cl := .own (BigV n) (fun _ _ _ h hb => h.below hb)
def big2C (n p : Int) : Cl := .own (Big2V n p) (fun _ _ _ h hb => h.below hb)
def boxC (B : Nat) : Cl := .own (BoxV B) (fun _ _ _ h hb => h.below hb)
def boxAt (j B : Nat) (n : Int) : Cl := .at j (BoxBig B n) (fun _ _ _ h hb => h.below hb)
theorem BigV.put {n : Int} {v : Value} {w : World} {b : Nat} {y1 y2 : Value} (h : BigV n v w) (t : Two w b y1 y2) (u1 u2 : Value) : BigV n v ((w.setCell ⟨b, 0, none⟩ u1).setCell ⟨b, 1, none⟩ u2) := by
  obtain ⟨a1, a2, a3, a4, e, h⟩ := h; exact ⟨a1, a2, a3, a4, e, IsBig.put h t u1 u2⟩
theorem Big2V.put {n p : Int} {v : Value} {w : World} {b : Nat} {y1 y2 : Value} (h : Big2V n p v w) (t : Two w b y1 y2) (u1 u2 : Value) : Big2V n p v ((w.setCell ⟨b, 0, none⟩ u1).setCell ⟨b, 1, none⟩ u2) := by
  obtain ⟨a1, a2, a3, a4, b1, b2, b3, b4, e, h, g⟩ := h; exact ⟨a1, a2, a3, a4, b1, b2, b3, b4, e, IsBig.put h t u1 u2, IsBig.put g t u1 u2⟩
theorem BoxV.put {B : Nat} {v : Value} {w : World} {b : Nat} {y1 y2 : Value} (h : BoxV B v w) (t : Two w b y1 y2) (u1 u2 : Value) : BoxV B v ((w.setCell ⟨b, 0, none⟩ u1).setCell ⟨b, 1, none⟩ u2) := by
  obtain ⟨c, x, y, e, h1, h2⟩ := h
  by_cases hc : c = b
  · subst hc; exact ⟨c, u1, u2, e, h1, t.put u1 u2⟩
  · exact ⟨c, x, y, e, h1, h2.put_other hc u1 u2⟩
theorem BoxBig.put {B : Nat} {n : Int} {v : Value} {w : World} {b : Nat} {y1 y2 : Value} (h : BoxBig B n v w) (hne : v ≠ .pointer (some ⟨b, 0, none⟩)) (t : Two w b y1 y2) (u1 u2 : Value) : BoxBig B n v ((w.setCell ⟨b, 0, none⟩ u1).setCell ⟨b, 1, none⟩ u2) := by
  obtain ⟨c, a1, a2, a3, a4, e, h1, h2, h3⟩ := h
  have hc : c ≠ b := fun x => hne (by rw [e, x])
  exact ⟨c, a1, a2, a3, a4, e, h1, h2.put_other hc u1 u2, IsBig.put h3 t u1 u2⟩
end Go.Proofs.YtmkblfejoniccaaDoor
namespace Go.Proofs.YtmkblfejoniccaaDoor
open Go.RowKit
set_option linter.unusedSimpArgs false
set_option linter.unusedVariables false

theorem Blk.same {w : World} {b : Nat} {cs cs' : Array Value} {T T' : TypeId} (h : Blk w b cs T) (h' : Blk w b cs' T') : cs = cs' ∧ T = T' := by
  unfold Blk at h h'
  rw [h] at h'
  simpa using h'
theorem Blk.cellx {w : World} {b : Nat} {cs : Array Value} {T : TypeId} (h : Blk w b cs T) (i : Nat) (hi : i < cs.size) : ∃ y, w.cell? ⟨b, i, none⟩ = some y := ⟨cs[i], h.cell i _ (by simp [hi])⟩
theorem Blk.set1 {w : World} {b : Nat} {cs : Array Value} {T : TypeId} (h : Blk w b cs T) (hs : cs.size = 1) (u : Value) : Blk (w.setCell ⟨b, 0, none⟩ u) b #[u] T := by
  have h1 := h.set 0 u
  have e : cs.setIfInBounds 0 u = #[u] := by
    obtain ⟨l⟩ := cs
    match l, hs with
    | [_], _ => rfl
  rwa [e] at h1
theorem Blk.set2 {w : World} {b : Nat} {cs : Array Value} {T : TypeId} (h : Blk w b cs T) (hs : cs.size = 2) (u v : Value) : Blk ((w.setCell ⟨b, 0, none⟩ u).setCell ⟨b, 1, none⟩ v) b #[u, v] T := by
  have h1 := (h.set 0 u).set 1 v
  have e : (cs.setIfInBounds 0 u).setIfInBounds 1 v = #[u, v] := by
    obtain ⟨l⟩ := cs
    match l, hs with
    | [_, _], _ => rfl
  rwa [e] at h1
theorem Blk.set3 {w : World} {b : Nat} {cs : Array Value} {T : TypeId} (h : Blk w b cs T) (hs : cs.size = 3) (u v x : Value) : Blk (((w.setCell ⟨b, 0, none⟩ u).setCell ⟨b, 1, none⟩ v).setCell ⟨b, 2, none⟩ x) b #[u, v, x] T := by
  have h1 := ((h.set 0 u).set 1 v).set 2 x
  have e : ((cs.setIfInBounds 0 u).setIfInBounds 1 v).setIfInBounds 2 x = #[u, v, x] := by
    obtain ⟨l⟩ := cs
    match l, hs with
    | [_, _, _], _ => rfl
  rwa [e] at h1
theorem But.set2 {b : Nat} (w : World) (u v : Value) : But b w ((w.setCell ⟨b, 0, none⟩ u).setCell ⟨b, 1, none⟩ v) := (But.set _ _ _).trans (But.set _ _ _)
theorem But.set3 {b : Nat} (w : World) (u v x : Value) : But b w (((w.setCell ⟨b, 0, none⟩ u).setCell ⟨b, 1, none⟩ v).setCell ⟨b, 2, none⟩ x) := ((But.set _ _ _).trans (But.set _ _ _)).trans (But.set _ _ _)
/-- A new box, whatever it holds; a new box that holds these cells. -/
def BxV (B : Nat) (T : TypeId) (n : Nat) (v : Value) (w : World) : Prop := ∃ b cs, v = .pointer (some ⟨b, 0, none⟩) ∧ B ≤ b ∧ Blk w b cs T ∧ cs.size = n
def BxC (B : Nat) (T : TypeId) (cs : Array Value) (v : Value) (w : World) : Prop := ∃ b, v = .pointer (some ⟨b, 0, none⟩) ∧ B ≤ b ∧ Blk w b cs T
theorem BxV.below {B n : Nat} {T : TypeId} {v : Value} {w w' : World} (h : BxV B T n v w) (hb : Below w.heap.size w w') : BxV B T n v w' := by
  obtain ⟨b, cs, e, h1, h2, h3⟩ := h; exact ⟨b, cs, e, h1, h2.below hb, h3⟩
theorem BxC.below {B : Nat} {T : TypeId} {cs : Array Value} {v : Value} {w w' : World} (h : BxC B T cs v w) (hb : Below w.heap.size w w') : BxC B T cs v w' := by
  obtain ⟨b, e, h1, h2⟩ := h; exact ⟨b, e, h1, h2.below hb⟩
def bxV (B : Nat) (T : TypeId) (n : Nat) : Cl := .own (BxV B T n) (fun _ _ _ h hb => h.below hb)
def bxC (j B : Nat) (T : TypeId) (cs : Array Value) : Cl := .at j (BxC B T cs) (fun _ _ _ h hb => h.below hb)
section
variable {w w' : World} {b : Nat} {cs0 cs1 : Array Value} {T0 : TypeId}
theorem BxV.but {B n : Nat} {T : TypeId} {v : Value} (h : BxV B T n v w) (hb : But b w w') (t0 : Blk w b cs0 T0) (t1 : Blk w' b cs1 T0) (hs : cs1.size = cs0.size) : BxV B T n v w' := by
  obtain ⟨c, cs, e, h1, h2, h3⟩ := h
  by_cases hc : c = b
  · subst hc
    obtain ⟨rfl, rfl⟩ := h2.same t0
    exact ⟨c, cs1, e, h1, t1, by rw [hs, h3]⟩
  · exact ⟨c, cs, e, h1, h2.but hb hc, h3⟩
theorem BxC.but {B : Nat} {T : TypeId} {cs : Array Value} {v : Value} (h : BxC B T cs v w) (hb : But b w w') (hne : v ≠ .pointer (some ⟨b, 0, none⟩)) : BxC B T cs v w' := by
  obtain ⟨c, e, h1, h2⟩ := h
  exact ⟨c, e, h1, h2.but hb (fun x => hne (by rw [e, x]))⟩
theorem keeps_but (hb : But b w w') (t0 : Blk w b cs0 T0) (hT : T0 ≠ 22) : Keeps w w' := by
  intro g cur hg
  have hne : g ≠ b := by
    rintro rfl
    exact hT (Blk.same (T := 22) (cs := cur) hg t0).2.symm
  exact (hb.block g (Array.getElem?_eq_some_iff.1 hg).1 hne).trans hg
theorem IsBig.but {neg : Bool} {ao : Option Addr} {k cap : Nat} {n : Int} (h : IsBig w neg ao k cap n) (hb : But b w w') (t0 : Blk w b cs0 T0) (hT : T0 ≠ 22) : IsBig w' neg ao k cap n := h.keeps (keeps_but hb t0 hT)
theorem BigV.but {n : Int} {v : Value} (h : BigV n v w) (hb : But b w w') (t0 : Blk w b cs0 T0) (hT : T0 ≠ 22) : BigV n v w' := by
  obtain ⟨a1, a2, a3, a4, e, h⟩ := h; exact ⟨a1, a2, a3, a4, e, h.but hb t0 hT⟩
theorem Big2V.but {n p : Int} {v : Value} (h : Big2V n p v w) (hb : But b w w') (t0 : Blk w b cs0 T0) (hT : T0 ≠ 22) : Big2V n p v w' := by
  obtain ⟨a1, a2, a3, a4, b1, b2, b3, b4, e, h, g⟩ := h; exact ⟨a1, a2, a3, a4, b1, b2, b3, b4, e, h.but hb t0 hT, g.but hb t0 hT⟩
/-- A new box that holds a whole number. -/
theorem BoxBig.but {B : Nat} {n : Int} {v : Value} (h : BoxBig B n v w) (hb : But b w w') (t0 : Blk w b cs0 T0) (hT : T0 ≠ 22) (hne : v ≠ .pointer (some ⟨b, 0, none⟩)) : BoxBig B n v w' := by
  obtain ⟨c, a1, a2, a3, a4, e, h1, h2, h3⟩ := h
  exact ⟨c, a1, a2, a3, a4, e, h1, Blk.but (cs := #[.bool a1, .slice a2 a3 a4]) h2 hb (fun x => hne (by rw [e, x])), h3.but hb t0 hT⟩
end
end Go.Proofs.YtmkblfejoniccaaDoor
namespace Go.Proofs.YtmkblfejoniccaaDoor
open Go.RowKit
set_option linter.unusedSimpArgs false
set_option linter.unusedVariables false

def heldF (b : Nat) (n : Int) : Cl := .own (fun _ w => ∃ neg ao k cap, Two w b (.bool neg) (.slice ao k cap) ∧ IsBig w neg ao k cap n) (fun _ _ _ h hb => by
  obtain ⟨a, b, c, d, t, i⟩ := h; exact ⟨a, b, c, d, t.below hb, i.keep hb⟩)
/-- The state of Fraction: both boxes, the results' boxes. -/
def FrR (w : World) (b7 : Nat) (X Y : Int) (wx : World) : Prop :=
  ∃ (n1 : Bool) (a1 : Option Addr) (k1 c1 : Nat) (n2 : Bool) (a2 : Option Addr) (k2 c2 : Nat), Two wx b7 (.bool n1) (.slice a1 k1 c1) ∧ Two wx (b7 + 1) (.bool n2) (.slice a2 k2 c2) ∧ IsBig wx n1 a1 k1 c1 X ∧ IsBig wx n2 a2 k2 c2 Y ∧
    Two wx w.heap.size (.bool false) (.slice none 0 0) ∧ Two wx (w.heap.size + 1) (.bool false) (.slice none 0 0) ∧ Below w.heap.size w wx
theorem wp_worldF {P : Program} {c : Code} {Q : Exit → Act → World → Prop} {a : Act} {w : World} (R : World → Prop) (h : R w) (k : ∀ W, R W → c.wp P Q a W) : c.wp P Q a w := k w h
set_option maxRecDepth 100000 in
set_option maxHeartbeats 3200000 in
theorem ref3_fraction (b : Nat) (hb : b < 18446744073709551616) (w : World) : Calls Tryd.prog 50 #[.int .u64 (b : Int)] w (BigRet2 (fNu b * (fUp b : Int)) (fLo b : Int) w) := by
  have FI := ref3_fields b hb
  have hw := fWh_lt b
  have hx := fEx_lt b
  have hm := fMa_lt b
  obtain ⟨E, eE⟩ : ∃ E, (if fEx b = 0 then 1 else fEx b) = E := ⟨_, rfl⟩
  have hE : 1 ≤ E ∧ E < 2048 := by rw [← eE]; split <;> omega
  have hP : fPo b = (E : Int) - 1075 := by unfold fPo; rw [← eE]; split <;> omega
  have hu : (fUp b : Int) = ((2 ^ (E - 1075) : Nat) : Int) := by unfold fUp; rw [hP]; congr 2; omega
  have hl : (fLo b : Int) = ((2 ^ (1075 - E) : Nat) : Int) := by unfold fLo; rw [hP]; congr 2; omega
  have hn : fNu b = if fSg b then -(fWh b : Int) else (fWh b : Int) := rfl
  have hW : fWh b = if fEx b = 0 then fMa b else fMa b + 4503599627370496 := rfl
  rw [hu, hl]
  obtain ⟨x, ex⟩ : ∃ x, fEx b = x := ⟨_, rfl⟩
  obtain ⟨m0, em⟩ : ∃ x, fMa b = x := ⟨_, rfl⟩
  obtain ⟨m, eW⟩ : ∃ x, fWh b = x := ⟨_, rfl⟩
  obtain ⟨s, es⟩ : ∃ x, fSg b = x := ⟨_, rfl⟩
  rw [ex, em, es] at FI
  rw [ex] at eE hx
  rw [em] at hm
  rw [eW] at hw
  rw [eW, es] at hn
  rw [eW, ex, em] at hW
  rw [hn]
  obtain ⟨U, eU⟩ : ∃ U : Int, ((2 ^ (E - 1075) : Nat) : Int) = U := ⟨_, rfl⟩
  obtain ⟨L, eL⟩ : ∃ L : Int, ((2 ^ (1075 - E) : Nat) : Int) = L := ⟨_, rfl⟩
  obtain ⟨X, eX⟩ : ∃ X : Int, (if s = true then -(m : Int) else (m : Int)) * U = X := ⟨_, rfl⟩
  rw [eU, eL, eX]
  have EU := Lib.hid eU
  have EL := Lib.hid eL
  have EX := Lib.hid eX
  clear eU eL eX
  have sm : BM.Sz (m : Int) 4 := BM.Sz.u64 (by omega) (by omega)
  have EE := Lib.hid eE
  have HM := Lib.hid hW
  clear ex em eW es hn hu hl hP hW eE
  go_enter Tryd.func50, Tryd.ntmps50
  go_upto_if 16 with (go_at_call 60; with_reducible refine (FI _).mono ?_; rintro e w1 ⟨rfl, rfl⟩)
  clear FI
  obtain ⟨w0, e0⟩ : ∃ W, (w.alloc (.cells #[.bool false, .slice none 0 0] 41)).alloc (.cells #[.bool false, .slice none 0 0] 41) = W := ⟨_, rfl⟩
  have z2 : Two w0 w.heap.size (.bool false) (.slice none 0 0) := by rw [← e0]; exact (Two.new w _ _ _ rfl).alloc _
  have z3 : Two w0 (w.heap.size + 1) (.bool false) (.slice none 0 0) := by rw [← e0]; exact Two.new _ _ _ _ (by simp)
  have hB : Below w.heap.size w w0 := by rw [← e0]; exact (by repeat' (first | (with_reducible exact Below.refl _ _) | (with_reducible assumption) | (with_reducible refine below_alloc ?_ _ ?_) | (with_reducible refine below_set _ ?_ ?_) | (with_reducible refine Below.drew ?_) | (with_reducible refine below_dN ?_ _) | (apply below_thenA; assumption) | omega | (simp; done) | (simp; omega) | (simp [*]; done)))
  have hs0 : w.heap.size + 2 ≤ w0.heap.size := by rw [← e0]; simp
  rw [e0]
  clear e0
  go_cut [5, 6] from 17 to 18 (fun v5 v6 wx => v5 = .int .i64 ((E : Int)) ∧ v6 = .int .u64 ((m : Int)) ∧ wx = w0)
  case first =>
    by_cases h0 : x = 0
    · have h1 := EE.out
      have h2 := HM.out
      rw [if_pos h0] at h1 h2
      have H1 := Lib.hid h1
      have H2 := Lib.hid h2
      clear h1 h2
      go_wp2_with fail
      go_meet
      case rel => exact ⟨by rw [← H1.out]; rfl, by rw [H2.out], rfl⟩
    · have h1 := EE.out
      have h2 := HM.out
      rw [if_neg h0] at h1 h2
      have H1 := Lib.hid h1
      have H2 := Lib.hid h2
      have q1 : ((x : Int) == 0) = false := by simp; omega
      clear h1 h2
      go_wp2_with fail
      go_meet
      case rel => exact ⟨by rw [← H1.out], by rw [H2.out]; simp, rfl⟩
  case rest =>
    obtain ⟨rfl, rfl, hwc⟩ := hcut
    subst hwc
    have OF := fun W => big_ofu m (by omega) W
    have OO := big_ofu1
    go_upto_region 6 with (first
      | (go_at_call 67; with_reducible refine (OF _).mono ?_; rintro e w1 hR1; obtain ⟨n1, a1, k1, c1, rfl, I1, hb1⟩ := hR1.out)
      | (go_at_call 67; with_reducible refine (OO _).mono ?_; rintro e w2 hR2; obtain ⟨n2, a2, k2, c2, rfl, I2, hb2⟩ := hR2.out))
    have hR : FrR w w2.heap.size (m : Int) 1 ((w2.alloc (.cells #[.bool n1, .slice a1 k1 c1] 41)).alloc (.cells #[.bool n2, .slice a2 k2 c2] 41)) := by
      have hB2 : Below w.heap.size w w2 := (hB.trans (hb1.mono hB.size)).trans (hb2.mono (by have := hb1.size; omega))
      have hs2 := hB2.size
      refine ⟨n1, a1, k1, c1, n2, a2, k2, c2, (Two.new w2 _ _ _ rfl).alloc _, Two.new _ _ _ _ (by simp), (I1.keep hb2).keep (by repeat' (first | (with_reducible exact Below.refl _ _) | (with_reducible assumption) | (with_reducible refine below_alloc ?_ _ ?_) | (with_reducible refine below_set _ ?_ ?_) | (with_reducible refine Below.drew ?_) | (with_reducible refine below_dN ?_ _) | (apply below_thenA; assumption) | omega | (simp; done) | (simp; omega) | (simp [*]; done))), I2.keep (by repeat' (first | (with_reducible exact Below.refl _ _) | (with_reducible assumption) | (with_reducible refine below_alloc ?_ _ ?_) | (with_reducible refine below_set _ ?_ ?_) | (with_reducible refine Below.drew ?_) | (with_reducible refine below_dN ?_ _) | (apply below_thenA; assumption) | omega | (simp; done) | (simp; omega) | (simp [*]; done))), (((z2.below hb1).below hb2).alloc _).alloc _, (((z3.below hb1).below hb2).alloc _).alloc _, (by repeat' (first | (with_reducible exact Below.refl _ _) | (with_reducible assumption) | (with_reducible refine below_alloc ?_ _ ?_) | (with_reducible refine below_set _ ?_ ?_) | (with_reducible refine Below.drew ?_) | (with_reducible refine below_dN ?_ _) | (apply below_thenA; assumption) | omega | (simp; done) | (simp; omega) | (simp [*]; done)))⟩
    have hl7 : w.heap.size + 1 < w2.heap.size := by have := hb1.size; have := hb2.size; omega
    refine wp_worldF (fun W => FrR w w2.heap.size (m : Int) 1 W) hR ?_
    intro W1 hR1
    clear hR I1 I2 hb1 hb2 z2 z3 hB hs0 OF OO HM EE hR2
    obtain ⟨b7, e7⟩ : ∃ b7, w2.heap.size = b7 := ⟨_, rfl⟩
    rw [e7] at hR1 hl7
    rw [e7]
    clear e7
    go_upto_if 23 with (fail)
    go_cut [] from 23 to 31 (fun wx => FrR w b7 ((m : Int) * U) L wx)
    case first =>
      obtain ⟨m1, d1, k1', f1, m2, d2, k2', f2, t7, t8, I1, I2, tA, tB, hB⟩ := hR1
      have hsB := hB.size
      by_cases hg : 1075 < E
      · have q0 : decide (1075 < (E : Int)) = true := by simp; omega
        have hgi : (1075 : Int) < (E : Int) := by omega
        obtain ⟨k, ek⟩ : ∃ k : Nat, E - 1075 = k := ⟨_, rfl⟩
        have hk : (E : Int) - 1075 = (k : Int) := by omega
        have hk2 : k ≤ 1000 := by omega
        have wk : IntKind.i64.wrap (k : Int) = (k : Int) := by rw [IntWalk.i64_left]; exact IntWalk.wrap64_in _ (by omega)
        have hL : (1 : Int) = L := by rw [← EL.out, show 1075 - E = 0 by omega]; rfl
        rw [hL] at I2
        have su : BM.Sz U (k + 1) := by rw [← EU.out, ek]; exact pow_sz k
        have PW : ∀ W, Calls Tryd.prog 91 #[.int .i64 ((k : Int))] W (BigRet U W) := fun W => by
          have q := big_power k (by omega) W
          rw [← ek, EU.out, ek] at q
          exact q
        have hl8 := t8.lt
        rw [q0]
        clear hL hg EL EU ek EX q0 hgi
        go_upto_region 7 with (fail)
        rename_i K0 hK0
        refine wp_region_calm (fun w' => Below w.heap.size w w' ∧ Two w' (b7 + 1) (.bool m2) (.slice d2 k2' f2) ∧ IsBig w' m2 d2 k2' f2 L ∧ Two w' w.heap.size (.bool false) (.slice none 0 0) ∧ Two w' (w.heap.size + 1) (.bool false) (.slice none 0 0)) [5] (fun w' => Two w' b7 (.bool m1) (.slice d1 k1' f1) ∧ IsBig w' m1 d1 k1' f1 (m : Int)) [bigC (m : Int), Is (.int .i64 ((E : Int))), Is (.int .i64 ((k : Int))), bigC U, bigC ((m : Int) * U), heldF b7 ((m : Int) * U)] [] (by kernel_rfl) (by kernel_rfl) (by kernel_rfl) (by kernel_rfl) ⟨hB.drew, t8, I2.drewd, tA, tB⟩ ⟨t7, I1.drewd⟩ ?_ ?_ ?_ ?_ ?_
        · rintro W W' ⟨hBB, u8, J2, uA, uB⟩ hb
          exact ⟨hBB.trans (hb.mono hBB.size), u8.below hb, J2.keep hb, uA.below hb, uB.below hb⟩
        · intro W W' hB h0 hb; exact ⟨h0.1.below hb, h0.2.keep hb⟩
        · intro k vs W hk h
          exact absurd hk (by simp)
        · intro Q; clear hK0 
          refine ⟨?_, ?_, ?_, ?_, ?_, ?_, trivial⟩
          · intro vs W hW hW0 hd hne hold K hK hA hL; clear hne hA hL; have hBB := hW.1; have u8 := hW.2.1; have J2 := hW.2.2.1; have uA := hW.2.2.2.1; have uB := hW.2.2.2.2; simp only [puts, Act.put, List.setIfInBounds_toArray, List.set_cons_zero, List.set_cons_succ, Nat.zero_add, Nat.reduceAdd] at hK ⊢; have h0 := hW0 (by kernel_rfl); have q := (h0.1).cells; have q1 := q.1; have q2 := q.2.1; clear hd hold; go_simp; exact hK.out rfl _ _ (Below.refl _ _) ⟨m1, d1, k1', f1, rfl, h0.2⟩
          · intro vs W hW hW0 hd hne hold K hK hA hL; clear hne hA hL; have hBB := hW.1; have u8 := hW.2.1; have J2 := hW.2.2.1; have uA := hW.2.2.2.1; have uB := hW.2.2.2.2; simp only [puts, Act.put, List.setIfInBounds_toArray, List.set_cons_zero, List.set_cons_succ, Nat.zero_add, Nat.reduceAdd] at hK ⊢; clear hd hold; go_simp; exact hK.out rfl _ _ (Below.refl _ _) rfl
          · intro vs W hW hW0 hd hne hold K hK hA hL; clear hne hA hL; have hBB := hW.1; have u8 := hW.2.1; have J2 := hW.2.2.1; have uA := hW.2.2.2.1; have uB := hW.2.2.2.2; simp only [puts, Act.put, List.setIfInBounds_toArray, List.set_cons_zero, List.set_cons_succ, Nat.zero_add, Nat.reduceAdd] at hK ⊢; have e1 : vs 1 = _ := hd 1 (by kernel_rfl); clear hd hold; simp only [e1] at hK; go_simp; exact hK.out rfl _ _ (Below.refl _ _) rfl
          · intro vs W hW hW0 hd hne hold K hK hA hL; clear hne hA hL; have hBB := hW.1; have u8 := hW.2.1; have J2 := hW.2.2.1; have uA := hW.2.2.2.1; have uB := hW.2.2.2.2; simp only [puts, Act.put, List.setIfInBounds_toArray, List.set_cons_zero, List.set_cons_succ, Nat.zero_add, Nat.reduceAdd] at hK ⊢; have eb : vs 2 = _ := hd 2 (by kernel_rfl); clear hd hold; simp only [eb] at hK; go_simp; refine ((PW W)).mono ?_; (rintro e wx ⟨f1, f2, f3, f4, rfl, If, hbx⟩); go_simp; exact hK.out rfl _ _ hbx ⟨f1, f2, f3, f4, rfl, If⟩
          · intro vs W hW hW0 hd hne hold K hK hA hL; clear hne hA hL; have hBB := hW.1; have u8 := hW.2.1; have J2 := hW.2.2.1; have uA := hW.2.2.2.1; have uB := hW.2.2.2.2; simp only [puts, Act.put, List.setIfInBounds_toArray, List.set_cons_zero, List.set_cons_succ, Nat.zero_add, Nat.reduceAdd] at hK ⊢; (have hxb : BigV ((m : Int)) (vs 0) W := hd 0 (by kernel_rfl)); obtain ⟨b1, b2, b3, b4, eb, Ib⟩ := hxb; (have hxc : BigV U (vs 3) W := hd 3 (by kernel_rfl)); obtain ⟨c1, c2, c3, c4, ec, Ic⟩ := hxc; have k2 := Ib.le sm; have k3 := Ic.le su; clear hd hold; simp only [eb, ec] at hK; go_simp; refine (big_times b1 c1 b2 c2 b3 c3 b4 c4 (m : Int) U _ Ib Ic (by omega) (by omega)).mono ?_; (rintro e wx ⟨f1, f2, f3, f4, rfl, If, hbx⟩); go_simp; exact hK.out rfl _ _ hbx ⟨f1, f2, f3, f4, rfl, If⟩
          · intro vs W hW hW0 hd hne hold K hK hA hL; clear hK hA; have hBB := hW.1; have u8 := hW.2.1; have J2 := hW.2.2.1; have uA := hW.2.2.2.1; have uB := hW.2.2.2.2; simp only [puts, Act.put, List.setIfInBounds_toArray, List.set_cons_zero, List.set_cons_succ, Nat.zero_add, Nat.reduceAdd] at hL ⊢; have h0 := hW0 (by kernel_rfl); have T := h0.1; (have hxc : BigV ((m : Int) * U) (vs 4) W := hd 4 (by kernel_rfl)); obtain ⟨c1, c2, c3, c4, ec, Ic⟩ := hxc; have q := T.cells; have q1 := q.1; have q2 := q.2.1; have q3 := q.2.2.1; have q4 := q.2.2.2; clear hd hold; simp only [ec] at hL; go_simp; refine hL.out rfl undef _ ⟨BP hBB (by omega) _ _, u8.put_other (by omega) _ _, IsBig.put J2 T _ _, uA.put_other (by omega) _ _, uB.put_other (by omega) _ _⟩ (fun h => absurd h (by decide)) ⟨c1, c2, c3, c4, T.put _ _, IsBig.put Ic T _ _⟩ ?_; exact claims_keep ⟨.inr fun h => BigV.put h T _ _, .inr is_keep, .inr is_keep, .inr fun h => BigV.put h T _ _, .inr fun h => BigV.put h T _ _, .inl rfl, trivial⟩
        · intro va WA hBW hV _
          obtain ⟨hB2, u8, J2, uA, uB⟩ := hBW
          have h5 : ∃ neg ao k cap, Two WA b7 (.bool neg) (.slice ao k cap) ∧ IsBig WA neg ao k cap ((m : Int) * U) := hV 5 (by decide)
          obtain ⟨n5, x5, k5, c5, t5, I5⟩ := h5
          clear hV
          simp only [puts, Act.put, List.setIfInBounds_toArray, List.set_cons_zero, List.set_cons_succ, Nat.zero_add, Nat.reduceAdd]
          refine hK0 _ _ ?_
          clear hK0
          go_meet
          case rel => exact ⟨n5, x5, k5, c5, m2, d2, k2', f2, t5, u8, I5, J2, uA, uB, hB2⟩
      · have q0 : decide (1075 < (E : Int)) = false := by simp; omega
        obtain ⟨k, ek⟩ : ∃ k : Nat, 1075 - E = k := ⟨_, rfl⟩
        have hk : 1075 - (E : Int) = (k : Int) := by omega
        have hk2 : k ≤ 1075 := by omega
        have hU : (m : Int) = (m : Int) * U := by rw [← EU.out, show E - 1075 = 0 by omega]; simp
        rw [hU] at I1
        have PW : ∀ W, Calls Tryd.prog 91 #[.int .i64 ((k : Int))] W (BigRet L W) := fun W => by
          have q := big_power k (by omega) W
          rw [← ek, EL.out, ek] at q
          exact q
        have hE2 : (E : Int) ≤ 1075 := by omega
        clear hU hg EL EU ek EX
        go_wp2_with (go_at_call 91; with_reducible refine (PW _).mono ?_; rintro e w3 hR3; obtain ⟨n3, a3, k3, c3, rfl, I3, hb3⟩ := hR3.out; have t8' := t8.below hb3; obtain ⟨q1, q2, q3, q4⟩ := t8'.cells)
        go_meet
        case rel => exact ⟨m1, d1, k1', f1, n3, a3, k3, c3, (t7.below hb3).put_other (by omega) _ _, t8'.put _ _, IsBig.put (I1.keep hb3) t8' _ _, IsBig.put I3 t8' _ _, (tA.below hb3).put_other (by omega) _ _, (tB.below hb3).put_other (by omega) _ _, BP (hB.trans (hb3.mono hB.size)) (by omega) _ _⟩
    case rest =>
      obtain ⟨wd, rfl⟩ : ∃ x, x = wc := ⟨_, rfl⟩
      go_upto_if 32 with (fail)
      go_cut [] from 32 to 35 (fun wx => FrR w b7 X L wx)
      case first =>
        obtain ⟨m1, d1, k1', f1, m2, d2, k2', f2, t7, t8, I1, I2, tA, tB, hB⟩ := hcut
        have hsB := hB.size
        have hX := EX.out
        cases s
        · rw [if_neg (by simp)] at hX
          rw [hX] at I1
          go_wp2_with fail
          go_meet
          case rel => exact ⟨m1, d1, k1', f1, m2, d2, k2', f2, t7, t8, I1, I2, tA, tB, hB⟩
        · rw [if_pos rfl, Int.neg_mul] at hX
          have hk1 := I1.le (BM.Sz.mul sm (show BM.Sz U (E - 1075 + 1) by rw [← EU.out]; exact pow_sz _))
          have MN := fun W (h : IsBig W m1 d1 k1' f1 ((m : Int) * U)) => big_minus m1 d1 k1' f1 _ W h (by omega)
          rw [hX] at MN
          obtain ⟨q1, q2, q3, q4⟩ := t7.cells
          go_wp2_with (go_at_call 63; with_reducible refine (MN _ I1).mono ?_; rintro e w3 hR3; obtain ⟨n3, a3, k3, c3, rfl, I3, hb3⟩ := BigRet.out hR3; have t7' := t7.below hb3; obtain ⟨r1, r2, r3, r4⟩ := t7'.cells)
          go_meet
          case rel => exact ⟨n3, a3, k3, c3, m2, d2, k2', f2, t7'.put _ _, (t8.below hb3).put_other (by omega) _ _, IsBig.put I3 t7' _ _, IsBig.put (I2.keep hb3) t7' _ _, (tA.below hb3).put_other (by omega) _ _, (tB.below hb3).put_other (by omega) _ _, BP (hB.trans (hb3.mono hB.size)) (by omega) _ _⟩
      case rest =>
        obtain ⟨we, rfl⟩ : ∃ x, x = wc := ⟨_, rfl⟩
        obtain ⟨m1, d1, k1', f1, m2, d2, k2', f2, t7, t8, I1, I2, tA, tB, hB⟩ := hcut
        have hsB := hB.size
        clear EX EU EL sm
        go_upto_region 11 with (fail)
        rename_i K1 hK1
        refine wp_region_calm (fun w' => Below w.heap.size w w' ∧ Two w' b7 (.bool m1) (.slice d1 k1' f1) ∧ Two w' (b7 + 1) (.bool m2) (.slice d2 k2' f2) ∧ IsBig w' m1 d1 k1' f1 X ∧ IsBig w' m2 d2 k2' f2 L ∧ (∃ x y, Two w' w.heap.size x y) ∧ (∃ x y, Two w' (w.heap.size + 1) x y)) [2, 3] (fun w' => True) [Is (.agg #[.bool m1, .slice d1 k1' f1]), Is (.agg #[.bool m2, .slice d2 k2' f2]), .own (fun _ w' => Two w' w.heap.size (.bool m1) (.slice d1 k1' f1)) (fun _ _ _ h hb => h.below hb), .own (fun _ w' => Two w' (w.heap.size + 1) (.bool m2) (.slice d2 k2' f2)) (fun _ _ _ h hb => h.below hb)] [] (by kernel_rfl) (by kernel_rfl) (by kernel_rfl) (by kernel_rfl) ⟨hB.drew, t7, t8, I1.drewd, I2.drewd, ⟨_, _, tA⟩, ⟨_, _, tB⟩⟩ trivial ?_ ?_ ?_ ?_ ?_
        · rintro W W' ⟨hBB, u7, u8, J1, J2, uA, uB⟩ hb
          exact ⟨hBB.trans (hb.mono hBB.size), u7.below hb, u8.below hb, J1.keep hb, J2.keep hb, by obtain ⟨x, y, h⟩ := uA; exact ⟨x, y, h.below hb⟩, by obtain ⟨x, y, h⟩ := uB; exact ⟨x, y, h.below hb⟩⟩
        · intro W W' hB h0 hb; exact trivial
        · intro k vs W hk h
          exact absurd hk (by simp)
        · intro Q; clear hK1 
          refine ⟨?_, ?_, ?_, ?_, trivial⟩
          · intro vs W hW hW0 hd hne hold K hK hA hL; clear hne hA hL; have hBB := hW.1; have u7 := hW.2.1; have u8 := hW.2.2.1; have J1 := hW.2.2.2.1; have J2 := hW.2.2.2.2.1; have uA := hW.2.2.2.2.2.1; have uB := hW.2.2.2.2.2.2; simp only [puts, Act.put, List.setIfInBounds_toArray, List.set_cons_zero, List.set_cons_succ, Nat.zero_add, Nat.reduceAdd] at hK ⊢; have q := u7.cells; have q1 := q.1; have q2 := q.2.1; clear hd hold; go_simp; exact hK.out rfl _ _ (Below.refl _ _) rfl
          · intro vs W hW hW0 hd hne hold K hK hA hL; clear hne hA hL; have hBB := hW.1; have u7 := hW.2.1; have u8 := hW.2.2.1; have J1 := hW.2.2.2.1; have J2 := hW.2.2.2.2.1; have uA := hW.2.2.2.2.2.1; have uB := hW.2.2.2.2.2.2; simp only [puts, Act.put, List.setIfInBounds_toArray, List.set_cons_zero, List.set_cons_succ, Nat.zero_add, Nat.reduceAdd] at hK ⊢; have q := u8.cells; have q1 := q.1; have q2 := q.2.1; clear hd hold; go_simp; exact hK.out rfl _ _ (Below.refl _ _) rfl
          · intro vs W hW hW0 hd hne hold K hK hA hL; clear hK hA; have hBB := hW.1; have u7 := hW.2.1; have u8 := hW.2.2.1; have J1 := hW.2.2.2.1; have J2 := hW.2.2.2.2.1; have uA := hW.2.2.2.2.2.1; have uB := hW.2.2.2.2.2.2; simp only [puts, Act.put, List.setIfInBounds_toArray, List.set_cons_zero, List.set_cons_succ, Nat.zero_add, Nat.reduceAdd] at hL ⊢; have ev : vs 0 = _ := hd 0 (by kernel_rfl); obtain ⟨x, y, T⟩ := uA; have q := T.cells; have q1 := q.1; have q2 := q.2.1; have q3 := q.2.2.1; have q4 := q.2.2.2; clear hd hold; simp only [ev] at hL ⊢; go_simp; refine hL.out rfl undef _ ⟨BP hBB (Nat.le_refl _) _ _, u7.put_other (by omega) _ _, u8.put_other (by omega) _ _, IsBig.put J1 T _ _, IsBig.put J2 T _ _, ⟨_, _, T.put _ _⟩, by obtain ⟨x', y', T'⟩ := uB; exact ⟨x', y', T'.put_other (by omega) _ _⟩⟩ (fun _ => trivial) (T.put _ _) ?_; exact claims_keep ⟨.inr is_keep, .inr is_keep, .inl rfl, .inr fun h => Two.put_other h (by omega) _ _, trivial⟩
          · intro vs W hW hW0 hd hne hold K hK hA hL; clear hK hA; have hBB := hW.1; have u7 := hW.2.1; have u8 := hW.2.2.1; have J1 := hW.2.2.2.1; have J2 := hW.2.2.2.2.1; have uA := hW.2.2.2.2.2.1; have uB := hW.2.2.2.2.2.2; simp only [puts, Act.put, List.setIfInBounds_toArray, List.set_cons_zero, List.set_cons_succ, Nat.zero_add, Nat.reduceAdd] at hL ⊢; have ev : vs 1 = _ := hd 1 (by kernel_rfl); obtain ⟨x, y, T⟩ := uB; have q := T.cells; have q1 := q.1; have q2 := q.2.1; have q3 := q.2.2.1; have q4 := q.2.2.2; clear hd hold; simp only [ev] at hL ⊢; go_simp; refine hL.out rfl undef _ ⟨BP hBB (by omega) _ _, u7.put_other (by omega) _ _, u8.put_other (by omega) _ _, IsBig.put J1 T _ _, IsBig.put J2 T _ _, by obtain ⟨x', y', T'⟩ := uA; exact ⟨x', y', T'.put_other (by omega) _ _⟩, ⟨_, _, T.put _ _⟩⟩ (fun _ => trivial) (T.put _ _) ?_; exact claims_keep ⟨.inr is_keep, .inr is_keep, .inr fun h => Two.put_other h (by omega) _ _, .inl rfl, trivial⟩
        · intro va WA hBW hV _
          obtain ⟨hB2, u7, u8, J1, J2, uA, uB⟩ := hBW
          have h2 : Two WA w.heap.size (.bool m1) (.slice d1 k1' f1) := hV 2 (by decide)
          have h3 : Two WA (w.heap.size + 1) (.bool m2) (.slice d2 k2' f2) := hV 3 (by decide)
          clear hV uA uB u7 u8
          simp only [puts, Act.put, List.setIfInBounds_toArray, List.set_cons_zero, List.set_cons_succ, Nat.zero_add, Nat.reduceAdd]
          refine hK1 _ _ ?_
          clear hK1
          obtain ⟨q1, q2, q3, q4⟩ := h2.cells
          obtain ⟨r1, r2, r3, r4⟩ := h3.cells
          go_wp2_with fail
          (go_light; simp [bodyPost, results, Tryd.results50, go_sem, *])
          exact ⟨m1, d1, k1', f1, m2, d2, k2', f2, rfl, J1, J2, hB2⟩
end Go.Proofs.YtmkblfejoniccaaDoor
