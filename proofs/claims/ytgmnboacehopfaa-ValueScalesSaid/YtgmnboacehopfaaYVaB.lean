/-
  Package value: Decode, whatever comes.
-/
import Derived.Test.YtgmnboacehopfaaYVaA
namespace Go.Proofs.Ytgmnboacehopfaa
open Go.RowKit
set_option linter.unusedSimpArgs false
set_option linter.unusedVariables false

/-- A number's value: its kind, its number, why there is none. -/
def vN (b : Nat) (pct a4 a8 : Bool) : Int × Int × Int :=
  if (pct && !a4) = true then (0, 0, 11)
  else if gN b 64 < -1073741824 ∨ 1073741824 < gN b 64 then (0, 0, 2)
  else if gN b 64 < 0 ∧ a8 = false then (0, 0, 11)
  else (if pct then 4 else 3, gN b 64, 0)
def vD (b : Nat) (pct a1 a2 a4 a8 : Bool) : Int × Int × Int :=
  if fKi b = 1 then (if a1 then (1, 0, 0) else (0, 0, 4))
  else if fKi b = 2 then (if (fSg b || !a2) = true then (0, 0, 5) else (2, 0, 0))
  else vN b pct a4 a8
set_option maxRecDepth 100000 in
set_option maxHeartbeats 1600000 in
theorem val_number (b : Nat) (hb : b < 18446744073709551616) (pct a4 a8 : Bool) (may : Int) (hk : fKi b ≠ 1) (hk2 : fKi b ≠ 2) (m4 : (bits .and .i64 may 4 == 0) = !a4) (m8 : (bits .and .i64 may 8 == 0) = !a8) (w : World) :
    Calls Try.prog 35 #[.agg #[.float .f64 b, .bool pct], .int .i64 may] w fun e w' => e = .returned (.tuple #[.agg #[.int .i64 ((vN b pct a4 a8).1), .int .i64 ((vN b pct a4 a8).2.1)], .int .i64 ((vN b pct a4 a8).2.2)]) ∧ Below w.heap.size w w' := by
  have GR := fun W => real_Grid b hb 64 (-1073741825) 1073741825 (by unfold IFit; omega) (by unfold IFit; omega) (by unfold IFit; omega) W
  rw [gridR_num (by omega) hk hk2] at GR
  obtain ⟨r, er⟩ : ∃ r, vN b pct a4 a8 = r := ⟨_, rfl⟩
  rw [er]
  obtain ⟨K, n, c⟩ := r
  dsimp only at GR ⊢
  unfold vN at er
  obtain ⟨G, eG⟩ : ∃ G, gN b 64 = G := ⟨_, rfl⟩
  rw [eG] at er GR
  clear eG hk hk2
  have hcl : clampI G (-1073741825) 1073741825 = if G < -1073741824 then -1073741825 else if 1073741824 < G then 1073741825 else G := by
    unfold clampI
    split <;> split <;> omega
  rw [hcl] at GR
  clear hcl
  have t1 := Blk.new w #[.float .f64 b, .bool pct] 59 _ rfl
  cases pct
  · clear m4
    simp only [Bool.false_and, Bool.true_and, Bool.not_true, Bool.not_false, Bool.false_eq_true, if_false, if_true] at er
    by_cases h1 : G < -1073741824
    · rw [if_pos (.inl h1)] at er
      rw [if_pos h1] at GR
      obtain ⟨rfl, rfl, rfl⟩ : 0 = K ∧ 0 = n ∧ 2 = c := by simpa using er
      clear er h1
      go_enter Try.func35, Try.ntmps35
      go_wp2_with (go_at_call 27; with_reducible refine (GR _).mono ?_; rintro e w1 ⟨rfl, hb1⟩; have hs1 := hb1.size; simp at hs1; obtain ⟨hc1, hf1⟩ := bcell hb1)
      (go_light; simp [bodyPost, results, Try.results35, go_sem, *])
      exact (by repeat' (first | (with_reducible exact Below.refl _ _) | (with_reducible assumption) | (with_reducible refine below_alloc ?_ _ ?_) | (with_reducible refine below_set _ ?_ ?_) | (with_reducible refine Below.drew ?_) | (with_reducible refine below_dN ?_ _) | (apply below_thenA; assumption) | omega | (simp; done) | (simp; omega) | (simp [*]; done)))
    by_cases h2 : 1073741824 < G
    · rw [if_pos (.inr h2)] at er
      rw [if_neg h1, if_pos h2] at GR
      obtain ⟨rfl, rfl, rfl⟩ : 0 = K ∧ 0 = n ∧ 2 = c := by simpa using er
      clear er h1 h2
      go_enter Try.func35, Try.ntmps35
      go_wp2_with (go_at_call 27; with_reducible refine (GR _).mono ?_; rintro e w1 ⟨rfl, hb1⟩; have hs1 := hb1.size; simp at hs1; obtain ⟨hc1, hf1⟩ := bcell hb1)
      (go_light; simp [bodyPost, results, Try.results35, go_sem, *])
      exact (by repeat' (first | (with_reducible exact Below.refl _ _) | (with_reducible assumption) | (with_reducible refine below_alloc ?_ _ ?_) | (with_reducible refine below_set _ ?_ ?_) | (with_reducible refine Below.drew ?_) | (with_reducible refine below_dN ?_ _) | (apply below_thenA; assumption) | omega | (simp; done) | (simp; omega) | (simp [*]; done)))
    rw [if_neg (by omega)] at er
    rw [if_neg h1, if_neg h2] at GR
    have d1 : decide (G < -1073741824) = false := by simp; omega
    have d2 : decide (1073741824 < G) = false := by simp; omega
    by_cases h3 : G < 0
    · cases a8
      · rw [if_pos ⟨h3, rfl⟩] at er
        obtain ⟨rfl, rfl, rfl⟩ : 0 = K ∧ 0 = n ∧ 11 = c := by simpa using er
        clear er h1 h2
        go_enter Try.func35, Try.ntmps35
        go_wp2_with (go_at_call 27; with_reducible refine (GR _).mono ?_; rintro e w1 ⟨rfl, hb1⟩; have hs1 := hb1.size; simp at hs1; obtain ⟨hc1, hf1⟩ := bcell hb1)
        (go_light; simp [bodyPost, results, Try.results35, go_sem, *])
        exact (by repeat' (first | (with_reducible exact Below.refl _ _) | (with_reducible assumption) | (with_reducible refine below_alloc ?_ _ ?_) | (with_reducible refine below_set _ ?_ ?_) | (with_reducible refine Below.drew ?_) | (with_reducible refine below_dN ?_ _) | (apply below_thenA; assumption) | omega | (simp; done) | (simp; omega) | (simp [*]; done)))
      · rw [if_neg (by simp)] at er
        obtain ⟨rfl, rfl, rfl⟩ : 3 = K ∧ G = n ∧ 0 = c := by simpa using er
        clear er h1 h2
        go_enter Try.func35, Try.ntmps35
        go_wp2_with (go_at_call 27; with_reducible refine (GR _).mono ?_; rintro e w1 ⟨rfl, hb1⟩; have hs1 := hb1.size; simp at hs1; obtain ⟨hc1, hf1⟩ := bcell hb1)
        (go_light; simp [bodyPost, results, Try.results35, go_sem, *])
        exact (by repeat' (first | (with_reducible exact Below.refl _ _) | (with_reducible assumption) | (with_reducible refine below_alloc ?_ _ ?_) | (with_reducible refine below_set _ ?_ ?_) | (with_reducible refine Below.drew ?_) | (with_reducible refine below_dN ?_ _) | (apply below_thenA; assumption) | omega | (simp; done) | (simp; omega) | (simp [*]; done)))
    · have d3 : decide (G < 0) = false := by simp; omega
      rw [if_neg (fun q => h3 q.1)] at er
      obtain ⟨rfl, rfl, rfl⟩ : 3 = K ∧ G = n ∧ 0 = c := by simpa using er
      clear er h1 h2 h3 m8
      go_enter Try.func35, Try.ntmps35
      go_wp2_with (go_at_call 27; with_reducible refine (GR _).mono ?_; rintro e w1 ⟨rfl, hb1⟩; have hs1 := hb1.size; simp at hs1; obtain ⟨hc1, hf1⟩ := bcell hb1)
      (go_light; simp [bodyPost, results, Try.results35, go_sem, *])
      exact (by repeat' (first | (with_reducible exact Below.refl _ _) | (with_reducible assumption) | (with_reducible refine below_alloc ?_ _ ?_) | (with_reducible refine below_set _ ?_ ?_) | (with_reducible refine Below.drew ?_) | (with_reducible refine below_dN ?_ _) | (apply below_thenA; assumption) | omega | (simp; done) | (simp; omega) | (simp [*]; done)))
  · cases a4
    · simp only [Bool.true_and, Bool.not_false, if_true] at er m4
      obtain ⟨rfl, rfl, rfl⟩ : 0 = K ∧ 0 = n ∧ 11 = c := by simpa using er
      clear er
      go_enter Try.func35, Try.ntmps35
      go_wp2_with (go_at_call 27; with_reducible refine (GR _).mono ?_; rintro e w1 ⟨rfl, hb1⟩; have hs1 := hb1.size; simp at hs1; obtain ⟨hc1, hf1⟩ := bcell hb1)
      (go_light; simp [bodyPost, results, Try.results35, go_sem, *])
      exact (by repeat' (first | (with_reducible exact Below.refl _ _) | (with_reducible assumption) | (with_reducible refine below_alloc ?_ _ ?_) | (with_reducible refine below_set _ ?_ ?_) | (with_reducible refine Below.drew ?_) | (with_reducible refine below_dN ?_ _) | (apply below_thenA; assumption) | omega | (simp; done) | (simp; omega) | (simp [*]; done)))
    ·
      simp only [Bool.false_and, Bool.true_and, Bool.not_true, Bool.not_false, Bool.false_eq_true, if_false, if_true] at er m4
      by_cases h1 : G < -1073741824
      · rw [if_pos (.inl h1)] at er
        rw [if_pos h1] at GR
        obtain ⟨rfl, rfl, rfl⟩ : 0 = K ∧ 0 = n ∧ 2 = c := by simpa using er
        clear er h1
        go_enter Try.func35, Try.ntmps35
        go_wp2_with (go_at_call 27; with_reducible refine (GR _).mono ?_; rintro e w1 ⟨rfl, hb1⟩; have hs1 := hb1.size; simp at hs1; obtain ⟨hc1, hf1⟩ := bcell hb1)
        (go_light; simp [bodyPost, results, Try.results35, go_sem, *])
        exact (by repeat' (first | (with_reducible exact Below.refl _ _) | (with_reducible assumption) | (with_reducible refine below_alloc ?_ _ ?_) | (with_reducible refine below_set _ ?_ ?_) | (with_reducible refine Below.drew ?_) | (with_reducible refine below_dN ?_ _) | (apply below_thenA; assumption) | omega | (simp; done) | (simp; omega) | (simp [*]; done)))
      by_cases h2 : 1073741824 < G
      · rw [if_pos (.inr h2)] at er
        rw [if_neg h1, if_pos h2] at GR
        obtain ⟨rfl, rfl, rfl⟩ : 0 = K ∧ 0 = n ∧ 2 = c := by simpa using er
        clear er h1 h2
        go_enter Try.func35, Try.ntmps35
        go_wp2_with (go_at_call 27; with_reducible refine (GR _).mono ?_; rintro e w1 ⟨rfl, hb1⟩; have hs1 := hb1.size; simp at hs1; obtain ⟨hc1, hf1⟩ := bcell hb1)
        (go_light; simp [bodyPost, results, Try.results35, go_sem, *])
        exact (by repeat' (first | (with_reducible exact Below.refl _ _) | (with_reducible assumption) | (with_reducible refine below_alloc ?_ _ ?_) | (with_reducible refine below_set _ ?_ ?_) | (with_reducible refine Below.drew ?_) | (with_reducible refine below_dN ?_ _) | (apply below_thenA; assumption) | omega | (simp; done) | (simp; omega) | (simp [*]; done)))
      rw [if_neg (by omega)] at er
      rw [if_neg h1, if_neg h2] at GR
      have d1 : decide (G < -1073741824) = false := by simp; omega
      have d2 : decide (1073741824 < G) = false := by simp; omega
      by_cases h3 : G < 0
      · cases a8
        · rw [if_pos ⟨h3, rfl⟩] at er
          obtain ⟨rfl, rfl, rfl⟩ : 0 = K ∧ 0 = n ∧ 11 = c := by simpa using er
          clear er h1 h2
          go_enter Try.func35, Try.ntmps35
          go_wp2_with (go_at_call 27; with_reducible refine (GR _).mono ?_; rintro e w1 ⟨rfl, hb1⟩; have hs1 := hb1.size; simp at hs1; obtain ⟨hc1, hf1⟩ := bcell hb1)
          (go_light; simp [bodyPost, results, Try.results35, go_sem, *])
          exact (by repeat' (first | (with_reducible exact Below.refl _ _) | (with_reducible assumption) | (with_reducible refine below_alloc ?_ _ ?_) | (with_reducible refine below_set _ ?_ ?_) | (with_reducible refine Below.drew ?_) | (with_reducible refine below_dN ?_ _) | (apply below_thenA; assumption) | omega | (simp; done) | (simp; omega) | (simp [*]; done)))
        · rw [if_neg (by simp)] at er
          obtain ⟨rfl, rfl, rfl⟩ : 4 = K ∧ G = n ∧ 0 = c := by simpa using er
          clear er h1 h2
          go_enter Try.func35, Try.ntmps35
          go_wp2_with (go_at_call 27; with_reducible refine (GR _).mono ?_; rintro e w1 ⟨rfl, hb1⟩; have hs1 := hb1.size; simp at hs1; obtain ⟨hc1, hf1⟩ := bcell hb1)
          (go_light; simp [bodyPost, results, Try.results35, go_sem, *])
          exact (by repeat' (first | (with_reducible exact Below.refl _ _) | (with_reducible assumption) | (with_reducible refine below_alloc ?_ _ ?_) | (with_reducible refine below_set _ ?_ ?_) | (with_reducible refine Below.drew ?_) | (with_reducible refine below_dN ?_ _) | (apply below_thenA; assumption) | omega | (simp; done) | (simp; omega) | (simp [*]; done)))
      · have d3 : decide (G < 0) = false := by simp; omega
        rw [if_neg (fun q => h3 q.1)] at er
        obtain ⟨rfl, rfl, rfl⟩ : 4 = K ∧ G = n ∧ 0 = c := by simpa using er
        clear er h1 h2 h3 m8
        go_enter Try.func35, Try.ntmps35
        go_wp2_with (go_at_call 27; with_reducible refine (GR _).mono ?_; rintro e w1 ⟨rfl, hb1⟩; have hs1 := hb1.size; simp at hs1; obtain ⟨hc1, hf1⟩ := bcell hb1)
        (go_light; simp [bodyPost, results, Try.results35, go_sem, *])
        exact (by repeat' (first | (with_reducible exact Below.refl _ _) | (with_reducible assumption) | (with_reducible refine below_alloc ?_ _ ?_) | (with_reducible refine below_set _ ?_ ?_) | (with_reducible refine Below.drew ?_) | (with_reducible refine below_dN ?_ _) | (apply below_thenA; assumption) | omega | (simp; done) | (simp; omega) | (simp [*]; done)))
set_option maxRecDepth 100000 in
set_option maxHeartbeats 1600000 in
theorem val_decode (b : Nat) (hb : b < 18446744073709551616) (pct a1 a2 a4 a8 : Bool) (may : Int) (m1 : (bits .and .i64 may 1 == 0) = !a1) (m2 : (bits .and .i64 may 2 == 0) = !a2) (m4 : (bits .and .i64 may 4 == 0) = !a4) (m8 : (bits .and .i64 may 8 == 0) = !a8) (w : World) :
    Calls Try.prog 17 #[.agg #[.float .f64 b, .bool pct], .int .i64 may] w fun e w' => e = .returned (.tuple #[.agg #[.int .i64 ((vD b pct a1 a2 a4 a8).1), .int .i64 ((vD b pct a1 a2 a4 a8).2.1)], .int .i64 ((vD b pct a1 a2 a4 a8).2.2)]) ∧ Below w.heap.size w w' := by
  have KI := real_kind b hb
  have hdn : fDn b = if fKi b = 1 then false else fSg b := rfl
  have hk := fKi_all b
  have NU := fun h1 h2 W => val_number b hb pct a4 a8 may h1 h2 m4 m8 W
  obtain ⟨r, er⟩ : ∃ r, vD b pct a1 a2 a4 a8 = r := ⟨_, rfl⟩
  rw [er]
  obtain ⟨K, n, c⟩ := r
  dsimp only
  unfold vD at er
  clear m4 m8
  have t1 := Blk.new w #[.float .f64 b, .bool pct] 59 _ rfl
  obtain ⟨s, es⟩ : ∃ s, fSg b = s := ⟨_, rfl⟩
  rw [es] at er hdn
  rcases hk with ⟨_, _, hk⟩ | ⟨_, _, hk⟩ | hk345
  · rw [if_pos hk] at hdn er
    have K1 : ∀ w, Calls Try.prog 34 #[.float .f64 b] w fun e w' => e = .returned (.tuple #[.int .i64 1, .bool false]) ∧ w' = w := fun w => by
      have q := KI w
      rw [hk, hdn] at q
      exact q
    clear KI NU hk hdn es m2
    cases a1
    · simp only [Bool.false_eq_true, if_false, Bool.not_false] at er m1
      obtain ⟨rfl, rfl, rfl⟩ : 0 = K ∧ 0 = n ∧ 4 = c := by simpa using er
      clear er
      go_enter Try.func17, Try.ntmps17
      go_wp2_with (go_at_call 34; with_reducible refine (K1 _).mono ?_; rintro e w1 ⟨rfl, rfl⟩)
      (go_light; simp [bodyPost, results, Try.results17, go_sem, *])
      exact (by repeat' (first | (with_reducible exact Below.refl _ _) | (with_reducible assumption) | (with_reducible refine below_alloc ?_ _ ?_) | (with_reducible refine below_set _ ?_ ?_) | (with_reducible refine Below.drew ?_) | (with_reducible refine below_dN ?_ _) | (apply below_thenA; assumption) | omega | (simp; done) | (simp; omega) | (simp [*]; done)))
    · simp only [if_true, Bool.not_true] at er m1
      obtain ⟨rfl, rfl, rfl⟩ : 1 = K ∧ 0 = n ∧ 0 = c := by simpa using er
      clear er
      go_enter Try.func17, Try.ntmps17
      go_wp2_with (go_at_call 34; with_reducible refine (K1 _).mono ?_; rintro e w1 ⟨rfl, rfl⟩)
      (go_light; simp [bodyPost, results, Try.results17, go_sem, *])
      exact (by repeat' (first | (with_reducible exact Below.refl _ _) | (with_reducible assumption) | (with_reducible refine below_alloc ?_ _ ?_) | (with_reducible refine below_set _ ?_ ?_) | (with_reducible refine Below.drew ?_) | (with_reducible refine below_dN ?_ _) | (apply below_thenA; assumption) | omega | (simp; done) | (simp; omega) | (simp [*]; done)))
  · rw [if_neg (by omega)] at hdn er
    rw [if_pos hk] at er
    have K1 : ∀ w, Calls Try.prog 34 #[.float .f64 b] w fun e w' => e = .returned (.tuple #[.int .i64 2, .bool s]) ∧ w' = w := fun w => by
      have q := KI w
      rw [hk, hdn] at q
      exact q
    clear KI NU hk hdn es m1
    cases s
    · cases a2
      · simp only [Bool.false_or, Bool.not_false, if_true] at er m2
        obtain ⟨rfl, rfl, rfl⟩ : 0 = K ∧ 0 = n ∧ 5 = c := by simpa using er
        clear er
        go_enter Try.func17, Try.ntmps17
        go_wp2_with (go_at_call 34; with_reducible refine (K1 _).mono ?_; rintro e w1 ⟨rfl, rfl⟩)
        (go_light; simp [bodyPost, results, Try.results17, go_sem, *])
        exact (by repeat' (first | (with_reducible exact Below.refl _ _) | (with_reducible assumption) | (with_reducible refine below_alloc ?_ _ ?_) | (with_reducible refine below_set _ ?_ ?_) | (with_reducible refine Below.drew ?_) | (with_reducible refine below_dN ?_ _) | (apply below_thenA; assumption) | omega | (simp; done) | (simp; omega) | (simp [*]; done)))
      · simp only [Bool.false_or, Bool.not_true, Bool.false_eq_true, if_false] at er m2
        obtain ⟨rfl, rfl, rfl⟩ : 2 = K ∧ 0 = n ∧ 0 = c := by simpa using er
        clear er
        go_enter Try.func17, Try.ntmps17
        go_wp2_with (go_at_call 34; with_reducible refine (K1 _).mono ?_; rintro e w1 ⟨rfl, rfl⟩)
        (go_light; simp [bodyPost, results, Try.results17, go_sem, *])
        exact (by repeat' (first | (with_reducible exact Below.refl _ _) | (with_reducible assumption) | (with_reducible refine below_alloc ?_ _ ?_) | (with_reducible refine below_set _ ?_ ?_) | (with_reducible refine Below.drew ?_) | (with_reducible refine below_dN ?_ _) | (apply below_thenA; assumption) | omega | (simp; done) | (simp; omega) | (simp [*]; done)))
    · simp only [Bool.true_or, if_true] at er
      obtain ⟨rfl, rfl, rfl⟩ : 0 = K ∧ 0 = n ∧ 5 = c := by simpa using er
      clear er m2
      go_enter Try.func17, Try.ntmps17
      go_wp2_with (go_at_call 34; with_reducible refine (K1 _).mono ?_; rintro e w1 ⟨rfl, rfl⟩)
      (go_light; simp [bodyPost, results, Try.results17, go_sem, *])
      exact (by repeat' (first | (with_reducible exact Below.refl _ _) | (with_reducible assumption) | (with_reducible refine below_alloc ?_ _ ?_) | (with_reducible refine below_set _ ?_ ?_) | (with_reducible refine Below.drew ?_) | (with_reducible refine below_dN ?_ _) | (apply below_thenA; assumption) | omega | (simp; done) | (simp; omega) | (simp [*]; done)))
  · have hk1 : fKi b ≠ 1 ∧ fKi b ≠ 2 := by omega
    have N1 := NU hk1.1 hk1.2
    rw [if_neg hk1.1] at hdn er
    rw [if_neg hk1.2] at er
    rw [er] at N1
    dsimp only at N1
    obtain ⟨k, ek, h3⟩ : ∃ k, fKi b = k ∧ (k = 3 ∨ k = 4 ∨ k = 5) := ⟨_, rfl, by omega⟩
    rw [ek, hdn] at KI
    clear NU er hk345 hk1 ek hdn es m1 m2
    rcases h3 with rfl | rfl | rfl
    · have K1 : ∀ w, Calls Try.prog 34 #[.float .f64 b] w fun e w' => e = .returned (.tuple #[.int .i64 3, .bool s]) ∧ w' = w := KI
      clear KI
      go_enter Try.func17, Try.ntmps17
      go_wp2_with (first
        | (go_at_call 34; with_reducible refine (K1 _).mono ?_; rintro e w1 ⟨rfl, rfl⟩)
        | (go_at_call 35; with_reducible refine (N1 _).mono ?_; rintro e w2 ⟨rfl, hb2⟩; have hs2 := hb2.size; simp at hs2; obtain ⟨hc2, hf2⟩ := bcell hb2))
      (go_light; simp [bodyPost, results, Try.results17, go_sem, *])
      exact (by repeat' (first | (with_reducible exact Below.refl _ _) | (with_reducible assumption) | (with_reducible refine below_alloc ?_ _ ?_) | (with_reducible refine below_set _ ?_ ?_) | (with_reducible refine Below.drew ?_) | (with_reducible refine below_dN ?_ _) | (apply below_thenA; assumption) | omega | (simp; done) | (simp; omega) | (simp [*]; done)))
    · have K1 : ∀ w, Calls Try.prog 34 #[.float .f64 b] w fun e w' => e = .returned (.tuple #[.int .i64 4, .bool s]) ∧ w' = w := KI
      clear KI
      go_enter Try.func17, Try.ntmps17
      go_wp2_with (first
        | (go_at_call 34; with_reducible refine (K1 _).mono ?_; rintro e w1 ⟨rfl, rfl⟩)
        | (go_at_call 35; with_reducible refine (N1 _).mono ?_; rintro e w2 ⟨rfl, hb2⟩; have hs2 := hb2.size; simp at hs2; obtain ⟨hc2, hf2⟩ := bcell hb2))
      (go_light; simp [bodyPost, results, Try.results17, go_sem, *])
      exact (by repeat' (first | (with_reducible exact Below.refl _ _) | (with_reducible assumption) | (with_reducible refine below_alloc ?_ _ ?_) | (with_reducible refine below_set _ ?_ ?_) | (with_reducible refine Below.drew ?_) | (with_reducible refine below_dN ?_ _) | (apply below_thenA; assumption) | omega | (simp; done) | (simp; omega) | (simp [*]; done)))
    · have K1 : ∀ w, Calls Try.prog 34 #[.float .f64 b] w fun e w' => e = .returned (.tuple #[.int .i64 5, .bool s]) ∧ w' = w := KI
      clear KI
      go_enter Try.func17, Try.ntmps17
      go_wp2_with (first
        | (go_at_call 34; with_reducible refine (K1 _).mono ?_; rintro e w1 ⟨rfl, rfl⟩)
        | (go_at_call 35; with_reducible refine (N1 _).mono ?_; rintro e w2 ⟨rfl, hb2⟩; have hs2 := hb2.size; simp at hs2; obtain ⟨hc2, hf2⟩ := bcell hb2))
      (go_light; simp [bodyPost, results, Try.results17, go_sem, *])
      exact (by repeat' (first | (with_reducible exact Below.refl _ _) | (with_reducible assumption) | (with_reducible refine below_alloc ?_ _ ?_) | (with_reducible refine below_set _ ?_ ?_) | (with_reducible refine Below.drew ?_) | (with_reducible refine below_dN ?_ _) | (apply below_thenA; assumption) | omega | (simp; done) | (simp; omega) | (simp [*]; done)))
end Go.Proofs.Ytgmnboacehopfaa
