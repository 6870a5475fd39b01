/-
  The reference of layer 9: Decode; the statement ValueDecodes.
-/
import Derived.Test.YtgmnboacehopfaaYGrG
import Derived.Test.YtgmnboacehopfaaYVaC
namespace Go.Proofs.Ytgmnboacehopfaa
open Go.RowKit
set_option linter.unusedSimpArgs false
set_option linter.unusedVariables false

theorem ne_dec (x : Int) : (x != 0) = decide (x ≠ 0) := by by_cases h : x = 0 <;> simp [h]
/-- Is a power of two in a sum? -/
def mayB (m p : Int) : Bool := decide (m / p % 2 ≠ 0)
theorem may_tab : (List.range 256).all (fun m => ((bits .and .i64 (m : Int) 1 == 0) == !(mayB m 1)) && ((bits .and .i64 (m : Int) 2 == 0) == !(mayB m 2)) && ((bits .and .i64 (m : Int) 4 == 0) == !(mayB m 4)) && ((bits .and .i64 (m : Int) 8 == 0) == !(mayB m 8))) = true := by kernel_rfl
theorem may_bits {m : Int} (h0 : 0 ≤ m) (h1 : m ≤ 255) : (bits .and .i64 m 1 == 0) = !(mayB m 1) ∧ (bits .and .i64 m 2 == 0) = !(mayB m 2) ∧ (bits .and .i64 m 4 == 0) = !(mayB m 4) ∧ (bits .and .i64 m 8 == 0) = !(mayB m 8) := by
  obtain ⟨n, rfl⟩ := Int.eq_ofNat_of_zero_le h0
  have := List.all_eq_true.1 may_tab n (List.mem_range.2 (by omega))
  simp only [Bool.and_eq_true, beq_iff_eq] at this
  exact ⟨this.1.1.1, this.1.1.2, this.1.2, this.2⟩
set_option maxRecDepth 100000 in
set_option maxHeartbeats 1600000 in
theorem ref9_may (m p : Int) (h0 : 0 ≤ m) (h1 : m ≤ 255) (hp : p = 1 ∨ p = 2 ∨ p = 4 ∨ p = 8) (w : World) : Calls Try.prog 37 #[.int .i64 m, .int .i64 p] w fun e w' => e = .returned (.bool (mayB m p)) ∧ w' = w := by
  unfold mayB
  rcases hp with rfl | rfl | rfl | rfl
  · have e1 := Int.tmod_eq_emod_of_nonneg (a := m) (b := 2) (by omega)
    go_enter Try.func37, Try.ntmps37
    go_wp2_with fail
    go_ret
    refine ⟨?_, rfl⟩
    show Ending.returned (.bool (m % 2 != 0)) = _
    rw [ne_dec, Int.ediv_one]
  · have e1 := Int.tmod_eq_emod_of_nonneg (a := m / 2) (b := 2) (by omega)
    go_enter Try.func37, Try.ntmps37
    go_wp2_with fail
    go_ret
    refine ⟨?_, rfl⟩
    show Ending.returned (.bool (m / 2 % 2 != 0)) = _
    rw [ne_dec]
  · have e1 := Int.tmod_eq_emod_of_nonneg (a := m / 4) (b := 2) (by omega)
    go_enter Try.func37, Try.ntmps37
    go_wp2_with fail
    go_ret
    refine ⟨?_, rfl⟩
    show Ending.returned (.bool (m / 4 % 2 != 0)) = _
    rw [ne_dec]
  · have e1 := Int.tmod_eq_emod_of_nonneg (a := m / 8) (b := 2) (by omega)
    go_enter Try.func37, Try.ntmps37
    go_wp2_with fail
    go_ret
    refine ⟨?_, rfl⟩
    show Ending.returned (.bool (m / 8 % 2 != 0)) = _
    rw [ne_dec]
set_option maxRecDepth 100000 in
set_option maxHeartbeats 3200000 in
theorem ref9_decode (b : Nat) (hb : b < 18446744073709551616) (pct a1 a2 a4 a8 : Bool) (m : Int) (M1 : ∀ w, Calls Try.prog 37 #[.int .i64 m, .int .i64 1] w fun e w' => e = .returned (.bool a1) ∧ w' = w) (M2 : ∀ w, Calls Try.prog 37 #[.int .i64 m, .int .i64 2] w fun e w' => e = .returned (.bool a2) ∧ w' = w) (M4 : ∀ w, Calls Try.prog 37 #[.int .i64 m, .int .i64 4] w fun e w' => e = .returned (.bool a4) ∧ w' = w) (M8 : ∀ w, Calls Try.prog 37 #[.int .i64 m, .int .i64 8] w fun e w' => e = .returned (.bool a8) ∧ w' = w) (w : World) :
    Calls Try.prog 18 #[.int .u64 (b : Int), .bool pct, .int .i64 m] w fun e w' => e = .returned (.tuple #[.agg #[.int .i64 ((vD b pct a1 a2 a4 a8).1), .int .i64 ((vD b pct a1 a2 a4 a8).2.1)], .int .i64 ((vD b pct a1 a2 a4 a8).2.2)]) ∧ Below w.heap.size w w' := by
  have KI := ref3_kind b hb
  have GR := fun W => ref3_grid b hb 64 (-2000000000) 2000000000 (by unfold IFit; omega) (by unfold IFit; omega) (by unfold IFit; omega) W
  have hdn : fDn b = if fKi b = 1 then false else fSg b := rfl
  obtain ⟨r, er⟩ : ∃ r, vD b pct a1 a2 a4 a8 = r := ⟨_, rfl⟩
  rw [er]
  obtain ⟨K, n, c⟩ := r
  dsimp only
  unfold vD at er
  obtain ⟨s, es⟩ : ∃ s, fSg b = s := ⟨_, rfl⟩
  rw [es] at er hdn
  by_cases k1 : fKi b = 1
  · rw [if_pos k1] at hdn er
    have K1 : ∀ w, Calls Try.prog 36 #[.int .u64 (b : Int)] w fun e w' => e = .returned (.tuple #[.int .i64 1, .bool false]) ∧ w' = w := fun w => by
      have q := KI w
      rw [k1, hdn] at q
      exact q
    clear KI GR k1 hdn es M2 M4 M8
    cases a1
    · simp only [Bool.false_eq_true, if_false] at er
      obtain ⟨rfl, rfl, rfl⟩ : 0 = K ∧ 0 = n ∧ 4 = c := by simpa using er
      clear er
      go_enter Try.func18, Try.ntmps18
      go_wp2_with (first
        | (go_at_call 36; with_reducible refine (K1 _).mono ?_; rintro e w1 ⟨rfl, rfl⟩)
        | (go_at_call 37; with_reducible refine (M1 _).mono ?_; rintro e w1 ⟨rfl, rfl⟩)
        | (go_at_call 37; with_reducible refine (M2 _).mono ?_; rintro e w1 ⟨rfl, rfl⟩)
        | (go_at_call 37; with_reducible refine (M4 _).mono ?_; rintro e w1 ⟨rfl, rfl⟩)
        | (go_at_call 37; with_reducible refine (M8 _).mono ?_; rintro e w1 ⟨rfl, rfl⟩)
        | (go_at_call 29; with_reducible refine (GR _).mono ?_; rintro e w2 ⟨rfl, hb2⟩; have hs2 := hb2.size; simp at hs2; obtain ⟨hc2, hf2⟩ := bcell hb2))
      (go_light; simp [bodyPost, results, Try.results18, go_sem, *])
      exact (by repeat' (first | (with_reducible exact Below.refl _ _) | (with_reducible assumption) | (with_reducible refine below_alloc ?_ _ ?_) | (with_reducible refine below_set _ ?_ ?_) | (with_reducible refine Below.drew ?_) | (with_reducible refine below_dN ?_ _) | (apply below_thenA; assumption) | omega | (simp; done) | (simp; omega) | (simp [*]; done)))
    · simp only [if_true] at er
      obtain ⟨rfl, rfl, rfl⟩ : 1 = K ∧ 0 = n ∧ 0 = c := by simpa using er
      clear er
      go_enter Try.func18, Try.ntmps18
      go_wp2_with (first
        | (go_at_call 36; with_reducible refine (K1 _).mono ?_; rintro e w1 ⟨rfl, rfl⟩)
        | (go_at_call 37; with_reducible refine (M1 _).mono ?_; rintro e w1 ⟨rfl, rfl⟩)
        | (go_at_call 37; with_reducible refine (M2 _).mono ?_; rintro e w1 ⟨rfl, rfl⟩)
        | (go_at_call 37; with_reducible refine (M4 _).mono ?_; rintro e w1 ⟨rfl, rfl⟩)
        | (go_at_call 37; with_reducible refine (M8 _).mono ?_; rintro e w1 ⟨rfl, rfl⟩)
        | (go_at_call 29; with_reducible refine (GR _).mono ?_; rintro e w2 ⟨rfl, hb2⟩; have hs2 := hb2.size; simp at hs2; obtain ⟨hc2, hf2⟩ := bcell hb2))
      (go_light; simp [bodyPost, results, Try.results18, go_sem, *])
      exact (by repeat' (first | (with_reducible exact Below.refl _ _) | (with_reducible assumption) | (with_reducible refine below_alloc ?_ _ ?_) | (with_reducible refine below_set _ ?_ ?_) | (with_reducible refine Below.drew ?_) | (with_reducible refine below_dN ?_ _) | (apply below_thenA; assumption) | omega | (simp; done) | (simp; omega) | (simp [*]; done)))
  rw [if_neg k1] at hdn er
  by_cases k2 : fKi b = 2
  · rw [if_pos k2] at er
    have K1 : ∀ w, Calls Try.prog 36 #[.int .u64 (b : Int)] w fun e w' => e = .returned (.tuple #[.int .i64 2, .bool s]) ∧ w' = w := fun w => by
      have q := KI w
      rw [k2, hdn] at q
      exact q
    clear KI GR k1 k2 hdn es M1 M4 M8
    cases s
    · cases a2
      · simp only [Bool.false_or, Bool.not_false, if_true] at er
        obtain ⟨rfl, rfl, rfl⟩ : 0 = K ∧ 0 = n ∧ 5 = c := by simpa using er
        clear er
        go_enter Try.func18, Try.ntmps18
        go_wp2_with (first
          | (go_at_call 36; with_reducible refine (K1 _).mono ?_; rintro e w1 ⟨rfl, rfl⟩)
          | (go_at_call 37; with_reducible refine (M1 _).mono ?_; rintro e w1 ⟨rfl, rfl⟩)
          | (go_at_call 37; with_reducible refine (M2 _).mono ?_; rintro e w1 ⟨rfl, rfl⟩)
          | (go_at_call 37; with_reducible refine (M4 _).mono ?_; rintro e w1 ⟨rfl, rfl⟩)
          | (go_at_call 37; with_reducible refine (M8 _).mono ?_; rintro e w1 ⟨rfl, rfl⟩)
          | (go_at_call 29; with_reducible refine (GR _).mono ?_; rintro e w2 ⟨rfl, hb2⟩; have hs2 := hb2.size; simp at hs2; obtain ⟨hc2, hf2⟩ := bcell hb2))
        (go_light; simp [bodyPost, results, Try.results18, go_sem, *])
        exact (by repeat' (first | (with_reducible exact Below.refl _ _) | (with_reducible assumption) | (with_reducible refine below_alloc ?_ _ ?_) | (with_reducible refine below_set _ ?_ ?_) | (with_reducible refine Below.drew ?_) | (with_reducible refine below_dN ?_ _) | (apply below_thenA; assumption) | omega | (simp; done) | (simp; omega) | (simp [*]; done)))
      · simp only [Bool.false_or, Bool.not_true, Bool.false_eq_true, if_false] at er
        obtain ⟨rfl, rfl, rfl⟩ : 2 = K ∧ 0 = n ∧ 0 = c := by simpa using er
        clear er
        go_enter Try.func18, Try.ntmps18
        go_wp2_with (first
          | (go_at_call 36; with_reducible refine (K1 _).mono ?_; rintro e w1 ⟨rfl, rfl⟩)
          | (go_at_call 37; with_reducible refine (M1 _).mono ?_; rintro e w1 ⟨rfl, rfl⟩)
          | (go_at_call 37; with_reducible refine (M2 _).mono ?_; rintro e w1 ⟨rfl, rfl⟩)
          | (go_at_call 37; with_reducible refine (M4 _).mono ?_; rintro e w1 ⟨rfl, rfl⟩)
          | (go_at_call 37; with_reducible refine (M8 _).mono ?_; rintro e w1 ⟨rfl, rfl⟩)
          | (go_at_call 29; with_reducible refine (GR _).mono ?_; rintro e w2 ⟨rfl, hb2⟩; have hs2 := hb2.size; simp at hs2; obtain ⟨hc2, hf2⟩ := bcell hb2))
        (go_light; simp [bodyPost, results, Try.results18, go_sem, *])
        exact (by repeat' (first | (with_reducible exact Below.refl _ _) | (with_reducible assumption) | (with_reducible refine below_alloc ?_ _ ?_) | (with_reducible refine below_set _ ?_ ?_) | (with_reducible refine Below.drew ?_) | (with_reducible refine below_dN ?_ _) | (apply below_thenA; assumption) | omega | (simp; done) | (simp; omega) | (simp [*]; done)))
    · simp only [Bool.true_or, if_true] at er
      obtain ⟨rfl, rfl, rfl⟩ : 0 = K ∧ 0 = n ∧ 5 = c := by simpa using er
      clear er
      go_enter Try.func18, Try.ntmps18
      go_wp2_with (first
        | (go_at_call 36; with_reducible refine (K1 _).mono ?_; rintro e w1 ⟨rfl, rfl⟩)
        | (go_at_call 37; with_reducible refine (M1 _).mono ?_; rintro e w1 ⟨rfl, rfl⟩)
        | (go_at_call 37; with_reducible refine (M2 _).mono ?_; rintro e w1 ⟨rfl, rfl⟩)
        | (go_at_call 37; with_reducible refine (M4 _).mono ?_; rintro e w1 ⟨rfl, rfl⟩)
        | (go_at_call 37; with_reducible refine (M8 _).mono ?_; rintro e w1 ⟨rfl, rfl⟩)
        | (go_at_call 29; with_reducible refine (GR _).mono ?_; rintro e w2 ⟨rfl, hb2⟩; have hs2 := hb2.size; simp at hs2; obtain ⟨hc2, hf2⟩ := bcell hb2))
      (go_light; simp [bodyPost, results, Try.results18, go_sem, *])
      exact (by repeat' (first | (with_reducible exact Below.refl _ _) | (with_reducible assumption) | (with_reducible refine below_alloc ?_ _ ?_) | (with_reducible refine below_set _ ?_ ?_) | (with_reducible refine Below.drew ?_) | (with_reducible refine below_dN ?_ _) | (apply below_thenA; assumption) | omega | (simp; done) | (simp; omega) | (simp [*]; done)))
  rw [if_neg k2] at er
  rw [gridR_num (by omega) k1 k2] at GR
  dsimp only at GR
  obtain ⟨k, ek⟩ : ∃ k, fKi b = k := ⟨_, rfl⟩
  rw [ek] at k1 k2
  rw [ek, hdn] at KI
  have K1 := KI
  have q1 : ((k : Int) == 1) = false := by simp; omega
  have q2 : ((k : Int) == 2) = false := by simp; omega
  unfold vN at er
  obtain ⟨G, eG⟩ : ∃ G, gN b 64 = G := ⟨_, rfl⟩
  rw [eG] at er GR
  have hcl : (G < -1073741824 → clampI G (-2000000000) 2000000000 < -1073741824) ∧ (1073741824 < G → 1073741824 < clampI G (-2000000000) 2000000000) ∧ (-1073741824 ≤ G → G ≤ 1073741824 → clampI G (-2000000000) 2000000000 = G) := by
    unfold clampI
    refine ⟨fun h => ?_, fun h => ?_, fun h h' => ?_⟩
    all_goals split
    all_goals first | omega | (split <;> omega)
  obtain ⟨g, eg⟩ : ∃ g, clampI G (-2000000000) 2000000000 = g := ⟨_, rfl⟩
  rw [eg] at hcl GR
  clear KI eG eg k1 k2 ek hdn es M1 M2
  cases pct
  · clear M4
    simp only [Bool.false_and, Bool.true_and, Bool.not_true, Bool.not_false, Bool.false_eq_true, if_false, if_true] at er
    by_cases h1 : G < -1073741824
    · rw [if_pos (.inl h1)] at er
      have hg := hcl.1 h1
      obtain ⟨rfl, rfl, rfl⟩ : 0 = K ∧ 0 = n ∧ 2 = c := by simpa using er
      clear er h1 hcl M8
      go_enter Try.func18, Try.ntmps18
      go_wp2_with (first
        | (go_at_call 36; with_reducible refine (K1 _).mono ?_; rintro e w1 ⟨rfl, rfl⟩)
        | (go_at_call 37; with_reducible refine (M1 _).mono ?_; rintro e w1 ⟨rfl, rfl⟩)
        | (go_at_call 37; with_reducible refine (M2 _).mono ?_; rintro e w1 ⟨rfl, rfl⟩)
        | (go_at_call 37; with_reducible refine (M4 _).mono ?_; rintro e w1 ⟨rfl, rfl⟩)
        | (go_at_call 37; with_reducible refine (M8 _).mono ?_; rintro e w1 ⟨rfl, rfl⟩)
        | (go_at_call 29; with_reducible refine (GR _).mono ?_; rintro e w2 ⟨rfl, hb2⟩; have hs2 := hb2.size; simp at hs2; obtain ⟨hc2, hf2⟩ := bcell hb2))
      (go_light; simp [bodyPost, results, Try.results18, go_sem, *])
      exact (by repeat' (first | (with_reducible exact Below.refl _ _) | (with_reducible assumption) | (with_reducible refine below_alloc ?_ _ ?_) | (with_reducible refine below_set _ ?_ ?_) | (with_reducible refine Below.drew ?_) | (with_reducible refine below_dN ?_ _) | (apply below_thenA; assumption) | omega | (simp; done) | (simp; omega) | (simp [*]; done)))
    by_cases h2 : 1073741824 < G
    · rw [if_pos (.inr h2)] at er
      have hg := hcl.2.1 h2
      have d1 : decide (g < -1073741824) = false := by simp; omega
      obtain ⟨rfl, rfl, rfl⟩ : 0 = K ∧ 0 = n ∧ 2 = c := by simpa using er
      clear er h1 h2 hcl M8
      go_enter Try.func18, Try.ntmps18
      go_wp2_with (first
        | (go_at_call 36; with_reducible refine (K1 _).mono ?_; rintro e w1 ⟨rfl, rfl⟩)
        | (go_at_call 37; with_reducible refine (M1 _).mono ?_; rintro e w1 ⟨rfl, rfl⟩)
        | (go_at_call 37; with_reducible refine (M2 _).mono ?_; rintro e w1 ⟨rfl, rfl⟩)
        | (go_at_call 37; with_reducible refine (M4 _).mono ?_; rintro e w1 ⟨rfl, rfl⟩)
        | (go_at_call 37; with_reducible refine (M8 _).mono ?_; rintro e w1 ⟨rfl, rfl⟩)
        | (go_at_call 29; with_reducible refine (GR _).mono ?_; rintro e w2 ⟨rfl, hb2⟩; have hs2 := hb2.size; simp at hs2; obtain ⟨hc2, hf2⟩ := bcell hb2))
      (go_light; simp [bodyPost, results, Try.results18, go_sem, *])
      exact (by repeat' (first | (with_reducible exact Below.refl _ _) | (with_reducible assumption) | (with_reducible refine below_alloc ?_ _ ?_) | (with_reducible refine below_set _ ?_ ?_) | (with_reducible refine Below.drew ?_) | (with_reducible refine below_dN ?_ _) | (apply below_thenA; assumption) | omega | (simp; done) | (simp; omega) | (simp [*]; done)))
    rw [if_neg (by omega)] at er
    obtain rfl : g = G := hcl.2.2 (by omega) (by omega)
    clear hcl
    have d1 : decide (g < -1073741824) = false := by simp; omega
    have d2 : decide (1073741824 < g) = false := by simp; omega
    by_cases h3 : g < 0
    · cases a8
      · rw [if_pos ⟨h3, rfl⟩] at er
        obtain ⟨rfl, rfl, rfl⟩ : 0 = K ∧ 0 = n ∧ 11 = c := by simpa using er
        clear er h1 h2
        go_enter Try.func18, Try.ntmps18
        go_wp2_with (first
          | (go_at_call 36; with_reducible refine (K1 _).mono ?_; rintro e w1 ⟨rfl, rfl⟩)
          | (go_at_call 37; with_reducible refine (M1 _).mono ?_; rintro e w1 ⟨rfl, rfl⟩)
          | (go_at_call 37; with_reducible refine (M2 _).mono ?_; rintro e w1 ⟨rfl, rfl⟩)
          | (go_at_call 37; with_reducible refine (M4 _).mono ?_; rintro e w1 ⟨rfl, rfl⟩)
          | (go_at_call 37; with_reducible refine (M8 _).mono ?_; rintro e w1 ⟨rfl, rfl⟩)
          | (go_at_call 29; with_reducible refine (GR _).mono ?_; rintro e w2 ⟨rfl, hb2⟩; have hs2 := hb2.size; simp at hs2; obtain ⟨hc2, hf2⟩ := bcell hb2))
        (go_light; simp [bodyPost, results, Try.results18, go_sem, *])
        exact (by repeat' (first | (with_reducible exact Below.refl _ _) | (with_reducible assumption) | (with_reducible refine below_alloc ?_ _ ?_) | (with_reducible refine below_set _ ?_ ?_) | (with_reducible refine Below.drew ?_) | (with_reducible refine below_dN ?_ _) | (apply below_thenA; assumption) | omega | (simp; done) | (simp; omega) | (simp [*]; done)))
      · rw [if_neg (by simp)] at er
        obtain ⟨rfl, rfl, rfl⟩ : 3 = K ∧ g = n ∧ 0 = c := by simpa using er
        clear er h1 h2
        go_enter Try.func18, Try.ntmps18
        go_wp2_with (first
          | (go_at_call 36; with_reducible refine (K1 _).mono ?_; rintro e w1 ⟨rfl, rfl⟩)
          | (go_at_call 37; with_reducible refine (M1 _).mono ?_; rintro e w1 ⟨rfl, rfl⟩)
          | (go_at_call 37; with_reducible refine (M2 _).mono ?_; rintro e w1 ⟨rfl, rfl⟩)
          | (go_at_call 37; with_reducible refine (M4 _).mono ?_; rintro e w1 ⟨rfl, rfl⟩)
          | (go_at_call 37; with_reducible refine (M8 _).mono ?_; rintro e w1 ⟨rfl, rfl⟩)
          | (go_at_call 29; with_reducible refine (GR _).mono ?_; rintro e w2 ⟨rfl, hb2⟩; have hs2 := hb2.size; simp at hs2; obtain ⟨hc2, hf2⟩ := bcell hb2))
        (go_light; simp [bodyPost, results, Try.results18, go_sem, *])
        exact (by repeat' (first | (with_reducible exact Below.refl _ _) | (with_reducible assumption) | (with_reducible refine below_alloc ?_ _ ?_) | (with_reducible refine below_set _ ?_ ?_) | (with_reducible refine Below.drew ?_) | (with_reducible refine below_dN ?_ _) | (apply below_thenA; assumption) | omega | (simp; done) | (simp; omega) | (simp [*]; done)))
    · have d3 : decide (g < 0) = false := by simp; omega
      rw [if_neg (fun q => h3 q.1)] at er
      obtain ⟨rfl, rfl, rfl⟩ : 3 = K ∧ g = n ∧ 0 = c := by simpa using er
      clear er h1 h2 h3 M8
      go_enter Try.func18, Try.ntmps18
      go_wp2_with (first
        | (go_at_call 36; with_reducible refine (K1 _).mono ?_; rintro e w1 ⟨rfl, rfl⟩)
        | (go_at_call 37; with_reducible refine (M1 _).mono ?_; rintro e w1 ⟨rfl, rfl⟩)
        | (go_at_call 37; with_reducible refine (M2 _).mono ?_; rintro e w1 ⟨rfl, rfl⟩)
        | (go_at_call 37; with_reducible refine (M4 _).mono ?_; rintro e w1 ⟨rfl, rfl⟩)
        | (go_at_call 37; with_reducible refine (M8 _).mono ?_; rintro e w1 ⟨rfl, rfl⟩)
        | (go_at_call 29; with_reducible refine (GR _).mono ?_; rintro e w2 ⟨rfl, hb2⟩; have hs2 := hb2.size; simp at hs2; obtain ⟨hc2, hf2⟩ := bcell hb2))
      (go_light; simp [bodyPost, results, Try.results18, go_sem, *])
      exact (by repeat' (first | (with_reducible exact Below.refl _ _) | (with_reducible assumption) | (with_reducible refine below_alloc ?_ _ ?_) | (with_reducible refine below_set _ ?_ ?_) | (with_reducible refine Below.drew ?_) | (with_reducible refine below_dN ?_ _) | (apply below_thenA; assumption) | omega | (simp; done) | (simp; omega) | (simp [*]; done)))
  · cases a4
    · simp only [Bool.true_and, Bool.not_false, if_true] at er
      obtain ⟨rfl, rfl, rfl⟩ : 0 = K ∧ 0 = n ∧ 11 = c := by simpa using er
      clear er GR hcl M8
      go_enter Try.func18, Try.ntmps18
      go_wp2_with (first
        | (go_at_call 36; with_reducible refine (K1 _).mono ?_; rintro e w1 ⟨rfl, rfl⟩)
        | (go_at_call 37; with_reducible refine (M1 _).mono ?_; rintro e w1 ⟨rfl, rfl⟩)
        | (go_at_call 37; with_reducible refine (M2 _).mono ?_; rintro e w1 ⟨rfl, rfl⟩)
        | (go_at_call 37; with_reducible refine (M4 _).mono ?_; rintro e w1 ⟨rfl, rfl⟩)
        | (go_at_call 37; with_reducible refine (M8 _).mono ?_; rintro e w1 ⟨rfl, rfl⟩)
        | (go_at_call 29; with_reducible refine (GR _).mono ?_; rintro e w2 ⟨rfl, hb2⟩; have hs2 := hb2.size; simp at hs2; obtain ⟨hc2, hf2⟩ := bcell hb2))
      (go_light; simp [bodyPost, results, Try.results18, go_sem, *])
      exact (by repeat' (first | (with_reducible exact Below.refl _ _) | (with_reducible assumption) | (with_reducible refine below_alloc ?_ _ ?_) | (with_reducible refine below_set _ ?_ ?_) | (with_reducible refine Below.drew ?_) | (with_reducible refine below_dN ?_ _) | (apply below_thenA; assumption) | omega | (simp; done) | (simp; omega) | (simp [*]; done)))
    ·
      simp only [Bool.false_and, Bool.true_and, Bool.not_true, Bool.not_false, Bool.false_eq_true, if_false, if_true] at er
      by_cases h1 : G < -1073741824
      · rw [if_pos (.inl h1)] at er
        have hg := hcl.1 h1
        obtain ⟨rfl, rfl, rfl⟩ : 0 = K ∧ 0 = n ∧ 2 = c := by simpa using er
        clear er h1 hcl M8
        go_enter Try.func18, Try.ntmps18
        go_wp2_with (first
          | (go_at_call 36; with_reducible refine (K1 _).mono ?_; rintro e w1 ⟨rfl, rfl⟩)
          | (go_at_call 37; with_reducible refine (M1 _).mono ?_; rintro e w1 ⟨rfl, rfl⟩)
          | (go_at_call 37; with_reducible refine (M2 _).mono ?_; rintro e w1 ⟨rfl, rfl⟩)
          | (go_at_call 37; with_reducible refine (M4 _).mono ?_; rintro e w1 ⟨rfl, rfl⟩)
          | (go_at_call 37; with_reducible refine (M8 _).mono ?_; rintro e w1 ⟨rfl, rfl⟩)
          | (go_at_call 29; with_reducible refine (GR _).mono ?_; rintro e w2 ⟨rfl, hb2⟩; have hs2 := hb2.size; simp at hs2; obtain ⟨hc2, hf2⟩ := bcell hb2))
        (go_light; simp [bodyPost, results, Try.results18, go_sem, *])
        exact (by repeat' (first | (with_reducible exact Below.refl _ _) | (with_reducible assumption) | (with_reducible refine below_alloc ?_ _ ?_) | (with_reducible refine below_set _ ?_ ?_) | (with_reducible refine Below.drew ?_) | (with_reducible refine below_dN ?_ _) | (apply below_thenA; assumption) | omega | (simp; done) | (simp; omega) | (simp [*]; done)))
      by_cases h2 : 1073741824 < G
      · rw [if_pos (.inr h2)] at er
        have hg := hcl.2.1 h2
        have d1 : decide (g < -1073741824) = false := by simp; omega
        obtain ⟨rfl, rfl, rfl⟩ : 0 = K ∧ 0 = n ∧ 2 = c := by simpa using er
        clear er h1 h2 hcl M8
        go_enter Try.func18, Try.ntmps18
        go_wp2_with (first
          | (go_at_call 36; with_reducible refine (K1 _).mono ?_; rintro e w1 ⟨rfl, rfl⟩)
          | (go_at_call 37; with_reducible refine (M1 _).mono ?_; rintro e w1 ⟨rfl, rfl⟩)
          | (go_at_call 37; with_reducible refine (M2 _).mono ?_; rintro e w1 ⟨rfl, rfl⟩)
          | (go_at_call 37; with_reducible refine (M4 _).mono ?_; rintro e w1 ⟨rfl, rfl⟩)
          | (go_at_call 37; with_reducible refine (M8 _).mono ?_; rintro e w1 ⟨rfl, rfl⟩)
          | (go_at_call 29; with_reducible refine (GR _).mono ?_; rintro e w2 ⟨rfl, hb2⟩; have hs2 := hb2.size; simp at hs2; obtain ⟨hc2, hf2⟩ := bcell hb2))
        (go_light; simp [bodyPost, results, Try.results18, go_sem, *])
        exact (by repeat' (first | (with_reducible exact Below.refl _ _) | (with_reducible assumption) | (with_reducible refine below_alloc ?_ _ ?_) | (with_reducible refine below_set _ ?_ ?_) | (with_reducible refine Below.drew ?_) | (with_reducible refine below_dN ?_ _) | (apply below_thenA; assumption) | omega | (simp; done) | (simp; omega) | (simp [*]; done)))
      rw [if_neg (by omega)] at er
      obtain rfl : g = G := hcl.2.2 (by omega) (by omega)
      clear hcl
      have d1 : decide (g < -1073741824) = false := by simp; omega
      have d2 : decide (1073741824 < g) = false := by simp; omega
      by_cases h3 : g < 0
      · cases a8
        · rw [if_pos ⟨h3, rfl⟩] at er
          obtain ⟨rfl, rfl, rfl⟩ : 0 = K ∧ 0 = n ∧ 11 = c := by simpa using er
          clear er h1 h2
          go_enter Try.func18, Try.ntmps18
          go_wp2_with (first
            | (go_at_call 36; with_reducible refine (K1 _).mono ?_; rintro e w1 ⟨rfl, rfl⟩)
            | (go_at_call 37; with_reducible refine (M1 _).mono ?_; rintro e w1 ⟨rfl, rfl⟩)
            | (go_at_call 37; with_reducible refine (M2 _).mono ?_; rintro e w1 ⟨rfl, rfl⟩)
            | (go_at_call 37; with_reducible refine (M4 _).mono ?_; rintro e w1 ⟨rfl, rfl⟩)
            | (go_at_call 37; with_reducible refine (M8 _).mono ?_; rintro e w1 ⟨rfl, rfl⟩)
            | (go_at_call 29; with_reducible refine (GR _).mono ?_; rintro e w2 ⟨rfl, hb2⟩; have hs2 := hb2.size; simp at hs2; obtain ⟨hc2, hf2⟩ := bcell hb2))
          (go_light; simp [bodyPost, results, Try.results18, go_sem, *])
          exact (by repeat' (first | (with_reducible exact Below.refl _ _) | (with_reducible assumption) | (with_reducible refine below_alloc ?_ _ ?_) | (with_reducible refine below_set _ ?_ ?_) | (with_reducible refine Below.drew ?_) | (with_reducible refine below_dN ?_ _) | (apply below_thenA; assumption) | omega | (simp; done) | (simp; omega) | (simp [*]; done)))
        · rw [if_neg (by simp)] at er
          obtain ⟨rfl, rfl, rfl⟩ : 4 = K ∧ g = n ∧ 0 = c := by simpa using er
          clear er h1 h2
          go_enter Try.func18, Try.ntmps18
          go_wp2_with (first
            | (go_at_call 36; with_reducible refine (K1 _).mono ?_; rintro e w1 ⟨rfl, rfl⟩)
            | (go_at_call 37; with_reducible refine (M1 _).mono ?_; rintro e w1 ⟨rfl, rfl⟩)
            | (go_at_call 37; with_reducible refine (M2 _).mono ?_; rintro e w1 ⟨rfl, rfl⟩)
            | (go_at_call 37; with_reducible refine (M4 _).mono ?_; rintro e w1 ⟨rfl, rfl⟩)
            | (go_at_call 37; with_reducible refine (M8 _).mono ?_; rintro e w1 ⟨rfl, rfl⟩)
            | (go_at_call 29; with_reducible refine (GR _).mono ?_; rintro e w2 ⟨rfl, hb2⟩; have hs2 := hb2.size; simp at hs2; obtain ⟨hc2, hf2⟩ := bcell hb2))
          (go_light; simp [bodyPost, results, Try.results18, go_sem, *])
          exact (by repeat' (first | (with_reducible exact Below.refl _ _) | (with_reducible assumption) | (with_reducible refine below_alloc ?_ _ ?_) | (with_reducible refine below_set _ ?_ ?_) | (with_reducible refine Below.drew ?_) | (with_reducible refine below_dN ?_ _) | (apply below_thenA; assumption) | omega | (simp; done) | (simp; omega) | (simp [*]; done)))
      · have d3 : decide (g < 0) = false := by simp; omega
        rw [if_neg (fun q => h3 q.1)] at er
        obtain ⟨rfl, rfl, rfl⟩ : 4 = K ∧ g = n ∧ 0 = c := by simpa using er
        clear er h1 h2 h3 M8
        go_enter Try.func18, Try.ntmps18
        go_wp2_with (first
          | (go_at_call 36; with_reducible refine (K1 _).mono ?_; rintro e w1 ⟨rfl, rfl⟩)
          | (go_at_call 37; with_reducible refine (M1 _).mono ?_; rintro e w1 ⟨rfl, rfl⟩)
          | (go_at_call 37; with_reducible refine (M2 _).mono ?_; rintro e w1 ⟨rfl, rfl⟩)
          | (go_at_call 37; with_reducible refine (M4 _).mono ?_; rintro e w1 ⟨rfl, rfl⟩)
          | (go_at_call 37; with_reducible refine (M8 _).mono ?_; rintro e w1 ⟨rfl, rfl⟩)
          | (go_at_call 29; with_reducible refine (GR _).mono ?_; rintro e w2 ⟨rfl, hb2⟩; have hs2 := hb2.size; simp at hs2; obtain ⟨hc2, hf2⟩ := bcell hb2))
        (go_light; simp [bodyPost, results, Try.results18, go_sem, *])
        exact (by repeat' (first | (with_reducible exact Below.refl _ _) | (with_reducible assumption) | (with_reducible refine below_alloc ?_ _ ?_) | (with_reducible refine below_set _ ?_ ?_) | (with_reducible refine Below.drew ?_) | (with_reducible refine below_dN ?_ _) | (apply below_thenA; assumption) | omega | (simp; done) | (simp; omega) | (simp [*]; done)))
theorem dec_any (b : Nat) (hb : b < 18446744073709551616) (pct : Bool) (m : Int) (h0 : 0 ≤ m) (h1 : m ≤ 255) : ∃ K n c : Int, (∀ w, Calls Try.prog 17 #[.agg #[.float .f64 b, .bool pct], .int .i64 m] w fun e w' => e = .returned (.tuple #[.agg #[.int .i64 K, .int .i64 n], .int .i64 c]) ∧ Below w.heap.size w w') ∧
    (∀ w, Calls Try.prog 18 #[.int .u64 (b : Int), .bool pct, .int .i64 m] w fun e w' => e = .returned (.tuple #[.agg #[.int .i64 K, .int .i64 n], .int .i64 c]) ∧ Below w.heap.size w w') := by
  obtain ⟨m1, m2, m4, m8⟩ := may_bits h0 h1
  exact ⟨_, _, _, fun w => val_decode b hb pct _ _ _ _ m m1 m2 m4 m8 w, fun w => ref9_decode b hb pct _ _ _ _ m (fun w => ref9_may m 1 h0 h1 (.inl rfl) w) (fun w => ref9_may m 2 h0 h1 (.inr (.inl rfl)) w) (fun w => ref9_may m 4 h0 h1 (.inr (.inr (.inl rfl))) w) (fun w => ref9_may m 8 h0 h1 (.inr (.inr (.inr rfl))) w) w⟩
set_option maxRecDepth 100000 in
set_option maxHeartbeats 1600000 in
theorem law_decodes (B m : Int) (pct : Bool) (hB : 0 ≤ B ∧ B ≤ 18446744073709551615) (hm : 0 ≤ m ∧ m ≤ 255) (w : World) :
    Calls Try.prog 5 #[.int .u64 B, .bool pct, .int .u8 m] w fun e w' => e = .returned (.bool true) ∧ Below w.heap.size w w' := by
  obtain ⟨b, rfl⟩ := Int.eq_ofNat_of_zero_le hB.1
  obtain ⟨K, n, c, D1, D2⟩ := dec_any b (by omega) pct m hm.1 hm.2
  have FF := fun w => flo_from b w
  have hm1 := hm.1
  have hm2 := hm.2
  go_enter Try.func5, Try.ntmps5
  go_upto_region 4 with (first
    | (go_at_call 16; with_reducible refine (speaks09 _).mono ?_; rintro e w1 ⟨rfl, hb1⟩)
    | (go_at_call 17; with_reducible refine (D1 _).mono ?_; rintro e w2 ⟨rfl, hb2⟩))
  refine wp_world (fun W => Blk W w2.heap.size #[.int .i64 K, .int .i64 n] 55 ∧ Below w.heap.size w W) ⟨Blk.new w2 _ _ _ rfl, by have hq := hb1.trans (hb2.mono hb1.size); have hs := hq.size; exact (by repeat' (first | (with_reducible exact Below.refl _ _) | (with_reducible assumption) | (with_reducible refine below_alloc ?_ _ ?_) | (with_reducible refine below_set _ ?_ ?_) | (with_reducible refine Below.drew ?_) | (with_reducible refine below_dN ?_ _) | (apply below_thenA; assumption) | omega | (simp; done) | (simp; omega) | (simp [*]; done)))⟩ ?_
  rintro W1 ⟨t1, hB1⟩
  clear hb1 hb2
  go_upto_region 5 with (go_at_call 18; with_reducible refine (D2 _).mono ?_; rintro e w3 ⟨rfl, hb3⟩)
  have ta := t1.below hb3
  have hB2 := hB1.trans (hb3.mono hB1.size)
  refine wp_world (fun W => Blk W w2.heap.size #[.int .i64 K, .int .i64 n] 55 ∧ Blk W w3.heap.size #[.int .i64 K, .int .i64 n] 60 ∧ Below w.heap.size w W) ⟨ta.alloc _, Blk.new w3 _ _ _ rfl, by have hs := hB2.size; exact (by repeat' (first | (with_reducible exact Below.refl _ _) | (with_reducible assumption) | (with_reducible refine below_alloc ?_ _ ?_) | (with_reducible refine below_set _ ?_ ?_) | (with_reducible refine Below.drew ?_) | (with_reducible refine below_dN ?_ _) | (apply below_thenA; assumption) | omega | (simp; done) | (simp; omega) | (simp [*]; done)))⟩ ?_
  rintro W2 ⟨t2, t3, hB3⟩
  clear ta hB2 hb3 t1 hB1
  have c0 := t2.cell 0 _ rfl
  have c1 := t2.cell 1 _ rfl
  have d0 := t3.cell 0 _ rfl
  have d1 := t3.cell 1 _ rfl
  go_wp2_with fail
  go_ret
  exact ⟨by simp, hB3⟩
end Go.Proofs.Ytgmnboacehopfaa
