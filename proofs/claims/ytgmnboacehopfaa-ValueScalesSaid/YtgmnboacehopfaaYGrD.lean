/-
  Package real: Grid.
-/
import Derived.Test.YtgmnboacehopfaaYGrC
namespace Go.Proofs.Ytgmnboacehopfaa
open Go.RowKit
set_option linter.unusedSimpArgs false
set_option linter.unusedVariables false

theorem clampI_is {n low high : Int} (h : low ≤ high) : min (max n low) high = clampI n low high := by
  unfold clampI
  split
  · omega
  · split <;> omega
theorem gridR_arg {b : Nat} {den low high : Int} (h : den < 1 ∨ 1048576 < den ∨ high < low) : gridR b den low high = (0, 1) := by unfold gridR; rw [if_pos h]
theorem gridR_nan {b : Nat} {den low high : Int} (h : ¬ (den < 1 ∨ 1048576 < den ∨ high < low)) (hk : fKi b = 1) : gridR b den low high = (0, 4) := by unfold gridR; rw [if_neg h, if_pos hk]
theorem gridR_inf {b : Nat} {den low high : Int} (h : ¬ (den < 1 ∨ 1048576 < den ∨ high < low)) (hk : fKi b = 2) : gridR b den low high = (if fSg b then low else high, 0) := by unfold gridR; rw [if_neg h, if_neg (by omega), if_pos hk]
theorem gridR_num {b : Nat} {den low high : Int} (h : ¬ (den < 1 ∨ 1048576 < den ∨ high < low)) (hk : fKi b ≠ 1) (hk2 : fKi b ≠ 2) : gridR b den low high = (clampI (gN b den) low high, 0) := by unfold gridR; rw [if_neg h, if_neg hk, if_neg hk2]
set_option maxRecDepth 100000 in
set_option maxHeartbeats 3200000 in
theorem real_Grid (b : Nat) (hb : b < 18446744073709551616) (den low high : Int) (hd : IFit den) (hl : IFit low) (hh : IFit high) (w : World) : Calls Try.prog 27 #[.float .f64 b, .int .i64 den, .int .i64 low, .int .i64 high] w fun e w' => e = .returned (.tuple #[.int .i64 ((gridR b den low high).1), .int .i64 ((gridR b den low high).2)]) ∧ Below w.heap.size w w' := by
  obtain ⟨Q, eQ⟩ : ∃ Q : Ending → World → Prop, Q = fun e w' => e = .returned (.tuple #[.int .i64 ((gridR b den low high).1), .int .i64 ((gridR b den low high).2)]) ∧ Below w.heap.size w w' := ⟨_, rfl⟩
  rw [← eQ]
  have EQ := Lib.hid eQ
  have HD := Lib.hid hd
  have HLo := Lib.hid hl
  have HHi := Lib.hid hh
  clear eQ hd hl hh
  by_cases a1 : den < 1
  · have hR := Lib.hid (gridR_arg (b := b) (low := low) (high := high) (.inl a1))
    go_enter Try.func27, Try.ntmps27
    go_wp2_with fail
    rw [EQ.out, hR.out]
    exact ⟨rfl, Below.refl _ _⟩
  by_cases a2 : 1048576 < den
  · have hR := Lib.hid (gridR_arg (b := b) (low := low) (high := high) (.inr (.inl a2)))
    go_enter Try.func27, Try.ntmps27
    go_wp2_with fail
    rw [EQ.out, hR.out]
    exact ⟨rfl, Below.refl _ _⟩
  by_cases a3 : high < low
  · have hR := Lib.hid (gridR_arg (b := b) (den := den) (.inr (.inr a3)))
    go_enter Try.func27, Try.ntmps27
    go_wp2_with fail
    rw [EQ.out, hR.out]
    exact ⟨rfl, Below.refl _ _⟩
  have hn : ¬ (den < 1 ∨ 1048576 < den ∨ high < low) := by omega
  have HN := Lib.hid hn
  have KI := real_kind b hb
  have S2 := real_signed 1 (fSg b) (by omega) (by omega)
  have GR := real_grid b hb den (by omega) (by omega)
  have hdn : fDn b = if fKi b = 1 then false else fSg b := rfl
  have hk := fKi_all b
  have hlh : low ≤ high := by omega
  clear hn
  rcases hk with ⟨_, _, hk⟩ | ⟨_, _, hk⟩ | ⟨_, _, hk⟩ | hk45
  · rw [if_pos hk] at hdn
    have K1 : ∀ w, Calls Try.prog 34 #[.float .f64 b] w fun e w' => e = .returned (.tuple #[.int .i64 1, .bool false]) ∧ w' = w := fun w => by
      have q := KI w
      rw [hk, hdn] at q
      exact q
    have hR := Lib.hid (gridR_nan HN.out hk)
    clear KI GR S2 hk hdn
    go_enter Try.func27, Try.ntmps27
    go_wp2_with (go_at_call 34; with_reducible refine (K1 _).mono ?_; rintro e w1 ⟨rfl, rfl⟩)
    rw [EQ.out, hR.out]
    exact ⟨rfl, Below.refl _ _⟩
  · rw [if_neg (by omega)] at hdn
    have hR := gridR_inf HN.out hk
    cases hs : fSg b
    · rw [hs] at hdn S2 hR
      simp only [Bool.false_eq_true, if_false] at S2 hR
      have K1 : ∀ w, Calls Try.prog 34 #[.float .f64 b] w fun e w' => e = .returned (.tuple #[.int .i64 2, .bool false]) ∧ w' = w := fun w => by
        have q := KI w
        rw [hk, hdn] at q
        exact q
      have HR := Lib.hid hR
      clear KI GR hk hdn hR hs
      go_enter Try.func27, Try.ntmps27
      go_wp2_with (first | (go_at_call 34; with_reducible refine (K1 _).mono ?_; rintro e w1 ⟨rfl, rfl⟩) | (go_at_call 43; with_reducible refine (S2 _).mono ?_; rintro e w1 ⟨rfl, rfl⟩))
      rw [EQ.out, HR.out]
      exact ⟨rfl, Below.refl _ _⟩
    · rw [hs] at hdn S2 hR
      simp only [if_true] at S2 hR
      have K1 : ∀ w, Calls Try.prog 34 #[.float .f64 b] w fun e w' => e = .returned (.tuple #[.int .i64 2, .bool true]) ∧ w' = w := fun w => by
        have q := KI w
        rw [hk, hdn] at q
        exact q
      have HR := Lib.hid hR
      clear KI GR hk hdn hR hs
      go_enter Try.func27, Try.ntmps27
      go_wp2_with (first | (go_at_call 34; with_reducible refine (K1 _).mono ?_; rintro e w1 ⟨rfl, rfl⟩) | (go_at_call 43; with_reducible refine (S2 _).mono ?_; rintro e w1 ⟨rfl, rfl⟩))
      rw [EQ.out, HR.out]
      exact ⟨rfl, Below.refl _ _⟩
  · rw [if_neg (by omega)] at hdn
    have hR := gridR_num (b := b) HN.out (by omega) (by omega)
    rw [gN_zero hk] at hR
    have hcl := clampI_is (n := 0) hlh
    obtain ⟨s, es⟩ : ∃ s, fSg b = s := ⟨_, rfl⟩
    rw [es] at hdn
    have K1 : ∀ w, Calls Try.prog 34 #[.float .f64 b] w fun e w' => e = .returned (.tuple #[.int .i64 3, .bool s]) ∧ w' = w := fun w => by
      have q := KI w
      rw [hk, hdn] at q
      exact q
    have HR := Lib.hid hR
    clear KI GR hk hdn hR es S2
    go_enter Try.func27, Try.ntmps27
    go_wp2_with (go_at_call 34; with_reducible refine (K1 _).mono ?_; rintro e w1 ⟨rfl, rfl⟩)
    rw [EQ.out, HR.out]
    exact ⟨rfl, Below.refl _ _⟩
  · have hR := gridR_num (b := b) HN.out (by omega) (by omega)
    have hcl := clampI_is (n := gN b den) hlh
    have ho := gN_out (b := b) (den := den) (by omega)
    unfold GridA at GR
    obtain ⟨G, eG⟩ : ∃ G, gN b den = G := ⟨_, rfl⟩
    rw [eG] at hR hcl ho
    simp only [eG] at GR
    by_cases hf : IFit G
    · have G1 : ∀ w, Calls Try.prog 44 #[.float .f64 b, .int .i64 den] w fun e w' => e = .returned (.tuple #[.int .i64 G, .int .i64 0]) ∧ Below w.heap.size w w' := fun w => (GR w).mono fun e w' h => ⟨h.1 hf, h.2.2⟩
      have HR := Lib.hid hR
      rcases hk45 with ⟨_, _, hk⟩ | ⟨_, _, hk⟩
      all_goals
        rw [if_neg (by omega)] at hdn
        obtain ⟨s, es⟩ : ∃ s, fSg b = s := ⟨_, rfl⟩
        rw [es] at hdn
      ·
        have K1 : ∀ w, Calls Try.prog 34 #[.float .f64 b] w fun e w' => e = .returned (.tuple #[.int .i64 4, .bool s]) ∧ w' = w := fun w => by
          have q := KI w
          rw [hk, hdn] at q
          exact q
        clear KI GR hk hdn hR es S2 ho eG hf
        go_enter Try.func27, Try.ntmps27
        go_wp2_with (first | (go_at_call 34; with_reducible refine (K1 _).mono ?_; rintro e w1 ⟨rfl, rfl⟩) | (go_at_call 44; with_reducible refine (G1 _).mono ?_; rintro e w2 ⟨rfl, hb2⟩))
        rw [EQ.out, HR.out]
        exact ⟨rfl, (by repeat' (first | (with_reducible exact Below.refl _ _) | (with_reducible assumption) | (with_reducible refine below_alloc ?_ _ ?_) | (with_reducible refine below_set _ ?_ ?_) | (with_reducible refine Below.drew ?_) | (with_reducible refine below_dN ?_ _) | (apply below_thenA; assumption) | omega | (simp; done) | (simp; omega) | (simp [*]; done)))⟩
      ·
        have K1 : ∀ w, Calls Try.prog 34 #[.float .f64 b] w fun e w' => e = .returned (.tuple #[.int .i64 5, .bool s]) ∧ w' = w := fun w => by
          have q := KI w
          rw [hk, hdn] at q
          exact q
        clear KI GR hk hdn hR es S2 ho eG hf
        go_enter Try.func27, Try.ntmps27
        go_wp2_with (first | (go_at_call 34; with_reducible refine (K1 _).mono ?_; rintro e w1 ⟨rfl, rfl⟩) | (go_at_call 44; with_reducible refine (G1 _).mono ?_; rintro e w2 ⟨rfl, hb2⟩))
        rw [EQ.out, HR.out]
        exact ⟨rfl, (by repeat' (first | (with_reducible exact Below.refl _ _) | (with_reducible assumption) | (with_reducible refine below_alloc ?_ _ ?_) | (with_reducible refine below_set _ ?_ ?_) | (with_reducible refine Below.drew ?_) | (with_reducible refine below_dN ?_ _) | (apply below_thenA; assumption) | omega | (simp; done) | (simp; omega) | (simp [*]; done)))⟩
    · have ho1 := ho hf
      cases hs : fSg b
      all_goals
        rw [hs] at ho1
        have G1 : ∀ w, Calls Try.prog 44 #[.float .f64 b, .int .i64 den] w fun e w' => e = .returned (.tuple #[.int .i64 0, .int .i64 (sideI (fSg b))]) ∧ Below w.heap.size w w' := fun w => (GR w).mono fun e w' h => ⟨h.2.1 hf, h.2.2⟩
        rw [hs] at G1
        simp only [sideI, Bool.false_eq_true, if_false, if_true] at G1 ho1
      · have hR2 : gridR b den low high = (high, 0) := by
          rw [hR]
          have := HLo.out
          have := HHi.out
          unfold IFit at *
          unfold clampI
          rw [if_neg (by omega), if_pos (by omega)]
        have HR := Lib.hid hR2
        rcases hk45 with ⟨_, _, hk⟩ | ⟨_, _, hk⟩
        all_goals
          rw [if_neg (by omega), hs] at hdn
        ·
          have K1 : ∀ w, Calls Try.prog 34 #[.float .f64 b] w fun e w' => e = .returned (.tuple #[.int .i64 4, .bool false]) ∧ w' = w := fun w => by
            have q := KI w
            rw [hk, hdn] at q
            exact q
          clear KI GR hk hdn hR hR2 hs S2 ho eG hf hcl ho1
          go_enter Try.func27, Try.ntmps27
          go_wp2_with (first | (go_at_call 34; with_reducible refine (K1 _).mono ?_; rintro e w1 ⟨rfl, rfl⟩) | (go_at_call 44; with_reducible refine (G1 _).mono ?_; rintro e w2 ⟨rfl, hb2⟩))
          rw [EQ.out, HR.out]
          exact ⟨rfl, (by repeat' (first | (with_reducible exact Below.refl _ _) | (with_reducible assumption) | (with_reducible refine below_alloc ?_ _ ?_) | (with_reducible refine below_set _ ?_ ?_) | (with_reducible refine Below.drew ?_) | (with_reducible refine below_dN ?_ _) | (apply below_thenA; assumption) | omega | (simp; done) | (simp; omega) | (simp [*]; done)))⟩
        ·
          have K1 : ∀ w, Calls Try.prog 34 #[.float .f64 b] w fun e w' => e = .returned (.tuple #[.int .i64 5, .bool false]) ∧ w' = w := fun w => by
            have q := KI w
            rw [hk, hdn] at q
            exact q
          clear KI GR hk hdn hR hR2 hs S2 ho eG hf hcl ho1
          go_enter Try.func27, Try.ntmps27
          go_wp2_with (first | (go_at_call 34; with_reducible refine (K1 _).mono ?_; rintro e w1 ⟨rfl, rfl⟩) | (go_at_call 44; with_reducible refine (G1 _).mono ?_; rintro e w2 ⟨rfl, hb2⟩))
          rw [EQ.out, HR.out]
          exact ⟨rfl, (by repeat' (first | (with_reducible exact Below.refl _ _) | (with_reducible assumption) | (with_reducible refine below_alloc ?_ _ ?_) | (with_reducible refine below_set _ ?_ ?_) | (with_reducible refine Below.drew ?_) | (with_reducible refine below_dN ?_ _) | (apply below_thenA; assumption) | omega | (simp; done) | (simp; omega) | (simp [*]; done)))⟩
      · have hR2 : gridR b den low high = (low, 0) := by
          rw [hR]
          have := HLo.out
          unfold IFit at *
          unfold clampI
          rw [if_pos (by omega)]
        have HR := Lib.hid hR2
        rcases hk45 with ⟨_, _, hk⟩ | ⟨_, _, hk⟩
        all_goals
          rw [if_neg (by omega), hs] at hdn
        ·
          have K1 : ∀ w, Calls Try.prog 34 #[.float .f64 b] w fun e w' => e = .returned (.tuple #[.int .i64 4, .bool true]) ∧ w' = w := fun w => by
            have q := KI w
            rw [hk, hdn] at q
            exact q
          clear KI GR hk hdn hR hR2 hs S2 ho eG hf hcl ho1
          go_enter Try.func27, Try.ntmps27
          go_wp2_with (first | (go_at_call 34; with_reducible refine (K1 _).mono ?_; rintro e w1 ⟨rfl, rfl⟩) | (go_at_call 44; with_reducible refine (G1 _).mono ?_; rintro e w2 ⟨rfl, hb2⟩))
          rw [EQ.out, HR.out]
          exact ⟨rfl, (by repeat' (first | (with_reducible exact Below.refl _ _) | (with_reducible assumption) | (with_reducible refine below_alloc ?_ _ ?_) | (with_reducible refine below_set _ ?_ ?_) | (with_reducible refine Below.drew ?_) | (with_reducible refine below_dN ?_ _) | (apply below_thenA; assumption) | omega | (simp; done) | (simp; omega) | (simp [*]; done)))⟩
        ·
          have K1 : ∀ w, Calls Try.prog 34 #[.float .f64 b] w fun e w' => e = .returned (.tuple #[.int .i64 5, .bool true]) ∧ w' = w := fun w => by
            have q := KI w
            rw [hk, hdn] at q
            exact q
          clear KI GR hk hdn hR hR2 hs S2 ho eG hf hcl ho1
          go_enter Try.func27, Try.ntmps27
          go_wp2_with (first | (go_at_call 34; with_reducible refine (K1 _).mono ?_; rintro e w1 ⟨rfl, rfl⟩) | (go_at_call 44; with_reducible refine (G1 _).mono ?_; rintro e w2 ⟨rfl, hb2⟩))
          rw [EQ.out, HR.out]
          exact ⟨rfl, (by repeat' (first | (with_reducible exact Below.refl _ _) | (with_reducible assumption) | (with_reducible refine below_alloc ?_ _ ?_) | (with_reducible refine below_set _ ?_ ?_) | (with_reducible refine Below.drew ?_) | (with_reducible refine below_dN ?_ _) | (apply below_thenA; assumption) | omega | (simp; done) | (simp; omega) | (simp [*]; done)))⟩
end Go.Proofs.Ytgmnboacehopfaa
