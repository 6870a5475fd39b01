/-
  The functions of package fixed, each by its contract. First part: pixels, lengths, giving up.
-/
import Derived.Test.YthffphcgkmjhbaaWideE
import Derived.Recover
import Derived.WalkSmall
namespace Go.Proofs.Ythffphcgkmjhbaa
open Go.RowKit
set_option linter.unusedSimpArgs false
set_option linter.unusedVariables false

theorem td64 (a : Int) : (a.tmod 64 < 0 → a.tdiv 64 - 1 = a / 64) ∧ (¬ a.tmod 64 < 0 → a.tdiv 64 = a / 64) ∧ (0 < a.tmod 64 → a.tdiv 64 + 1 = -((-a) / 64)) ∧ (¬ 0 < a.tmod 64 → a.tdiv 64 = -((-a) / 64)) := by
  rcases Int.lt_or_le a 0 with h | h
  · obtain ⟨b, rfl⟩ : ∃ b, a = -b := ⟨-a, by omega⟩
    have e1 : (-b).tdiv 64 = -(b / 64) := by rw [Int.neg_tdiv, Int.tdiv_eq_ediv_of_nonneg (by omega)]
    have e2 : (-b).tmod 64 = -(b % 64) := by rw [Int.neg_tmod, Int.tmod_eq_emod_of_nonneg (by omega)]
    rw [e1, e2]; omega
  · have e1 : a.tdiv 64 = a / 64 := Int.tdiv_eq_ediv_of_nonneg h
    have e2 : a.tmod 64 = a % 64 := Int.tmod_eq_emod_of_nonneg h
    rw [e1, e2]; omega
def LenB (n : Int) : Prop := -17592186044416 ≤ n ∧ n ≤ 17592186044416
/-- What a giving up with this error is. -/
def gave (c : Int) : List PanicEntry := [{ v := .iface 154 (.int .i64 c), recovered := false }]

set_option maxRecDepth 100000 in
set_option maxHeartbeats 1600000 in
theorem fix_floor (a : Int) (ha : IFit a) (w : World) :
    Calls Try.prog 54 #[.int .i64 a] w fun e w' => e = .returned (.int .i64 (a / 64)) ∧ w' = w := by
  obtain ⟨h1, h2⟩ := ha
  have T := Lib.hid (td64 a)
  obtain ⟨q, eq⟩ : ∃ q, a.tdiv 64 = q := ⟨_, rfl⟩
  obtain ⟨r, er⟩ : ∃ r, a.tmod 64 = r := ⟨_, rfl⟩
  by_cases h : r < 0
  · have E : Hid (q - 1 = a / 64) := Lib.hid (by rw [← eq]; exact T.out.1 (by rw [er]; exact h))
    have h3 : -9223372036854775807 ≤ q ∧ q ≤ 9223372036854775807 := by have := E.out; omega
    obtain ⟨h3, h4⟩ := h3
    go_enter Try.func54, Try.ntmps54
    go_wp2
    go_ret
    exact ⟨by rw [E.out]; rfl, rfl⟩
  · have E : Hid (q = a / 64) := Lib.hid (by rw [← eq]; exact T.out.2.1 (by rw [er]; exact h))
    have h3 : -9223372036854775807 ≤ q ∧ q ≤ 9223372036854775807 := by have := E.out; omega
    obtain ⟨h3, h4⟩ := h3
    go_enter Try.func54, Try.ntmps54
    go_wp2
    go_ret
    exact ⟨by rw [E.out]; rfl, rfl⟩
set_option maxRecDepth 100000 in
set_option maxHeartbeats 1600000 in
theorem fix_ceil (a : Int) (ha : IFit a) (w : World) :
    Calls Try.prog 56 #[.int .i64 a] w fun e w' => e = .returned (.int .i64 (-((-a) / 64))) ∧ w' = w := by
  obtain ⟨h1, h2⟩ := ha
  have T := Lib.hid (td64 a)
  obtain ⟨q, eq⟩ : ∃ q, a.tdiv 64 = q := ⟨_, rfl⟩
  obtain ⟨r, er⟩ : ∃ r, a.tmod 64 = r := ⟨_, rfl⟩
  by_cases h : 0 < r
  · have E : Hid (q + 1 = -((-a) / 64)) := Lib.hid (by rw [← eq]; exact T.out.2.2.1 (by rw [er]; exact h))
    have h3 : -9223372036854775807 ≤ q ∧ q ≤ 9223372036854775806 := by have := E.out; omega
    obtain ⟨h3, h4⟩ := h3
    go_enter Try.func56, Try.ntmps56
    go_wp2
    go_ret
    exact ⟨by rw [E.out]; rfl, rfl⟩
  · have E : Hid (q = -((-a) / 64)) := Lib.hid (by rw [← eq]; exact T.out.2.2.2 (by rw [er]; exact h))
    have h3 : -9223372036854775807 ≤ q ∧ q ≤ 9223372036854775806 := by have := E.out; omega
    obtain ⟨h3, h4⟩ := h3
    go_enter Try.func56, Try.ntmps56
    go_wp2
    go_ret
    exact ⟨by rw [E.out]; rfl, rfl⟩
set_option maxRecDepth 100000 in
set_option maxHeartbeats 1600000 in
theorem fix_round (a : Int) (ha : IFit a) (w : World) :
    Calls Try.prog 57 #[.int .i64 a] w fun e w' => e = .returned (.int .i64 ((a + 32) / 64)) ∧ w' = w := by
  have hA := ha
  obtain ⟨h1, h2⟩ := ha
  obtain ⟨q, eq⟩ : ∃ q, a / 64 = q := ⟨_, rfl⟩
  have h3 : -144115188075855872 ≤ q ∧ q ≤ 144115188075855871 ∧ 0 ≤ a - q * 64 ∧ a - q * 64 ≤ 63 := by omega
  obtain ⟨h3, h4, h5, h6⟩ := h3
  by_cases h : 32 ≤ a - q * 64
  · have E : Hid (q + 1 = (a + 32) / 64) := Lib.hid (by omega)
    have EQ := Lib.hid eq
    clear eq
    go_enter Try.func57, Try.ntmps57
    go_wp2_with (go_at_call 54; with_reducible refine (fix_floor a hA _).mono ?_; rintro e w1 ⟨rfl, rfl⟩; rw [EQ.out])
    go_ret
    exact ⟨by rw [E.out]; rfl, rfl⟩
  · have E : Hid (q = (a + 32) / 64) := Lib.hid (by omega)
    have EQ := Lib.hid eq
    clear eq
    go_enter Try.func57, Try.ntmps57
    go_wp2_with (go_at_call 54; with_reducible refine (fix_floor a hA _).mono ?_; rintro e w1 ⟨rfl, rfl⟩; rw [EQ.out])
    go_ret
    exact ⟨by rw [E.out]; rfl, rfl⟩
theorem fix_fail0 (w : World) : Calls Try.prog 62 #[.int .i64 0] w fun e w' => e = .returned (.tuple #[]) ∧ w' = w := by
  go_enter Try.func62, Try.ntmps62
  go_wp2_with fail
  go_end0
  exact ⟨rfl, rfl⟩
theorem fix_fail (c : Int) (hc : c ≠ 0) (w : World) : Calls Try.prog 62 #[.int .i64 c] w fun e w' => e = .panicked (gave c) ∧ w' = w := by
  have h : (c != 0) = true := by simp [hc]
  go_enter Try.func62, Try.ntmps62
  go_wp2_with fail
  simp [bodyPost, gave]
theorem fix_fail2 (w : World) : Calls Try.prog 62 #[.int .i64 2] w fun e w' => e = .panicked (gave 2) ∧ w' = w := fix_fail 2 (by decide) w
theorem fix_fail3 (w : World) : Calls Try.prog 62 #[.int .i64 3] w fun e w' => e = .panicked (gave 3) ∧ w' = w := fix_fail 3 (by decide) w
set_option maxRecDepth 100000 in
set_option maxHeartbeats 1600000 in
theorem fix_of (n : Int) (hn : IFit n) (h : LenB n) (w : World) : Calls Try.prog 68 #[.int .i64 n] w fun e w' => e = .returned (.int .i64 n) ∧ w' = w := by
  obtain ⟨h1, h2⟩ := h
  have d1 : decide (n < -17592186044416) = false := by simp; omega
  have d2 : decide (17592186044416 < n) = false := by simp; omega
  go_enter Try.func68, Try.ntmps68
  go_wp2_with fail
  go_ret
  exact ⟨rfl, rfl⟩
set_option maxRecDepth 100000 in
set_option maxHeartbeats 1600000 in
theorem fix_of_no (n : Int) (hn : IFit n) (h : ¬ LenB n) (w : World) : Calls Try.prog 68 #[.int .i64 n] w fun e w' => e = .panicked (gave 2) ∧ w' = w := by
  by_cases hlo : n < -17592186044416
  · have d1 : decide (n < -17592186044416) = true := by simp [hlo]
    go_enter Try.func68, Try.ntmps68
    go_wp2_with (go_at_call 62; with_reducible refine (fix_fail2 _).mono ?_; rintro e w1 ⟨rfl, rfl⟩)
    simp [bodyPost]
  · have d1 : decide (n < -17592186044416) = false := by simp; omega
    have hhi : 17592186044416 < n := by unfold LenB at h; omega
    have d2 : decide (17592186044416 < n) = true := by simp [hhi]
    go_enter Try.func68, Try.ntmps68
    go_wp2_with (go_at_call 62; with_reducible refine (fix_fail2 _).mono ?_; rintro e w1 ⟨rfl, rfl⟩)
    simp [bodyPost]
def clip (n : Int) : Int := min (max n (-52776558133248)) 52776558133248
theorem clip_lo (n : Int) : -52776558133248 ≤ clip n := by unfold clip; omega
theorem clip_hi (n : Int) : clip n ≤ 52776558133248 := by unfold clip; omega
set_option maxRecDepth 100000 in
set_option maxHeartbeats 1600000 in
theorem fix_clipped (n : Int) (hn : IFit n) (w : World) : Calls Try.prog 118 #[.int .i64 n] w fun e w' => e = .returned (.int .i64 (clip n)) ∧ w' = w := by
  obtain ⟨h1, h2⟩ := hn
  go_enter Try.func118, Try.ntmps118
  go_wp2_with fail
  go_ret
  exact ⟨rfl, rfl⟩
end Go.Proofs.Ythffphcgkmjhbaa
