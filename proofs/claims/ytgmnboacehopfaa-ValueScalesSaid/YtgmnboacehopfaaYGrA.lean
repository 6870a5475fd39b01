/-
  Package real: a float's fields, its kind, its size.
-/
import Derived.Test.YtgmnboacehopfaaYGrN
import Derived.Test.YtgmnboacehopfaaZ1
namespace Go.Proofs.Ytgmnboacehopfaa
open Go.RowKit
set_option linter.unusedSimpArgs false
set_option linter.unusedVariables false

theorem flo_bits (b : Nat) (w : World) : (callFunc 42 #[.float .f64 b]).run Try.prog w = .ok (.value (.int .u64 (b : Int))) w := by
  rw [run_callFunc_extern Try.func42 (by kernel_rfl) (by kernel_rfl) (by kernel_rfl) (e := Extern.MathFloatBits.float64bits) (by kernel_rfl)]
  rfl
set_option maxRecDepth 100000 in
set_option maxHeartbeats 1600000 in
theorem real_fields (b : Nat) (hb : b < 18446744073709551616) (w : World) : Calls Try.prog 59 #[.float .f64 b] w fun e w' => e = .returned (.tuple #[.bool (fSg b), .int .i64 ((fEx b : Int)), .int .u64 (fMa b : Int)]) ∧ w' = w := by
  have FB := flo_bits
  have e1 := sg_eq b
  have e2 := bits_ex b hb
  have e3 := bits_ma b hb
  have e4 := fEx_lt b
  have hb1 : (0 : Int) ≤ (b : Int) := by omega
  have hb2 : (b : Int) < 18446744073709551616 := by omega
  obtain ⟨x, ex⟩ : ∃ x, fEx b = x := ⟨_, rfl⟩
  rw [ex] at e2 e4
  rw [ex]
  clear ex
  go_enter Try.func59, Try.ntmps59
  go_wp2_with fail
  (go_light; simp [bodyPost, results, Try.results59, go_sem, *])
theorem fKi_all (b : Nat) : (fEx b = 2047 ∧ fMa b ≠ 0 ∧ fKi b = 1) ∨ (fEx b = 2047 ∧ fMa b = 0 ∧ fKi b = 2) ∨ (fEx b = 0 ∧ fMa b = 0 ∧ fKi b = 3) ∨ (fEx b = 0 ∧ fMa b ≠ 0 ∧ fKi b = 4) ∨ (fEx b ≠ 0 ∧ fEx b ≠ 2047 ∧ fKi b = 5) := by
  unfold fKi
  by_cases h1 : fEx b = 2047
  · rw [if_pos h1]
    by_cases h2 : fMa b = 0
    · rw [if_pos h2]; exact .inr (.inl ⟨h1, h2, rfl⟩)
    · rw [if_neg h2]; exact .inl ⟨h1, h2, rfl⟩
  · rw [if_neg h1]
    by_cases h2 : fEx b = 0
    · rw [if_pos h2]
      by_cases h3 : fMa b = 0
      · rw [if_pos h3]; exact .inr (.inr (.inl ⟨h2, h3, rfl⟩))
      · rw [if_neg h3]; exact .inr (.inr (.inr (.inl ⟨h2, h3, rfl⟩)))
    · rw [if_neg h2]; exact .inr (.inr (.inr (.inr ⟨h2, h1, rfl⟩)))
set_option maxRecDepth 100000 in
set_option maxHeartbeats 1600000 in
theorem real_kind (b : Nat) (hb : b < 18446744073709551616) (w : World) : Calls Try.prog 34 #[.float .f64 b] w fun e w' => e = .returned (.tuple #[.int .i64 ((fKi b : Int)), .bool (fDn b)]) ∧ w' = w := by
  have FI := real_fields b hb
  have hk := fKi_all b
  have hd : fDn b = if fKi b = 1 then false else fSg b := rfl
  obtain ⟨x, ex⟩ : ∃ x, fEx b = x := ⟨_, rfl⟩
  obtain ⟨m, em⟩ : ∃ x, fMa b = x := ⟨_, rfl⟩
  obtain ⟨s, es⟩ : ∃ x, fSg b = x := ⟨_, rfl⟩
  obtain ⟨k, ek⟩ : ∃ x, fKi b = x := ⟨_, rfl⟩
  rw [ex, em, es] at FI
  rw [ex, em, ek] at hk
  rw [ek, es] at hd
  rw [ek, hd]
  clear ex em es ek hd
  rcases hk with ⟨rfl, h2, rfl⟩ | ⟨rfl, rfl, rfl⟩ | ⟨rfl, rfl, rfl⟩ | ⟨rfl, h2, rfl⟩ | ⟨h1, h2, rfl⟩
  · have q1 : ((m : Int) != 0) = true := by simp; omega
    go_enter Try.func34, Try.ntmps34
    go_wp2_with (go_at_call 59; with_reducible refine (FI _).mono ?_; rintro e w1 ⟨rfl, rfl⟩)
    (go_light; simp [bodyPost, results, Try.results34, go_sem, *])
  · go_enter Try.func34, Try.ntmps34
    go_wp2_with (go_at_call 59; with_reducible refine (FI _).mono ?_; rintro e w1 ⟨rfl, rfl⟩)
    (go_light; simp [bodyPost, results, Try.results34, go_sem, *])
  · go_enter Try.func34, Try.ntmps34
    go_wp2_with (go_at_call 59; with_reducible refine (FI _).mono ?_; rintro e w1 ⟨rfl, rfl⟩)
    (go_light; simp [bodyPost, results, Try.results34, go_sem, *])
  · have q1 : ((m : Int) == 0) = false := by simp; omega
    go_enter Try.func34, Try.ntmps34
    go_wp2_with (go_at_call 59; with_reducible refine (FI _).mono ?_; rintro e w1 ⟨rfl, rfl⟩)
    (go_light; simp [bodyPost, results, Try.results34, go_sem, *])
  · have q1 : ((x : Int) == 0) = false := by simp; omega
    have q2 : ((x : Int) == 2047) = false := by simp; omega
    go_enter Try.func34, Try.ntmps34
    go_wp2_with (go_at_call 59; with_reducible refine (FI _).mono ?_; rintro e w1 ⟨rfl, rfl⟩)
    (go_light; simp [bodyPost, results, Try.results34, go_sem, *])
set_option maxRecDepth 100000 in
set_option maxHeartbeats 1600000 in
theorem real_whole (b : Nat) (hb : b < 18446744073709551616) (w : World) : Calls Try.prog 62 #[.float .f64 b] w fun e w' => e = .returned (.tuple #[.int .u64 (fWh b : Int), .int .i64 (fPo b)]) ∧ w' = w := by
  have FI := real_fields b hb
  have hw : fWh b = if fEx b = 0 then fMa b else fMa b + 4503599627370496 := rfl
  have hp : fPo b = if fEx b = 0 then -1074 else (fEx b : Int) - 1075 := rfl
  have h1 := or_high (fMa b) (fMa_lt b)
  have h2 := fMa_lt b
  have h3 := fEx_lt b
  obtain ⟨x, ex⟩ : ∃ x, fEx b = x := ⟨_, rfl⟩
  obtain ⟨m, em⟩ : ∃ x, fMa b = x := ⟨_, rfl⟩
  rw [ex, em] at FI
  rw [em] at h1 h2
  rw [ex, em] at hw
  rw [ex] at hp h3
  rw [hw, hp]
  clear ex em hw hp
  by_cases h0 : x = 0
  · subst h0
    rw [if_pos rfl, if_pos rfl]
    clear h1
    go_enter Try.func62, Try.ntmps62
    go_wp2_with (go_at_call 59; with_reducible refine (FI _).mono ?_; rintro e w1 ⟨rfl, rfl⟩)
    (go_light; simp [bodyPost, results, Try.results62, go_sem, *])
  · rw [if_neg h0, if_neg h0]
    have q1 : ((x : Int) == 0) = false := by simp; omega
    go_enter Try.func62, Try.ntmps62
    go_wp2_with (go_at_call 59; with_reducible refine (FI _).mono ?_; rintro e w1 ⟨rfl, rfl⟩)
    (go_light; simp [bodyPost, results, Try.results62, go_sem, *])
theorem sg_neg (b : Nat) (hb : b < 18446744073709551616) : decide (wrap64 (b : Int) < 0) = fSg b := by
  unfold fSg
  rw [decide_eq_decide]
  unfold wrap64
  omega
set_option maxRecDepth 100000 in
set_option maxHeartbeats 1600000 in
theorem math_signbit (b : Nat) (hb : b < 18446744073709551616) (w : World) : Calls Try.prog 63 #[.float .f64 b] w fun e w' => e = .returned (.bool (fSg b)) ∧ w' = w := by
  have FB := flo_bits
  have e1 := sg_neg b hb
  have hb1 : (0 : Int) ≤ (b : Int) := by omega
  have hb2 : (b : Int) < 18446744073709551616 := by omega
  go_enter Try.func63, Try.ntmps63
  go_wp2_with fail
  go_ret
  exact ⟨by first | rfl | (rw [e1]), rfl⟩
set_option maxRecDepth 100000 in
set_option maxHeartbeats 1600000 in
theorem real_signed (n : Int) (d : Bool) (h1 : -9223372036854775808 < n) (h2 : n ≤ 9223372036854775807) (w : World) : Calls Try.prog 43 #[.int .i64 n, .bool d] w fun e w' => e = .returned (.int .i64 (if d then -n else n)) ∧ w' = w := by
  cases d
  · go_enter Try.func43, Try.ntmps43
    go_wp2_with fail
    go_ret
    exact ⟨rfl, rfl⟩
  · go_enter Try.func43, Try.ntmps43
    go_wp2_with fail
    go_ret
    exact ⟨rfl, rfl⟩
end Go.Proofs.Ytgmnboacehopfaa
