/-
  The reference of layer 3: Fields, Kind.
-/
import Derived.Test.YtgmnboacehopfaaYGrD
namespace Go.Proofs.Ytgmnboacehopfaa
open Go.RowKit
set_option linter.unusedSimpArgs false
set_option linter.unusedVariables false

set_option maxRecDepth 100000 in
set_option maxHeartbeats 1600000 in
theorem ref3_fields (b : Nat) (hb : b < 18446744073709551616) (w : World) : Calls Try.prog 60 #[.int .u64 (b : Int)] w fun e w' => e = .returned (.tuple #[.bool (fSg b), .int .i64 ((fEx b : Int)), .int .u64 (fMa b : Int)]) ∧ w' = w := by
  have e1 := sg_eq b
  have e4 := fEx_lt b
  have e2 : (b : Int) / 4503599627370496 % 2048 = (fEx b : Int) := by unfold fEx; omega
  have e3 : (b : Int) % 4503599627370496 = (fMa b : Int) := by unfold fMa; omega
  have hb1 : (0 : Int) ≤ (b : Int) := by omega
  have hb2 : (b : Int) < 18446744073709551616 := by omega
  go_enter Try.func60, Try.ntmps60
  go_wp2_with fail
  (go_light; simp [bodyPost, results, Try.results60, go_sem, *])
set_option maxRecDepth 100000 in
set_option maxHeartbeats 1600000 in
theorem ref3_kind (b : Nat) (hb : b < 18446744073709551616) (w : World) : Calls Try.prog 36 #[.int .u64 (b : Int)] w fun e w' => e = .returned (.tuple #[.int .i64 ((fKi b : Int)), .bool (fDn b)]) ∧ w' = w := by
  have FI := ref3_fields b hb
  have hk := fKi_all b
  have hd : fDn b = if fKi b = 1 then false else fSg b := rfl
  obtain ⟨x, ex⟩ : ∃ x, fEx b = x := ⟨_, rfl⟩
  obtain ⟨m, em⟩ : ∃ x, fMa b = x := ⟨_, rfl⟩
  obtain ⟨s, es⟩ : ∃ x, fSg b = x := ⟨_, rfl⟩
  obtain ⟨k, ek⟩ : ∃ x, fKi b = x := ⟨_, rfl⟩
  rw [ex, em, es] at FI
  rw [ex, em, ek] at hk
  rw [ek, es] at hd
  rw [ek, hd]
  clear ex em es ek hd
  rcases hk with ⟨rfl, h2, rfl⟩ | ⟨rfl, rfl, rfl⟩ | ⟨rfl, rfl, rfl⟩ | ⟨rfl, h2, rfl⟩ | ⟨h1, h2, rfl⟩
  · have q1 : decide (0 < (m : Int)) = true := by simp; omega
    have q2 : (0 : Int) < (m : Int) := by omega
    have q3 : 0 < m := by omega
    go_enter Try.func36, Try.ntmps36
    go_wp2_with (go_at_call 60; with_reducible refine (FI _).mono ?_; rintro e w1 ⟨rfl, rfl⟩)
    (go_light; simp [bodyPost, results, Try.results36, go_sem, *])
  · go_enter Try.func36, Try.ntmps36
    go_wp2_with (go_at_call 60; with_reducible refine (FI _).mono ?_; rintro e w1 ⟨rfl, rfl⟩)
    (go_light; simp [bodyPost, results, Try.results36, go_sem, *])
  · go_enter Try.func36, Try.ntmps36
    go_wp2_with (go_at_call 60; with_reducible refine (FI _).mono ?_; rintro e w1 ⟨rfl, rfl⟩)
    (go_light; simp [bodyPost, results, Try.results36, go_sem, *])
  · have q1 : ((m : Int) == 0) = false := by simp; omega
    go_enter Try.func36, Try.ntmps36
    go_wp2_with (go_at_call 60; with_reducible refine (FI _).mono ?_; rintro e w1 ⟨rfl, rfl⟩)
    (go_light; simp [bodyPost, results, Try.results36, go_sem, *])
  · have q1 : ((x : Int) == 0) = false := by simp; omega
    have q2 : ((x : Int) == 2047) = false := by simp; omega
    go_enter Try.func36, Try.ntmps36
    go_wp2_with (go_at_call 60; with_reducible refine (FI _).mono ?_; rintro e w1 ⟨rfl, rfl⟩)
    (go_light; simp [bodyPost, results, Try.results36, go_sem, *])
end Go.Proofs.Ytgmnboacehopfaa
