/-
  Package words: plain; cmp.Or of two.
-/
import Derived.Test.YtgmnboacehopfaaYGrD
import Derived.Test.YtgmnboacehopfaaZ7
import Derived.Test.YtgmnboacehopfaaZ1
namespace Go.Proofs.Ytgmnboacehopfaa
open Go.RowKit
set_option linter.unusedSimpArgs false
set_option linter.unusedVariables false

set_option maxRecDepth 100000 in
set_option maxHeartbeats 1600000 in
theorem cmp_or (g : Nat) (e f : Int) (w : World) (t : Blk w g #[.int .i64 e, .int .i64 f] 36) : Calls Try.prog 28 #[.slice (some ⟨g, 0, none⟩) 2 2] w fun r w' => r = .returned (.int .i64 (if e ≠ 0 then e else f)) ∧ w' = w := by
  have c0 := t.cell 0 _ rfl
  have c1 := t.cell 1 _ rfl
  by_cases h : e = 0
  · subst h
    rw [if_neg (by simp)]
    have T := Lib.hid t
    clear t c0 c1
    go_enter Try.func28, Try.ntmps28
    go_wp2_with fail
    go_loopg [8] 2 (fun gk s8 wr => ∃ j : Nat, j ≤ 2 ∧ gk = 2 - j ∧ s8 = .int .i64 ((j : Int)) ∧ (j = 2 → f = 0) ∧ w = wr)
    case atStart => exact ⟨0, by omega, by omega, rfl, by omega, rfl⟩
    case round =>
      obtain ⟨j, hj, rfl, rfl, hf, rfl⟩ := hrel
      have c0 := T.out.cell 0 _ rfl
      have c1 := T.out.cell 1 _ rfl
      rcases (by omega : j = 0 ∨ j = 1 ∨ j = 2) with rfl | rfl | rfl
      · go_wp2_with fail
        go_roundg 1
        case measure => omega
        case rel => exact ⟨1, by omega, by omega, rfl, by omega, rfl⟩
      · by_cases h2 : f = 0
        · subst h2
          go_wp2_with fail
          go_roundg 0
          case measure => omega
          case rel => exact ⟨2, by omega, by omega, rfl, by simp, rfl⟩
        · have q : (f != 0) = true := by simp [h2]
          go_wp2_with fail
          go_ret
          exact ⟨rfl, rfl⟩
      · obtain rfl := hf rfl
        go_wp2_with fail
        go_ret
        exact ⟨rfl, rfl⟩
  · rw [if_pos h]
    have q : (e != 0) = true := by simp [h]
    have T := Lib.hid t
    clear t c0 c1
    go_enter Try.func28, Try.ntmps28
    go_wp2_with fail
    go_loopg [8] 2 (fun gk s8 wr => gk = 2 ∧ s8 = .int .i64 0 ∧ w = wr)
    case atStart => exact ⟨rfl, rfl, rfl⟩
    case round =>
      obtain ⟨rfl, rfl, rfl⟩ := hrel
      have c0 := T.out.cell 0 _ rfl
      go_wp2_with fail
      go_ret
      exact ⟨rfl, rfl⟩
end Go.Proofs.Ytgmnboacehopfaa
