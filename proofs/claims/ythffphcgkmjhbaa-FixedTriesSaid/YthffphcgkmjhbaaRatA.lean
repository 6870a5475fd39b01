/-
  The functions of package ratio, each by its contract. First part: size, common, signed.
-/
import Derived.Test.YthffphcgkmjhbaaWideE
import Derived.Deep.LoopGhost
import Derived.BigQuiet
namespace Go.Proofs.Ythffphcgkmjhbaa
open Go.RowKit
set_option linter.unusedSimpArgs false
set_option linter.unusedVariables false

set_option maxRecDepth 100000 in
set_option maxHeartbeats 1600000 in
theorem rat_size (n : Int) (hn : IFit n) (w : World) : Calls Try.prog 109 #[.int .i64 n] w fun e w' => e = .returned (.int .u64 (((n.natAbs : Nat) : Int))) ∧ w' = w := by
  obtain ⟨h1, h2⟩ := hn
  have hm : IntKind.u64.max = 18446744073709551615 := rfl
  by_cases h : n < 0
  · have E : Hid (IntKind.u64.wrap (-IntKind.u64.wrap n) = ((n.natAbs : Nat) : Int)) := Lib.hid (by simp only [IntKind.wrap_u64]; omega)
    go_enter Try.func109, Try.ntmps109
    go_wp2_with fail
    go_ret
    exact ⟨by rw [← E.out]; rfl, rfl⟩
  · have E : Hid (n = ((n.natAbs : Nat) : Int)) := Lib.hid (by omega)
    go_enter Try.func109, Try.ntmps109
    go_wp2_with fail
    go_ret
    exact ⟨by rw [← E.out]; rfl, rfl⟩
set_option maxRecDepth 100000 in
set_option maxHeartbeats 1600000 in
theorem rat_common (a b : Nat) (ha : a < 18446744073709551616) (hb : b < 18446744073709551616) (w : World) :
    Calls Try.prog 110 #[.int .u64 ((a : Int)), .int .u64 ((b : Int))] w fun e w' => e = .returned (.int .u64 (((Nat.gcd a b : Nat) : Int))) ∧ Below w.heap.size w w' := by
  obtain ⟨G, eG⟩ : ∃ G, Nat.gcd a b = G := ⟨_, rfl⟩
  rw [eG]
  have EG := Lib.hid eG
  clear eG
  go_enter Try.func110, Try.ntmps110
  go_wp2_with fail
  go_loopg [0, 1] b (fun g s0 s1 wr => ∃ (x y : Nat), x < 18446744073709551616 ∧ y < 18446744073709551616 ∧ g = y ∧ s0 = .int .u64 ((x : Int)) ∧ s1 = .int .u64 ((y : Int)) ∧ Nat.gcd x y = G ∧ Below w.heap.size w wr)
  case atStart => exact ⟨a, b, ha, hb, rfl, rfl, rfl, EG.out, Below.refl _ _⟩
  case round =>
    obtain ⟨x, y, hx, hy, rfl, rfl, rfl, hg, hB⟩ := hrel
    have HG := Lib.hid hg
    clear hg
    by_cases h0 : gk = 0
    · subst h0
      have e := HG.out
      rw [Nat.gcd_zero_right] at e
      subst e
      go_wp2_with fail
      go_ret
      exact ⟨rfl, hB⟩
    · have hp : (0 : Int) < (gk : Int) := by omega
      have hne : (gk : Int) ≠ 0 := by omega
      go_wp2_with fail
      go_region
      all_goals
        go_wp2_with fail
        go_roundg (x % gk)
        case measure => exact Nat.mod_lt _ (by omega)
        case rel => exact ⟨gk, x % gk, hy, by have := Nat.mod_lt x (show gk > 0 by omega); omega, rfl, rfl, by go_num, by rw [← HG.out, Nat.gcd_comm x]; exact (Nat.gcd_comm _ _).trans (Nat.gcd_rec _ _).symm, (by repeat' (first | (with_reducible exact Below.refl _ _) | (with_reducible assumption) | (with_reducible refine below_alloc ?_ _ ?_) | (with_reducible refine below_set _ ?_ ?_) | (with_reducible refine Below.drew ?_) | (with_reducible refine below_dN ?_ _) | (apply below_thenA; assumption) | omega | (simp; done) | (simp; omega) | (simp [*]; done)))⟩
theorem wrap_i64_neg (n : Nat) (h : n ≤ 9223372036854775808) : wrap64 (-wrap64 (n : Int)) = -(n : Int) := by
  simp only [wrap64]; omega
theorem wrap_i64_pos (n : Nat) (h : n ≤ 9223372036854775807) : wrap64 (n : Int) = (n : Int) := by
  simp only [wrap64]; omega
set_option maxRecDepth 100000 in
set_option maxHeartbeats 1600000 in
theorem rat_signed_neg (n : Nat) (hn : n < 18446744073709551616) (w : World) :
    Calls Try.prog 111 #[.int .u64 ((n : Int)), .bool true] w fun e w' => (∃ v, e = .returned (.tuple #[.int .i64 v, .bool (decide ((n : Int) ≤ 9223372036854775808))]) ∧ (n ≤ 9223372036854775808 → v = -(n : Int))) ∧ w' = w := by
  have E : Hid (n ≤ 9223372036854775808 → wrap64 (-wrap64 (n : Int)) = -(n : Int)) := Lib.hid (wrap_i64_neg n)
  go_enter Try.func111, Try.ntmps111
  go_wp2_with fail
  go_ret2
  exact ⟨⟨_, rfl, E.out⟩, rfl⟩
set_option maxRecDepth 100000 in
set_option maxHeartbeats 1600000 in
theorem rat_signed_pos (n : Nat) (hn : n < 18446744073709551616) (w : World) :
    Calls Try.prog 111 #[.int .u64 ((n : Int)), .bool false] w fun e w' => (∃ v, e = .returned (.tuple #[.int .i64 v, .bool (decide ((n : Int) ≤ 9223372036854775807))]) ∧ (n ≤ 9223372036854775807 → v = (n : Int))) ∧ w' = w := by
  have E : Hid (n ≤ 9223372036854775807 → wrap64 (n : Int) = (n : Int)) := Lib.hid (wrap_i64_pos n)
  go_enter Try.func111, Try.ntmps111
  go_wp2_with fail
  go_ret2
  exact ⟨⟨_, rfl, E.out⟩, rfl⟩
end Go.Proofs.Ythffphcgkmjhbaa
