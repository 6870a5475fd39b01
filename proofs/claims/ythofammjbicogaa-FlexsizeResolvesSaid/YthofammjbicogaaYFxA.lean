/-
  Package flexsize, each function by its contract. First part.
-/
import Derived.Test.YthofammjbicogaaZ6
import Derived.Test.YthofammjbicogaaZ9
import Derived.Test.YthofammjbicogaaZ11
import Derived.Test.YthofammjbicogaaYFxT
namespace Go.Proofs.Ythofammjbicogaa
open Go.RowKit
set_option linter.unusedSimpArgs false
set_option linter.unusedVariables false

/-- An item of a line: its base size, its limits, what its edges take, its factors. -/
structure Fx where
  base : Int
  least : Int
  most : Int
  bound : Bool
  extra : Int
  grow : Int
  shrink : Int
def Fx.val (x : Fx) : Value := .agg #[.int .i64 x.base, .int .i64 x.least, .int .i64 x.most, .bool x.bound, .int .i64 x.extra, .int .i64 x.grow, .int .i64 x.shrink]
def Fx.may (x : Fx) : Bool := decide (0 ≤ min (min x.base x.grow) x.shrink) && decide (max x.grow x.shrink ≤ 4096000)
theorem run_min3 {P : Program} (w : World) (ts : Array TypeId) (t : TypeId) (k : IntKind) (x y z : Int) :
    (Builtin.min_ ts t #[.int k x, .int k y, .int k z]).run P w = .ok (.int k (min (min x y) z)) w := by
  have e : ∀ a b : Int, min a b = if b < a then b else a := fun a b => by
    rw [Int.min_def]; split <;> split <;> omega
  rw [e, e]
  simp [Builtin.min_, Builtin.min2]
set_option maxRecDepth 100000 in
theorem fx_may (x : Fx) (w : World) : Calls Try.prog 97 #[x.val] w fun e w' => e = .returned (.bool x.may) ∧ Below w.heap.size w w' := by
  have hm3 := fun (w : World) ts t => run_min3 (P := Try.prog) w ts t .i64 x.base x.grow x.shrink
  have hm2 := fun (w : World) ts t => run_mx2 (P := Try.prog) w ts t .i64 x.grow x.shrink
  unfold Fx.val Fx.may
  obtain ⟨m3, e3⟩ : ∃ m, min (min x.base x.grow) x.shrink = m := ⟨_, rfl⟩
  obtain ⟨m2, e2⟩ : ∃ m, max x.grow x.shrink = m := ⟨_, rfl⟩
  rw [e3] at hm3
  rw [e2] at hm2
  rw [e3, e2]
  clear e3 e2
  by_cases h0 : 0 ≤ m3
  · have hb0 : decide (0 ≤ m3) = true := decide_eq_true h0
    obtain ⟨b2, hb2⟩ : ∃ b, decide (m2 ≤ 4096000) = b := ⟨_, rfl⟩
    rw [hb0, hb2, Bool.true_and]
    go_enter Try.func97, Try.ntmps97
    go_wp2_with fail
    go_ret
    exact ⟨rfl, (by repeat' (first | (with_reducible exact Below.refl _ _) | (with_reducible assumption) | (with_reducible refine below_alloc ?_ _ ?_) | (with_reducible refine below_set _ ?_ ?_) | (with_reducible refine Below.drew ?_) | (with_reducible refine below_dN ?_ _) | (apply below_thenA; assumption) | omega | (simp; done) | (simp; omega) | (simp [*]; done)))⟩
  · have hb0 : decide (0 ≤ m3) = false := decide_eq_false h0
    rw [hb0, Bool.false_and]
    go_enter Try.func97, Try.ntmps97
    go_wp2_with fail
    go_ret
    exact ⟨rfl, (by repeat' (first | (with_reducible exact Below.refl _ _) | (with_reducible assumption) | (with_reducible refine below_alloc ?_ _ ?_) | (with_reducible refine below_set _ ?_ ?_) | (with_reducible refine Below.drew ?_) | (with_reducible refine below_dN ?_ _) | (apply below_thenA; assumption) | omega | (simp; done) | (simp; omega) | (simp [*]; done)))⟩
theorem fx_size (n : Int) (h1 : -9223372036854775808 < n) (h2 : n ≤ 9223372036854775807) (w : World) : Calls Try.prog 119 #[.int .i64 n] w fun e w' => e = .returned (.int .i64 (absI n)) ∧ w' = w := by
  have hm2 := fun (w : World) ts t => run_mx2 (P := Try.prog) w ts t .i64 n (-n)
  have e : max n (-n) = absI n := by unfold absI; omega
  rw [e] at hm2
  clear e
  go_enter Try.func119, Try.ntmps119
  go_wp2_with fail
  go_ret
  exact ⟨rfl, rfl⟩
end Go.Proofs.Ythofammjbicogaa
