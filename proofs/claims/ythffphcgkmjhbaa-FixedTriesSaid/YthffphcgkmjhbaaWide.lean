/-
  The functions of package wide, each by its contract: what it returns for whatever it is given.
-/
import Derived.Test.YthffphcgkmjhbaaBase
namespace Go.Proofs.Ythffphcgkmjhbaa
open Go.RowKit

set_option maxHeartbeats 400000 in
theorem mul64_any (x y : Nat) (hx : x < 18446744073709551616) (hy : y < 18446744073709551616) (w : World) :
    Calls Try.prog 96 #[.int .u64 x, .int .u64 y] w fun e w' => e = .returned (.tuple #[.int .u64 ((x * y / 18446744073709551616 : Nat) : Int), .int .u64 ((x * y % 18446744073709551616 : Nat) : Int)]) ∧ w = w' := by
  obtain ⟨bd, bt, bw, hhi⟩ := Lib.mul64_hi x y hx hy
  have ba := Lib.half_mul_le (a := x / 4294967296) (b := y / 4294967296) (by omega) (by omega)
  have bb := Lib.half_mul_le (a := x / 4294967296) (b := y % 4294967296) (by omega) (by omega)
  have bc := Lib.half_mul_le (a := x % 4294967296) (b := y / 4294967296) (by omega) (by omega)
  have ba' : x / 4294967296 * (y / 4294967296) < 18446744073709551616 := by omega
  have bb' : x / 4294967296 * (y % 4294967296) < 18446744073709551616 := by omega
  have bc' : x % 4294967296 * (y / 4294967296) < 18446744073709551616 := by omega
  have bh1 : x / 4294967296 * (y / 4294967296) + (x / 4294967296 * (y % 4294967296) + x % 4294967296 * (y % 4294967296) / 4294967296) / 4294967296 < 18446744073709551616 := by omega
  have bh : x / 4294967296 * (y / 4294967296) + (x / 4294967296 * (y % 4294967296) + x % 4294967296 * (y % 4294967296) / 4294967296) / 4294967296 + ((x / 4294967296 * (y % 4294967296) + x % 4294967296 * (y % 4294967296) / 4294967296) % 4294967296 + x % 4294967296 * (y / 4294967296)) / 4294967296 < 18446744073709551616 := by omega
  go_enter Try.func96, Try.ntmps96
  go_wp2
  simp only [Mul64.maskN x hx, Mul64.maskN y hy, Mul64.divN, Mul64.mulN, Mul64.addN, Mul64.wrapN _ bd, Mul64.wrapN _ bb', Mul64.wrapN _ bt, Mul64.maskN _ bt, Mul64.wrapN _ bc', Mul64.wrapN _ bw, Mul64.wrapN _ ba', Mul64.wrapN _ bh1, Mul64.wrapN _ bh, Mul64.wrapM (x * y)]
  rw [hhi]
  go_ret2
  exact ⟨rfl, rfl⟩

theorem wide_of (n : Int) (h1 : -9223372036854775808 ≤ n) (h2 : n ≤ 9223372036854775807) (w : World) :
    Calls Try.prog 31 #[.int .i64 n] w fun e w' => e = .returned (.agg #[.int .i64 (n / 18446744073709551616), .int .u64 (n % 18446744073709551616)]) ∧ Below w.heap.size w w' := by
  go_enter Try.func31, Try.ntmps31
  go_wp2
  simp [bodyPost, results, Try.results31, go_sem]
  exact ⟨⟨by omega, by rw [IntKind.wrap_u64]⟩, (by repeat' (first | (with_reducible exact Below.refl _ _) | (with_reducible assumption) | (with_reducible refine below_alloc ?_ _ ?_) | (with_reducible refine below_set _ ?_ ?_) | (with_reducible refine Below.drew ?_) | (with_reducible refine below_dN ?_ _) | (apply below_thenA; assumption) | omega | (simp; done) | (simp; omega) | (simp [*]; done)))⟩

/-- What Add and Neg answer. -/
def WAns (n : Int) (B : Nat) (w : World) (e : Ending) (w' : World) : Prop :=
  (WFit n → e = .returned (.tuple #[.agg #[.int .i64 (n / 18446744073709551616), .int .u64 (n % 18446744073709551616)], .bool true])) ∧ (¬ WFit n → e = .returned (.tuple #[.agg #[.int .i64 0, .int .u64 0], .bool false])) ∧ Below B w w'
def cmp3 (a b : Int) : Int := if a < b then -1 else if b < a then 1 else 0
theorem ret_wb {h l h' l' : Int} {b : Bool} (e1 : h = h') (e2 : l = l') : Ending.returned (.tuple #[.agg #[.int .i64 h, .int .u64 l], .bool b]) = .returned (.tuple #[.agg #[.int .i64 (h'), .int .u64 (l')], .bool b]) := by rw [e1, e2]
theorem not_dec {p q : Prop} [Decidable p] [Decidable q] : ((!decide p == decide q) = true) ↔ (¬ p ↔ q) := by
  by_cases p <;> by_cases q <;> simp [*]
theorem not_dec' {p q : Prop} [Decidable p] [Decidable q] : ((!decide p == decide q) = false) ↔ ¬ (¬ p ↔ q) := by
  by_cases p <;> by_cases q <;> simp [*]

set_option maxRecDepth 100000 in
set_option maxHeartbeats 400000 in
theorem wide_add (a b h1 l1 h2 l2 : Int) (ha : Wd h1 l1 a) (hb : Wd h2 l2 b) (w : World) :
    Calls Try.prog 38 #[.agg #[.int .i64 h1, .int .u64 l1], .agg #[.int .i64 h2, .int .u64 l2]] w (WAns (a + b) w.heap.size w) := by
  obtain ⟨a1, a2, a3, a4, a5⟩ := ha
  obtain ⟨b1, b2, b3, b4, b5⟩ := hb
  have A1 := add64_0 l1 l2 a3 b3
  have A2 := add64 (IntKind.u64.wrap h1) (IntKind.u64.wrap h2) ((l1 + l2) / 18446744073709551616) (u64n _) (u64n _) (by omega) (by omega)
  have A5 := Lib.hid a5
  have B5 := Lib.hid b5
  clear a5 b5
  go_enter Try.func38, Try.ntmps38
  go_wp2
  all_goals
    simp [bodyPost, results, Try.results38, go_sem]
    go_light
    clear A1 A2
    have a5 := A5.out; have b5 := B5.out
    clear A5 B5
    simp only [IntKind.wrap_u64, wrap64, not_dec, not_dec'] at *
    refine ⟨fun h => ?_, fun h => ?_, (by repeat' (first | (with_reducible exact Below.refl _ _) | (with_reducible assumption) | (with_reducible refine below_alloc ?_ _ ?_) | (with_reducible refine below_set _ ?_ ?_) | (with_reducible refine Below.drew ?_) | (with_reducible refine below_dN ?_ _) | (apply below_thenA; assumption) | omega | (simp; done) | (simp; omega) | (simp [*]; done)))⟩
    all_goals unfold WFit at h
    all_goals first
      | (exfalso; omega)
      | (refine ret_wb ?_ ?_ <;> omega)

theorem mul64_int (x y : Int) (hx0 : 0 ≤ x) (hx : x < 18446744073709551616) (hy0 : 0 ≤ y) (hy : y < 18446744073709551616) (w : World) :
    Calls Try.prog 96 #[.int .u64 x, .int .u64 y] w fun e w' => e = .returned (.tuple #[.int .u64 (x * y / 18446744073709551616), .int .u64 (x * y % 18446744073709551616)]) ∧ w = w' := by
  obtain ⟨x, rfl⟩ := Int.eq_ofNat_of_zero_le hx0
  obtain ⟨y, rfl⟩ := Int.eq_ofNat_of_zero_le hy0
  simpa using mul64_any x y (by omega) (by omega) w
theorem mul_bound (a b : Int) (a1 : -9223372036854775808 ≤ a) (a2 : a ≤ 9223372036854775807) (b1 : -9223372036854775808 ≤ b) (b2 : b ≤ 9223372036854775807) :
    -85070591730234615865843651857942052864 ≤ a * b ∧ a * b ≤ 85070591730234615865843651857942052864 := by
  have h := Nat.mul_le_mul (show a.natAbs ≤ 9223372036854775808 by omega) (show b.natAbs ≤ 9223372036854775808 by omega)
  rw [← Int.natAbs_mul] at h
  omega
theorem wrap_pos {n : Int} (h : 0 ≤ n) (h2 : n ≤ 9223372036854775807) : IntKind.u64.wrap n = n := by rw [IntKind.wrap_u64]; omega
theorem wrap_neg {n : Int} (h : n < 0) (h2 : -9223372036854775808 ≤ n) : IntKind.u64.wrap n = n + 18446744073709551616 := by rw [IntKind.wrap_u64]; omega
theorem u64lt (n : Int) : IntKind.u64.wrap n < 18446744073709551616 := by rw [IntKind.wrap_u64]; omega

set_option maxRecDepth 100000 in
set_option maxHeartbeats 400000 in
theorem wide_mul (a b : Int) (a1 : -9223372036854775808 ≤ a) (a2 : a ≤ 9223372036854775807) (b1 : -9223372036854775808 ≤ b) (b2 : b ≤ 9223372036854775807) (w : World) :
    Calls Try.prog 25 #[.int .i64 a, .int .i64 b] w fun e w' => e = .returned (.agg #[.int .i64 ((a * b) / 18446744073709551616), .int .u64 ((a * b) % 18446744073709551616)]) ∧ Below w.heap.size w w' := by
  by_cases ha : a < 0 <;> by_cases hb : b < 0
  all_goals
    go_enter Try.func25, Try.ntmps25
    go_wp2_with (go_at_call 96; refine (mul64_int _ _ (by first | omega | exact u64n _) (by first | omega | exact u64lt _) (by first | omega | exact u64n _) (by first | omega | exact u64lt _) _).mono ?_; rintro e w' ⟨rfl, rfl⟩)
    simp [bodyPost, results, Try.results25, go_sem]
    go_light
    have hm := mul_bound a b a1 a2 b1 b2
    refine ⟨?_, (by repeat' (first | (with_reducible exact Below.refl _ _) | (with_reducible assumption) | (with_reducible refine below_alloc ?_ _ ?_) | (with_reducible refine below_set _ ?_ ?_) | (with_reducible refine Below.drew ?_) | (with_reducible refine below_dN ?_ _) | (apply below_thenA; assumption) | omega | (simp; done) | (simp; omega) | (simp [*]; done)))⟩
    try rw [wrap_neg ha a1]
    try rw [wrap_neg hb b1]
    simp only [IntKind.wrap_u64, wrap64, Int.add_mul, Int.mul_add]
    generalize a * b = p at *
    omega
end Go.Proofs.Ythffphcgkmjhbaa
