/-
  The reference's whole numbers, each function by its contract. Eleventh part: OfWide, Fits.
-/
import Derived.Test.YthffphcgkmjhbaaBigJ
namespace Go.Proofs.Ythffphcgkmjhbaa
open Go.RowKit
set_option linter.unusedSimpArgs false
set_option linter.unusedVariables false

theorem big_ofu_int (n : Int) (h0 : 0 ≤ n) (hn : n < 18446744073709551616) (w : World) :
    Calls Try.prog 98 #[.int .u64 n] w (BigRet n w) := by
  obtain ⟨m, rfl⟩ := Int.eq_ofNat_of_zero_le h0
  exact big_ofu m (by omega) w
theorem big_power_lit (n : Nat) (m : Int) (em : m = (n : Int)) (hn : n ≤ 1000) (N : Int) (eN : N = ((2 ^ n : Nat) : Int)) (w : World) :
    Calls Try.prog 99 #[.int .i64 m] w (BigRet N w) := by
  subst em; exact big_power_at n hn N eN w

set_option maxRecDepth 100000 in
set_option maxHeartbeats 1600000 in
theorem big_ofwide (hi lo : Int) (h1 : -9223372036854775808 ≤ hi) (h2 : hi ≤ 9223372036854775807) (l0 : 0 ≤ lo) (l1 : lo < 18446744073709551616) (w : World) :
    Calls Try.prog 34 #[.int .i64 hi, .int .u64 lo] w (BigRet (hi * 18446744073709551616 + lo) w) := by
  go_enter Try.func34, Try.ntmps34
  go_wp2_with fail
  refine (big_of hi h1 h2 _).mono ?_
  rintro e w1 ⟨n1, a1, k1, c1, rfl, hI1, hb1⟩
  have t0 : Two w1 w.heap.size (.bool false) (.slice none 0 0) := (Two.new w _ _ _ rfl).below hb1
  have hq1 : Below w.heap.size w w1 := (by repeat' (first | (with_reducible exact Below.refl _ _) | (with_reducible assumption) | (with_reducible refine below_alloc ?_ _ ?_) | (with_reducible refine below_set _ ?_ ?_) | (with_reducible refine Below.drew ?_) | (with_reducible refine below_dN ?_ _) | (apply below_thenA; assumption) | omega | (simp; done) | (simp; omega) | (simp [*]; done)))
  go_wp2_with fail
  refine (big_power_lit 64 64 rfl (by omega) 18446744073709551616 (by decide) _).mono ?_
  rintro e w2 ⟨n2, a2, k2, c2, rfl, hI2, hb2⟩
  have t1 := t0.below hb2
  have hl1 := t0.lt
  have hq2 : Below w.heap.size w w2 := (by repeat' (first | (with_reducible exact Below.refl _ _) | (with_reducible assumption) | (with_reducible refine below_alloc ?_ _ ?_) | (with_reducible refine below_set _ ?_ ?_) | (with_reducible refine Below.drew ?_) | (with_reducible refine below_dN ?_ _) | (apply below_thenA; assumption) | omega | (simp; done) | (simp; omega) | (simp [*]; done)))
  go_wp2_with fail
  have s1 := BM.Sz.i64 h1 h2
  have s2 : BM.Sz 18446744073709551616 5 := by unfold BM.Sz; decide
  refine (big_times n1 n2 a1 a2 k1 k2 c1 c2 _ _ _ (hI1.keep hb2) hI2 (by have := hI1.le s1; omega) (by have := hI2.le s2; omega)).mono ?_
  rintro e w3 ⟨n3, a3, k3, c3, rfl, hI3, hb3⟩
  have t2 := t1.below hb3
  have hl2 := t1.lt
  have hq3 : Below w.heap.size w w3 := (by repeat' (first | (with_reducible exact Below.refl _ _) | (with_reducible assumption) | (with_reducible refine below_alloc ?_ _ ?_) | (with_reducible refine below_set _ ?_ ?_) | (with_reducible refine Below.drew ?_) | (with_reducible refine below_dN ?_ _) | (apply below_thenA; assumption) | omega | (simp; done) | (simp; omega) | (simp [*]; done)))
  go_wp2_with fail
  refine (big_ofu_int lo l0 l1 _).mono ?_
  rintro e w4 ⟨n4, a4, k4, c4, rfl, hI4, hb4⟩
  have t3 := t2.below hb4
  have hl3 := t2.lt
  have hq4 : Below w.heap.size w w4 := (by repeat' (first | (with_reducible exact Below.refl _ _) | (with_reducible assumption) | (with_reducible refine below_alloc ?_ _ ?_) | (with_reducible refine below_set _ ?_ ?_) | (with_reducible refine Below.drew ?_) | (with_reducible refine below_dN ?_ _) | (apply below_thenA; assumption) | omega | (simp; done) | (simp; omega) | (simp [*]; done)))
  go_wp2_with fail
  refine (big_plus n3 n4 a3 a4 k3 k4 c3 c4 _ _ _ (hI3.keep hb4) hI4 (by have := hI3.le (s1.mul s2); omega) (by have := hI4.le (BM.Sz.u64 l0 (by omega)); omega)).mono ?_
  rintro e w5 ⟨n5, a5, k5, c5, rfl, hI5, hb5⟩
  have t4 := t3.below hb5
  have hl4 := t3.lt
  have hl5 := t4.lt
  have hq5 : Below w.heap.size w w5 := (by repeat' (first | (with_reducible exact Below.refl _ _) | (with_reducible assumption) | (with_reducible refine below_alloc ?_ _ ?_) | (with_reducible refine below_set _ ?_ ?_) | (with_reducible refine Below.drew ?_) | (with_reducible refine below_dN ?_ _) | (apply below_thenA; assumption) | omega | (simp; done) | (simp; omega) | (simp [*]; done)))
  obtain ⟨p1, p2, p3, p4⟩ := t4.cells
  go_wp2_with fail
  (go_light; simp [bodyPost, results, Try.results34, go_sem, *])
  exact ⟨n5, a5, k5, c5, rfl, hI5.put t4 _ _, Below.put hq5 (Nat.le_refl _) _ _⟩
end Go.Proofs.Ythffphcgkmjhbaa
