/-
  The reference's whole numbers, each function by its contract. Ninth part: Cmp.
-/
import Derived.Test.YthffphcgkmjhbaaBigH
namespace Go.Proofs.Ythffphcgkmjhbaa
open Go.RowKit
set_option linter.unusedSimpArgs false
set_option linter.unusedVariables false

def cmpI (a b : Int) : Int := if a < b then -1 else if b < a then 1 else 0
theorem cmpI_pos (x y : Nat) : cmpI (sgn false x) (sgn false y) = cmpN x y := by
  simp only [cmpI, cmpN, sgn, Bool.false_eq_true, if_false]
  by_cases h : x < y
  · rw [if_pos h, if_pos (by omega)]
  · rw [if_neg h, if_neg (by omega)]
    by_cases h2 : y < x
    · rw [if_pos h2, if_pos (by omega)]
    · rw [if_neg h2, if_neg (by omega)]
theorem cmpI_neg (x y : Nat) : cmpI (sgn true x) (sgn true y) = cmpN y x := by
  simp only [cmpI, cmpN, sgn, if_true]
  by_cases h : y < x
  · rw [if_pos h, if_pos (by omega)]
  · rw [if_neg h, if_neg (by omega)]
    by_cases h2 : x < y
    · rw [if_pos h2, if_pos (by omega)]
    · rw [if_neg h2, if_neg (by omega)]
theorem cmpI_np {x : Nat} (y : Nat) (hx : x ≠ 0) : cmpI (sgn true x) (sgn false y) = -1 := by
  simp only [cmpI, sgn, if_true, Bool.false_eq_true, if_false]
  rw [if_pos (by omega)]
theorem cmpI_pn (x : Nat) {y : Nat} (hy : y ≠ 0) : cmpI (sgn false x) (sgn true y) = 1 := by
  simp only [cmpI, sgn, if_true, Bool.false_eq_true, if_false]
  rw [if_neg (by omega), if_pos (by omega)]

set_option maxRecDepth 100000 in
set_option maxHeartbeats 1600000 in
theorem big_cmp (na nb : Bool) (ax bx : Option Addr) (k m ca cb : Nat) (a b : Int) (w : World) (ha : IsBig w na ax k ca a) (hb : IsBig w nb bx m cb b) (hk : k ≤ 1000000) (hm : m ≤ 1000000) :
    Calls Try.prog 42 #[.agg #[.bool na, .slice ax k ca], .agg #[.bool nb, .slice bx m cb]] w fun e w' => e = .returned (.int .i64 (cmpI a b)) ∧ Below w.heap.size w w' := by
  obtain ⟨xs, hx, tx, nx, rfl⟩ := ha
  obtain ⟨ys, hy, ty, ny, rfl⟩ := hb
  have zx : na = true → BM.bval xs ≠ 0 := fun h e => nx h (tx.eq_nil e)
  have zy : nb = true → BM.bval ys ≠ 0 := fun h e => ny h (ty.eq_nil e)
  have hxW := hx.keep (w' := (w.alloc (.cells #[.bool na, .slice ax k ca] 29)).alloc (.cells #[.bool nb, .slice bx m cb] 29)) (by repeat' (first | (with_reducible exact Below.refl _ _) | (with_reducible assumption) | (with_reducible refine below_alloc ?_ _ ?_) | (with_reducible refine below_set _ ?_ ?_) | (with_reducible refine Below.drew ?_) | (with_reducible refine below_dN ?_ _) | (apply below_thenA; assumption) | omega | (simp; done) | (simp; omega) | (simp [*]; done)))
  have hyW := hy.keep (w' := (w.alloc (.cells #[.bool na, .slice ax k ca] 29)).alloc (.cells #[.bool nb, .slice bx m cb] 29)) (by repeat' (first | (with_reducible exact Below.refl _ _) | (with_reducible assumption) | (with_reducible refine below_alloc ?_ _ ?_) | (with_reducible refine below_set _ ?_ ?_) | (with_reducible refine Below.drew ?_) | (with_reducible refine below_dN ?_ _) | (apply below_thenA; assumption) | omega | (simp; done) | (simp; omega) | (simp [*]; done)))
  cases na
  · cases nb
    · rw [cmpI_pos]
      go_enter Try.func42, Try.ntmps42
      go_wp2_with fail
      refine (big_sizes ax bx k m ca cb xs ys _ hxW hyW tx ty (by omega) (by omega)).mono ?_
      rintro e w1 ⟨rfl, hb1⟩
      go_wp2_with fail
      (go_light; simp [bodyPost, results, Try.results42, go_sem, *])
      exact (by repeat' (first | (with_reducible exact Below.refl _ _) | (with_reducible assumption) | (with_reducible refine below_alloc ?_ _ ?_) | (with_reducible refine below_set _ ?_ ?_) | (with_reducible refine Below.drew ?_) | (with_reducible refine below_dN ?_ _) | (apply below_thenA; assumption) | omega | (simp; done) | (simp; omega) | (simp [*]; done)))
    · rw [cmpI_pn _ (zy rfl)]
      go_enter Try.func42, Try.ntmps42
      go_wp2_with fail
      (go_light; simp [bodyPost, results, Try.results42, go_sem, *])
      exact (by repeat' (first | (with_reducible exact Below.refl _ _) | (with_reducible assumption) | (with_reducible refine below_alloc ?_ _ ?_) | (with_reducible refine below_set _ ?_ ?_) | (with_reducible refine Below.drew ?_) | (with_reducible refine below_dN ?_ _) | (apply below_thenA; assumption) | omega | (simp; done) | (simp; omega) | (simp [*]; done)))
  · cases nb
    · rw [cmpI_np _ (zx rfl)]
      go_enter Try.func42, Try.ntmps42
      go_wp2_with fail
      (go_light; simp [bodyPost, results, Try.results42, go_sem, *])
      exact (by repeat' (first | (with_reducible exact Below.refl _ _) | (with_reducible assumption) | (with_reducible refine below_alloc ?_ _ ?_) | (with_reducible refine below_set _ ?_ ?_) | (with_reducible refine Below.drew ?_) | (with_reducible refine below_dN ?_ _) | (apply below_thenA; assumption) | omega | (simp; done) | (simp; omega) | (simp [*]; done)))
    · rw [cmpI_neg]
      go_enter Try.func42, Try.ntmps42
      go_wp2_with fail
      refine (big_sizes bx ax m k cb ca ys xs _ hyW hxW ty tx (by omega) (by omega)).mono ?_
      rintro e w1 ⟨rfl, hb1⟩
      go_wp2_with fail
      (go_light; simp [bodyPost, results, Try.results42, go_sem, *])
      exact (by repeat' (first | (with_reducible exact Below.refl _ _) | (with_reducible assumption) | (with_reducible refine below_alloc ?_ _ ?_) | (with_reducible refine below_set _ ?_ ?_) | (with_reducible refine Below.drew ?_) | (with_reducible refine below_dN ?_ _) | (apply below_thenA; assumption) | omega | (simp; done) | (simp; omega) | (simp [*]; done)))
end Go.Proofs.Ythffphcgkmjhbaa
