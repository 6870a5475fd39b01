/-
  The reference's whole numbers, each function by its contract. Eighth part: Of, Cmp.
-/
import Derived.Test.YthffphcgkmjhbaaBigG
namespace Go.Proofs.Ythffphcgkmjhbaa
open Go.RowKit
set_option linter.unusedSimpArgs false
set_option linter.unusedVariables false

theorem IsBig.le {w : World} {neg : Bool} {ao : Option Addr} {k cap : Nat} {n : Int} (h : IsBig w neg ao k cap n) {K : Nat} (hs : BM.Sz n K) : k ≤ K := by
  obtain ⟨ds, h1, h2, h3, rfl⟩ := h
  rw [← h1.len]
  refine h2.len ?_
  have : (sgn neg (BM.bval ds)).natAbs = BM.bval ds := by cases neg <;> simp [sgn]
  unfold BM.Sz at hs
  omega
theorem IsBig.flip {w : World} {neg : Bool} {ao : Option Addr} {k cap : Nat} {n : Int} (h : IsBig w neg ao k cap n) (hn : 0 < n) : IsBig w true ao k cap (-n) := by
  obtain ⟨ds, h1, h2, h3, rfl⟩ := h
  refine ⟨ds, h1, h2, fun _ e => ?_, ?_⟩
  · subst e; cases neg <;> simp [sgn, BM.bval] at hn
  · cases neg <;> simp [sgn] at hn ⊢
    omega

set_option maxRecDepth 100000 in
set_option maxHeartbeats 1600000 in
theorem big_of_pos (n : Nat) (hn : (n : Int) ≤ 9223372036854775807) (w : World) :
    Calls Try.prog 27 #[.int .i64 (((n : Nat) : Int))] w (BigRet n w) := by
  have h0 : (0 : Int) ≤ (n : Int) := by omega
  go_enter Try.func27, Try.ntmps27
  go_wp2_with fail
  refine (big_ofu n (by omega) _).mono ?_
  rintro e w1 ⟨n1, a1, k1, c1, rfl, hI1, hb1⟩
  obtain ⟨hc1, hf1⟩ := bcell hb1
  have hz1 := bz1 (n := w.heap.size) hb1 (by simp)
  go_wp2_with fail
  (go_light; simp [bodyPost, results, Try.results27, go_sem, *])
  exact ⟨n1, a1, k1, c1, rfl, IsBig.keeps hI1 (by repeat' (first | (with_reducible exact Keeps.refl _) | (with_reducible refine Keeps.alloc ?_ _) | (with_reducible refine Keeps.drew ?_) | (with_reducible refine Keeps.drewN ?_ _) | (with_reducible refine Keeps.set ?_ _ _ (T := 29) ?_ (by decide)) | (with_reducible exact TyAt.new _ _ _ _ (by simp)) | (with_reducible refine TyAt.set ?_ _ _) | (with_reducible refine TyAt.alloc ?_ _) | (with_reducible refine TyAt.drew ?_) | (with_reducible refine TyAt.drewN ?_ _) | (apply Keeps.below; assumption) | (exact Two.ty (by assumption)) | (apply TyAt.below; rotate_left; assumption))), (by repeat' (first | (with_reducible exact Below.refl _ _) | (with_reducible assumption) | (with_reducible refine below_alloc ?_ _ ?_) | (with_reducible refine below_set _ ?_ ?_) | (with_reducible refine Below.drew ?_) | (with_reducible refine below_dN ?_ _) | (apply below_thenA; assumption) | omega | (simp; done) | (simp; omega) | (simp [*]; done)))⟩
set_option maxRecDepth 100000 in
set_option maxHeartbeats 1600000 in
theorem big_of_neg (n : Int) (hn : 0 ≤ n) (hn2 : n ≤ 9223372036854775807) (w : World) :
    Calls Try.prog 27 #[.int .i64 (-n - 1)] w (BigRet (-n - 1) w) := by
  have h0 : ¬ (0 : Int) ≤ -n - 1 := by omega
  have e1 : -n - 1 + 1 = -n := by omega
  obtain ⟨m, rfl⟩ := Int.eq_ofNat_of_zero_le hn
  go_enter Try.func27, Try.ntmps27
  go_wp2_with fail
  refine (big_ofu m (by omega) _).mono ?_
  rintro e w1 ⟨n1, a1, k1, c1, rfl, hI1, hb1⟩
  obtain ⟨hc1, hf1⟩ := bcell hb1
  have hz1 := bz1 (n := w.heap.size) hb1 (by simp)
  go_wp2_with fail
  refine (big_ofu 1 (by omega) _).mono ?_
  rintro e w2 ⟨n2, a2, k2, c2, rfl, hI2, hb2⟩
  obtain ⟨hc2, hf2⟩ := bcell hb2
  have hz2 := bz1 (n := w.heap.size) hb2 (by omega)
  go_wp2_with fail
  have s1 := hI1.le (BM.Sz.u64 (by omega) (by omega))
  have s2 := hI2.le (BM.Sz.u64 (by omega) (by omega))
  refine (big_plus n1 n2 a1 a2 k1 k2 c1 c2 _ _ _ (hI1.keep hb2) hI2 (by omega) (by omega)).mono ?_
  rintro e w3 ⟨n3, a3, k3, c3, rfl, hI3, hb3⟩
  obtain ⟨hc3, hf3⟩ := bcell hb3
  have hz3 := bz1 (n := w.heap.size) hb3 (by omega)
  have hI := hI3.flip (by omega)
  rw [show -((m : Int) + ((1 : Nat) : Int)) = -(m : Int) - 1 by omega] at hI
  go_wp2_with fail
  (go_light; simp [bodyPost, results, Try.results27, go_sem, *])
  exact ⟨true, a3, k3, c3, rfl, IsBig.keeps hI (by repeat' (first | (with_reducible exact Keeps.refl _) | (with_reducible refine Keeps.alloc ?_ _) | (with_reducible refine Keeps.drew ?_) | (with_reducible refine Keeps.drewN ?_ _) | (with_reducible refine Keeps.set ?_ _ _ (T := 29) ?_ (by decide)) | (with_reducible exact TyAt.new _ _ _ _ (by simp)) | (with_reducible refine TyAt.set ?_ _ _) | (with_reducible refine TyAt.alloc ?_ _) | (with_reducible refine TyAt.drew ?_) | (with_reducible refine TyAt.drewN ?_ _) | (apply Keeps.below; assumption) | (exact Two.ty (by assumption)) | (apply TyAt.below; rotate_left; assumption))), (by repeat' (first | (with_reducible exact Below.refl _ _) | (with_reducible assumption) | (with_reducible refine below_alloc ?_ _ ?_) | (with_reducible refine below_set _ ?_ ?_) | (with_reducible refine Below.drew ?_) | (with_reducible refine below_dN ?_ _) | (apply below_thenA; assumption) | omega | (simp; done) | (simp; omega) | (simp [*]; done)))⟩
/-- Of an int. -/
theorem big_of (n : Int) (h1 : -9223372036854775808 ≤ n) (h2 : n ≤ 9223372036854775807) (w : World) :
    Calls Try.prog 27 #[.int .i64 n] w (BigRet n w) := by
  rcases (by omega : 0 ≤ n ∨ n < 0) with h | h
  · obtain ⟨m, rfl⟩ := Int.eq_ofNat_of_zero_le h
    exact big_of_pos m h2 w
  · have := big_of_neg (-n - 1) (by omega) (by omega) w
    rwa [show -(-n - 1) - 1 = n by omega] at this
end Go.Proofs.Ythffphcgkmjhbaa
