/-
  The reference's whole numbers, each function by its contract. Sixth part: Plus, all cases.
-/
import Derived.Test.YthffphcgkmjhbaaBigE
namespace Go.Proofs.Ythffphcgkmjhbaa
open Go.RowKit
set_option linter.unusedSimpArgs false
set_option linter.unusedVariables false

set_option maxRecDepth 100000 in
set_option maxHeartbeats 1600000 in
theorem big_plus_less (na nb : Bool) (hn : nb = !na) (ax bx : Option Addr) (k m ca cb : Nat) (xs ys : List Nat) (w : World) (hx : Pcs w ax k ca xs) (hy : Pcs w bx m cb ys) (tx : BM.Trim xs) (ty : BM.Trim ys) (hlt : BM.bval xs < BM.bval ys) (hk : k ≤ 100000) (hm : m ≤ 100000) :
    Calls Try.prog 39 #[.agg #[.bool na, .slice ax k ca], .agg #[.bool nb, .slice bx m cb]] w (BigRet (sgn na (BM.bval xs) + sgn nb (BM.bval ys)) w) := by
  have hbb : (na == nb) = false := by rw [hn]; cases na <;> rfl
  have hn2 : na = !nb := by rw [hn]; cases na <;> rfl
  have HN := Lib.hid hn2
  clear hn hn2
  have HLE := Lib.hid hlt
  have hcm : cmpN (BM.bval xs) (BM.bval ys) = -1 := cmpN_lt hlt
  clear hlt
  have tt0 : Two (((w.alloc (.cells #[.bool na, .slice ax k ca] 29)).alloc (.cells #[.bool nb, .slice bx m cb] 29)).alloc (.cells #[.bool false, .slice none 0 0] 29)) w.heap.size (.bool na) (.slice ax k ca) := ((Two.new _ _ _ _ rfl).alloc _).alloc _
  have tt1 : Two (((w.alloc (.cells #[.bool na, .slice ax k ca] 29)).alloc (.cells #[.bool nb, .slice bx m cb] 29)).alloc (.cells #[.bool false, .slice none 0 0] 29)) (w.heap.size + 1) (.bool nb) (.slice bx m cb) := (Two.new _ _ _ _ (by simp)).alloc _
  have tt2 : Two (((w.alloc (.cells #[.bool na, .slice ax k ca] 29)).alloc (.cells #[.bool nb, .slice bx m cb] 29)).alloc (.cells #[.bool false, .slice none 0 0] 29)) (w.heap.size + 1 + 1) (.bool false) (.slice none 0 0) := Two.new _ _ _ _ (by simp)
  have hxW := hx.keep (w' := ((w.alloc (.cells #[.bool na, .slice ax k ca] 29)).alloc (.cells #[.bool nb, .slice bx m cb] 29)).alloc (.cells #[.bool false, .slice none 0 0] 29)) (by repeat' (first | (with_reducible exact Below.refl _ _) | (with_reducible assumption) | (with_reducible refine below_alloc ?_ _ ?_) | (with_reducible refine below_set _ ?_ ?_) | (with_reducible refine Below.drew ?_) | (with_reducible refine below_dN ?_ _) | (apply below_thenA; assumption) | omega | (simp; done) | (simp; omega) | (simp [*]; done)))
  have hyW := hy.keep (w' := ((w.alloc (.cells #[.bool na, .slice ax k ca] 29)).alloc (.cells #[.bool nb, .slice bx m cb] 29)).alloc (.cells #[.bool false, .slice none 0 0] 29)) (by repeat' (first | (with_reducible exact Below.refl _ _) | (with_reducible assumption) | (with_reducible refine below_alloc ?_ _ ?_) | (with_reducible refine below_set _ ?_ ?_) | (with_reducible refine Below.drew ?_) | (with_reducible refine below_dN ?_ _) | (apply below_thenA; assumption) | omega | (simp; done) | (simp; omega) | (simp [*]; done)))
  go_enter Try.func39, Try.ntmps39
  go_wp2_with fail
  refine (big_sizes ax bx k m ca cb xs ys _ hxW hyW tx ty (by omega) (by omega)).mono ?_
  rintro e w1 ⟨rfl, hb1⟩
  have u0 := tt0.below hb1
  have u1 := tt1.below hb1
  have u2 := tt2.below hb1
  have hbw : Below w.heap.size w w1 := (by repeat' (first | (with_reducible exact Below.refl _ _) | (with_reducible assumption) | (with_reducible refine below_alloc ?_ _ ?_) | (with_reducible refine below_set _ ?_ ?_) | (with_reducible refine Below.drew ?_) | (with_reducible refine below_dN ?_ _) | (apply below_thenA; assumption) | omega | (simp; done) | (simp; omega) | (simp [*]; done)))
  clear tt0 tt1 tt2 hxW hyW hb1
  obtain ⟨p1, p2, p3, p4⟩ := u0.cells
  obtain ⟨p5, p6, p7, p8⟩ := u1.cells
  obtain ⟨p9, p10, p11, p12⟩ := u2.cells
  have l2 := u2.lt
  have hxW := hx.keep hbw
  have hyW := hy.keep hbw
  rw [hcm]
  go_wp2_with fail
  refine (big_plus_sub nb na HN.out bx ax m k cb ca ys xs _ hyW hxW ty tx (Nat.le_of_lt HLE.out) hm hk).mono ?_
  rintro e w2 ⟨neg1, ao1, k1, cap1, rfl, hI, hb1⟩
  rw [Int.add_comm] at hI
  obtain ⟨hc1, hf1⟩ := bcell hb1
  have hz1 := bz3 (n := w.heap.size) hb1 (by omega)
  go_wp2_with fail
  (go_light; simp [bodyPost, results, Try.results39, go_sem, *])
  exact ⟨neg1, ao1, k1, cap1, rfl, IsBig.keeps hI (by repeat' (first | (with_reducible exact Keeps.refl _) | (with_reducible refine Keeps.alloc ?_ _) | (with_reducible refine Keeps.drew ?_) | (with_reducible refine Keeps.drewN ?_ _) | (with_reducible refine Keeps.set ?_ _ _ (T := 29) ?_ (by decide)) | (with_reducible exact TyAt.new _ _ _ _ (by simp)) | (with_reducible refine TyAt.set ?_ _ _) | (with_reducible refine TyAt.alloc ?_ _) | (with_reducible refine TyAt.drew ?_) | (with_reducible refine TyAt.drewN ?_ _) | (apply Keeps.below; assumption) | (exact Two.ty (by assumption)) | (apply TyAt.below; rotate_left; assumption))), (by repeat' (first | (with_reducible exact Below.refl _ _) | (with_reducible assumption) | (with_reducible refine below_alloc ?_ _ ?_) | (with_reducible refine below_set _ ?_ ?_) | (with_reducible refine Below.drew ?_) | (with_reducible refine below_dN ?_ _) | (apply below_thenA; assumption) | omega | (simp; done) | (simp; omega) | (simp [*]; done)))⟩

/-- Plus adds. -/
theorem big_plus (na nb : Bool) (ax bx : Option Addr) (k m ca cb : Nat) (a b : Int) (w : World) (ha : IsBig w na ax k ca a) (hb : IsBig w nb bx m cb b) (hk : k ≤ 100000) (hm : m ≤ 100000) :
    Calls Try.prog 39 #[.agg #[.bool na, .slice ax k ca], .agg #[.bool nb, .slice bx m cb]] w (BigRet (a + b) w) := by
  by_cases h : na = nb
  · subst h
    exact big_plus_same na ax bx k m ca cb a b w ha hb hk hm
  · have hn : nb = !na := by cases na <;> cases nb <;> simp_all
    obtain ⟨xs, hx, tx, _, rfl⟩ := ha
    obtain ⟨ys, hy, ty, _, rfl⟩ := hb
    rcases Nat.lt_or_ge (BM.bval xs) (BM.bval ys) with h | h
    · exact big_plus_less na nb hn ax bx k m ca cb xs ys w hx hy tx ty h hk hm
    · exact big_plus_sub na nb hn ax bx k m ca cb xs ys w hx hy tx ty h hk hm
end Go.Proofs.Ythffphcgkmjhbaa
