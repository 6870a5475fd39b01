/-
  The functions of package ratio, each by its contract: Times.
-/
import Derived.Test.YthffphcgkmjhbaaRatF
namespace Go.Proofs.Ythffphcgkmjhbaa
open Go.RowKit
set_option linter.unusedSimpArgs false
set_option linter.unusedVariables false

theorem fit_low {n d : Int} (hn : IFit n) (hd : IFit d) (h1 : 1 ≤ d) : fitR n d := by
  have e1 := numR_le n d
  have e2 := denR_le n d
  have e3 := numR_pos n d h1
  have e4 : n.natAbs / Nat.gcd n.natAbs d.natAbs ≤ n.natAbs := Nat.div_le_self _ _
  obtain ⟨A, eA⟩ : ∃ A, n.natAbs / Nat.gcd n.natAbs d.natAbs = A := ⟨_, rfl⟩
  rw [eA] at e3 e4
  have e5 : 0 ≤ denR n d := by unfold denR; exact Int.natCast_nonneg _
  unfold fitR IFit at *
  refine ⟨?_, by omega⟩
  rw [e3]
  by_cases h : n < 0
  · rw [if_pos h]; omega
  · rw [if_neg h]; omega
/-- What Times answers for two good ratios: the product, if both its numbers are ints. -/
def TimesAns (p q : Int) (w : World) (e : Ending) (w' : World) : Prop :=
  (intB p = true ∧ intB q = true → e = .returned (.tuple #[.agg #[.int .i64 p, .int .i64 q], .int .i64 0])) ∧ (¬ (intB p = true ∧ intB q = true) → e = .returned (.tuple #[.agg #[.int .i64 0, .int .i64 0], .int .i64 2])) ∧ Below w.heap.size w w'
set_option maxRecDepth 100000 in
set_option maxHeartbeats 3200000 in
theorem rat_times_good (n1 d1 n2 d2 : Int) (hn1 : IFit n1) (hd1 : IFit d1) (hn2 : IFit n2) (hd2 : IFit d2) (g1 : goodB n1 d1 = true) (g2 : goodB n2 d2 = true) (w : World) :
    Calls Try.prog 94 #[.agg #[.int .i64 n1, .int .i64 d1], .agg #[.int .i64 n2, .int .i64 d2]] w (TimesAns (numR n1 d2 * numR n2 d1) (denR n1 d2 * denR n2 d1) w) := by
  have G1 := rat_good n1 d1 hn1 hd1
  have G2 := rat_good n2 d2 hn2 hd2
  rw [g1] at G1
  rw [g2] at G2
  have p1 : 1 ≤ d1 := by unfold goodB at g1; simp at g1; omega
  have p2 : 1 ≤ d2 := by unfold goodB at g2; simp at g2; omega
  have f1 := fit_low hn1 hd2 p2
  have f2 := fit_low hn2 hd1 p1
  have O1 := rat_of_yes n1 d2 _ _ hn1 hd2 (by omega) f1 rfl rfl
  have O2 := rat_of_yes n2 d1 _ _ hn2 hd1 (by omega) f2 rfl rfl
  unfold fitR at f1 f2
  obtain ⟨a, ea⟩ : ∃ x, numR n1 d2 = x := ⟨_, rfl⟩
  obtain ⟨b, eb⟩ : ∃ x, denR n1 d2 = x := ⟨_, rfl⟩
  obtain ⟨c, ec⟩ : ∃ x, numR n2 d1 = x := ⟨_, rfl⟩
  obtain ⟨d, ed⟩ : ∃ x, denR n2 d1 = x := ⟨_, rfl⟩
  rw [ea, eb] at O1 f1
  rw [ec, ed] at O2 f2
  rw [ea, eb, ec, ed]
  obtain ⟨fa, fb⟩ := f1
  obtain ⟨fc, fd⟩ := f2
  have W1 : Wd (a * c / 18446744073709551616) (a * c % 18446744073709551616) (a * c) := Wd.of (mul_wfit fa fc)
  have W2 : Wd (b * d / 18446744073709551616) (b * d % 18446744073709551616) (b * d) := Wd.of (mul_wfit fb fd)
  have M1 := wide_mul_at a c _ _ _ fa fc rfl rfl rfl
  have M2 := wide_mul_at b d _ _ _ fb fd rfl rfl rfl
  have I1 := wide_int_any _ _ _ W1
  have I2 := wide_int_any _ _ _ W2
  obtain ⟨P, eP⟩ : ∃ x, a * c = x := ⟨_, rfl⟩
  obtain ⟨Q, eQ⟩ : ∃ x, b * d = x := ⟨_, rfl⟩
  rw [eP] at M1 I1 ⊢
  rw [eQ] at M2 I2 ⊢
  obtain ⟨a1, ea1⟩ : ∃ x, P / 18446744073709551616 = x := ⟨_, rfl⟩
  obtain ⟨a2, ea2⟩ : ∃ x, P % 18446744073709551616 = x := ⟨_, rfl⟩
  obtain ⟨b1, eb1⟩ : ∃ x, Q / 18446744073709551616 = x := ⟨_, rfl⟩
  obtain ⟨b2, eb2⟩ : ∃ x, Q % 18446744073709551616 = x := ⟨_, rfl⟩
  rw [ea1, ea2] at M1 I1
  rw [eb1, eb2] at M2 I2
  have hv1 : intB P = true → intV P = P := fun h => by unfold intV; rw [h]; rfl
  have hv2 : intB Q = true → intV Q = Q := fun h => by unfold intV; rw [h]; rfl
  obtain ⟨v1, ev1⟩ : ∃ x, intV P = x := ⟨_, rfl⟩
  obtain ⟨v2, ev2⟩ : ∃ x, intV Q = x := ⟨_, rfl⟩
  rw [ev1] at I1 hv1
  rw [ev2] at I2 hv2
  have HV1 := Lib.hid hv1
  have HV2 := Lib.hid hv2
  have HA : Hid (∀ e w', (intB P = true ∧ intB Q = true → e = .returned (.tuple #[.agg #[.int .i64 P, .int .i64 Q], .int .i64 0])) → (¬ (intB P = true ∧ intB Q = true) → e = .returned (.tuple #[.agg #[.int .i64 0, .int .i64 0], .int .i64 2])) → Below w.heap.size w w' → TimesAns P Q w e w') := Lib.hid fun e w' x y z => ⟨x, y, z⟩
  obtain ⟨k1, ek1⟩ : ∃ x, intB P = x := ⟨_, rfl⟩
  obtain ⟨k2, ek2⟩ : ∃ x, intB Q = x := ⟨_, rfl⟩
  rw [ek1] at I1
  rw [ek2] at I2
  have EK1 := Lib.hid ek1
  have EK2 := Lib.hid ek2
  clear ea eb ec ed eP eQ ea1 ea2 eb1 eb2 ev1 ev2 ek1 ek2 hv1 hv2 W1 W2 g1 g2 hn1 hd1 hn2 hd2 fa fb fc fd p1 p2
  have t1 := (Blk.new w #[.int .i64 n1, .int .i64 d1] 57 _ rfl).alloc (.cells #[.int .i64 n2, .int .i64 d2] 57) |>.alloc (.cells #[.int .i64 0, .int .i64 0] 57)
  have t2 := (Blk.new (w.alloc (.cells #[.int .i64 n1, .int .i64 d1] 57)) #[.int .i64 n2, .int .i64 d2] 57 (w.heap.size + 1) (by simp)).alloc (.cells #[.int .i64 0, .int .i64 0] 57)
  have t4 := Blk.new ((w.alloc (.cells #[.int .i64 n1, .int .i64 d1] 57)).alloc (.cells #[.int .i64 n2, .int .i64 d2] 57)) #[.int .i64 0, .int .i64 0] 57 (w.heap.size + 1 + 1) (by simp)
  have hB : Below w.heap.size w (((w.alloc (.cells #[.int .i64 n1, .int .i64 d1] 57)).alloc (.cells #[.int .i64 n2, .int .i64 d2] 57)).alloc (.cells #[.int .i64 0, .int .i64 0] 57)) := (by repeat' (first | (with_reducible exact Below.refl _ _) | (with_reducible assumption) | (with_reducible refine below_alloc ?_ _ ?_) | (with_reducible refine below_set _ ?_ ?_) | (with_reducible refine Below.drew ?_) | (with_reducible refine below_dN ?_ _) | (apply below_thenA; assumption) | omega | (simp; done) | (simp; omega) | (simp [*]; done)))
  have c0 := t1.cell 0 _ rfl
  have c1 := t1.cell 1 _ rfl
  go_enter Try.func94, Try.ntmps94
  go_wp2_with fail
  refine (G1 _).mono ?_
  rintro e w1 ⟨rfl, hb1⟩
  replace hB := hB.trans (hb1.mono hB.size)
  replace t1 := t1.below hb1
  replace t2 := t2.below hb1
  replace t4 := t4.below hb1
  clear c0 c1 hb1 G1
  have c0 := t2.cell 0 _ rfl
  have c1 := t2.cell 1 _ rfl
  go_wp2_with fail
  refine (G2 _).mono ?_
  rintro e w2 ⟨rfl, hb2⟩
  replace hB := hB.trans (hb2.mono hB.size)
  replace t1 := t1.below hb2
  replace t2 := t2.below hb2
  replace t4 := t4.below hb2
  clear c0 c1 hb2 G2
  have c0 := t1.cell 0 _ rfl
  have c1 := t2.cell 1 _ rfl
  go_wp2_with fail
  refine (O1 _).mono ?_
  rintro e w3 ⟨rfl, hb3⟩
  have t6 := Blk.new w3 #[.int .i64 a, .int .i64 b] 57 _ rfl
  replace hB := hB.trans (hb3.mono hB.size)
  replace t1 := (t1.below hb3).alloc (.cells #[.int .i64 a, .int .i64 b] 57)
  replace t2 := (t2.below hb3).alloc (.cells #[.int .i64 a, .int .i64 b] 57)
  replace t4 := (t4.below hb3).alloc (.cells #[.int .i64 a, .int .i64 b] 57)
  replace hB := hB.alloc hB.size (.cells #[.int .i64 a, .int .i64 b] 57)
  clear c0 c1 hb3 O1
  have c0 := t2.cell 0 _ rfl
  have c1 := t1.cell 1 _ rfl
  go_wp2_with fail
  refine (O2 _).mono ?_
  rintro e w4 ⟨rfl, hb4⟩
  have t8 := Blk.new w4 #[.int .i64 c, .int .i64 d] 57 _ rfl
  replace hB := hB.trans (hb4.mono hB.size)
  replace t4 := (t4.below hb4).alloc (.cells #[.int .i64 c, .int .i64 d] 57)
  replace t6 := (t6.below hb4).alloc (.cells #[.int .i64 c, .int .i64 d] 57)
  replace hB := hB.alloc hB.size (.cells #[.int .i64 c, .int .i64 d] 57)
  clear c0 c1 hb4 O2 t1 t2
  have c0 := t6.cell 0 _ rfl
  have c1 := t8.cell 0 _ rfl
  go_wp2_with fail
  refine (M1 _).mono ?_
  rintro e w5 ⟨rfl, hb5⟩
  replace hB := hB.trans (hb5.mono hB.size)
  replace t4 := t4.below hb5
  replace t6 := t6.below hb5
  replace t8 := t8.below hb5
  clear c0 c1 hb5 M1
  go_wp2_with fail
  refine (I1 _).mono ?_
  rintro e w6 ⟨rfl, hb6⟩
  replace hB := hB.trans (hb6.mono hB.size)
  replace t4 := t4.below hb6
  replace t6 := t6.below hb6
  replace t8 := t8.below hb6
  clear hb6 I1
  have c0 := t6.cell 1 _ rfl
  have c1 := t8.cell 1 _ rfl
  go_wp2_with fail
  refine (M2 _).mono ?_
  rintro e w7 ⟨rfl, hb7⟩
  replace hB := hB.trans (hb7.mono hB.size)
  replace t4 := t4.below hb7
  clear c0 c1 hb7 M2 t6 t8
  go_wp2_with fail
  refine (I2 _).mono ?_
  rintro e w8 ⟨rfl, hb8⟩
  replace hB := hB.trans (hb8.mono hB.size)
  replace t4 := t4.below hb8
  clear hb8 I2
  have c0 := t4.cell 0 _ rfl
  have c1 := t4.cell 1 _ rfl
  have c2 := t4.free 0
  have c3 := t4.free 1
  have hsz := hB.size
  cases k1
  · cases k2
    all_goals
      go_wp2_with fail
      (go_light; simp [bodyPost, results, Try.results94, go_sem, *])
      exact HA.out _ _ (fun h => by rw [EK1.out] at h; cases h.1) (fun _ => rfl) (by repeat' (first | (with_reducible exact Below.refl _ _) | (with_reducible assumption) | (with_reducible refine below_alloc ?_ _ ?_) | (with_reducible refine below_set _ ?_ ?_) | (with_reducible refine Below.drew ?_) | (with_reducible refine below_dN ?_ _) | (apply below_thenA; assumption) | omega | (simp; done) | (simp; omega) | (simp [*]; done)))
  · have e1 := HV1.out EK1.out
    subst e1
    cases k2
    · go_wp2_with fail
      (go_light; simp [bodyPost, results, Try.results94, go_sem, *])
      exact HA.out _ _ (fun h => by rw [EK2.out] at h; cases h.2) (fun _ => rfl) (by repeat' (first | (with_reducible exact Below.refl _ _) | (with_reducible assumption) | (with_reducible refine below_alloc ?_ _ ?_) | (with_reducible refine below_set _ ?_ ?_) | (with_reducible refine Below.drew ?_) | (with_reducible refine below_dN ?_ _) | (apply below_thenA; assumption) | omega | (simp; done) | (simp; omega) | (simp [*]; done)))
    · have e2 := HV2.out EK2.out
      subst e2
      go_wp2_with fail
      (go_light; simp [bodyPost, results, Try.results94, go_sem, *])
      exact HA.out _ _ (fun _ => rfl) (fun h => absurd ⟨EK1.out, EK2.out⟩ h) (by repeat' (first | (with_reducible exact Below.refl _ _) | (with_reducible assumption) | (with_reducible refine below_alloc ?_ _ ?_) | (with_reducible refine below_set _ ?_ ?_) | (with_reducible refine Below.drew ?_) | (with_reducible refine below_dN ?_ _) | (apply below_thenA; assumption) | omega | (simp; done) | (simp; omega) | (simp [*]; done)))
end Go.Proofs.Ythffphcgkmjhbaa
