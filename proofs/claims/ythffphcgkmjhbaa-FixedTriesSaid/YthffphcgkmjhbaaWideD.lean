/-
  The functions of package wide, each by its contract: Div and MulDiv.
-/
import Derived.Test.YthffphcgkmjhbaaDiv
namespace Go.Proofs.Ythffphcgkmjhbaa
open Go.RowKit
set_option linter.unusedSimpArgs false
set_option linter.unusedVariables false

/-- The quotient rounded down, and the rest. -/
def fq (a d : Int) : Int := if d < 0 then (-a) / (-d) else a / d
def fr (a d : Int) : Int := a - fq a d * d
theorem fr_pos {a d : Int} (h : 0 < d) : fr a d = a % d := by
  have := Int.mul_ediv_add_emod a d
  unfold fr fq
  rw [if_neg (by omega), Int.mul_comm]
  omega
theorem fr_neg {a d : Int} (h : d < 0) : fr a d = -((-a) % (-d)) := by
  have := Int.mul_ediv_add_emod (-a) (-d)
  unfold fr fq
  rw [if_pos h, Int.mul_comm]
  rw [Int.neg_mul] at this
  omega
theorem absI_div {a d : Int} (hd : d ≠ 0) : fq a d * absI d + (absI a / absI d) * absI d = fq a d * absI d + (absI a / absI d) * absI d := rfl
/-- By size: of one sign the quotient of sizes, else it with the other sign, and one less where there is a rest. -/
theorem fq_size {a d : Int} (hd : d ≠ 0) :
    ((a < 0 ↔ d < 0) → fq a d = absI a / absI d ∧ fr a d = if d < 0 then -(absI a % absI d) else absI a % absI d) ∧
    (¬ (a < 0 ↔ d < 0) → absI a % absI d = 0 → fq a d = -(absI a / absI d) ∧ fr a d = 0) ∧
    (¬ (a < 0 ↔ d < 0) → 0 < absI a % absI d → fq a d = -(absI a / absI d + 1) ∧ fr a d = if d < 0 then -(absI d - absI a % absI d) else absI d - absI a % absI d) := by
  have div_of : ∀ x y q : Int, 0 < y → q * y ≤ x → x < q * y + y → x / y = q := by
    intro x y q hy h1 h2
    refine Int.le_antisymm (Int.le_of_lt_add_one (Int.ediv_lt_of_lt_mul hy ?_)) ((Int.le_ediv_iff_mul_le hy).2 h1)
    rw [Int.add_mul]; omega
  have key : ∀ x y : Int, 0 < y → x / y * y + x % y = x ∧ 0 ≤ x % y ∧ x % y < y := fun x y h =>
    ⟨by have := Int.mul_ediv_add_emod x y; rw [Int.mul_comm] at this; exact this, Int.emod_nonneg _ (by omega), Int.emod_lt_of_pos _ h⟩
  rcases Int.lt_or_lt_of_ne hd with hn | hp
  · have ed : absI d = -d := by unfold absI; omega
    unfold fr fq
    rw [if_pos hn, ed]
    rcases Int.lt_or_le a 0 with ha | ha
    · have ea : absI a = -a := by unfold absI; omega
      rw [ea, if_pos hn]
      obtain ⟨k1, k2, k3⟩ := key (-a) (-d) (by omega)
      rw [Int.mul_neg] at k1
      exact ⟨fun _ => ⟨rfl, by omega⟩, fun h => absurd ⟨fun _ => hn, fun _ => ha⟩ h, fun h => absurd ⟨fun _ => hn, fun _ => ha⟩ h⟩
    · have ea : absI a = a := by unfold absI; omega
      rw [ea, if_pos hn]
      obtain ⟨k1, k2, k3⟩ := key a (-d) (by omega)
      rw [Int.mul_neg] at k1
      refine ⟨fun h => absurd (h.2 hn) (by omega), fun _ hz => ?_, fun _ hz => ?_⟩
      · rw [div_of (-a) (-d) (-(a / -d)) (by omega) (by rw [Int.neg_mul_neg]; omega) (by rw [Int.neg_mul_neg]; omega)]
        exact ⟨rfl, by rw [Int.neg_mul]; omega⟩
      · rw [div_of (-a) (-d) (-(a / -d + 1)) (by omega) (by rw [Int.neg_mul_neg, Int.add_mul]; omega) (by rw [Int.neg_mul_neg, Int.add_mul]; omega)]
        exact ⟨rfl, by rw [Int.neg_mul, Int.add_mul]; omega⟩
  · have ed : absI d = d := by unfold absI; omega
    have nn : ¬ d < 0 := by omega
    unfold fr fq
    rw [if_neg nn, if_neg nn, if_neg nn, ed]
    rcases Int.lt_or_le a 0 with ha | ha
    · have ea : absI a = -a := by unfold absI; omega
      rw [ea]
      obtain ⟨k1, k2, k3⟩ := key (-a) d hp
      refine ⟨fun h => absurd (h.1 ha) nn, fun _ hz => ?_, fun _ hz => ?_⟩
      · rw [div_of a d (-(-a / d)) hp (by rw [Int.neg_mul]; omega) (by rw [Int.neg_mul]; omega)]
        exact ⟨rfl, by rw [Int.neg_mul]; omega⟩
      · rw [div_of a d (-(-a / d + 1)) hp (by rw [Int.neg_mul, Int.add_mul]; omega) (by rw [Int.neg_mul, Int.add_mul]; omega)]
        exact ⟨rfl, by rw [Int.neg_mul, Int.add_mul]; omega⟩
    · have ea : absI a = a := by unfold absI; omega
      rw [ea]
      obtain ⟨k1, k2, k3⟩ := key a d hp
      exact ⟨fun _ => ⟨rfl, by omega⟩, fun h => absurd ⟨fun h => absurd h (by omega), fun h => absurd h nn⟩ h, fun h => absurd ⟨fun h => absurd h (by omega), fun h => absurd h nn⟩ h⟩

theorem wide_turned_to (m hi lo : Int) (h1 : -9223372036854775808 ≤ hi) (h2 : hi ≤ 9223372036854775807) (h3 : 0 ≤ lo) (h4 : lo ≤ 18446744073709551615)
    (h : hi * 18446744073709551616 + lo = m ∨ hi * 18446744073709551616 + lo = m - 340282366920938463463374607431768211456) (hf : WFit (-m)) (w : World) :
    Calls Try.prog 103 #[.agg #[.int .i64 hi, .int .u64 lo]] w fun e w' => e = .returned (.agg #[.int .i64 ((-m) / 18446744073709551616), .int .u64 ((-m) % 18446744073709551616)]) ∧ Below w.heap.size w w' := by
  refine (wide_turned _ hi lo ⟨h1, h2, h3, h4, rfl⟩ w).mono ?_
  rintro e w' ⟨r1, r2, r3⟩
  unfold WFit at *
  refine ⟨?_, r3⟩
  rcases h with h | h
  · rw [h] at r1
    exact r1 hf
  · rw [r2 (by omega)]
    exact ret_w (by omega) (by omega)

/-- What Div answers. -/
def DZero : Ending := .returned (.tuple #[.agg #[.int .i64 0, .int .u64 0], .int .i64 0, .bool false])
def DAns (a d : Int) (B : Nat) (w : World) (e : Ending) (w' : World) : Prop :=
  (d = 0 → e = DZero) ∧ (d ≠ 0 → WFit (fq a d) → e = .returned (.tuple #[.agg #[.int .i64 ((fq a d) / 18446744073709551616), .int .u64 ((fq a d) % 18446744073709551616)], .int .i64 (fr a d), .bool true])) ∧ (d ≠ 0 → ¬ WFit (fq a d) → e = DZero) ∧ Below B w w'
theorem ret_wib {h l r h' l' r' : Int} {b : Bool} (e1 : h = h') (e2 : l = l') (e3 : r = r') : Ending.returned (.tuple #[.agg #[.int .i64 h, .int .u64 l], .int .i64 r, .bool b]) = .returned (.tuple #[.agg #[.int .i64 (h'), .int .u64 (l')], .int .i64 (r'), .bool b]) := by rw [e1, e2, e3]
-- WALK
set_option maxRecDepth 100000 in
set_option maxHeartbeats 1000000 in
theorem wide_div_walkR (a d hi lo : Int) (hA : Wd hi lo a) (d1 : -9223372036854775808 ≤ d) (d2 : d ≤ 9223372036854775807) (hd : d ≠ 0)
    (Ah Al D qh hm ql R : Int) (EA : absI a / 18446744073709551616 = Ah) (EB : absI a % 18446744073709551616 = Al) (ED : absI d % 18446744073709551616 = D)
    (E1 : Ah / D = qh) (E2 : Ah % D = hm) (E3 : (hm * 18446744073709551616 + Al) / D = ql) (E4 : (hm * 18446744073709551616 + Al) % D = R)
    (A0 : 0 ≤ Ah) (A1 : Ah ≤ 9223372036854775808) (L0 : 0 ≤ Al) (L1 : Al ≤ 18446744073709551615) (D0 : 1 ≤ D) (D1 : D ≤ 9223372036854775808)
    (q0 : 0 ≤ qh) (q1 : qh ≤ 9223372036854775808) (m0 : 0 ≤ hm) (m1 : hm < D) (l0 : 0 ≤ ql) (l1 : ql ≤ 18446744073709551615) (r0 : 0 ≤ R) (r1 : R < D)
    (HQ : Hid (absI a / absI d = qh * 18446744073709551616 + ql)) (HR : Hid (absI a % absI d = R)) (HD : Hid (absI d = D))
    (HS : Hid (R = 0 ∨ qh ≤ 4611686018427387904)) (HB : Hid (qh * 18446744073709551616 + ql ≤ 170141183460469231731687303715884105728)) (h3 : 0 < R) (w : World) :
    Calls Try.prog 32 #[.agg #[.int .i64 hi, .int .u64 lo], .int .i64 d] w (DAns a d w.heap.size w) := by
  obtain ⟨a1, a2, a3, a4, a5⟩ := id hA
  have A5 := Lib.hid a5
  clear a5
  have hD : Wd (d / 18446744073709551616) (d % 18446744073709551616) d := Wd.of (by unfold WFit; omega)
  have HA := Lib.hid hA
  have HDd := Lib.hid hD
  clear hA hD
  have dz : (d == 0) = false := by simpa using hd
  have A1 := add64_0 ql 1 l0 (by decide)
  have hq : qh ≤ 4611686018427387904 := by rcases HS.out with h | h <;> omega
  by_cases h1 : hi < 0 <;> by_cases h2 : d < 0
  all_goals
    go_enter Try.func32, Try.ntmps32
    go_wp2_with (first
      | (go_at_call 100; (with_reducible refine (wide_size a hi lo HA.out _).mono ?_); rintro e w' ⟨rfl, hb'⟩; obtain ⟨hc', hf'⟩ := bcell hb'; have hz' := bz2 (n := w.heap.size) hb' (by (try simp) <;> omega); have hs' := hb'.size; (try simp at hs'); (try (have hs2' := Nat.lt_of_succ_le hs')))
      | (go_at_call 100; (with_reducible refine (wide_size d _ _ HDd.out _).mono ?_); rintro e w' ⟨rfl, hb'⟩; obtain ⟨hc', hf'⟩ := bcell hb'; have hz' := bz2 (n := w.heap.size) hb' (by (try simp) <;> omega); have hs' := hb'.size; (try simp at hs'); (try (have hs2' := Nat.lt_of_succ_le hs')))
      | (go_at_call 31; (with_reducible refine (wide_of d d1 d2 _).mono ?_); rintro e w' ⟨rfl, hb'⟩; obtain ⟨hc', hf'⟩ := bcell hb'; have hz' := bz2 (n := w.heap.size) hb' (by (try simp) <;> omega); have hs' := hb'.size; (try simp at hs'); (try (have hs2' := Nat.lt_of_succ_le hs')))
      | (go_at_call 101; (with_reducible refine (div64_any hm Al D m0 m1 (by omega) L0 L1 _).mono ?_); rintro e w' ⟨rfl, hb'⟩; obtain ⟨hc', hf'⟩ := bcell hb'; have hz' := bz2 (n := w.heap.size) hb' (by (try simp) <;> omega); have hs' := hb'.size; (try simp at hs'); (try (have hs2' := Nat.lt_of_succ_le hs')))
      | (go_at_call 103; (with_reducible refine (wide_turned_to (qh * 18446744073709551616 + ql + 1) (qh + (ql + 1) / 18446744073709551616) ((ql + 1) % 18446744073709551616) (by omega) (by omega) (by omega) (by omega) (by omega) (by unfold WFit; omega) _).mono ?_); rintro e w' ⟨rfl, hb'⟩; obtain ⟨hc', hf'⟩ := bcell hb'; have hz' := bz2 (n := w.heap.size) hb' (by (try simp) <;> omega); have hs' := hb'.size; (try simp at hs'); (try (have hs2' := Nat.lt_of_succ_le hs'))))
    all_goals
      (go_light; simp [bodyPost, results, Try.results32, go_sem, *])
      go_light
      have a5 := A5.out
      have ed := HD.out
      have hB := HB.out
      obtain ⟨f1, f2, f3⟩ := fq_size (a := a) hd
      rw [HQ.out, HR.out] at f1 f2 f3
      rw [HD.out] at f3
      first | rw [if_pos (show d < 0 by omega)] at f1 f3 | rw [if_neg (show ¬ d < 0 by omega)] at f1 f3
      refine ⟨fun h => absurd h hd, fun _ h => ?_, fun _ h => ?_, (by repeat' (first | (with_reducible exact Below.refl _ _) | (with_reducible assumption) | (with_reducible refine below_alloc ?_ _ ?_) | (with_reducible refine below_set _ ?_ ?_) | (with_reducible refine Below.drew ?_) | (with_reducible refine below_dN ?_ _) | (apply below_thenA; assumption) | omega | (simp; done) | (simp; omega) | (simp [*]; done)))⟩
      all_goals
        unfold WFit at h
        by_cases hs : (a < 0 ↔ d < 0)
        · obtain ⟨e1, e2⟩ := f1 hs
          rw [e1] at h
          (try rw [e1]); (try rw [e2])
          first | done | (exfalso; omega) | (refine ret_wib ?_ ?_ ?_ <;> omega) | rfl
        · obtain ⟨e1, e2⟩ := f3 hs h3
          rw [e1] at h
          (try rw [e1]); (try rw [e2])
          first | done | (exfalso; omega) | (refine ret_wib ?_ ?_ ?_ <;> omega) | rfl

set_option maxRecDepth 100000 in
set_option maxHeartbeats 1000000 in
theorem wide_div_walk0 (a d hi lo : Int) (hA : Wd hi lo a) (d1 : -9223372036854775808 ≤ d) (d2 : d ≤ 9223372036854775807) (hd : d ≠ 0)
    (Ah Al D qh hm ql R : Int) (EA : absI a / 18446744073709551616 = Ah) (EB : absI a % 18446744073709551616 = Al) (ED : absI d % 18446744073709551616 = D)
    (E1 : Ah / D = qh) (E2 : Ah % D = hm) (E3 : (hm * 18446744073709551616 + Al) / D = ql) (E4 : (hm * 18446744073709551616 + Al) % D = R)
    (A0 : 0 ≤ Ah) (A1 : Ah ≤ 9223372036854775808) (L0 : 0 ≤ Al) (L1 : Al ≤ 18446744073709551615) (D0 : 1 ≤ D) (D1 : D ≤ 9223372036854775808)
    (q0 : 0 ≤ qh) (q1 : qh ≤ 9223372036854775808) (m0 : 0 ≤ hm) (m1 : hm < D) (l0 : 0 ≤ ql) (l1 : ql ≤ 18446744073709551615) (r0 : 0 ≤ R) (r1 : R < D)
    (HQ : Hid (absI a / absI d = qh * 18446744073709551616 + ql)) (HR : Hid (absI a % absI d = R)) (HD : Hid (absI d = D))
    (HS : Hid (R = 0 ∨ qh ≤ 4611686018427387904)) (HB : Hid (qh * 18446744073709551616 + ql ≤ 170141183460469231731687303715884105728)) (h3 : ¬ 0 < R) (w : World) :
    Calls Try.prog 32 #[.agg #[.int .i64 hi, .int .u64 lo], .int .i64 d] w (DAns a d w.heap.size w) := by
  obtain ⟨a1, a2, a3, a4, a5⟩ := id hA
  have A5 := Lib.hid a5
  clear a5
  have hD : Wd (d / 18446744073709551616) (d % 18446744073709551616) d := Wd.of (by unfold WFit; omega)
  have HA := Lib.hid hA
  have HDd := Lib.hid hD
  clear hA hD
  have dz : (d == 0) = false := by simpa using hd
  have A1 := add64_0 ql 1 l0 (by decide)
  have hR : R = 0 := by omega
  have HR0 := Lib.hid hR
  clear hR
  by_cases h1 : hi < 0 <;> by_cases h2 : d < 0
  all_goals
    go_enter Try.func32, Try.ntmps32
    go_wp2_with (first
      | (go_at_call 100; (with_reducible refine (wide_size a hi lo HA.out _).mono ?_); rintro e w' ⟨rfl, hb'⟩; obtain ⟨hc', hf'⟩ := bcell hb'; have hz' := bz2 (n := w.heap.size) hb' (by (try simp) <;> omega); have hs' := hb'.size; (try simp at hs'); (try (have hs2' := Nat.lt_of_succ_le hs')))
      | (go_at_call 100; (with_reducible refine (wide_size d _ _ HDd.out _).mono ?_); rintro e w' ⟨rfl, hb'⟩; obtain ⟨hc', hf'⟩ := bcell hb'; have hz' := bz2 (n := w.heap.size) hb' (by (try simp) <;> omega); have hs' := hb'.size; (try simp at hs'); (try (have hs2' := Nat.lt_of_succ_le hs')))
      | (go_at_call 31; (with_reducible refine (wide_of d d1 d2 _).mono ?_); rintro e w' ⟨rfl, hb'⟩; obtain ⟨hc', hf'⟩ := bcell hb'; have hz' := bz2 (n := w.heap.size) hb' (by (try simp) <;> omega); have hs' := hb'.size; (try simp at hs'); (try (have hs2' := Nat.lt_of_succ_le hs')))
      | (go_at_call 101; (with_reducible refine (div64_any hm Al D m0 m1 (by omega) L0 L1 _).mono ?_); rintro e w' ⟨rfl, hb'⟩; obtain ⟨hc', hf'⟩ := bcell hb'; have hz' := bz2 (n := w.heap.size) hb' (by (try simp) <;> omega); have hs' := hb'.size; (try simp at hs'); (try (have hs2' := Nat.lt_of_succ_le hs')))
      | (go_at_call 103; (with_reducible refine (wide_turned_to (qh * 18446744073709551616 + ql) (wrap64 qh) ql (by unfold wrap64; omega) (by unfold wrap64; omega) l0 l1 (by unfold wrap64; omega) (by have := HB.out; unfold WFit; omega) _).mono ?_); rintro e w' ⟨rfl, hb'⟩; obtain ⟨hc', hf'⟩ := bcell hb'; have hz' := bz2 (n := w.heap.size) hb' (by (try simp) <;> omega); have hs' := hb'.size; (try simp at hs'); (try (have hs2' := Nat.lt_of_succ_le hs'))))
    all_goals
      (go_light; simp [bodyPost, results, Try.results32, go_sem, *])
      go_light
      have a5 := A5.out
      have ed := HD.out
      have hB := HB.out
      obtain ⟨f1, f2, f3⟩ := fq_size (a := a) hd
      rw [HQ.out, HR.out] at f1 f2 f3
      rw [HD.out] at f3
      first | rw [if_pos (show d < 0 by omega)] at f1 f3 | rw [if_neg (show ¬ d < 0 by omega)] at f1 f3
      have hR := HR0.out
      unfold wrap64 at *
      refine ⟨fun h => absurd h hd, fun _ h => ?_, fun _ h => ?_, (by repeat' (first | (with_reducible exact Below.refl _ _) | (with_reducible assumption) | (with_reducible refine below_alloc ?_ _ ?_) | (with_reducible refine below_set _ ?_ ?_) | (with_reducible refine Below.drew ?_) | (with_reducible refine below_dN ?_ _) | (apply below_thenA; assumption) | omega | (simp; done) | (simp; omega) | (simp [*]; done)))⟩
      all_goals
        unfold WFit at h
        by_cases hs : (a < 0 ↔ d < 0)
        · obtain ⟨e1, e2⟩ := f1 hs
          rw [e1] at h
          (try rw [e1]); (try rw [e2])
          first | done | (exfalso; omega) | (refine ret_wib ?_ ?_ ?_ <;> omega) | rfl
        · obtain ⟨e1, e2⟩ := f2 hs hR
          rw [e1] at h
          (try rw [e1]); (try rw [e2])
          first | done | (exfalso; omega) | (refine ret_wib ?_ ?_ ?_ <;> omega) | rfl

theorem absI_split (a d : Int) (ha : WFit a) (d1 : -9223372036854775808 ≤ d) (d2 : d ≤ 9223372036854775807) (hd : d ≠ 0) :
    absI a / absI d = absI a / 18446744073709551616 / (absI d % 18446744073709551616) * 18446744073709551616 + (absI a / 18446744073709551616 % (absI d % 18446744073709551616) * 18446744073709551616 + absI a % 18446744073709551616) / (absI d % 18446744073709551616) ∧
    absI a % absI d = (absI a / 18446744073709551616 % (absI d % 18446744073709551616) * 18446744073709551616 + absI a % 18446744073709551616) % (absI d % 18446744073709551616) := by
  have ed : absI d % 18446744073709551616 = absI d := by unfold absI; omega
  have dp : 0 < absI d := by unfold absI; omega
  rw [ed]
  have e := Int.mul_ediv_add_emod (absI a) 18446744073709551616
  have f := Int.mul_ediv_add_emod (absI a / 18446744073709551616) (absI d)
  generalize absI a / 18446744073709551616 = h at *
  generalize absI a % 18446744073709551616 = l at *
  generalize h / absI d = q at *
  generalize h % absI d = m at *
  have e2 : absI a = m * 18446744073709551616 + l + absI d * (q * 18446744073709551616) := by
    rw [← Int.mul_assoc]; omega
  rw [e2, Int.add_mul_ediv_left _ _ (by omega), Int.add_mul_emod_self_left]
  exact ⟨by omega, rfl⟩

theorem wide_div (a d hi lo : Int) (hA : Wd hi lo a) (d1 : -9223372036854775808 ≤ d) (d2 : d ≤ 9223372036854775807) (w : World) :
    Calls Try.prog 32 #[.agg #[.int .i64 hi, .int .u64 lo], .int .i64 d] w (DAns a d w.heap.size w) := by
  by_cases hd : d = 0
  · have dz : (d == 0) = true := by simpa using hd
    go_enter Try.func32, Try.ntmps32
    go_wp2
    simp [bodyPost, results, Try.results32, go_sem]
    exact ⟨fun _ => rfl, fun h => absurd hd h, fun h => absurd hd h, (by repeat' (first | (with_reducible exact Below.refl _ _) | (with_reducible assumption) | (with_reducible refine below_alloc ?_ _ ?_) | (with_reducible refine below_set _ ?_ ?_) | (with_reducible refine Below.drew ?_) | (with_reducible refine below_dN ?_ _) | (apply below_thenA; assumption) | omega | (simp; done) | (simp; omega) | (simp [*]; done)))⟩
  · have hf := hA.fit
    have hfa := hf
    unfold WFit at hf
    obtain ⟨s1, s2⟩ := absI_split a d hfa d1 d2 hd
    have da : 1 ≤ absI d := by unfold absI; omega
    have db : absI d ≤ 9223372036854775808 := by unfold absI; omega
    have aa : 0 ≤ absI a := by unfold absI; omega
    have ab : absI a ≤ 170141183460469231731687303715884105728 := by unfold absI; omega
    have ed : absI d % 18446744073709551616 = absI d := by omega
    have kq := Int.ediv_nonneg (show 0 ≤ absI a / 18446744073709551616 by omega) (show 0 ≤ absI d by omega)
    have kq1 : absI a / 18446744073709551616 / absI d ≤ absI a / 18446744073709551616 := Int.ediv_le_self _ (by omega)
    have km := Int.emod_nonneg (absI a / 18446744073709551616) (show absI d ≠ 0 by omega)
    have km1 := Int.emod_lt_of_pos (absI a / 18446744073709551616) (show 0 < absI d by omega)
    have hle : absI a / absI d ≤ absI a := Int.ediv_le_self _ aa
    have hhalf : absI d = 1 ∨ absI a / 18446744073709551616 / absI d ≤ 4611686018427387904 := by
      rcases Int.lt_or_le 1 (absI d) with h | h
      · right
        have : absI a / 18446744073709551616 / absI d * 2 ≤ absI a / 18446744073709551616 / absI d * absI d := Int.mul_le_mul_of_nonneg_left (by omega) kq
        have := Int.ediv_mul_le (absI a / 18446744073709551616) (b := absI d) (by omega)
        omega
      · left; omega
    by_cases hR : 0 < absI a % absI d
    · rw [s2] at hR
      refine wide_div_walkR a d hi lo hA d1 d2 hd _ _ _ _ _ _ _ rfl rfl rfl rfl rfl rfl rfl ?_ ?_ ?_ ?_ ?_ ?_ ?_ ?_ ?_ ?_ ?_ ?_ ?_ ?_ s1 s2 ed.symm ?_ ?_ hR w
      all_goals (try rw [ed])
      · omega
      · omega
      · omega
      · omega
      · omega
      · omega
      · exact kq
      · omega
      · exact km
      · exact km1
      · exact Int.ediv_nonneg (by omega) (by omega)
      · exact Int.le_of_lt_add_one (Int.ediv_lt_of_lt_mul (by omega) (by
          have : absI a / 18446744073709551616 % absI d * 18446744073709551616 + 18446744073709551616 ≤ absI d * 18446744073709551616 := by
            have := Int.mul_le_mul_of_nonneg_right (show absI a / 18446744073709551616 % absI d + 1 ≤ absI d by omega) (show (0 : Int) ≤ 18446744073709551616 by decide)
            omega
          omega))
      · exact Int.emod_nonneg _ (by omega)
      · exact Int.emod_lt_of_pos _ (by omega)
      · show _ ∨ _
        rcases hhalf with h | h
        · left; rw [h]; exact Int.emod_one _
        · right; exact h
      · show _ ≤ _
        rw [ed] at s1
        rw [← s1]
        omega
    · rw [s2] at hR
      refine wide_div_walk0 a d hi lo hA d1 d2 hd _ _ _ _ _ _ _ rfl rfl rfl rfl rfl rfl rfl ?_ ?_ ?_ ?_ ?_ ?_ ?_ ?_ ?_ ?_ ?_ ?_ ?_ ?_ s1 s2 ed.symm ?_ ?_ hR w
      all_goals (try rw [ed])
      · omega
      · omega
      · omega
      · omega
      · omega
      · omega
      · exact kq
      · omega
      · exact km
      · exact km1
      · exact Int.ediv_nonneg (by omega) (by omega)
      · exact Int.le_of_lt_add_one (Int.ediv_lt_of_lt_mul (by omega) (by
          have : absI a / 18446744073709551616 % absI d * 18446744073709551616 + 18446744073709551616 ≤ absI d * 18446744073709551616 := by
            have := Int.mul_le_mul_of_nonneg_right (show absI a / 18446744073709551616 % absI d + 1 ≤ absI d by omega) (show (0 : Int) ≤ 18446744073709551616 by decide)
            omega
          omega))
      · exact Int.emod_nonneg _ (by omega)
      · exact Int.emod_lt_of_pos _ (by omega)
      · show _ ∨ _
        rcases hhalf with h | h
        · left; rw [h]; exact Int.emod_one _
        · right; exact h
      · show _ ≤ _
        rw [ed] at s1
        rw [← s1]
        omega
end Go.Proofs.Ythffphcgkmjhbaa
