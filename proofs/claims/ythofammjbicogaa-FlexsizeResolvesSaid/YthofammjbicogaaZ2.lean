/-
  The functions of package wide, each by its contract: Div and MulDiv.
-/
/-
  The functions of package wide, each by its contract: MulDiv; what the statements of layer 1 ask first.
-/
/-
  The functions of package fixed, each by its contract. First part: pixels, lengths, giving up.
-/
/-
  The functions of package fixed, each by its contract. Second part: Part, Px, Sub, Add, Try.
-/
/-
  The statements of layer 4 that name no reference. First part: what each begins with; FixedOrder.
-/
/-
  Plain facts on whole numbers that are kept as lists of pieces of 16 bits.
-/
/-
  The reference's whole numbers, each function by its contract. First part: how they lie in memory; trim.
-/
/-
  The reference's whole numbers, each function by its contract. Second part: sizes, Minus, OfU.
-/
import Derived.Test.YthofammjbicogaaZ1
import Derived.Recover
import Derived.WalkSmall
import Derived.Deep.LoopGhost
import Derived.Shelf.Abstract
import Derived.Deep.DeepCutAuto
import Derived.Deep.CutBlock
import Derived.Deep.CutRange
namespace Go.Proofs.Ythofammjbicogaa
open Go.RowKit
set_option linter.unusedSimpArgs false
set_option linter.unusedVariables false

/-- The quotient rounded down, and the rest. -/
def fq (a d : Int) : Int := if d < 0 then (-a) / (-d) else a / d
def fr (a d : Int) : Int := a - fq a d * d
theorem fr_pos {a d : Int} (h : 0 < d) : fr a d = a % d := by
  have := Int.mul_ediv_add_emod a d
  unfold fr fq
  rw [if_neg (by omega), Int.mul_comm]
  omega
theorem fr_neg {a d : Int} (h : d < 0) : fr a d = -((-a) % (-d)) := by
  have := Int.mul_ediv_add_emod (-a) (-d)
  unfold fr fq
  rw [if_pos h, Int.mul_comm]
  rw [Int.neg_mul] at this
  omega
theorem absI_div {a d : Int} (hd : d ≠ 0) : fq a d * absI d + (absI a / absI d) * absI d = fq a d * absI d + (absI a / absI d) * absI d := rfl
/-- By size: of one sign the quotient of sizes, else it with the other sign, and one less where there is a rest. -/
theorem fq_size {a d : Int} (hd : d ≠ 0) :
    ((a < 0 ↔ d < 0) → fq a d = absI a / absI d ∧ fr a d = if d < 0 then -(absI a % absI d) else absI a % absI d) ∧
    (¬ (a < 0 ↔ d < 0) → absI a % absI d = 0 → fq a d = -(absI a / absI d) ∧ fr a d = 0) ∧
    (¬ (a < 0 ↔ d < 0) → 0 < absI a % absI d → fq a d = -(absI a / absI d + 1) ∧ fr a d = if d < 0 then -(absI d - absI a % absI d) else absI d - absI a % absI d) := by
  have div_of : ∀ x y q : Int, 0 < y → q * y ≤ x → x < q * y + y → x / y = q := by
    intro x y q hy h1 h2
    refine Int.le_antisymm (Int.le_of_lt_add_one (Int.ediv_lt_of_lt_mul hy ?_)) ((Int.le_ediv_iff_mul_le hy).2 h1)
    rw [Int.add_mul]; omega
  have key : ∀ x y : Int, 0 < y → x / y * y + x % y = x ∧ 0 ≤ x % y ∧ x % y < y := fun x y h =>
    ⟨by have := Int.mul_ediv_add_emod x y; rw [Int.mul_comm] at this; exact this, Int.emod_nonneg _ (by omega), Int.emod_lt_of_pos _ h⟩
  rcases Int.lt_or_lt_of_ne hd with hn | hp
  · have ed : absI d = -d := by unfold absI; omega
    unfold fr fq
    rw [if_pos hn, ed]
    rcases Int.lt_or_le a 0 with ha | ha
    · have ea : absI a = -a := by unfold absI; omega
      rw [ea, if_pos hn]
      obtain ⟨k1, k2, k3⟩ := key (-a) (-d) (by omega)
      rw [Int.mul_neg] at k1
      exact ⟨fun _ => ⟨rfl, by omega⟩, fun h => absurd ⟨fun _ => hn, fun _ => ha⟩ h, fun h => absurd ⟨fun _ => hn, fun _ => ha⟩ h⟩
    · have ea : absI a = a := by unfold absI; omega
      rw [ea, if_pos hn]
      obtain ⟨k1, k2, k3⟩ := key a (-d) (by omega)
      rw [Int.mul_neg] at k1
      refine ⟨fun h => absurd (h.2 hn) (by omega), fun _ hz => ?_, fun _ hz => ?_⟩
      · rw [div_of (-a) (-d) (-(a / -d)) (by omega) (by rw [Int.neg_mul_neg]; omega) (by rw [Int.neg_mul_neg]; omega)]
        exact ⟨rfl, by rw [Int.neg_mul]; omega⟩
      · rw [div_of (-a) (-d) (-(a / -d + 1)) (by omega) (by rw [Int.neg_mul_neg, Int.add_mul]; omega) (by rw [Int.neg_mul_neg, Int.add_mul]; omega)]
        exact ⟨rfl, by rw [Int.neg_mul, Int.add_mul]; omega⟩
  · have ed : absI d = d := by unfold absI; omega
    have nn : ¬ d < 0 := by omega
    unfold fr fq
    rw [if_neg nn, if_neg nn, if_neg nn, ed]
    rcases Int.lt_or_le a 0 with ha | ha
    · have ea : absI a = -a := by unfold absI; omega
      rw [ea]
      obtain ⟨k1, k2, k3⟩ := key (-a) d hp
      refine ⟨fun h => absurd (h.1 ha) nn, fun _ hz => ?_, fun _ hz => ?_⟩
      · rw [div_of a d (-(-a / d)) hp (by rw [Int.neg_mul]; omega) (by rw [Int.neg_mul]; omega)]
        exact ⟨rfl, by rw [Int.neg_mul]; omega⟩
      · rw [div_of a d (-(-a / d + 1)) hp (by rw [Int.neg_mul, Int.add_mul]; omega) (by rw [Int.neg_mul, Int.add_mul]; omega)]
        exact ⟨rfl, by rw [Int.neg_mul, Int.add_mul]; omega⟩
    · have ea : absI a = a := by unfold absI; omega
      rw [ea]
      obtain ⟨k1, k2, k3⟩ := key a d hp
      exact ⟨fun _ => ⟨rfl, by omega⟩, fun h => absurd ⟨fun h => absurd h (by omega), fun h => absurd h nn⟩ h, fun h => absurd ⟨fun h => absurd h (by omega), fun h => absurd h nn⟩ h⟩

theorem wide_turned_to (m hi lo : Int) (h1 : -9223372036854775808 ≤ hi) (h2 : hi ≤ 9223372036854775807) (h3 : 0 ≤ lo) (h4 : lo ≤ 18446744073709551615)
    (h : hi * 18446744073709551616 + lo = m ∨ hi * 18446744073709551616 + lo = m - 340282366920938463463374607431768211456) (hf : WFit (-m)) (w : World) :
    Calls Try.prog 129 #[.agg #[.int .i64 hi, .int .u64 lo]] w fun e w' => e = .returned (.agg #[.int .i64 ((-m) / 18446744073709551616), .int .u64 ((-m) % 18446744073709551616)]) ∧ Below w.heap.size w w' := by
  refine (wide_turned _ hi lo ⟨h1, h2, h3, h4, rfl⟩ w).mono ?_
  rintro e w' ⟨r1, r2, r3⟩
  unfold WFit at *
  refine ⟨?_, r3⟩
  rcases h with h | h
  · rw [h] at r1
    exact r1 hf
  · rw [r2 (by omega)]
    exact ret_w (by omega) (by omega)

/-- What Div answers. -/
def DZero : Ending := .returned (.tuple #[.agg #[.int .i64 0, .int .u64 0], .int .i64 0, .bool false])
def DAns (a d : Int) (B : Nat) (w : World) (e : Ending) (w' : World) : Prop :=
  (d = 0 → e = DZero) ∧ (d ≠ 0 → WFit (fq a d) → e = .returned (.tuple #[.agg #[.int .i64 ((fq a d) / 18446744073709551616), .int .u64 ((fq a d) % 18446744073709551616)], .int .i64 (fr a d), .bool true])) ∧ (d ≠ 0 → ¬ WFit (fq a d) → e = DZero) ∧ Below B w w'
theorem ret_wib {h l r h' l' r' : Int} {b : Bool} (e1 : h = h') (e2 : l = l') (e3 : r = r') : Ending.returned (.tuple #[.agg #[.int .i64 h, .int .u64 l], .int .i64 r, .bool b]) = .returned (.tuple #[.agg #[.int .i64 (h'), .int .u64 (l')], .int .i64 (r'), .bool b]) := by rw [e1, e2, e3]
-- WALK
set_option maxRecDepth 100000 in
set_option maxHeartbeats 1000000 in
theorem wide_div_walkR (a d hi lo : Int) (hA : Wd hi lo a) (d1 : -9223372036854775808 ≤ d) (d2 : d ≤ 9223372036854775807) (hd : d ≠ 0)
    (Ah Al D qh hm ql R : Int) (EA : absI a / 18446744073709551616 = Ah) (EB : absI a % 18446744073709551616 = Al) (ED : absI d % 18446744073709551616 = D)
    (E1 : Ah / D = qh) (E2 : Ah % D = hm) (E3 : (hm * 18446744073709551616 + Al) / D = ql) (E4 : (hm * 18446744073709551616 + Al) % D = R)
    (A0 : 0 ≤ Ah) (A1 : Ah ≤ 9223372036854775808) (L0 : 0 ≤ Al) (L1 : Al ≤ 18446744073709551615) (D0 : 1 ≤ D) (D1 : D ≤ 9223372036854775808)
    (q0 : 0 ≤ qh) (q1 : qh ≤ 9223372036854775808) (m0 : 0 ≤ hm) (m1 : hm < D) (l0 : 0 ≤ ql) (l1 : ql ≤ 18446744073709551615) (r0 : 0 ≤ R) (r1 : R < D)
    (HQ : Hid (absI a / absI d = qh * 18446744073709551616 + ql)) (HR : Hid (absI a % absI d = R)) (HD : Hid (absI d = D))
    (HS : Hid (R = 0 ∨ qh ≤ 4611686018427387904)) (HB : Hid (qh * 18446744073709551616 + ql ≤ 170141183460469231731687303715884105728)) (h3 : 0 < R) (w : World) :
    Calls Try.prog 123 #[.agg #[.int .i64 hi, .int .u64 lo], .int .i64 d] w (DAns a d w.heap.size w) := by
  obtain ⟨a1, a2, a3, a4, a5⟩ := id hA
  have A5 := Lib.hid a5
  clear a5
  have hD : Wd (d / 18446744073709551616) (d % 18446744073709551616) d := Wd.of (by unfold WFit; omega)
  have HA := Lib.hid hA
  have HDd := Lib.hid hD
  clear hA hD
  have dz : (d == 0) = false := by simpa using hd
  have A1 := add64_0 ql 1 l0 (by decide)
  have hq : qh ≤ 4611686018427387904 := by rcases HS.out with h | h <;> omega
  by_cases h1 : hi < 0 <;> by_cases h2 : d < 0
  all_goals
    go_enter Try.func123, Try.ntmps123
    go_wp2_with (first
      | (go_at_call 125; (with_reducible refine (wide_size a hi lo HA.out _).mono ?_); rintro e w' ⟨rfl, hb'⟩; obtain ⟨hc', hf'⟩ := bcell hb'; have hz' := bz2 (n := w.heap.size) hb' (by (try simp) <;> omega); have hs' := hb'.size; (try simp at hs'); (try (have hs2' := Nat.lt_of_succ_le hs')))
      | (go_at_call 125; (with_reducible refine (wide_size d _ _ HDd.out _).mono ?_); rintro e w' ⟨rfl, hb'⟩; obtain ⟨hc', hf'⟩ := bcell hb'; have hz' := bz2 (n := w.heap.size) hb' (by (try simp) <;> omega); have hs' := hb'.size; (try simp at hs'); (try (have hs2' := Nat.lt_of_succ_le hs')))
      | (go_at_call 126; (with_reducible refine (wide_of d d1 d2 _).mono ?_); rintro e w' ⟨rfl, hb'⟩; obtain ⟨hc', hf'⟩ := bcell hb'; have hz' := bz2 (n := w.heap.size) hb' (by (try simp) <;> omega); have hs' := hb'.size; (try simp at hs'); (try (have hs2' := Nat.lt_of_succ_le hs')))
      | (go_at_call 127; (with_reducible refine (div64_any hm Al D m0 m1 (by omega) L0 L1 _).mono ?_); rintro e w' ⟨rfl, hb'⟩; obtain ⟨hc', hf'⟩ := bcell hb'; have hz' := bz2 (n := w.heap.size) hb' (by (try simp) <;> omega); have hs' := hb'.size; (try simp at hs'); (try (have hs2' := Nat.lt_of_succ_le hs')))
      | (go_at_call 129; (with_reducible refine (wide_turned_to (qh * 18446744073709551616 + ql + 1) (qh + (ql + 1) / 18446744073709551616) ((ql + 1) % 18446744073709551616) (by omega) (by omega) (by omega) (by omega) (by omega) (by unfold WFit; omega) _).mono ?_); rintro e w' ⟨rfl, hb'⟩; obtain ⟨hc', hf'⟩ := bcell hb'; have hz' := bz2 (n := w.heap.size) hb' (by (try simp) <;> omega); have hs' := hb'.size; (try simp at hs'); (try (have hs2' := Nat.lt_of_succ_le hs'))))
    all_goals
      (go_light; simp [bodyPost, results, Try.results123, go_sem, *])
      go_light
      have a5 := A5.out
      have ed := HD.out
      have hB := HB.out
      obtain ⟨f1, f2, f3⟩ := fq_size (a := a) hd
      rw [HQ.out, HR.out] at f1 f2 f3
      rw [HD.out] at f3
      first | rw [if_pos (show d < 0 by omega)] at f1 f3 | rw [if_neg (show ¬ d < 0 by omega)] at f1 f3
      refine ⟨fun h => absurd h hd, fun _ h => ?_, fun _ h => ?_, (by repeat' (first | (with_reducible exact Below.refl _ _) | (with_reducible assumption) | (with_reducible refine below_alloc ?_ _ ?_) | (with_reducible refine below_set _ ?_ ?_) | (with_reducible refine Below.drew ?_) | (with_reducible refine below_dN ?_ _) | (apply below_thenA; assumption) | omega | (simp; done) | (simp; omega) | (simp [*]; done)))⟩
      all_goals
        unfold WFit at h
        by_cases hs : (a < 0 ↔ d < 0)
        · obtain ⟨e1, e2⟩ := f1 hs
          rw [e1] at h
          (try rw [e1]); (try rw [e2])
          first | done | (exfalso; omega) | (refine ret_wib ?_ ?_ ?_ <;> omega) | rfl
        · obtain ⟨e1, e2⟩ := f3 hs h3
          rw [e1] at h
          (try rw [e1]); (try rw [e2])
          first | done | (exfalso; omega) | (refine ret_wib ?_ ?_ ?_ <;> omega) | rfl

set_option maxRecDepth 100000 in
set_option maxHeartbeats 1000000 in
theorem wide_div_walk0 (a d hi lo : Int) (hA : Wd hi lo a) (d1 : -9223372036854775808 ≤ d) (d2 : d ≤ 9223372036854775807) (hd : d ≠ 0)
    (Ah Al D qh hm ql R : Int) (EA : absI a / 18446744073709551616 = Ah) (EB : absI a % 18446744073709551616 = Al) (ED : absI d % 18446744073709551616 = D)
    (E1 : Ah / D = qh) (E2 : Ah % D = hm) (E3 : (hm * 18446744073709551616 + Al) / D = ql) (E4 : (hm * 18446744073709551616 + Al) % D = R)
    (A0 : 0 ≤ Ah) (A1 : Ah ≤ 9223372036854775808) (L0 : 0 ≤ Al) (L1 : Al ≤ 18446744073709551615) (D0 : 1 ≤ D) (D1 : D ≤ 9223372036854775808)
    (q0 : 0 ≤ qh) (q1 : qh ≤ 9223372036854775808) (m0 : 0 ≤ hm) (m1 : hm < D) (l0 : 0 ≤ ql) (l1 : ql ≤ 18446744073709551615) (r0 : 0 ≤ R) (r1 : R < D)
    (HQ : Hid (absI a / absI d = qh * 18446744073709551616 + ql)) (HR : Hid (absI a % absI d = R)) (HD : Hid (absI d = D))
    (HS : Hid (R = 0 ∨ qh ≤ 4611686018427387904)) (HB : Hid (qh * 18446744073709551616 + ql ≤ 170141183460469231731687303715884105728)) (h3 : ¬ 0 < R) (w : World) :
    Calls Try.prog 123 #[.agg #[.int .i64 hi, .int .u64 lo], .int .i64 d] w (DAns a d w.heap.size w) := by
  obtain ⟨a1, a2, a3, a4, a5⟩ := id hA
  have A5 := Lib.hid a5
  clear a5
  have hD : Wd (d / 18446744073709551616) (d % 18446744073709551616) d := Wd.of (by unfold WFit; omega)
  have HA := Lib.hid hA
  have HDd := Lib.hid hD
  clear hA hD
  have dz : (d == 0) = false := by simpa using hd
  have A1 := add64_0 ql 1 l0 (by decide)
  have hR : R = 0 := by omega
  have HR0 := Lib.hid hR
  clear hR
  by_cases h1 : hi < 0 <;> by_cases h2 : d < 0
  all_goals
    go_enter Try.func123, Try.ntmps123
    go_wp2_with (first
      | (go_at_call 125; (with_reducible refine (wide_size a hi lo HA.out _).mono ?_); rintro e w' ⟨rfl, hb'⟩; obtain ⟨hc', hf'⟩ := bcell hb'; have hz' := bz2 (n := w.heap.size) hb' (by (try simp) <;> omega); have hs' := hb'.size; (try simp at hs'); (try (have hs2' := Nat.lt_of_succ_le hs')))
      | (go_at_call 125; (with_reducible refine (wide_size d _ _ HDd.out _).mono ?_); rintro e w' ⟨rfl, hb'⟩; obtain ⟨hc', hf'⟩ := bcell hb'; have hz' := bz2 (n := w.heap.size) hb' (by (try simp) <;> omega); have hs' := hb'.size; (try simp at hs'); (try (have hs2' := Nat.lt_of_succ_le hs')))
      | (go_at_call 126; (with_reducible refine (wide_of d d1 d2 _).mono ?_); rintro e w' ⟨rfl, hb'⟩; obtain ⟨hc', hf'⟩ := bcell hb'; have hz' := bz2 (n := w.heap.size) hb' (by (try simp) <;> omega); have hs' := hb'.size; (try simp at hs'); (try (have hs2' := Nat.lt_of_succ_le hs')))
      | (go_at_call 127; (with_reducible refine (div64_any hm Al D m0 m1 (by omega) L0 L1 _).mono ?_); rintro e w' ⟨rfl, hb'⟩; obtain ⟨hc', hf'⟩ := bcell hb'; have hz' := bz2 (n := w.heap.size) hb' (by (try simp) <;> omega); have hs' := hb'.size; (try simp at hs'); (try (have hs2' := Nat.lt_of_succ_le hs')))
      | (go_at_call 129; (with_reducible refine (wide_turned_to (qh * 18446744073709551616 + ql) (wrap64 qh) ql (by unfold wrap64; omega) (by unfold wrap64; omega) l0 l1 (by unfold wrap64; omega) (by have := HB.out; unfold WFit; omega) _).mono ?_); rintro e w' ⟨rfl, hb'⟩; obtain ⟨hc', hf'⟩ := bcell hb'; have hz' := bz2 (n := w.heap.size) hb' (by (try simp) <;> omega); have hs' := hb'.size; (try simp at hs'); (try (have hs2' := Nat.lt_of_succ_le hs'))))
    all_goals
      (go_light; simp [bodyPost, results, Try.results123, go_sem, *])
      go_light
      have a5 := A5.out
      have ed := HD.out
      have hB := HB.out
      obtain ⟨f1, f2, f3⟩ := fq_size (a := a) hd
      rw [HQ.out, HR.out] at f1 f2 f3
      rw [HD.out] at f3
      first | rw [if_pos (show d < 0 by omega)] at f1 f3 | rw [if_neg (show ¬ d < 0 by omega)] at f1 f3
      have hR := HR0.out
      unfold wrap64 at *
      refine ⟨fun h => absurd h hd, fun _ h => ?_, fun _ h => ?_, (by repeat' (first | (with_reducible exact Below.refl _ _) | (with_reducible assumption) | (with_reducible refine below_alloc ?_ _ ?_) | (with_reducible refine below_set _ ?_ ?_) | (with_reducible refine Below.drew ?_) | (with_reducible refine below_dN ?_ _) | (apply below_thenA; assumption) | omega | (simp; done) | (simp; omega) | (simp [*]; done)))⟩
      all_goals
        unfold WFit at h
        by_cases hs : (a < 0 ↔ d < 0)
        · obtain ⟨e1, e2⟩ := f1 hs
          rw [e1] at h
          (try rw [e1]); (try rw [e2])
          first | done | (exfalso; omega) | (refine ret_wib ?_ ?_ ?_ <;> omega) | rfl
        · obtain ⟨e1, e2⟩ := f2 hs hR
          rw [e1] at h
          (try rw [e1]); (try rw [e2])
          first | done | (exfalso; omega) | (refine ret_wib ?_ ?_ ?_ <;> omega) | rfl

theorem absI_split (a d : Int) (ha : WFit a) (d1 : -9223372036854775808 ≤ d) (d2 : d ≤ 9223372036854775807) (hd : d ≠ 0) :
    absI a / absI d = absI a / 18446744073709551616 / (absI d % 18446744073709551616) * 18446744073709551616 + (absI a / 18446744073709551616 % (absI d % 18446744073709551616) * 18446744073709551616 + absI a % 18446744073709551616) / (absI d % 18446744073709551616) ∧
    absI a % absI d = (absI a / 18446744073709551616 % (absI d % 18446744073709551616) * 18446744073709551616 + absI a % 18446744073709551616) % (absI d % 18446744073709551616) := by
  have ed : absI d % 18446744073709551616 = absI d := by unfold absI; omega
  have dp : 0 < absI d := by unfold absI; omega
  rw [ed]
  have e := Int.mul_ediv_add_emod (absI a) 18446744073709551616
  have f := Int.mul_ediv_add_emod (absI a / 18446744073709551616) (absI d)
  generalize absI a / 18446744073709551616 = h at *
  generalize absI a % 18446744073709551616 = l at *
  generalize h / absI d = q at *
  generalize h % absI d = m at *
  have e2 : absI a = m * 18446744073709551616 + l + absI d * (q * 18446744073709551616) := by
    rw [← Int.mul_assoc]; omega
  rw [e2, Int.add_mul_ediv_left _ _ (by omega), Int.add_mul_emod_self_left]
  exact ⟨by omega, rfl⟩

theorem wide_div (a d hi lo : Int) (hA : Wd hi lo a) (d1 : -9223372036854775808 ≤ d) (d2 : d ≤ 9223372036854775807) (w : World) :
    Calls Try.prog 123 #[.agg #[.int .i64 hi, .int .u64 lo], .int .i64 d] w (DAns a d w.heap.size w) := by
  by_cases hd : d = 0
  · have dz : (d == 0) = true := by simpa using hd
    go_enter Try.func123, Try.ntmps123
    go_wp2
    simp [bodyPost, results, Try.results123, go_sem]
    exact ⟨fun _ => rfl, fun h => absurd hd h, fun h => absurd hd h, (by repeat' (first | (with_reducible exact Below.refl _ _) | (with_reducible assumption) | (with_reducible refine below_alloc ?_ _ ?_) | (with_reducible refine below_set _ ?_ ?_) | (with_reducible refine Below.drew ?_) | (with_reducible refine below_dN ?_ _) | (apply below_thenA; assumption) | omega | (simp; done) | (simp; omega) | (simp [*]; done)))⟩
  · have hf := hA.fit
    have hfa := hf
    unfold WFit at hf
    obtain ⟨s1, s2⟩ := absI_split a d hfa d1 d2 hd
    have da : 1 ≤ absI d := by unfold absI; omega
    have db : absI d ≤ 9223372036854775808 := by unfold absI; omega
    have aa : 0 ≤ absI a := by unfold absI; omega
    have ab : absI a ≤ 170141183460469231731687303715884105728 := by unfold absI; omega
    have ed : absI d % 18446744073709551616 = absI d := by omega
    have kq := Int.ediv_nonneg (show 0 ≤ absI a / 18446744073709551616 by omega) (show 0 ≤ absI d by omega)
    have kq1 : absI a / 18446744073709551616 / absI d ≤ absI a / 18446744073709551616 := Int.ediv_le_self _ (by omega)
    have km := Int.emod_nonneg (absI a / 18446744073709551616) (show absI d ≠ 0 by omega)
    have km1 := Int.emod_lt_of_pos (absI a / 18446744073709551616) (show 0 < absI d by omega)
    have hle : absI a / absI d ≤ absI a := Int.ediv_le_self _ aa
    have hhalf : absI d = 1 ∨ absI a / 18446744073709551616 / absI d ≤ 4611686018427387904 := by
      rcases Int.lt_or_le 1 (absI d) with h | h
      · right
        have : absI a / 18446744073709551616 / absI d * 2 ≤ absI a / 18446744073709551616 / absI d * absI d := Int.mul_le_mul_of_nonneg_left (by omega) kq
        have := Int.ediv_mul_le (absI a / 18446744073709551616) (b := absI d) (by omega)
        omega
      · left; omega
    by_cases hR : 0 < absI a % absI d
    · rw [s2] at hR
      refine wide_div_walkR a d hi lo hA d1 d2 hd _ _ _ _ _ _ _ rfl rfl rfl rfl rfl rfl rfl ?_ ?_ ?_ ?_ ?_ ?_ ?_ ?_ ?_ ?_ ?_ ?_ ?_ ?_ s1 s2 ed.symm ?_ ?_ hR w
      all_goals (try rw [ed])
      · omega
      · omega
      · omega
      · omega
      · omega
      · omega
      · exact kq
      · omega
      · exact km
      · exact km1
      · exact Int.ediv_nonneg (by omega) (by omega)
      · exact Int.le_of_lt_add_one (Int.ediv_lt_of_lt_mul (by omega) (by
          have : absI a / 18446744073709551616 % absI d * 18446744073709551616 + 18446744073709551616 ≤ absI d * 18446744073709551616 := by
            have := Int.mul_le_mul_of_nonneg_right (show absI a / 18446744073709551616 % absI d + 1 ≤ absI d by omega) (show (0 : Int) ≤ 18446744073709551616 by decide)
            omega
          omega))
      · exact Int.emod_nonneg _ (by omega)
      · exact Int.emod_lt_of_pos _ (by omega)
      · show _ ∨ _
        rcases hhalf with h | h
        · left; rw [h]; exact Int.emod_one _
        · right; exact h
      · show _ ≤ _
        rw [ed] at s1
        rw [← s1]
        omega
    · rw [s2] at hR
      refine wide_div_walk0 a d hi lo hA d1 d2 hd _ _ _ _ _ _ _ rfl rfl rfl rfl rfl rfl rfl ?_ ?_ ?_ ?_ ?_ ?_ ?_ ?_ ?_ ?_ ?_ ?_ ?_ ?_ s1 s2 ed.symm ?_ ?_ hR w
      all_goals (try rw [ed])
      · omega
      · omega
      · omega
      · omega
      · omega
      · omega
      · exact kq
      · omega
      · exact km
      · exact km1
      · exact Int.ediv_nonneg (by omega) (by omega)
      · exact Int.le_of_lt_add_one (Int.ediv_lt_of_lt_mul (by omega) (by
          have : absI a / 18446744073709551616 % absI d * 18446744073709551616 + 18446744073709551616 ≤ absI d * 18446744073709551616 := by
            have := Int.mul_le_mul_of_nonneg_right (show absI a / 18446744073709551616 % absI d + 1 ≤ absI d by omega) (show (0 : Int) ≤ 18446744073709551616 by decide)
            omega
          omega))
      · exact Int.emod_nonneg _ (by omega)
      · exact Int.emod_lt_of_pos _ (by omega)
      · show _ ∨ _
        rcases hhalf with h | h
        · left; rw [h]; exact Int.emod_one _
        · right; exact h
      · show _ ≤ _
        rw [ed] at s1
        rw [← s1]
        omega
end Go.Proofs.Ythofammjbicogaa
namespace Go.Proofs.Ythofammjbicogaa
open Go.RowKit
set_option linter.unusedSimpArgs false
set_option linter.unusedVariables false

theorem wide_div_some (a d hi lo : Int) (hA : Wd hi lo a) (d1 : -9223372036854775808 ≤ d) (d2 : d ≤ 9223372036854775807) (hd : d ≠ 0) (hf : WFit (fq a d)) (w : World) :
    Calls Try.prog 123 #[.agg #[.int .i64 hi, .int .u64 lo], .int .i64 d] w fun e w' => e = .returned (.tuple #[.agg #[.int .i64 ((fq a d) / 18446744073709551616), .int .u64 ((fq a d) % 18446744073709551616)], .int .i64 (fr a d), .bool true]) ∧ Below w.heap.size w w' :=
  (wide_div a d hi lo hA d1 d2 w).mono fun _ _ h => ⟨h.2.1 hd hf, h.2.2.2⟩
theorem wide_div_none (a d hi lo : Int) (hA : Wd hi lo a) (d1 : -9223372036854775808 ≤ d) (d2 : d ≤ 9223372036854775807) (hd : d = 0 ∨ ¬ WFit (fq a d)) (w : World) :
    Calls Try.prog 123 #[.agg #[.int .i64 hi, .int .u64 lo], .int .i64 d] w fun e w' => e = .returned (.tuple #[.agg #[.int .i64 0, .int .u64 0], .int .i64 0, .bool false]) ∧ Below w.heap.size w w' :=
  (wide_div a d hi lo hA d1 d2 w).mono fun _ _ h => ⟨by
    by_cases h0 : d = 0
    · exact h.1 h0
    · exact h.2.2.1 h0 (hd.resolve_left h0), h.2.2.2⟩
theorem fq_abs {a d : Int} (hd : d ≠ 0) : (fq a d).natAbs ≤ a.natAbs := by
  have h1 : ∀ x y : Int, 0 < y → (x / y).natAbs ≤ x.natAbs := by
    intro x y hy
    rcases Int.lt_or_le x 0 with hx | hx
    · have := (Int.le_ediv_iff_mul_le hy (a := x) (b := x)).2 (by
        have := Int.mul_le_mul_of_nonpos_left (a := x) (b := y) (c := 1) (by omega) (by omega)
        omega)
      have := Int.ediv_neg_of_neg_of_pos hx hy
      omega
    · have := Int.ediv_le_self y hx
      have := Int.ediv_nonneg hx (show 0 ≤ y by omega)
      omega
  unfold fq
  by_cases h : d < 0
  · rw [if_pos h]
    have := h1 (-a) (-d) (by omega)
    omega
  · rw [if_neg h]
    exact h1 a d (by omega)

/-- What MulDiv answers. -/
def MFit (a b c : Int) : Prop := c ≠ 0 ∧ IFit (fq (a * b) c)
theorem i64_fit {n : Int} (h : IFit n) : WFit n := by unfold IFit at h; unfold WFit; omega
theorem mul_fit {a b : Int} (ha : IFit a) (hb : IFit b) : WFit (a * b) := by
  have := mul_bound a b ha.1 ha.2 hb.1 hb.2
  unfold WFit; omega
theorem fq_fit {a b c : Int} (ha : IFit a) (hb : IFit b) (hc : c ≠ 0) : WFit (fq (a * b) c) := by
  have := mul_bound a b ha.1 ha.2 hb.1 hb.2
  have := fq_abs (a := a * b) hc
  unfold WFit; omega

set_option maxRecDepth 100000 in
set_option maxHeartbeats 400000 in
theorem wide_muldiv_fit (a b c : Int) (ha : IFit a) (hb : IFit b) (hc : IFit c) (h : MFit a b c) (w : World) :
    Calls Try.prog 120 #[.int .i64 a, .int .i64 b, .int .i64 c] w fun e w' => e = .returned (.tuple #[.int .i64 (fq (a * b) c), .bool true]) ∧ Below w.heap.size w w' := by
  have h0 := h.1
  have qI := h.2
  have mW := Wd.of (mul_fit ha hb)
  have qW := fq_fit ha hb h0
  have qWd := Wd.of qW
  obtain ⟨a1, a2⟩ := ha
  obtain ⟨b1, b2⟩ := hb
  obtain ⟨c1, c2⟩ := hc
  go_enter Try.func120, Try.ntmps120
  go_wp2_with (first
    | (go_at_call 121; (with_reducible refine (wide_mul a b a1 a2 b1 b2 _).mono ?_); rintro e w' ⟨rfl, hb'⟩; obtain ⟨hc', hf'⟩ := bcell hb'; have hz' := bz0 (n := w.heap.size) hb' (by (try simp) <;> omega); have hs' := hb'.size; (try simp at hs'); (try (have hs2' := Nat.lt_of_succ_le hs')))
    | (go_at_call 123; (with_reducible refine (wide_div_some (a * b) c _ _ mW c1 c2 h0 qW _).mono ?_); rintro e w' ⟨rfl, hb'⟩; obtain ⟨hc', hf'⟩ := bcell hb'; have hz' := bz0 (n := w.heap.size) hb' (by (try simp) <;> omega); have hs' := hb'.size; (try simp at hs'); (try (have hs2' := Nat.lt_of_succ_le hs')))
    | (go_at_call 122; (with_reducible refine (wide_int_fit (fq (a * b) c) _ _ qWd qI _).mono ?_); rintro e w' ⟨rfl, hb'⟩; obtain ⟨hc', hf'⟩ := bcell hb'; have hz' := bz0 (n := w.heap.size) hb' (by (try simp) <;> omega); have hs' := hb'.size; (try simp at hs'); (try (have hs2' := Nat.lt_of_succ_le hs'))))
  go_ret2
  exact ⟨rfl, (by repeat' (first | (with_reducible exact Below.refl _ _) | (with_reducible assumption) | (with_reducible refine below_alloc ?_ _ ?_) | (with_reducible refine below_set _ ?_ ?_) | (with_reducible refine Below.drew ?_) | (with_reducible refine below_dN ?_ _) | (apply below_thenA; assumption) | omega | (simp; done) | (simp; omega) | (simp [*]; done)))⟩
set_option maxRecDepth 100000 in
set_option maxHeartbeats 400000 in
theorem wide_muldiv_no (a b c : Int) (ha : IFit a) (hb : IFit b) (hc : IFit c) (h : ¬ MFit a b c) (w : World) :
    Calls Try.prog 120 #[.int .i64 a, .int .i64 b, .int .i64 c] w fun e w' => e = .returned (.tuple #[.int .i64 0, .bool false]) ∧ Below w.heap.size w w' := by
  have mW := Wd.of (mul_fit ha hb)
  have hx := ha
  have hy := hb
  obtain ⟨a1, a2⟩ := ha
  obtain ⟨b1, b2⟩ := hb
  obtain ⟨c1, c2⟩ := hc
  by_cases h0 : c = 0
  · subst h0
    go_enter Try.func120, Try.ntmps120
    go_wp2_with (first
      | (go_at_call 121; (with_reducible refine (wide_mul a b a1 a2 b1 b2 _).mono ?_); rintro e w' ⟨rfl, hb'⟩; obtain ⟨hc', hf'⟩ := bcell hb'; have hz' := bz0 (n := w.heap.size) hb' (by (try simp) <;> omega); have hs' := hb'.size; (try simp at hs'); (try (have hs2' := Nat.lt_of_succ_le hs')))
      | (go_at_call 123; (with_reducible refine (wide_div_none (a * b) 0 _ _ mW c1 c2 (.inl rfl) _).mono ?_); rintro e w' ⟨rfl, hb'⟩; obtain ⟨hc', hf'⟩ := bcell hb'; have hz' := bz0 (n := w.heap.size) hb' (by (try simp) <;> omega); have hs' := hb'.size; (try simp at hs'); (try (have hs2' := Nat.lt_of_succ_le hs'))))
    go_ret2
    exact ⟨rfl, (by repeat' (first | (with_reducible exact Below.refl _ _) | (with_reducible assumption) | (with_reducible refine below_alloc ?_ _ ?_) | (with_reducible refine below_set _ ?_ ?_) | (with_reducible refine Below.drew ?_) | (with_reducible refine below_dN ?_ _) | (apply below_thenA; assumption) | omega | (simp; done) | (simp; omega) | (simp [*]; done)))⟩
  · have hn : ¬ IFit (fq (a * b) c) := fun x => h ⟨h0, x⟩
    have h0 : c ≠ 0 := h0
    have qW := fq_fit hx hy h0
    have qWd := Wd.of qW
    go_enter Try.func120, Try.ntmps120
    go_wp2_with (first
      | (go_at_call 121; (with_reducible refine (wide_mul a b a1 a2 b1 b2 _).mono ?_); rintro e w' ⟨rfl, hb'⟩; obtain ⟨hc', hf'⟩ := bcell hb'; have hz' := bz0 (n := w.heap.size) hb' (by (try simp) <;> omega); have hs' := hb'.size; (try simp at hs'); (try (have hs2' := Nat.lt_of_succ_le hs')))
      | (go_at_call 123; (with_reducible refine (wide_div_some (a * b) c _ _ mW c1 c2 h0 qW _).mono ?_); rintro e w' ⟨rfl, hb'⟩; obtain ⟨hc', hf'⟩ := bcell hb'; have hz' := bz0 (n := w.heap.size) hb' (by (try simp) <;> omega); have hs' := hb'.size; (try simp at hs'); (try (have hs2' := Nat.lt_of_succ_le hs')))
      | (go_at_call 122; (with_reducible refine (wide_int_no (fq (a * b) c) _ _ qWd hn _).mono ?_); rintro e w' ⟨rfl, hb'⟩; obtain ⟨hc', hf'⟩ := bcell hb'; have hz' := bz0 (n := w.heap.size) hb' (by (try simp) <;> omega); have hs' := hb'.size; (try simp at hs'); (try (have hs2' := Nat.lt_of_succ_le hs'))))
    go_ret2
    exact ⟨rfl, (by repeat' (first | (with_reducible exact Below.refl _ _) | (with_reducible assumption) | (with_reducible refine below_alloc ?_ _ ?_) | (with_reducible refine below_set _ ?_ ?_) | (with_reducible refine Below.drew ?_) | (with_reducible refine below_dN ?_ _) | (apply below_thenA; assumption) | omega | (simp; done) | (simp; omega) | (simp [*]; done)))⟩
end Go.Proofs.Ythofammjbicogaa
namespace Go.Proofs.Ythofammjbicogaa
open Go.RowKit
set_option linter.unusedSimpArgs false
set_option linter.unusedVariables false

theorem td64 (a : Int) : (a.tmod 64 < 0 → a.tdiv 64 - 1 = a / 64) ∧ (¬ a.tmod 64 < 0 → a.tdiv 64 = a / 64) ∧ (0 < a.tmod 64 → a.tdiv 64 + 1 = -((-a) / 64)) ∧ (¬ 0 < a.tmod 64 → a.tdiv 64 = -((-a) / 64)) := by
  rcases Int.lt_or_le a 0 with h | h
  · obtain ⟨b, rfl⟩ : ∃ b, a = -b := ⟨-a, by omega⟩
    have e1 : (-b).tdiv 64 = -(b / 64) := by rw [Int.neg_tdiv, Int.tdiv_eq_ediv_of_nonneg (by omega)]
    have e2 : (-b).tmod 64 = -(b % 64) := by rw [Int.neg_tmod, Int.tmod_eq_emod_of_nonneg (by omega)]
    rw [e1, e2]; omega
  · have e1 : a.tdiv 64 = a / 64 := Int.tdiv_eq_ediv_of_nonneg h
    have e2 : a.tmod 64 = a % 64 := Int.tmod_eq_emod_of_nonneg h
    rw [e1, e2]; omega
def LenB (n : Int) : Prop := -17592186044416 ≤ n ∧ n ≤ 17592186044416
/-- What a giving up with this error is. -/
def gave (c : Int) : List PanicEntry := [{ v := .iface 98 (.int .i64 c), recovered := false }]

theorem fix_fail0 (w : World) : Calls Try.prog 86 #[.int .i64 0] w fun e w' => e = .returned (.tuple #[]) ∧ w' = w := by
  go_enter Try.func86, Try.ntmps86
  go_wp2_with fail
  go_end0
  exact ⟨rfl, rfl⟩
theorem fix_fail (c : Int) (hc : c ≠ 0) (w : World) : Calls Try.prog 86 #[.int .i64 c] w fun e w' => e = .panicked (gave c) ∧ w' = w := by
  have h : (c != 0) = true := by simp [hc]
  go_enter Try.func86, Try.ntmps86
  go_wp2_with fail
  simp [bodyPost, gave]
theorem fix_fail2 (w : World) : Calls Try.prog 86 #[.int .i64 2] w fun e w' => e = .panicked (gave 2) ∧ w' = w := fix_fail 2 (by decide) w
theorem fix_fail3 (w : World) : Calls Try.prog 86 #[.int .i64 3] w fun e w' => e = .panicked (gave 3) ∧ w' = w := fix_fail 3 (by decide) w
set_option maxRecDepth 100000 in
set_option maxHeartbeats 1600000 in
theorem fix_of (n : Int) (hn : IFit n) (h : LenB n) (w : World) : Calls Try.prog 56 #[.int .i64 n] w fun e w' => e = .returned (.int .i64 n) ∧ w' = w := by
  obtain ⟨h1, h2⟩ := h
  have d1 : decide (n < -17592186044416) = false := by simp; omega
  have d2 : decide (17592186044416 < n) = false := by simp; omega
  go_enter Try.func56, Try.ntmps56
  go_wp2_with fail
  go_ret
  exact ⟨rfl, rfl⟩
set_option maxRecDepth 100000 in
set_option maxHeartbeats 1600000 in
theorem fix_of_no (n : Int) (hn : IFit n) (h : ¬ LenB n) (w : World) : Calls Try.prog 56 #[.int .i64 n] w fun e w' => e = .panicked (gave 2) ∧ w' = w := by
  by_cases hlo : n < -17592186044416
  · have d1 : decide (n < -17592186044416) = true := by simp [hlo]
    go_enter Try.func56, Try.ntmps56
    go_wp2_with (go_at_call 86; with_reducible refine (fix_fail2 _).mono ?_; rintro e w1 ⟨rfl, rfl⟩)
    simp [bodyPost]
  · have d1 : decide (n < -17592186044416) = false := by simp; omega
    have hhi : 17592186044416 < n := by unfold LenB at h; omega
    have d2 : decide (17592186044416 < n) = true := by simp [hhi]
    go_enter Try.func56, Try.ntmps56
    go_wp2_with (go_at_call 86; with_reducible refine (fix_fail2 _).mono ?_; rintro e w1 ⟨rfl, rfl⟩)
    simp [bodyPost]
def clip (n : Int) : Int := min (max n (-52776558133248)) 52776558133248
theorem clip_lo (n : Int) : -52776558133248 ≤ clip n := by unfold clip; omega
theorem clip_hi (n : Int) : clip n ≤ 52776558133248 := by unfold clip; omega
set_option maxRecDepth 100000 in
set_option maxHeartbeats 1600000 in
theorem fix_clipped (n : Int) (hn : IFit n) (w : World) : Calls Try.prog 87 #[.int .i64 n] w fun e w' => e = .returned (.int .i64 (clip n)) ∧ w' = w := by
  obtain ⟨h1, h2⟩ := hn
  go_enter Try.func87, Try.ntmps87
  go_wp2_with fail
  go_ret
  exact ⟨rfl, rfl⟩
end Go.Proofs.Ythofammjbicogaa
namespace Go.Proofs.Ythofammjbicogaa
open Go.RowKit
set_option linter.unusedSimpArgs false
set_option linter.unusedVariables false

theorem assert_gave (c : Int) (w : World) : (Instr.typeAssert (Value.iface 98 (.int .i64 c)) 20 98 true).run Try.prog w = .ok (.tuple #[.int .i64 c, .bool true]) w := by kernel_rfl
theorem LenB.fit {n : Int} (h : LenB n) : IFit n := by unfold LenB at h; unfold IFit; omega
set_option maxRecDepth 100000 in
set_option maxHeartbeats 1600000 in
/-- The deferred function of Try, where nothing has given up. -/
theorem fix_try1_idle (p : Addr) (w : World) :
    CallsD Try.prog 54 #[.pointer (some p)] .returning w fun e u' w' => e = .returned (.tuple #[]) ∧ u' = .returning ∧ w' = w := by
  refine callsD_of_wpS Try.func54 rfl fun c₀ cs hu => ?_
  have e0 : (#[Value.pointer (some p)] ++ Array.replicate (Try.f54.ntmps - #[Value.pointer (some p)].size) undef : Array Value) = #[.pointer (some p), undef, undef, undef, undef, undef, undef, undef, undef, undef, undef] := by rw [Try.ntmps54]; rfl
  rw [e0]
  apply wpS_seq
  apply wpS_region
  simp [wpOpsS, go_sem, recoverD, hu, Try.ntmps54, Exit.thenS]
  refine wpS_of_wp ?_
  go_wp2
  cases c₀
  simp_all [bodyPostS, results, Try.results54]
set_option maxRecDepth 100000 in
set_option maxHeartbeats 1600000 in
/-- The deferred function of Try, where something has given up. -/
theorem fix_try1_caught (p : Addr) (c : Int) (older : List PanicEntry) (w : World) (x : Value) (hc : w.cell? p = some x) (hz : w.frozen? p = false) :
    CallsD Try.prog 54 #[.pointer (some p)] (.panicking ({ v := .iface 98 (.int .i64 c), recovered := false } :: older)) w fun e u' w' =>
      e = .returned (.tuple #[]) ∧ u' = .panicking ({ v := .iface 98 (.int .i64 c), recovered := true } :: older) ∧ w' = w.setCell p (.int .i64 c) := by
  refine callsD_of_wpS Try.func54 rfl fun c₀ cs hu => ?_
  have e0 : (#[Value.pointer (some p)] ++ Array.replicate (Try.f54.ntmps - #[Value.pointer (some p)].size) undef : Array Value) = #[.pointer (some p), undef, undef, undef, undef, undef, undef, undef, undef, undef, undef] := by rw [Try.ntmps54]; rfl
  rw [e0]
  apply wpS_seq
  apply wpS_region
  simp [wpOpsS, go_sem, recoverD, hu, Try.ntmps54, Exit.thenS]
  refine wpS_of_wp ?_
  have ha := assert_gave c
  go_wp2
  cases c₀
  simp_all [bodyPostS, results, Try.results54]
set_option maxRecDepth 100000 in
set_option maxHeartbeats 1600000 in
/-- Try: what the function gives up with, or 0. -/
theorem fix_try (F : Nat) (cap : Array Value) (w : World) (R : Int → World → Prop) (hen : ∀ w, (callFunc F cap).run Try.prog w = .ok (.enter F cap) w)
    (h : Calls Try.prog F cap (w.alloc (.cells #[.int .i64 0] 32)) fun e w1 => w1.cell? ⟨w.heap.size, 0, none⟩ = some (.int .i64 0) ∧ w1.frozen? ⟨w.heap.size, 0, none⟩ = false ∧
      ((e = .returned (.tuple #[]) ∧ R 0 w1) ∨ (∃ c, e = .panicked (gave c) ∧ R c w1))) :
    Calls Try.prog 16 #[.func (.func F) #[] cap] w fun e w' => ∃ c w1, R c w1 ∧ e = .returned (.int .i64 c) ∧ w' = w1.setCell ⟨w.heap.size, 0, none⟩ (.int .i64 c) := by
  have hmf : ∀ (fn : Fn) (first cap : Array Value) (w : World), (Instr.makeFunc fn first cap).run Try.prog w = .ok (.func fn first cap) w := fun _ _ _ _ => rfl
  have hnn : ∀ w : World, (binOp BinOp.eql 1 (Value.func (Fn.func F) #[] cap) Value.nilFunc).run Try.prog w = .ok (.bool false) w := fun _ => by kernel_rfl
  go_enter_defers Try.func16, Try.ntmps16
  go_wp2_with fail
  refine h.mono ?_
  rintro e w1 ⟨e1, e2, h1⟩
  have e3 : ∀ v, (w1.setCell ⟨w.heap.size, 0, none⟩ v).cell? ⟨w.heap.size, 0, none⟩ = some v := fun v => World.cell?_setCell_same _ _ v e1
  rcases h1 with ⟨rfl, hR⟩ | ⟨c, rfl, hR⟩
  · go_wp2_with fail
    refine leaves_cons (f := 54) (args := #[.pointer (some ⟨w.heap.size, 0, none⟩)]) (by simp) (by simp [go_sem]) ?_
    refine (fix_try1_idle ⟨w.heap.size, 0, none⟩ _).mono ?_
    rintro e u' w'' ⟨rfl, rfl, rfl⟩
    simp only [Leaves, settle, results, Try.results16]
    simp [go_sem, e3]
    exact ⟨0, w1, hR, rfl, rfl⟩
  · refine leaves_cons (f := 54) (args := #[.pointer (some ⟨w.heap.size, 0, none⟩)]) (by simp) (by simp [go_sem]) ?_
    refine (fix_try1_caught ⟨w.heap.size, 0, none⟩ c [] w1 _ e1 e2).mono ?_
    rintro e u' w'' ⟨rfl, rfl, rfl⟩
    simp only [Leaves, settle, results, Try.results16]
    simp [go_sem, e3]
    simp only [Leaves, results, Try.results16]
    simp [go_sem, e3]
    exact ⟨c, w1, hR, rfl, rfl⟩

set_option maxRecDepth 100000 in
set_option maxHeartbeats 1600000 in
theorem fix_part (a n d : Int) (ha : IFit a) (hn : IFit n) (hd : IFit d) (h0 : d ≠ 0) (hL : LenB (fq (a * n) d)) (w : World) :
    Calls Try.prog 117 #[.int .i64 a, .int .i64 n, .int .i64 d] w fun e w' => e = .returned (.int .i64 (fq (a * n) d)) ∧ Below w.heap.size w w' := by
  have MD := wide_muldiv_fit a n d ha hn hd ⟨h0, hL.fit⟩
  have hne : (d == 0) = false := by simp [h0]
  obtain ⟨F, eF⟩ : ∃ F, fq (a * n) d = F := ⟨_, rfl⟩
  rw [eF] at MD hL ⊢
  have hF := hL.fit
  clear eF h0
  go_enter Try.func117, Try.ntmps117
  go_wp2_with (first
    | (go_at_call 120; with_reducible refine (MD _).mono ?_; rintro e w1 ⟨rfl, hb1⟩)
    | (go_at_call 56; with_reducible refine (fix_of F hF hL _).mono ?_; rintro e w2 ⟨rfl, rfl⟩))
  go_ret
  exact ⟨rfl, hb1⟩
set_option maxRecDepth 100000 in
set_option maxHeartbeats 1600000 in
theorem fix_part_zero (a n : Int) (w : World) :
    Calls Try.prog 117 #[.int .i64 a, .int .i64 n, .int .i64 0] w fun e w' => e = .panicked (gave 3) ∧ w' = w := by
  go_enter Try.func117, Try.ntmps117
  go_wp2_with (go_at_call 86; with_reducible refine (fix_fail3 _).mono ?_; rintro e w2 ⟨rfl, rfl⟩)
  simp [bodyPost]
set_option maxRecDepth 100000 in
set_option maxHeartbeats 1600000 in
theorem fix_part_no (a n d : Int) (ha : IFit a) (hn : IFit n) (hd : IFit d) (h0 : d ≠ 0) (hL : ¬ LenB (fq (a * n) d)) (w : World) :
    Calls Try.prog 117 #[.int .i64 a, .int .i64 n, .int .i64 d] w fun e w' => e = .panicked (gave 2) ∧ Below w.heap.size w w' := by
  have hne : (d == 0) = false := by simp [h0]
  by_cases hF : IFit (fq (a * n) d)
  · have MD := wide_muldiv_fit a n d ha hn hd ⟨h0, hF⟩
    obtain ⟨F, eF⟩ : ∃ F, fq (a * n) d = F := ⟨_, rfl⟩
    rw [eF] at MD hL hF
    clear eF h0
    go_enter Try.func117, Try.ntmps117
    go_wp2_with (first
      | (go_at_call 120; with_reducible refine (MD _).mono ?_; rintro e w1 ⟨rfl, hb1⟩)
      | (go_at_call 56; with_reducible refine (fix_of_no F hF hL _).mono ?_; rintro e w2 ⟨rfl, rfl⟩))
    simp [bodyPost]; exact hb1
  · have MD := wide_muldiv_no a n d ha hn hd (fun x => hF x.2)
    clear h0
    go_enter Try.func117, Try.ntmps117
    go_wp2_with (first
      | (go_at_call 120; with_reducible refine (MD _).mono ?_; rintro e w1 ⟨rfl, hb1⟩)
      | (go_at_call 86; with_reducible refine (fix_fail2 _).mono ?_; rintro e w2 ⟨rfl, rfl⟩))
    simp [bodyPost]; exact hb1
theorem fq_one (a : Int) : fq a 1 = a := by unfold fq; rw [if_neg (by decide), Int.ediv_one]
/-- A slice's numbers. -/
def IntsAt (w : World) (g off k : Nat) (xs : List Int) : Prop := xs.length = k ∧ (∀ i, i < k → IFit (xs.getD i 0)) ∧ ∀ i, i < k → w.cell? ⟨g, off + i, none⟩ = some (.int .i64 (xs.getD i 0))
/-- The sum, each sum on the way a length. -/
def addS : Int → List Int → Option Int
  | s, [] => some s
  | s, x :: xs => if -17592186044416 ≤ s + clip x ∧ s + clip x ≤ 17592186044416 then addS (s + clip x) xs else none
def AddAns (r : Option Int) (w : World) (e : Ending) (w' : World) : Prop := (match r with | some t => e = .returned (.int .i64 t) | none => e = .panicked (gave 2)) ∧ w' = w
theorem addS_cons_yes {s x : Int} {xs : List Int} (h : LenB (s + clip x)) : addS s (x :: xs) = addS (s + clip x) xs := by rw [addS]; exact if_pos ⟨h.1, h.2⟩
theorem addS_cons_no {s x : Int} {xs : List Int} (h : ¬ LenB (s + clip x)) : addS s (x :: xs) = none := by rw [addS]; exact if_neg (fun x => h ⟨x.1, x.2⟩)
set_option maxRecDepth 100000 in
set_option maxHeartbeats 1600000 in
theorem fix_add (g off k cap : Nat) (xs : List Int) (r : Option Int) (hk : k ≤ 1000000) (hr : addS 0 xs = r) (w : World) (hx : IntsAt w g off k xs) :
    Calls Try.prog 57 #[.slice (some ⟨g, off, none⟩) k cap] w (AddAns r w) := by
  obtain ⟨hl, hf, hc⟩ := hx
  have HL := Lib.hid hl
  have HF := Lib.hid hf
  have HC := Lib.hid hc
  have HR := Lib.hid hr
  clear hl hf hc hr
  go_enter Try.func57, Try.ntmps57
  go_wp2_with fail
  go_loopg [3, 8] k (fun gk s3 s8 wr => ∃ (j : Nat) (s : Int), j ≤ k ∧ gk = k - j ∧ s3 = .int .i64 s ∧ s8 = .int .i64 ((j : Int)) ∧ LenB s ∧ addS s (xs.drop j) = r ∧ w = wr)
  case atStart => exact ⟨0, 0, by omega, by omega, rfl, rfl, by unfold LenB; omega, HR.out, rfl⟩
  case round =>
    obtain ⟨j, s, hj, rfl, rfl, rfl, hs, hd, rfl⟩ := hrel
    have HD := Lib.hid hd
    clear hd
    by_cases hjk : j < k
    · have ix : (j : Int) < (k : Int) := by omega
      have hcx := HC.out j hjk
      have hfx := HF.out j hjk
      obtain ⟨x, ex⟩ : ∃ x, xs.getD j 0 = x := ⟨_, rfl⟩
      have ed : xs.drop j = x :: xs.drop (j + 1) := by
        have : j < xs.length := by rw [HL.out]; exact hjk
        rw [List.drop_eq_getElem_cons this, ← ex]; simp [List.getD, this]
      rw [ex] at hcx hfx
      have HE := Lib.hid ed
      have CL := fix_clipped x hfx
      obtain ⟨y, ey⟩ : ∃ y, clip x = y := ⟨_, rfl⟩
      have y1 := clip_lo x
      have y2 := clip_hi x
      rw [ey] at CL y1 y2
      have hs1 := hs.1
      have hs2 := hs.2
      have EY := Lib.hid ey
      clear ex ed ey
      have ht : IFit (s + y) := by unfold IFit; omega
      by_cases hL : LenB (s + y)
      · go_wp2_with (first
          | (go_at_call 87; with_reducible refine (CL _).mono ?_; rintro e w1 ⟨rfl, rfl⟩)
          | (go_at_call 56; with_reducible refine (fix_of (s + y) ht hL _).mono ?_; rintro e w2 ⟨rfl, rfl⟩))
        go_roundg (k - (j + 1))
        case measure => omega
        case rel => exact ⟨j + 1, s + y, by omega, rfl, rfl, by go_num, hL, by have := HD.out; rw [HE.out, addS_cons_yes (by rw [EY.out]; exact hL), EY.out] at this; exact this, rfl⟩
      · have hr : r = none := by have := HD.out; rw [HE.out, addS_cons_no (by rw [EY.out]; exact hL)] at this; exact this.symm
        have HRN := Lib.hid hr
        clear hr
        go_wp2_with (first
          | (go_at_call 87; with_reducible refine (CL _).mono ?_; rintro e w1 ⟨rfl, rfl⟩)
          | (go_at_call 56; with_reducible refine (fix_of_no (s + y) ht hL _).mono ?_; rintro e w2 ⟨rfl, rfl⟩))
        simp [bodyPost, AddAns, HRN.out]
    · obtain rfl : j = k := by omega
      have ix : ¬ (j : Int) < (j : Int) := by omega
      have hr : r = some s := by have := HD.out; rw [List.drop_eq_nil_of_le (by rw [HL.out]; omega)] at this; exact this.symm
      have HRN := Lib.hid hr
      clear hr
      go_wp2_with fail
      go_ret
      exact ⟨by rw [HRN.out]; rfl, rfl⟩
end Go.Proofs.Ythofammjbicogaa
namespace Go.Proofs.Ythofammjbicogaa
open Go.RowKit
set_option linter.unusedSimpArgs false
set_option linter.unusedVariables false

/-- A block of one cell. -/
def One (w : World) (b : Nat) (T : TypeId) (x : Value) : Prop := w.heap[b]? = some (Obj.cells #[x] T (0, 0))
theorem One.cell {w : World} {b : Nat} {T : TypeId} {x : Value} (h : One w b T x) : w.cell? ⟨b, 0, none⟩ = some x := by rw [cell_of_row w b 0 _ _ _ h]; rfl
theorem One.free {w : World} {b : Nat} {T : TypeId} {x : Value} (h : One w b T x) : w.frozen? ⟨b, 0, none⟩ = false := by simp [World.frozen?, show w.heap[b]? = _ from h]
theorem One.lt {w : World} {b : Nat} {T : TypeId} {x : Value} (h : One w b T x) : b < w.heap.size := (Array.getElem?_eq_some_iff.1 h).1
theorem One.new (w : World) (T : TypeId) (x : Value) (b : Nat) (hb : b = w.heap.size) : One (w.alloc (.cells #[x] T)) b T x := by subst hb; exact heap_alloc_new w _
theorem One.alloc {w : World} {b : Nat} {T : TypeId} {x : Value} (h : One w b T x) (o : Obj) : One (w.alloc o) b T x := (Below.heap_alloc w o _ h.lt).trans h
theorem One.below {w w' : World} {b : Nat} {T : TypeId} {x : Value} (h : One w b T x) (hb : Below w.heap.size w w') : One w' b T x := (hb.block b h.lt).trans h
theorem One.set {w : World} {b : Nat} {T : TypeId} {x : Value} (h : One w b T x) (u : Value) : One (w.setCell ⟨b, 0, none⟩ u) b T u := by
  unfold One at *
  simp only [World.setCell, Array.getElem?_modify, if_true, h]
  rfl
theorem One.other {w : World} {b c : Nat} {T : TypeId} {x : Value} (h : One w b T x) (hc : b ≠ c) (u : Value) : One (w.setCell ⟨c, 0, none⟩ u) b T x := by
  unfold One at *
  rw [Below.heap_setCell _ _ _ _ hc]; exact h
theorem intsAt_new (w : World) (xs : List Int) (k : Nat) (hk : xs.length = k) (hf : ∀ i, i < k → IFit (xs.getD i 0)) : IntsAt (w.alloc (.cells (xs.map fun x => Value.int .i64 x).toArray 2)) w.heap.size 0 k xs := by
  refine ⟨hk, hf, fun i hi => ?_⟩
  rw [cell_of_row _ w.heap.size (0 + i) _ _ _ (heap_alloc_new w _)]
  simp [List.getD, List.getElem?_eq_getElem (show i < xs.length by omega)]

theorem if0 : IFit 0 := by unfold IFit; omega
end Go.Proofs.Ythofammjbicogaa
namespace Go.Proofs.Ythofammjbicogaa.BM
/-- The value of a list of pieces, the lowest first. -/
def bval : List Nat → Nat
  | [] => 0
  | d :: ds => d + 65536 * bval ds
def Dig (ds : List Nat) : Prop := ∀ d ∈ ds, d < 65536
/-- No nought at the end. -/
def Trim (ds : List Nat) : Prop := ∀ h : ds ≠ [], ds.getLast h ≠ 0
/-- At most so many pieces. -/
def Sz (n : Int) (k : Nat) : Prop := n.natAbs < 65536 ^ k

theorem Dig.nil : Dig [] := fun _ h => by cases h
theorem Dig.cons {d : Nat} {ds : List Nat} (h : d < 65536) (hs : Dig ds) : Dig (d :: ds) := by
  intro x hx
  rcases List.mem_cons.1 hx with rfl | hx
  · exact h
  · exact hs x hx
theorem Dig.tail {d : Nat} {ds : List Nat} (h : Dig (d :: ds)) : Dig ds := fun x hx => h x (List.mem_cons_of_mem _ hx)
theorem Dig.head {d : Nat} {ds : List Nat} (h : Dig (d :: ds)) : d < 65536 := h d (List.mem_cons_self ..)
theorem Dig.append {a b : List Nat} (ha : Dig a) (hb : Dig b) : Dig (a ++ b) := by
  intro x hx
  rcases List.mem_append.1 hx with h | h
  · exact ha x h
  · exact hb x h
theorem Dig.snoc {a : List Nat} {d : Nat} (ha : Dig a) (hd : d < 65536) : Dig (a ++ [d]) :=
  ha.append (Dig.cons hd Dig.nil)
theorem Dig.take {a : List Nat} (ha : Dig a) (k : Nat) : Dig (a.take k) := fun x hx => ha x (List.mem_of_mem_take hx)
theorem Dig.drop {a : List Nat} (ha : Dig a) (k : Nat) : Dig (a.drop k) := fun x hx => ha x (List.mem_of_mem_drop hx)
theorem Dig.get {a : List Nat} (ha : Dig a) (k : Nat) (h : k < a.length) : a[k] < 65536 := ha _ (List.getElem_mem h)
theorem Dig.getD {a : List Nat} (ha : Dig a) (k : Nat) : a.getD k 0 < 65536 := by
  by_cases h : k < a.length
  · simpa [List.getD, h] using ha.get k h
  · simp [List.getD, List.getElem?_eq_none (Nat.le_of_not_lt h)]
theorem Dig.set {a : List Nat} (ha : Dig a) (k v : Nat) (hv : v < 65536) : Dig (a.set k v) := by
  intro x hx
  rcases List.mem_or_eq_of_mem_set hx with h | rfl
  · exact ha x h
  · exact hv
theorem Dig.replicate (n : Nat) : Dig (List.replicate n 0) := by
  intro x hx
  have := List.eq_of_mem_replicate hx
  omega

theorem bval_append (a b : List Nat) : bval (a ++ b) = bval a + 65536 ^ a.length * bval b := by
  induction a with
  | nil => simp [bval]
  | cons d ds ih =>
    simp only [List.cons_append, bval, ih, List.length_cons, Nat.pow_succ, Nat.mul_add]
    rw [Nat.mul_comm (65536 ^ ds.length) 65536, Nat.mul_assoc]
    omega
theorem bval_snoc (a : List Nat) (d : Nat) : bval (a ++ [d]) = bval a + 65536 ^ a.length * d := by
  rw [bval_append]; simp [bval]
theorem bval_take_succ (a : List Nat) (k : Nat) (h : k < a.length) : bval (a.take (k + 1)) = bval (a.take k) + 65536 ^ k * a[k] := by
  rw [List.take_succ_eq_append_getElem h, bval_snoc, List.length_take, Nat.min_eq_left (by omega)]
theorem bval_replicate (n : Nat) : bval (List.replicate n 0) = 0 := by
  induction n with
  | zero => rfl
  | succ n ih => simp [List.replicate_succ, bval, ih]
theorem bval_lt {a : List Nat} (h : Dig a) : bval a < 65536 ^ a.length := by
  induction a with
  | nil => simp [bval]
  | cons d ds ih =>
    have := ih h.tail
    have := h.head
    simp only [bval, List.length_cons, Nat.pow_succ]
    omega
theorem bval_take_lt {a : List Nat} (h : Dig a) (k : Nat) : bval (a.take k) < 65536 ^ k := by
  have h1 := bval_lt (h.take k)
  have h2 : (a.take k).length ≤ k := List.length_take_le ..
  exact Nat.lt_of_lt_of_le h1 (Nat.pow_le_pow_right (by decide) h2)
theorem bval_split (a : List Nat) (k : Nat) (h : k ≤ a.length) : bval a = bval (a.take k) + 65536 ^ k * bval (a.drop k) := by
  have := bval_append (a.take k) (a.drop k)
  rw [List.take_append_drop, List.length_take, Nat.min_eq_left h] at this
  exact this
theorem bval_drop (a : List Nat) (k : Nat) (h : k < a.length) : bval (a.drop k) = a[k] + 65536 * bval (a.drop (k + 1)) := by
  rw [List.drop_eq_getElem_cons h]; rfl
/-- A piece is replaced. -/
theorem bval_set (a : List Nat) (k v : Nat) (h : k < a.length) : bval (a.set k v) + 65536 ^ k * a[k] = bval a + 65536 ^ k * v := by
  induction a generalizing k with
  | nil => simp at h
  | cons d ds ih =>
    cases k with
    | zero => simp [bval]; omega
    | succ k =>
      have h' : k < ds.length := by simpa using h
      have := ih k h'
      simp only [List.set_cons_succ, bval, List.getElem_cons_succ, Nat.pow_succ]
      rw [Nat.mul_comm (65536 ^ k) 65536, Nat.mul_assoc, Nat.mul_assoc]
      omega

theorem Trim.nil : Trim [] := fun h => absurd rfl h
/-- A trimmed list that isn't empty is at least so great. -/
theorem Trim.ge {a : List Nat} (h : Trim a) (hne : a ≠ []) : 65536 ^ (a.length - 1) ≤ bval a := by
  have h1 := List.dropLast_concat_getLast hne
  have h2 := h hne
  rw [← h1, bval_snoc]
  simp only [List.length_append, List.length_dropLast, List.length_singleton]
  have h3 : 1 ≤ a.getLast hne := by omega
  have h4 : a.length - 1 + 1 - 1 = a.length - 1 := by omega
  rw [h4]
  calc 65536 ^ (a.length - 1) = 65536 ^ (a.length - 1) * 1 := by omega
    _ ≤ 65536 ^ (a.length - 1) * a.getLast hne := Nat.mul_le_mul_left _ h3
    _ ≤ _ := by omega
theorem Trim.eq_nil {a : List Nat} (h : Trim a) (h0 : bval a = 0) : a = [] := by
  by_cases hne : a = []
  · exact hne
  · have := h.ge hne
    have : 0 < 65536 ^ (a.length - 1) := Nat.pow_pos (by decide)
    omega
theorem Trim.len {a : List Nat} (h : Trim a) {k : Nat} (hk : bval a < 65536 ^ k) : a.length ≤ k := by
  by_cases hne : a = []
  · simp [hne]
  · have h1 := h.ge hne
    have h2 : 65536 ^ (a.length - 1) < 65536 ^ k := Nat.lt_of_le_of_lt h1 hk
    have := (Nat.pow_lt_pow_iff_right (a := 65536) (by decide)).1 h2
    omega
theorem len_lt_bval {a b : List Nat} (ha : Dig a) (hb : Trim b) (h : a.length < b.length) : bval a < bval b := by
  have h1 := bval_lt ha
  have hne : b ≠ [] := by intro e; simp [e] at h
  have h2 := hb.ge hne
  have h3 : 65536 ^ a.length ≤ 65536 ^ (b.length - 1) := Nat.pow_le_pow_right (by decide) (by omega)
  omega
/-- Of one length, and from a place on the same: the place decides. -/
theorem bval_cmp_at {a b : List Nat} (ha : Dig a) (k : Nat) (hka : k < a.length) (hkb : k < b.length)
    (hs : a.drop (k + 1) = b.drop (k + 1)) (hl : a[k] < b[k]) : bval a < bval b := by
  rw [bval_split a k (by omega), bval_split b k (by omega), bval_drop a k hka, bval_drop b k hkb, hs]
  have h1 := bval_take_lt ha k
  generalize bval (b.drop (k + 1)) = t
  generalize hp : 65536 ^ k = p at *
  have h2 : p * (a[k] + 65536 * t) + p ≤ p * (b[k] + 65536 * t) := by
    rw [← Nat.mul_succ]
    exact Nat.mul_le_mul_left _ (by omega)
  omega

theorem Sz.mono {n : Int} {j k : Nat} (h : Sz n j) (hk : j ≤ k) : Sz n k :=
  Nat.lt_of_lt_of_le h (Nat.pow_le_pow_right (by decide) hk)
theorem Sz.neg {n : Int} {k : Nat} (h : Sz n k) : Sz (-n) k := by simpa [Sz] using h
theorem Sz.abs {n : Int} {k : Nat} (h : Sz n k) : Sz (n.natAbs : Int) k := by simpa [Sz] using h
theorem Sz.add {a b : Int} {k : Nat} (ha : Sz a k) (hb : Sz b k) : Sz (a + b) (k + 1) := by
  unfold Sz at *
  have := Int.natAbs_add_le a b
  rw [Nat.pow_succ]
  omega
theorem Sz.sub {a b : Int} {k : Nat} (ha : Sz a k) (hb : Sz b k) : Sz (a - b) (k + 1) := by
  rw [Int.sub_eq_add_neg]; exact ha.add hb.neg
theorem Sz.mul {a b : Int} {j k : Nat} (ha : Sz a j) (hb : Sz b k) : Sz (a * b) (j + k) := by
  unfold Sz at *
  rw [Int.natAbs_mul, Nat.pow_add]
  exact Nat.mul_lt_mul'' ha hb
theorem Sz.of_lt {n : Int} {k : Nat} (h : n.natAbs < 65536 ^ k) : Sz n k := h
theorem Sz.le {a b : Int} {k : Nat} (h : Sz b k) (hab : a.natAbs ≤ b.natAbs) : Sz a k := Nat.lt_of_le_of_lt hab h
theorem Sz.i64 {n : Int} (h1 : -9223372036854775808 ≤ n) (h2 : n ≤ 9223372036854775807) : Sz n 4 := by
  unfold Sz; have : (65536 : Nat) ^ 4 = 18446744073709551616 := by decide
  omega
theorem Sz.u64 {n : Int} (h1 : 0 ≤ n) (h2 : n ≤ 18446744073709551615) : Sz n 4 := by
  unfold Sz; have : (65536 : Nat) ^ 4 = 18446744073709551616 := by decide
  omega
end Go.Proofs.Ythofammjbicogaa.BM
namespace Go.Proofs.Ythofammjbicogaa
open Go.RowKit
set_option linter.unusedSimpArgs false
set_option linter.unusedVariables false

/-- The pieces as values. -/
def u64s (ds : List Nat) : List Value := ds.map fun (d : Nat) => Value.int .u64 (d : Int)
/-- With its sign. -/
def sgn (neg : Bool) (n : Nat) : Int := if neg then -(n : Int) else n
/-- The slice has these pieces. -/
def Pcs (w : World) (ao : Option Addr) (k cap : Nat) (ds : List Nat) : Prop :=
  w.ownsRow 0 130 1 (.slice ao k cap) k (u64s ds) ∧ ds.length = k ∧ BM.Dig ds
theorem Pcs.len {w : World} {ao : Option Addr} {k cap : Nat} {ds : List Nat} (h : Pcs w ao k cap ds) : ds.length = k := h.2.1
theorem Pcs.dig {w : World} {ao : Option Addr} {k cap : Nat} {ds : List Nat} (h : Pcs w ao k cap ds) : BM.Dig ds := h.2.2
theorem Pcs.shape {w : World} {ao : Option Addr} {k cap : Nat} {ds : List Nat} (h : Pcs w ao k cap ds) : k ≤ cap ∧ cap ≤ maxLen := by
  rcases h.1.2 with ⟨e, rfl⟩ | ⟨g, c, cur, e, _, _, h1, h2, _⟩
  · simp at e; omega
  · simp at e; omega
theorem Pcs.nil (w : World) : Pcs w none 0 0 [] := ⟨World.ownsRow_nil _ _ _ _, rfl, BM.Dig.nil⟩
theorem Pcs.cell {w : World} {ao : Option Addr} {k cap : Nat} {ds : List Nat} (h : Pcs w ao k cap ds) (i : Nat) (hi : i < k) :
    ∃ g, ao = some ⟨g, 0, none⟩ ∧ w.cell? ⟨g, i, none⟩ = some (.int .u64 (((ds.getD i 0 : Nat) : Int))) ∧ g < w.heap.size := by
  obtain ⟨h1, h2, h3⟩ := h
  rcases h1.2 with ⟨e, e2⟩ | ⟨g, c, cur, e, _, hg, hl, hm, hs, ht⟩
  · omega
  · obtain ⟨rfl, _⟩ : ao = some ⟨g, 0, none⟩ ∧ cap = c := by simpa using e
    have hc := h1.cells (g := g) rfl i (.int .u64 (((ds.getD i 0 : Nat) : Int))) (by
      unfold u64s
      rw [List.getElem?_map, List.getElem?_eq_getElem (by omega)]
      simp [List.getD, List.getElem?_eq_getElem (show i < ds.length by omega)])
    have hadd : (⟨g, 0, none⟩ : Addr).add i = ⟨g, i, none⟩ := by unfold Addr.add; split <;> simp_all
    rw [hadd] at hc
    refine ⟨g, rfl, hc, ?_⟩
    exact (Array.getElem?_eq_some_iff.1 hg).1
theorem ownsRow_below {w w' : World} {e : TypeId} {size : Nat} {v : Value} {n : Nat} {xs : List Value} (h : w.ownsRow 0 e size v n xs) (hb : Below w.heap.size w w') : w'.ownsRow 0 e size v n xs := by
  refine ⟨h.1, ?_⟩
  rcases h.2 with h | ⟨g, cap, cur, hv, hg, hh, r⟩
  · exact .inl h
  · refine .inr ⟨g, cap, cur, hv, hg, ?_, r⟩
    rw [hb.block g (Array.getElem?_eq_some_iff.1 hh).1]
    exact hh
theorem Pcs.keep {w w' : World} {ao : Option Addr} {k cap : Nat} {ds : List Nat} (h : Pcs w ao k cap ds) (hb : Below w.heap.size w w') : Pcs w' ao k cap ds :=
  ⟨ownsRow_below h.1 hb, h.2⟩
theorem Pcs.take {w : World} {ao : Option Addr} {k cap : Nat} {ds : List Nat} (h : Pcs w ao k cap ds) (j : Nat) (hj : j ≤ k) : Pcs w ao j cap (ds.take j) := by
  obtain ⟨h1, h2, h3⟩ := h
  refine ⟨⟨by simp [u64s, h2]; omega, ?_⟩, by simp [h2]; omega, h3.take j⟩
  rcases h1.2 with ⟨e, e2⟩ | ⟨g, c, cur, e, hb, hg, hl, hm, hs, ht⟩
  · simp at e
    exact .inl ⟨by simp [e]; omega, by omega⟩
  · simp at e
    refine .inr ⟨g, c, cur, by simp [e], hb, hg, by omega, hm, hs, ?_⟩
    have : cur.toList.take (j * 1) = (cur.toList.take (k * 1)).take j := by rw [List.take_take]; congr 1; omega
    rw [this, ht]
    simp [u64s, List.map_take]

/-- All blocks of pieces are as they were. -/
def Keeps (w w' : World) : Prop := ∀ (g : Nat) (cur : Array Value), w.heap[g]? = some (Obj.cells cur 130 (0, 0)) → w'.heap[g]? = some (Obj.cells cur 130 (0, 0))
/-- The block's cells are of this type. -/
def TyAt (w : World) (b : Nat) (T : TypeId) : Prop := ∃ (c : Array Value) (fr : Nat × Nat), w.heap[b]? = some (Obj.cells c T fr)
theorem TyAt.new (w : World) (c : Array Value) (T : TypeId) (b : Nat) (hb : b = w.heap.size) : TyAt (w.alloc (.cells c T)) b T := by
  subst hb
  exact ⟨c, (0, 0), heap_alloc_new w _⟩
theorem TyAt.lt {w : World} {b : Nat} {T : TypeId} (h : TyAt w b T) : b < w.heap.size := by
  obtain ⟨c, fr, h⟩ := h
  exact (Array.getElem?_eq_some_iff.1 h).1
theorem TyAt.alloc {w : World} {b : Nat} {T : TypeId} (h : TyAt w b T) (o : Obj) : TyAt (w.alloc o) b T := by
  have hl := h.lt
  obtain ⟨c, fr, h⟩ := h
  exact ⟨c, fr, by exact (Below.heap_alloc w o _ hl).trans h⟩
theorem TyAt.below {w w' : World} {b : Nat} {T : TypeId} (h : TyAt w b T) (hb : Below w.heap.size w w') : TyAt w' b T := by
  have hl := h.lt
  obtain ⟨c, fr, h⟩ := h
  exact ⟨c, fr, by rw [hb.block b hl]; exact h⟩
theorem TyAt.set {w : World} {b : Nat} {T : TypeId} (h : TyAt w b T) (a : Addr) (u : Value) : TyAt (w.setCell a u) b T := by
  obtain ⟨c, fr, h⟩ := h
  simp only [TyAt, World.setCell, Array.getElem?_modify]
  by_cases e : a.block = b
  · rw [if_pos e, h]
    exact ⟨_, _, rfl⟩
  · rw [if_neg e]
    exact ⟨c, fr, h⟩
theorem TyAt.drew {w : World} {b : Nat} {T : TypeId} (h : TyAt w b T) : TyAt w.drew b T := h
theorem TyAt.drewN {w : World} {b : Nat} {T : TypeId} (h : TyAt w b T) (n : Nat) : TyAt (w.drewN n) b T := h
theorem Keeps.refl (w : World) : Keeps w w := fun _ _ h => h
theorem Keeps.alloc {w w' : World} (h : Keeps w w') (o : Obj) : Keeps w (w'.alloc o) := fun g cur hg => by
  have := h g cur hg
  exact (Below.heap_alloc w' o _ (Array.getElem?_eq_some_iff.1 this).1).trans this
theorem Keeps.drew {w w' : World} (h : Keeps w w') : Keeps w w'.drew := h
theorem Keeps.drewN {w w' : World} (h : Keeps w w') (n : Nat) : Keeps w (w'.drewN n) := h
theorem Keeps.below {w w' w'' : World} (hb : Below w'.heap.size w' w'') (h : Keeps w w') : Keeps w w'' := fun g cur hg => by
  have := h g cur hg
  rw [hb.block g (Array.getElem?_eq_some_iff.1 this).1]; exact this
theorem Keeps.set {w w' : World} (h : Keeps w w') (a : Addr) (u : Value) {T : TypeId} (ht : TyAt w' a.block T) (hT : T ≠ 130) : Keeps w (w'.setCell a u) := fun g cur hg => by
  have h1 := h g cur hg
  obtain ⟨c, fr, h2⟩ := ht
  have hne : g ≠ a.block := by
    intro e
    subst e
    rw [h1] at h2
    simp at h2
    exact hT h2.2.1.symm
  rw [Below.heap_setCell _ _ _ _ hne]; exact h1
theorem Pcs.keeps {w w' : World} {ao : Option Addr} {k cap : Nat} {ds : List Nat} (h : Pcs w ao k cap ds) (hb : Keeps w w') : Pcs w' ao k cap ds := by
  refine ⟨⟨h.1.1, ?_⟩, h.2⟩
  rcases h.1.2 with h | ⟨g, c, cur, hv, hg, hh, r⟩
  · exact .inl h
  · exact .inr ⟨g, c, cur, hv, hg, hb g cur hh, r⟩

/-- How a whole number lies in memory. -/
def IsBig (w : World) (neg : Bool) (ao : Option Addr) (k cap : Nat) (n : Int) : Prop :=
  ∃ ds, Pcs w ao k cap ds ∧ BM.Trim ds ∧ (neg = true → ds ≠ []) ∧ n = sgn neg (BM.bval ds)
theorem IsBig.keep {w w' : World} {neg : Bool} {ao : Option Addr} {k cap : Nat} {n : Int} (h : IsBig w neg ao k cap n) (hb : Below w.heap.size w w') : IsBig w' neg ao k cap n := by
  obtain ⟨ds, h1, h2⟩ := h
  exact ⟨ds, h1.keep hb, h2⟩
theorem IsBig.keeps {w w' : World} {neg : Bool} {ao : Option Addr} {k cap : Nat} {n : Int} (h : IsBig w neg ao k cap n) (hb : Keeps w w') : IsBig w' neg ao k cap n := by
  obtain ⟨ds, h1, h2⟩ := h
  exact ⟨ds, h1.keeps hb, h2⟩
/-- What a function answers that gives back a whole number. -/
def BigRet (n : Int) (w : World) (e : Ending) (w' : World) : Prop :=
  ∃ neg ao k cap, e = .returned (.agg #[.bool neg, .slice ao k cap]) ∧ IsBig w' neg ao k cap n ∧ Below w.heap.size w w'

set_option maxRecDepth 100000 in
set_option maxHeartbeats 400000 in
theorem big_trim (neg : Bool) (ao : Option Addr) (k cap : Nat) (ds : List Nat) (w : World) (h : Pcs w ao k cap ds) (hk : k ≤ 1000000) :
    Calls Try.prog 103 #[.agg #[.bool neg, .slice ao k cap]] w (BigRet (sgn neg (BM.bval ds)) w) := by
  have hcap := h.shape
  go_enter Try.func103, Try.ntmps103
  go_wp2
  go_loopg [] k (fun g wr => ∃ j : Nat, j ≤ k ∧ g = j ∧ (w.alloc (.cells #[.bool neg, .slice ao j cap] 128)).alloc (.cells #[.bool false, .slice none 0 0] 128) = wr ∧ BM.bval (ds.take j) = BM.bval ds)
  case atStart => exact ⟨k, Nat.le_refl _, rfl, rfl, by rw [List.take_of_length_le (by rw [h.len]; exact Nat.le_refl _)]⟩
  case round =>
    obtain ⟨j, hj, rfl, rfl, hv⟩ := hrel
    have HV := Lib.hid hv
    clear hv
    by_cases hj0 : gk = 0
    · subst hj0
      go_wp2
      simp [bodyPost, results, Try.results103, go_sem]
      have e0 : BM.bval ds = 0 := by rw [← HV.out]; rfl
      exact ⟨false, ao, 0, cap, rfl, ⟨[], (h.take 0 (Nat.zero_le _)).keep (by repeat' (first | (with_reducible exact Below.refl _ _) | (with_reducible assumption) | (with_reducible refine below_alloc ?_ _ ?_) | (with_reducible refine below_set _ ?_ ?_) | (with_reducible refine Below.drew ?_) | (with_reducible refine below_dN ?_ _) | (apply below_thenA; assumption) | omega | (simp; done) | (simp; omega) | (simp [*]; done))), BM.Trim.nil, fun h => (by cases h), by rw [e0]; cases neg <;> rfl⟩, (by repeat' (first | (with_reducible exact Below.refl _ _) | (with_reducible assumption) | (with_reducible refine below_alloc ?_ _ ?_) | (with_reducible refine below_set _ ?_ ?_) | (with_reducible refine Below.drew ?_) | (with_reducible refine below_dN ?_ _) | (apply below_thenA; assumption) | omega | (simp; done) | (simp; omega) | (simp [*]; done)))⟩
    · obtain ⟨g, rfl, hc, hg⟩ := h.cell (gk - 1) (by omega)
      have HD := h.dig.getD (gk - 1)
      obtain ⟨d, hd⟩ : ∃ d, d = ds.getD (gk - 1) 0 := ⟨_, rfl⟩
      rw [← hd] at hc HD
      have HDD := Lib.hid hd
      clear hd
      have hg1 : g < w.heap.size + 1 := by omega
      have hg2 : g ≤ w.heap.size := by omega
      have hj1 : 0 < gk := by omega
      by_cases h0 : d = 0
      · subst h0
        go_wp2
        go_roundg (gk - 1)
        case measure => omega
        case rel =>
          refine ⟨gk - 1, by omega, rfl, rfl, ?_⟩
          have e : gk = gk - 1 + 1 := by omega
          have hl : gk - 1 < ds.length := by rw [h.len]; omega
          have hz : ds[gk - 1] = 0 := by have := HDD.out; simp [List.getD, hl] at this; exact this.symm
          rw [← HV.out, e, BM.bval_take_succ ds (gk - 1) hl, hz]
          simp
      · have h0' : ((d : Int) == 0) = false := by simp [h0]
        go_wp2
        simp [bodyPost, results, Try.results103, go_sem]
        have hl : gk - 1 < ds.length := by rw [h.len]; omega
        have hz : ds[gk - 1] ≠ 0 := by have := HDD.out; simp [List.getD, hl] at this; omega
        have ht : BM.Trim (ds.take gk) := by
          intro hne
          have hlen : (ds.take gk).length = gk := by rw [List.length_take]; omega
          rw [List.getLast_eq_getElem]
          simp only [hlen, List.getElem_take]
          exact hz
        have hne : ds.take gk ≠ [] := by
          intro e
          have hlen : (ds.take gk).length = gk := by rw [List.length_take]; omega
          rw [e] at hlen
          simp at hlen
          omega
        exact ⟨neg, _, gk, cap, rfl, ⟨ds.take gk, (h.take gk hj).keep (by repeat' (first | (with_reducible exact Below.refl _ _) | (with_reducible assumption) | (with_reducible refine below_alloc ?_ _ ?_) | (with_reducible refine below_set _ ?_ ?_) | (with_reducible refine Below.drew ?_) | (with_reducible refine below_dN ?_ _) | (apply below_thenA; assumption) | omega | (simp; done) | (simp; omega) | (simp [*]; done))), ht, fun _ => hne, by rw [HV.out]⟩, (by repeat' (first | (with_reducible exact Below.refl _ _) | (with_reducible assumption) | (with_reducible refine below_alloc ?_ _ ?_) | (with_reducible refine below_set _ ?_ ?_) | (with_reducible refine Below.drew ?_) | (with_reducible refine below_dN ?_ _) | (apply below_thenA; assumption) | omega | (simp; done) | (simp; omega) | (simp [*]; done)))⟩
end Go.Proofs.Ythofammjbicogaa
namespace Go.Proofs.Ythofammjbicogaa
open Go.RowKit
set_option linter.unusedSimpArgs false
set_option linter.unusedVariables false

def cmpN (a b : Nat) : Int := if a < b then -1 else if b < a then 1 else 0
theorem cmpN_lt {a b : Nat} (h : a < b) : cmpN a b = -1 := if_pos h
theorem cmpN_gt {a b : Nat} (h : b < a) : cmpN a b = 1 := by unfold cmpN; rw [if_neg (by omega), if_pos h]
theorem cmpN_eq {a b : Nat} (h : a = b) : cmpN a b = 0 := by unfold cmpN; rw [if_neg (by omega), if_neg (by omega)]

set_option maxRecDepth 100000 in
set_option maxHeartbeats 400000 in
theorem big_sizes (ao bo : Option Addr) (k m cap cap' : Nat) (xs ys : List Nat) (w : World) (ha : Pcs w ao k cap xs) (hb : Pcs w bo m cap' ys) (ta : BM.Trim xs) (tb : BM.Trim ys) (hk : k ≤ 1000000) (hm : m ≤ 1000000) :
    Calls Try.prog 104 #[.slice ao k cap, .slice bo m cap'] w fun e w' => e = .returned (.int .i64 (cmpN (BM.bval xs) (BM.bval ys))) ∧ Below w.heap.size w w' := by
  have la := ha.len
  have lb := hb.len
  have LA := Lib.hid la
  have LB := Lib.hid lb
  clear la lb
  rcases Nat.lt_trichotomy k m with hlt | rfl | hgt
  · have e := cmpN_lt (BM.len_lt_bval ha.dig tb (by rw [LA.out, LB.out]; exact hlt))
    have E := Lib.hid e
    clear e
    have hne : ((k : Int) != (m : Int)) = true := by simp; omega
    go_enter Try.func104, Try.ntmps104
    go_wp2
    go_ret
    exact ⟨ret_int (by rw [E.out]), (by repeat' (first | (with_reducible exact Below.refl _ _) | (with_reducible assumption) | (with_reducible refine below_alloc ?_ _ ?_) | (with_reducible refine below_set _ ?_ ?_) | (with_reducible refine Below.drew ?_) | (with_reducible refine below_dN ?_ _) | (apply below_thenA; assumption) | omega | (simp; done) | (simp; omega) | (simp [*]; done)))⟩
  · have HQ : Hid (∀ i, i < k → xs.getD i 0 < 65536 ∧ ys.getD i 0 < 65536) := fun i _ => ⟨ha.dig.getD i, hb.dig.getD i⟩
    go_enter Try.func104, Try.ntmps104
    go_wp2
    go_loopg [5] k (fun g s wr => ∃ (j n : Nat), j ≤ k ∧ g = j ∧ s = .int .i64 ((j : Int) - 1) ∧ w.drewN n = wr ∧ xs.drop j = ys.drop j)
    case atStart => exact ⟨k, 0, Nat.le_refl _, rfl, rfl, rfl, by rw [List.drop_eq_nil_of_le (by rw [LA.out]; exact Nat.le_refl _), List.drop_eq_nil_of_le (by rw [LB.out]; exact Nat.le_refl _)]⟩
    case round =>
      obtain ⟨j, n, hj, rfl, rfl, rfl, hd⟩ := hrel
      have HD := Lib.hid hd
      clear hd
      by_cases hj0 : gk = 0
      · subst hj0
        have e : BM.bval xs = BM.bval ys := by have := HD.out; simp at this; rw [this]
        have E := Lib.hid (cmpN_eq e)
        clear e
        go_wp2
        go_ret
        exact ⟨ret_int (by rw [E.out]), (by repeat' (first | (with_reducible exact Below.refl _ _) | (with_reducible assumption) | (with_reducible refine below_alloc ?_ _ ?_) | (with_reducible refine below_set _ ?_ ?_) | (with_reducible refine Below.drew ?_) | (with_reducible refine below_dN ?_ _) | (apply below_thenA; assumption) | omega | (simp; done) | (simp; omega) | (simp [*]; done)))⟩
      · obtain ⟨g, rfl, hc, hg⟩ := ha.cell (gk - 1) (by omega)
        obtain ⟨g', rfl, hc', hg'⟩ := hb.cell (gk - 1) (by omega)
        have hla : gk - 1 < xs.length := by rw [LA.out]; omega
        have hlb : gk - 1 < ys.length := by rw [LB.out]; omega
        have ga : xs.getD (gk - 1) 0 = xs[gk - 1] := by simp [List.getD, hla]
        have gb : ys.getD (gk - 1) 0 = ys[gk - 1] := by simp [List.getD, hlb]
        have es : xs.drop (gk - 1 + 1) = ys.drop (gk - 1 + 1) := by rw [show gk - 1 + 1 = gk by omega]; exact HD.out
        have CL := Lib.hid (BM.bval_cmp_at ha.dig (gk - 1) hla hlb es)
        have CG := Lib.hid (BM.bval_cmp_at hb.dig (gk - 1) hlb hla es.symm)
        rw [← ga, ← gb] at CL CG
        have RR := Lib.hid (show xs.getD (gk - 1) 0 = ys.getD (gk - 1) 0 → xs.drop (gk - 1) = ys.drop (gk - 1) from fun h => by
          rw [List.drop_eq_getElem_cons hla, List.drop_eq_getElem_cons hlb, es, ← ga, ← gb, h])
        clear ga gb es hla hlb
        obtain ⟨x, hx⟩ : ∃ x, x = xs.getD (gk - 1) 0 := ⟨_, rfl⟩
        obtain ⟨y, hy⟩ : ∃ y, y = ys.getD (gk - 1) 0 := ⟨_, rfl⟩
        rw [← hx] at hc CL CG RR
        rw [← hy] at hc' CL CG RR
        clear hx hy
        have hj1 : 0 < gk := by omega
        have i1 : 0 ≤ (gk : Int) - 1 := by omega
        have i2 : (gk : Int) - 1 < (k : Int) := by omega
        rcases Nat.lt_trichotomy x y with hl | hl | hl
        · have e := Lib.hid (cmpN_lt (CL.out hl))
          have hl' : (x : Int) < (y : Int) := by omega
          clear hl
          go_wp2
          go_quiet (fail)
          go_wp2
          go_ret
          exact ⟨ret_int (by rw [e.out]), (by repeat' (first | (with_reducible exact Below.refl _ _) | (with_reducible assumption) | (with_reducible refine below_alloc ?_ _ ?_) | (with_reducible refine below_set _ ?_ ?_) | (with_reducible refine Below.drew ?_) | (with_reducible refine below_dN ?_ _) | (apply below_thenA; assumption) | omega | (simp; done) | (simp; omega) | (simp [*]; done)))⟩
        · subst hl
          go_wp2
          go_quiet (fail)
          go_wp2
          go_quiet (fail)
          go_wp2
          go_roundg (gk - 1)
          case measure => omega
          case rel =>
            exact ⟨gk - 1, _, by omega, rfl, by congr 1; omega, rfl, RR.out (by first | trivial | rfl)⟩
        · have e := Lib.hid (cmpN_gt (CG.out hl))
          have hl' : (y : Int) < (x : Int) := by omega
          clear hl
          go_wp2
          go_quiet (fail)
          go_wp2
          go_quiet (fail)
          go_wp2
          go_ret
          exact ⟨ret_int (by rw [e.out]), (by repeat' (first | (with_reducible exact Below.refl _ _) | (with_reducible assumption) | (with_reducible refine below_alloc ?_ _ ?_) | (with_reducible refine below_set _ ?_ ?_) | (with_reducible refine Below.drew ?_) | (with_reducible refine below_dN ?_ _) | (apply below_thenA; assumption) | omega | (simp; done) | (simp; omega) | (simp [*]; done)))⟩
  · have e := cmpN_gt (BM.len_lt_bval hb.dig ta (by rw [LA.out, LB.out]; exact hgt))
    have E := Lib.hid e
    clear e
    have hne : ((k : Int) != (m : Int)) = true := by simp; omega
    go_enter Try.func104, Try.ntmps104
    go_wp2
    go_ret
    exact ⟨ret_int (by rw [E.out]), (by repeat' (first | (with_reducible exact Below.refl _ _) | (with_reducible assumption) | (with_reducible refine below_alloc ?_ _ ?_) | (with_reducible refine below_set _ ?_ ?_) | (with_reducible refine Below.drew ?_) | (with_reducible refine below_dN ?_ _) | (apply below_thenA; assumption) | omega | (simp; done) | (simp; omega) | (simp [*]; done)))⟩
end Go.Proofs.Ythofammjbicogaa
