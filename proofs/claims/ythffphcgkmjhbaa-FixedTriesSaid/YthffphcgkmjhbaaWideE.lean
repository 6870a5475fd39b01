/-
  The functions of package wide, each by its contract: MulDiv; what the statements of layer 1 ask first.
-/
import Derived.Test.YthffphcgkmjhbaaWideD
namespace Go.Proofs.Ythffphcgkmjhbaa
open Go.RowKit
set_option linter.unusedSimpArgs false
set_option linter.unusedVariables false

theorem wide_div_some (a d hi lo : Int) (hA : Wd hi lo a) (d1 : -9223372036854775808 ≤ d) (d2 : d ≤ 9223372036854775807) (hd : d ≠ 0) (hf : WFit (fq a d)) (w : World) :
    Calls Try.prog 32 #[.agg #[.int .i64 hi, .int .u64 lo], .int .i64 d] w fun e w' => e = .returned (.tuple #[.agg #[.int .i64 ((fq a d) / 18446744073709551616), .int .u64 ((fq a d) % 18446744073709551616)], .int .i64 (fr a d), .bool true]) ∧ Below w.heap.size w w' :=
  (wide_div a d hi lo hA d1 d2 w).mono fun _ _ h => ⟨h.2.1 hd hf, h.2.2.2⟩
theorem wide_div_none (a d hi lo : Int) (hA : Wd hi lo a) (d1 : -9223372036854775808 ≤ d) (d2 : d ≤ 9223372036854775807) (hd : d = 0 ∨ ¬ WFit (fq a d)) (w : World) :
    Calls Try.prog 32 #[.agg #[.int .i64 hi, .int .u64 lo], .int .i64 d] w fun e w' => e = .returned (.tuple #[.agg #[.int .i64 0, .int .u64 0], .int .i64 0, .bool false]) ∧ Below w.heap.size w w' :=
  (wide_div a d hi lo hA d1 d2 w).mono fun _ _ h => ⟨by
    by_cases h0 : d = 0
    · exact h.1 h0
    · exact h.2.2.1 h0 (hd.resolve_left h0), h.2.2.2⟩
theorem wide_add_fit (a b h1 l1 h2 l2 : Int) (ha : Wd h1 l1 a) (hb : Wd h2 l2 b) (hf : WFit (a + b)) (w : World) :
    Calls Try.prog 38 #[.agg #[.int .i64 h1, .int .u64 l1], .agg #[.int .i64 h2, .int .u64 l2]] w fun e w' => e = .returned (.tuple #[.agg #[.int .i64 ((a + b) / 18446744073709551616), .int .u64 ((a + b) % 18446744073709551616)], .bool true]) ∧ Below w.heap.size w w' :=
  (wide_add a b h1 l1 h2 l2 ha hb w).mono fun _ _ h => ⟨h.1 hf, h.2.2⟩
theorem wide_add_no (a b h1 l1 h2 l2 : Int) (ha : Wd h1 l1 a) (hb : Wd h2 l2 b) (hf : ¬ WFit (a + b)) (w : World) :
    Calls Try.prog 38 #[.agg #[.int .i64 h1, .int .u64 l1], .agg #[.int .i64 h2, .int .u64 l2]] w fun e w' => e = .returned (.tuple #[.agg #[.int .i64 0, .int .u64 0], .bool false]) ∧ Below w.heap.size w w' :=
  (wide_add a b h1 l1 h2 l2 ha hb w).mono fun _ _ h => ⟨h.2.1 hf, h.2.2⟩
theorem wide_neg_fit (a h1 l1 : Int) (ha : Wd h1 l1 a) (hf : WFit (-a)) (w : World) :
    Calls Try.prog 37 #[.agg #[.int .i64 h1, .int .u64 l1]] w fun e w' => e = .returned (.tuple #[.agg #[.int .i64 ((-a) / 18446744073709551616), .int .u64 ((-a) % 18446744073709551616)], .bool true]) ∧ Below w.heap.size w w' :=
  (wide_neg a h1 l1 ha w).mono fun _ _ h => ⟨h.1 hf, h.2.2⟩
theorem wide_neg_no (a h1 l1 : Int) (ha : Wd h1 l1 a) (hf : ¬ WFit (-a)) (w : World) :
    Calls Try.prog 37 #[.agg #[.int .i64 h1, .int .u64 l1]] w fun e w' => e = .returned (.tuple #[.agg #[.int .i64 0, .int .u64 0], .bool false]) ∧ Below w.heap.size w w' :=
  (wide_neg a h1 l1 ha w).mono fun _ _ h => ⟨h.2.1 hf, h.2.2⟩

theorem fq_abs {a d : Int} (hd : d ≠ 0) : (fq a d).natAbs ≤ a.natAbs := by
  have h1 : ∀ x y : Int, 0 < y → (x / y).natAbs ≤ x.natAbs := by
    intro x y hy
    rcases Int.lt_or_le x 0 with hx | hx
    · have := (Int.le_ediv_iff_mul_le hy (a := x) (b := x)).2 (by
        have := Int.mul_le_mul_of_nonpos_left (a := x) (b := y) (c := 1) (by omega) (by omega)
        omega)
      have := Int.ediv_neg_of_neg_of_pos hx hy
      omega
    · have := Int.ediv_le_self y hx
      have := Int.ediv_nonneg hx (show 0 ≤ y by omega)
      omega
  unfold fq
  by_cases h : d < 0
  · rw [if_pos h]
    have := h1 (-a) (-d) (by omega)
    omega
  · rw [if_neg h]
    exact h1 a d (by omega)

/-- What MulDiv answers. -/
def MFit (a b c : Int) : Prop := c ≠ 0 ∧ IFit (fq (a * b) c)
theorem i64_fit {n : Int} (h : IFit n) : WFit n := by unfold IFit at h; unfold WFit; omega
theorem mul_fit {a b : Int} (ha : IFit a) (hb : IFit b) : WFit (a * b) := by
  have := mul_bound a b ha.1 ha.2 hb.1 hb.2
  unfold WFit; omega
theorem fq_fit {a b c : Int} (ha : IFit a) (hb : IFit b) (hc : c ≠ 0) : WFit (fq (a * b) c) := by
  have := mul_bound a b ha.1 ha.2 hb.1 hb.2
  have := fq_abs (a := a * b) hc
  unfold WFit; omega

set_option maxRecDepth 100000 in
set_option maxHeartbeats 400000 in
theorem wide_muldiv_fit (a b c : Int) (ha : IFit a) (hb : IFit b) (hc : IFit c) (h : MFit a b c) (w : World) :
    Calls Try.prog 36 #[.int .i64 a, .int .i64 b, .int .i64 c] w fun e w' => e = .returned (.tuple #[.int .i64 (fq (a * b) c), .bool true]) ∧ Below w.heap.size w w' := by
  have h0 := h.1
  have qI := h.2
  have mW := Wd.of (mul_fit ha hb)
  have qW := fq_fit ha hb h0
  have qWd := Wd.of qW
  obtain ⟨a1, a2⟩ := ha
  obtain ⟨b1, b2⟩ := hb
  obtain ⟨c1, c2⟩ := hc
  go_enter Try.func36, Try.ntmps36
  go_wp2_with (first
    | (go_at_call 25; (with_reducible refine (wide_mul a b a1 a2 b1 b2 _).mono ?_); rintro e w' ⟨rfl, hb'⟩; obtain ⟨hc', hf'⟩ := bcell hb'; have hz' := bz0 (n := w.heap.size) hb' (by (try simp) <;> omega); have hs' := hb'.size; (try simp at hs'); (try (have hs2' := Nat.lt_of_succ_le hs')))
    | (go_at_call 32; (with_reducible refine (wide_div_some (a * b) c _ _ mW c1 c2 h0 qW _).mono ?_); rintro e w' ⟨rfl, hb'⟩; obtain ⟨hc', hf'⟩ := bcell hb'; have hz' := bz0 (n := w.heap.size) hb' (by (try simp) <;> omega); have hs' := hb'.size; (try simp at hs'); (try (have hs2' := Nat.lt_of_succ_le hs')))
    | (go_at_call 28; (with_reducible refine (wide_int_fit (fq (a * b) c) _ _ qWd qI _).mono ?_); rintro e w' ⟨rfl, hb'⟩; obtain ⟨hc', hf'⟩ := bcell hb'; have hz' := bz0 (n := w.heap.size) hb' (by (try simp) <;> omega); have hs' := hb'.size; (try simp at hs'); (try (have hs2' := Nat.lt_of_succ_le hs'))))
  go_ret2
  exact ⟨rfl, (by repeat' (first | (with_reducible exact Below.refl _ _) | (with_reducible assumption) | (with_reducible refine below_alloc ?_ _ ?_) | (with_reducible refine below_set _ ?_ ?_) | (with_reducible refine Below.drew ?_) | (with_reducible refine below_dN ?_ _) | (apply below_thenA; assumption) | omega | (simp; done) | (simp; omega) | (simp [*]; done)))⟩
set_option maxRecDepth 100000 in
set_option maxHeartbeats 400000 in
theorem wide_muldiv_no (a b c : Int) (ha : IFit a) (hb : IFit b) (hc : IFit c) (h : ¬ MFit a b c) (w : World) :
    Calls Try.prog 36 #[.int .i64 a, .int .i64 b, .int .i64 c] w fun e w' => e = .returned (.tuple #[.int .i64 0, .bool false]) ∧ Below w.heap.size w w' := by
  have mW := Wd.of (mul_fit ha hb)
  have hx := ha
  have hy := hb
  obtain ⟨a1, a2⟩ := ha
  obtain ⟨b1, b2⟩ := hb
  obtain ⟨c1, c2⟩ := hc
  by_cases h0 : c = 0
  · subst h0
    go_enter Try.func36, Try.ntmps36
    go_wp2_with (first
      | (go_at_call 25; (with_reducible refine (wide_mul a b a1 a2 b1 b2 _).mono ?_); rintro e w' ⟨rfl, hb'⟩; obtain ⟨hc', hf'⟩ := bcell hb'; have hz' := bz0 (n := w.heap.size) hb' (by (try simp) <;> omega); have hs' := hb'.size; (try simp at hs'); (try (have hs2' := Nat.lt_of_succ_le hs')))
      | (go_at_call 32; (with_reducible refine (wide_div_none (a * b) 0 _ _ mW c1 c2 (.inl rfl) _).mono ?_); rintro e w' ⟨rfl, hb'⟩; obtain ⟨hc', hf'⟩ := bcell hb'; have hz' := bz0 (n := w.heap.size) hb' (by (try simp) <;> omega); have hs' := hb'.size; (try simp at hs'); (try (have hs2' := Nat.lt_of_succ_le hs'))))
    go_ret2
    exact ⟨rfl, (by repeat' (first | (with_reducible exact Below.refl _ _) | (with_reducible assumption) | (with_reducible refine below_alloc ?_ _ ?_) | (with_reducible refine below_set _ ?_ ?_) | (with_reducible refine Below.drew ?_) | (with_reducible refine below_dN ?_ _) | (apply below_thenA; assumption) | omega | (simp; done) | (simp; omega) | (simp [*]; done)))⟩
  · have hn : ¬ IFit (fq (a * b) c) := fun x => h ⟨h0, x⟩
    have h0 : c ≠ 0 := h0
    have qW := fq_fit hx hy h0
    have qWd := Wd.of qW
    go_enter Try.func36, Try.ntmps36
    go_wp2_with (first
      | (go_at_call 25; (with_reducible refine (wide_mul a b a1 a2 b1 b2 _).mono ?_); rintro e w' ⟨rfl, hb'⟩; obtain ⟨hc', hf'⟩ := bcell hb'; have hz' := bz0 (n := w.heap.size) hb' (by (try simp) <;> omega); have hs' := hb'.size; (try simp at hs'); (try (have hs2' := Nat.lt_of_succ_le hs')))
      | (go_at_call 32; (with_reducible refine (wide_div_some (a * b) c _ _ mW c1 c2 h0 qW _).mono ?_); rintro e w' ⟨rfl, hb'⟩; obtain ⟨hc', hf'⟩ := bcell hb'; have hz' := bz0 (n := w.heap.size) hb' (by (try simp) <;> omega); have hs' := hb'.size; (try simp at hs'); (try (have hs2' := Nat.lt_of_succ_le hs')))
      | (go_at_call 28; (with_reducible refine (wide_int_no (fq (a * b) c) _ _ qWd hn _).mono ?_); rintro e w' ⟨rfl, hb'⟩; obtain ⟨hc', hf'⟩ := bcell hb'; have hz' := bz0 (n := w.heap.size) hb' (by (try simp) <;> omega); have hs' := hb'.size; (try simp at hs'); (try (have hs2' := Nat.lt_of_succ_le hs'))))
    go_ret2
    exact ⟨rfl, (by repeat' (first | (with_reducible exact Below.refl _ _) | (with_reducible assumption) | (with_reducible refine below_alloc ?_ _ ?_) | (with_reducible refine below_set _ ?_ ?_) | (with_reducible refine Below.drew ?_) | (with_reducible refine below_dN ?_ _) | (apply below_thenA; assumption) | omega | (simp; done) | (simp; omega) | (simp [*]; done)))⟩
end Go.Proofs.Ythffphcgkmjhbaa
