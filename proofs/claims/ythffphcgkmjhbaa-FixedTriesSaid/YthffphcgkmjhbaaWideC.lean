/-
  The functions of package wide, each by its contract: what it returns for whatever it is given. Third part.
-/
import Derived.Test.YthffphcgkmjhbaaWideB
namespace Go.Proofs.Ythffphcgkmjhbaa
open Go.RowKit
set_option linter.unusedSimpArgs false
set_option linter.unusedVariables false

/-- Is it an int? -/
def IFit (n : Int) : Prop := -9223372036854775808 ≤ n ∧ n ≤ 9223372036854775807
def IAns (n : Int) (B : Nat) (w : World) (e : Ending) (w' : World) : Prop :=
  (IFit n → e = .returned (.tuple #[.int .i64 n, .bool true])) ∧ (¬ IFit n → e = .returned (.tuple #[.int .i64 0, .bool false])) ∧ Below B w w'
theorem ret_ib {h h' : Int} {b : Bool} (e1 : h = h') : Ending.returned (.tuple #[.int .i64 h, .bool b]) = .returned (.tuple #[.int .i64 (h'), .bool b]) := by rw [e1]
theorem bne_t {a b : Int} : ((a != b) = true) ↔ ¬ a = b := by simp
theorem bne_f {a b : Int} : ((a != b) = false) ↔ a = b := by simp

set_option maxRecDepth 100000 in
set_option maxHeartbeats 400000 in
theorem wide_int (a hi lo : Int) (ha : Wd hi lo a) (w : World) :
    Calls Try.prog 28 #[.agg #[.int .i64 hi, .int .u64 lo]] w (IAns a w.heap.size w) := by
  obtain ⟨a1, a2, a3, a4, a5⟩ := ha
  have A5 := Lib.hid a5
  clear a5
  go_enter Try.func28, Try.ntmps28
  go_wp2
  all_goals
    simp [bodyPost, results, Try.results28, go_sem]
    go_light
    have a5 := A5.out
    simp only [wrap64, bne_t, bne_f] at *
    refine ⟨fun h => ?_, fun h => ?_, (by repeat' (first | (with_reducible exact Below.refl _ _) | (with_reducible assumption) | (with_reducible refine below_alloc ?_ _ ?_) | (with_reducible refine below_set _ ?_ ?_) | (with_reducible refine Below.drew ?_) | (with_reducible refine below_dN ?_ _) | (apply below_thenA; assumption) | omega | (simp; done) | (simp; omega) | (simp [*]; done)))⟩
    all_goals unfold IFit at *
    all_goals first
      | (exfalso; omega)
      | (refine ret_ib ?_; omega)
theorem wide_int_fit (a hi lo : Int) (ha : Wd hi lo a) (hf : IFit a) (w : World) :
    Calls Try.prog 28 #[.agg #[.int .i64 hi, .int .u64 lo]] w fun e w' => e = .returned (.tuple #[.int .i64 a, .bool true]) ∧ Below w.heap.size w w' :=
  (wide_int a hi lo ha w).mono fun _ _ h => ⟨h.1 hf, h.2.2⟩
theorem wide_int_no (a hi lo : Int) (ha : Wd hi lo a) (hf : ¬ IFit a) (w : World) :
    Calls Try.prog 28 #[.agg #[.int .i64 hi, .int .u64 lo]] w fun e w' => e = .returned (.tuple #[.int .i64 0, .bool false]) ∧ Below w.heap.size w w' :=
  (wide_int a hi lo ha w).mono fun _ _ h => ⟨h.2.1 hf, h.2.2⟩

def absI (n : Int) : Int := n.natAbs
theorem ret_uu {h l h' l' : Int} (e1 : h = h') (e2 : l = l') : Ending.returned (.tuple #[.int .u64 h, .int .u64 l]) = .returned (.tuple #[.int .u64 (h'), .int .u64 (l')]) := by rw [e1, e2]
set_option maxRecDepth 100000 in
set_option maxHeartbeats 400000 in
theorem wide_size (a hi lo : Int) (ha : Wd hi lo a) (w : World) :
    Calls Try.prog 100 #[.agg #[.int .i64 hi, .int .u64 lo]] w fun e w' => e = .returned (.tuple #[.int .u64 (absI a / 18446744073709551616), .int .u64 (absI a % 18446744073709551616)]) ∧ Below w.heap.size w w' := by
  have hA := ha
  obtain ⟨a1, a2, a3, a4, a5⟩ := ha
  have A5 := Lib.hid a5
  clear a5
  by_cases h0 : hi < 0
  · by_cases hf : WFit (-a)
    all_goals
      go_enter Try.func100, Try.ntmps100
      go_wp2_with (first | (go_at_call 103; (with_reducible refine (wide_turned_fit a hi lo hA hf _).mono ?_); rintro e w' ⟨rfl, hb'⟩; obtain ⟨hc', hf'⟩ := bcell hb'; have hz' := bz1 (n := w.heap.size) hb' (by (try simp) <;> omega); have hs' := hb'.size; (try simp at hs'); (try (have hs2' := Nat.lt_of_succ_le hs'))) | (go_at_call 103; (with_reducible refine (wide_turned_min a hi lo hA hf _).mono ?_); rintro e w' ⟨rfl, hb'⟩; obtain ⟨hc', hf'⟩ := bcell hb'; have hz' := bz1 (n := w.heap.size) hb' (by (try simp) <;> omega); have hs' := hb'.size; (try simp at hs'); (try (have hs2' := Nat.lt_of_succ_le hs'))))
      go_quiet (fail)
      go_wp2
      go_ret2
      go_light
      have a5 := A5.out
      unfold WFit at hf
      exact ⟨ret_uu (by unfold absI; (try rw [IntKind.wrap_u64]); omega) (by unfold absI; omega), (by repeat' (first | (with_reducible exact Below.refl _ _) | (with_reducible assumption) | (with_reducible refine below_alloc ?_ _ ?_) | (with_reducible refine below_set _ ?_ ?_) | (with_reducible refine Below.drew ?_) | (with_reducible refine below_dN ?_ _) | (apply below_thenA; assumption) | omega | (simp; done) | (simp; omega) | (simp [*]; done)))⟩
  · go_enter Try.func100, Try.ntmps100
    go_wp2
    go_quiet (fail)
    go_wp2
    go_ret2
    go_light
    have a5 := A5.out
    exact ⟨ret_uu (by unfold absI; (try rw [IntKind.wrap_u64]); omega) (by unfold absI; omega), (by repeat' (first | (with_reducible exact Below.refl _ _) | (with_reducible assumption) | (with_reducible refine below_alloc ?_ _ ?_) | (with_reducible refine below_set _ ?_ ?_) | (with_reducible refine Below.drew ?_) | (with_reducible refine below_dN ?_ _) | (apply below_thenA; assumption) | omega | (simp; done) | (simp; omega) | (simp [*]; done)))⟩
end Go.Proofs.Ythffphcgkmjhbaa
