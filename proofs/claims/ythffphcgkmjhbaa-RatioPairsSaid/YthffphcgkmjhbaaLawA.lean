/-
  The statements of layer 1 that name no reference: what their functions compute.
-/
import Derived.Test.YthffphcgkmjhbaaWideE
namespace Go.Proofs.Ythffphcgkmjhbaa
open Go.RowKit
set_option linter.unusedSimpArgs false
set_option linter.unusedVariables false

set_option maxRecDepth 100000 in
set_option maxHeartbeats 400000 in
theorem speaks01 (w : World) :
    Calls Try.prog 24 #[] w fun e w' => e = .returned (.bool true) ∧ Below w.heap.size w w' := by
  have w7 : Wd (-1) 18446744073709551609 (-7) := by unfold Wd; omega
  have w4 : Wd (-1) 18446744073709551612 (-4) := by unfold Wd; omega
  have f7 : fq (-7) 2 = -4 := by decide
  have r7 : fr (-7) 2 = 1 := by decide
  have q4 : WFit (fq (-7) 2) := by rw [f7]; unfold WFit; omega
  have i4 : IFit (-4) := by unfold IFit; omega
  have m1 : MFit 7 3 2 := by unfold MFit IFit; decide
  have e1 : fq (7 * 3) 2 = 10 := by decide
  have m2 : ¬ MFit 4611686018427387904 6 2 := by unfold MFit IFit; decide
  have I7 : IFit 7 := by unfold IFit; omega
  have I3 : IFit 3 := by unfold IFit; omega
  have I2 : IFit 2 := by unfold IFit; omega
  have I6 : IFit 6 := by unfold IFit; omega
  have I62 : IFit 4611686018427387904 := by unfold IFit; omega
  go_enter Try.func24, Try.ntmps24
  go_wp2_with (first
    | (go_at_call 31; (with_reducible refine (wide_of (-7) (by decide) (by decide) _).mono ?_); rintro e w' ⟨rfl, hb'⟩; obtain ⟨hc', hf'⟩ := bcell hb'; have hz' := bz0 (n := w.heap.size) hb' (by (try simp) <;> omega); have hs' := hb'.size; (try simp at hs'); (try (have hs2' := Nat.lt_of_succ_le hs')))
    | (go_at_call 32; (with_reducible refine (wide_div_some (-7) 2 _ _ w7 (by decide) (by decide) (by decide) q4 _).mono ?_); rintro e w' ⟨rfl, hb'⟩; obtain ⟨hc', hf'⟩ := bcell hb'; have hz' := bz0 (n := w.heap.size) hb' (by (try simp) <;> omega); have hs' := hb'.size; (try simp at hs'); (try (have hs2' := Nat.lt_of_succ_le hs')))
    | (go_at_call 28; (with_reducible refine (wide_int_fit (-4) _ _ w4 i4 _).mono ?_); rintro e w' ⟨rfl, hb'⟩; obtain ⟨hc', hf'⟩ := bcell hb'; have hz' := bz0 (n := w.heap.size) hb' (by (try simp) <;> omega); have hs' := hb'.size; (try simp at hs'); (try (have hs2' := Nat.lt_of_succ_le hs')))
    | (go_at_call 36; (with_reducible refine (wide_muldiv_fit 7 3 2 I7 I3 I2 m1 _).mono ?_); rintro e w' ⟨rfl, hb'⟩; obtain ⟨hc', hf'⟩ := bcell hb'; have hz' := bz0 (n := w.heap.size) hb' (by (try simp) <;> omega); have hs' := hb'.size; (try simp at hs'); (try (have hs2' := Nat.lt_of_succ_le hs')))
    | (go_at_call 36; (with_reducible refine (wide_muldiv_no 4611686018427387904 6 2 I62 I6 I2 m2 _).mono ?_); rintro e w' ⟨rfl, hb'⟩; obtain ⟨hc', hf'⟩ := bcell hb'; have hz' := bz0 (n := w.heap.size) hb' (by (try simp) <;> omega); have hs' := hb'.size; (try simp at hs'); (try (have hs2' := Nat.lt_of_succ_le hs'))))
  go_ret
  exact ⟨rfl, (by repeat' (first | (with_reducible exact Below.refl _ _) | (with_reducible assumption) | (with_reducible refine below_alloc ?_ _ ?_) | (with_reducible refine below_set _ ?_ ?_) | (with_reducible refine Below.drew ?_) | (with_reducible refine below_dN ?_ _) | (apply below_thenA; assumption) | omega | (simp; done) | (simp; omega) | (simp [*]; done)))⟩

theorem bzE2 {n : Nat} {W w1 : World} {G : Prop} (hb : Below W.heap.size W w1) (h : n + 2 ≤ W.heap.size) (k : (n + 1 < w1.heap.size ∧ n + 1 ≤ w1.heap.size ∧ n < w1.heap.size) → G) : G := by
  have := hb.size
  exact k (by omega)
theorem fr_fit {a c : Int} (hc : IFit c) (h0 : c ≠ 0) : IFit (fr a c) := by
  unfold IFit at *
  rcases Int.lt_or_le c 0 with h | h
  · rw [fr_neg h]
    have := Int.emod_nonneg (-a) (show -c ≠ 0 by omega)
    have := Int.emod_lt_of_pos (-a) (show 0 < -c by omega)
    omega
  · rw [fr_pos (by omega)]
    have := Int.emod_nonneg a h0
    have := Int.emod_lt_of_pos a (show 0 < c by omega)
    omega

set_option maxRecDepth 100000 in
set_option maxHeartbeats 1600000 in
theorem law_muldivs_pos (a b c : Int) (ha : IFit a) (hb : IFit b) (hc : IFit c) (hm : MFit a b c) (hp : 0 < c) (w : World) :
    Calls Try.prog 5 #[.int .i64 a, .int .i64 b, .int .i64 c] w fun e w' => e = .returned (.bool true) ∧ Below w.heap.size w w' := by
  have mW := Wd.of (mul_fit ha hb)
  obtain ⟨a1, a2⟩ := id ha
  obtain ⟨b1, b2⟩ := id hb
  obtain ⟨c1, c2⟩ := id hc
  have hn := hm.2
  have h0 := hm.1
  have wN := Wd.of (mul_fit hn hc)
  have wM : WFit (-(fq (a * b) c * c)) := by
    have := mul_bound _ c hn.1 hn.2 hc.1 hc.2
    unfold WFit; omega
  have wMd := Wd.of wM
  have er : a * b + -(fq (a * b) c * c) = fr (a * b) c := by unfold fr; omega
  have rI : IFit (a * b + -(fq (a * b) c * c)) := by rw [er]; exact fr_fit (a := a * b) hc h0
  have rW := i64_fit rI
  have rWd := Wd.of rW
  obtain ⟨n1, n2⟩ := id hn
  have p1 : 0 ≤ a * b + -(fq (a * b) c * c) := by rw [er, fr_pos hp]; exact Int.emod_nonneg _ h0
  have p2 : a * b + -(fq (a * b) c * c) < c := by rw [er, fr_pos hp]; exact Int.emod_lt_of_pos _ hp
  clear er
  go_enter Try.func5, Try.ntmps5
  go_upto_region 9 with (first
    | (go_at_call 24; (with_reducible refine (speaks01 _).mono ?_); rintro e w' ⟨rfl, hb'⟩; obtain ⟨hc', hf'⟩ := bcell hb'; have hz' := bz0 (n := w.heap.size) hb' (by (try simp) <;> omega); have hs' := hb'.size; (try simp at hs'); (try (have hs2' := Nat.lt_of_succ_le hs')))
    | (go_at_call 36; (with_reducible refine (wide_muldiv_fit a b c ha hb hc hm _).mono ?_); rintro e w' ⟨rfl, hb'⟩; obtain ⟨hc', hf'⟩ := bcell hb'; have hz' := bz0 (n := w.heap.size) hb' (by (try simp) <;> omega); have hs' := hb'.size; (try simp at hs'); (try (have hs2' := Nat.lt_of_succ_le hs')))
    | (go_at_call 25; (with_reducible refine (wide_mul (fq (a * b) c) c n1 n2 c1 c2 _).mono ?_); rintro e w' ⟨rfl, hb'⟩; obtain ⟨hc', hf'⟩ := bcell hb'; have hz' := bz0 (n := w.heap.size) hb' (by (try simp) <;> omega); have hs' := hb'.size; (try simp at hs'); (try (have hs2' := Nat.lt_of_succ_le hs')))
    | (go_at_call 37; (with_reducible refine (wide_neg_fit (fq (a * b) c * c) _ _ wN wM _).mono ?_); rintro e w' ⟨rfl, hb'⟩; obtain ⟨hc', hf'⟩ := bcell hb'; have hz' := bz0 (n := w.heap.size) hb' (by (try simp) <;> omega); have hs' := hb'.size; (try simp at hs'); (try (have hs2' := Nat.lt_of_succ_le hs'))))
  obtain ⟨W9, rfl⟩ : ∃ W9 : World, W9 = w' := ⟨_, rfl⟩
  go_region_with (first
    | (go_at_call 25; (with_reducible refine (wide_mul a b a1 a2 b1 b2 _).mono ?_); rintro e w' ⟨rfl, hb'⟩; obtain ⟨hc', hf'⟩ := bcell hb'; have hz' := bz1 (n := W9.heap.size) hb' (by (try simp) <;> omega); have hs' := hb'.size; (try simp at hs'); (try (have hs2' := Nat.lt_of_succ_le hs')))
    | (go_at_call 38; (with_reducible refine (wide_add_fit (a * b) (-(fq (a * b) c * c)) _ _ _ _ mW wMd rW _).mono ?_); rintro e w' ⟨rfl, hb'⟩; obtain ⟨hc', hf'⟩ := bcell hb'; have hz' := bz1 (n := W9.heap.size) hb' (by (try simp) <;> omega); have hs' := hb'.size; (try simp at hs'); (try (have hs2' := Nat.lt_of_succ_le hs')); (try (refine bzE2 (n := W9.heap.size) hb' ?_ ?_; (first | omega | (simp; done) | (simp; omega)); intro hz2'))))
  all_goals
    go_wp2_with (go_at_call 28; (with_reducible refine (wide_int_fit (a * b + -(fq (a * b) c * c)) _ _ rWd rI _).mono ?_); rintro e w' ⟨rfl, hb'⟩; obtain ⟨hc', hf'⟩ := bcell hb'; have hz' := bz0 (n := w.heap.size) hb' (by (try simp) <;> omega); have hs' := hb'.size; (try simp at hs'); (try (have hs2' := Nat.lt_of_succ_le hs')))
    go_ret
    exact ⟨rfl, (by repeat' (first | (with_reducible exact Below.refl _ _) | (with_reducible assumption) | (with_reducible refine below_alloc ?_ _ ?_) | (with_reducible refine below_set _ ?_ ?_) | (with_reducible refine Below.drew ?_) | (with_reducible refine below_dN ?_ _) | (apply below_thenA; assumption) | omega | (simp; done) | (simp; omega) | (simp [*]; done)))⟩

set_option maxRecDepth 100000 in
set_option maxHeartbeats 1600000 in
theorem law_muldivs_neg (a b c : Int) (ha : IFit a) (hb : IFit b) (hc : IFit c) (hm : MFit a b c) (hp : ¬ 0 < c) (w : World) :
    Calls Try.prog 5 #[.int .i64 a, .int .i64 b, .int .i64 c] w fun e w' => e = .returned (.bool true) ∧ Below w.heap.size w w' := by
  have mW := Wd.of (mul_fit ha hb)
  obtain ⟨a1, a2⟩ := id ha
  obtain ⟨b1, b2⟩ := id hb
  obtain ⟨c1, c2⟩ := id hc
  have hn := hm.2
  have h0 := hm.1
  have wN := Wd.of (mul_fit hn hc)
  have wM : WFit (-(fq (a * b) c * c)) := by
    have := mul_bound _ c hn.1 hn.2 hc.1 hc.2
    unfold WFit; omega
  have wMd := Wd.of wM
  have er : a * b + -(fq (a * b) c * c) = fr (a * b) c := by unfold fr; omega
  have rI : IFit (a * b + -(fq (a * b) c * c)) := by rw [er]; exact fr_fit (a := a * b) hc h0
  have rW := i64_fit rI
  have rWd := Wd.of rW
  obtain ⟨n1, n2⟩ := id hn
  have hp : c < 0 := by omega
  have p1 : a * b + -(fq (a * b) c * c) ≤ 0 := by rw [er, fr_neg hp]; have := Int.emod_nonneg (-(a * b)) (show -c ≠ 0 by omega); omega
  have p2 : c < a * b + -(fq (a * b) c * c) := by rw [er, fr_neg hp]; have := Int.emod_lt_of_pos (-(a * b)) (show 0 < -c by omega); omega
  clear er
  go_enter Try.func5, Try.ntmps5
  go_upto_region 9 with (first
    | (go_at_call 24; (with_reducible refine (speaks01 _).mono ?_); rintro e w' ⟨rfl, hb'⟩; obtain ⟨hc', hf'⟩ := bcell hb'; have hz' := bz0 (n := w.heap.size) hb' (by (try simp) <;> omega); have hs' := hb'.size; (try simp at hs'); (try (have hs2' := Nat.lt_of_succ_le hs')))
    | (go_at_call 36; (with_reducible refine (wide_muldiv_fit a b c ha hb hc hm _).mono ?_); rintro e w' ⟨rfl, hb'⟩; obtain ⟨hc', hf'⟩ := bcell hb'; have hz' := bz0 (n := w.heap.size) hb' (by (try simp) <;> omega); have hs' := hb'.size; (try simp at hs'); (try (have hs2' := Nat.lt_of_succ_le hs')))
    | (go_at_call 25; (with_reducible refine (wide_mul (fq (a * b) c) c n1 n2 c1 c2 _).mono ?_); rintro e w' ⟨rfl, hb'⟩; obtain ⟨hc', hf'⟩ := bcell hb'; have hz' := bz0 (n := w.heap.size) hb' (by (try simp) <;> omega); have hs' := hb'.size; (try simp at hs'); (try (have hs2' := Nat.lt_of_succ_le hs')))
    | (go_at_call 37; (with_reducible refine (wide_neg_fit (fq (a * b) c * c) _ _ wN wM _).mono ?_); rintro e w' ⟨rfl, hb'⟩; obtain ⟨hc', hf'⟩ := bcell hb'; have hz' := bz0 (n := w.heap.size) hb' (by (try simp) <;> omega); have hs' := hb'.size; (try simp at hs'); (try (have hs2' := Nat.lt_of_succ_le hs'))))
  obtain ⟨W9, rfl⟩ : ∃ W9 : World, W9 = w' := ⟨_, rfl⟩
  go_region_with (first
    | (go_at_call 25; (with_reducible refine (wide_mul a b a1 a2 b1 b2 _).mono ?_); rintro e w' ⟨rfl, hb'⟩; obtain ⟨hc', hf'⟩ := bcell hb'; have hz' := bz1 (n := W9.heap.size) hb' (by (try simp) <;> omega); have hs' := hb'.size; (try simp at hs'); (try (have hs2' := Nat.lt_of_succ_le hs')))
    | (go_at_call 38; (with_reducible refine (wide_add_fit (a * b) (-(fq (a * b) c * c)) _ _ _ _ mW wMd rW _).mono ?_); rintro e w' ⟨rfl, hb'⟩; obtain ⟨hc', hf'⟩ := bcell hb'; have hz' := bz1 (n := W9.heap.size) hb' (by (try simp) <;> omega); have hs' := hb'.size; (try simp at hs'); (try (have hs2' := Nat.lt_of_succ_le hs')); (try (refine bzE2 (n := W9.heap.size) hb' ?_ ?_; (first | omega | (simp; done) | (simp; omega)); intro hz2'))))
  all_goals
    go_wp2_with (go_at_call 28; (with_reducible refine (wide_int_fit (a * b + -(fq (a * b) c * c)) _ _ rWd rI _).mono ?_); rintro e w' ⟨rfl, hb'⟩; obtain ⟨hc', hf'⟩ := bcell hb'; have hz' := bz0 (n := w.heap.size) hb' (by (try simp) <;> omega); have hs' := hb'.size; (try simp at hs'); (try (have hs2' := Nat.lt_of_succ_le hs')))
    go_ret
    exact ⟨rfl, (by repeat' (first | (with_reducible exact Below.refl _ _) | (with_reducible assumption) | (with_reducible refine below_alloc ?_ _ ?_) | (with_reducible refine below_set _ ?_ ?_) | (with_reducible refine Below.drew ?_) | (with_reducible refine below_dN ?_ _) | (apply below_thenA; assumption) | omega | (simp; done) | (simp; omega) | (simp [*]; done)))⟩

set_option maxRecDepth 100000 in
set_option maxHeartbeats 1600000 in
theorem law_muldivs_no (a b c : Int) (ha : IFit a) (hb : IFit b) (hc : IFit c) (hm : ¬ MFit a b c) (w : World) :
    Calls Try.prog 5 #[.int .i64 a, .int .i64 b, .int .i64 c] w fun e w' => e = .returned (.bool true) ∧ Below w.heap.size w w' := by
  have mW := Wd.of (mul_fit ha hb)
  obtain ⟨a1, a2⟩ := id ha
  obtain ⟨b1, b2⟩ := id hb
  obtain ⟨c1, c2⟩ := id hc
  by_cases h0 : c = 0
  · subst h0
    have hz : Wd 0 0 0 := by unfold Wd; omega
    have iz : IFit 0 := by unfold IFit; omega
    go_enter Try.func5, Try.ntmps5
    go_wp2_with (first
      | (go_at_call 24; (with_reducible refine (speaks01 _).mono ?_); rintro e w' ⟨rfl, hb'⟩; obtain ⟨hc', hf'⟩ := bcell hb'; have hz' := bz0 (n := w.heap.size) hb' (by (try simp) <;> omega); have hs' := hb'.size; (try simp at hs'); (try (have hs2' := Nat.lt_of_succ_le hs')))
      | (go_at_call 36; (with_reducible refine (wide_muldiv_no a b 0 ha hb hc hm _).mono ?_); rintro e w' ⟨rfl, hb'⟩; obtain ⟨hc', hf'⟩ := bcell hb'; have hz' := bz0 (n := w.heap.size) hb' (by (try simp) <;> omega); have hs' := hb'.size; (try simp at hs'); (try (have hs2' := Nat.lt_of_succ_le hs')))
      | (go_at_call 25; (with_reducible refine (wide_mul a b a1 a2 b1 b2 _).mono ?_); rintro e w' ⟨rfl, hb'⟩; obtain ⟨hc', hf'⟩ := bcell hb'; have hz' := bz0 (n := w.heap.size) hb' (by (try simp) <;> omega); have hs' := hb'.size; (try simp at hs'); (try (have hs2' := Nat.lt_of_succ_le hs')))
      | (go_at_call 32; (with_reducible refine (wide_div_none (a * b) 0 _ _ mW c1 c2 (.inl rfl) _).mono ?_); rintro e w' ⟨rfl, hb'⟩; obtain ⟨hc', hf'⟩ := bcell hb'; have hz' := bz0 (n := w.heap.size) hb' (by (try simp) <;> omega); have hs' := hb'.size; (try simp at hs'); (try (have hs2' := Nat.lt_of_succ_le hs')))
      | (go_at_call 28; (with_reducible refine (wide_int_fit 0 _ _ hz iz _).mono ?_); rintro e w' ⟨rfl, hb'⟩; obtain ⟨hc', hf'⟩ := bcell hb'; have hz' := bz0 (n := w.heap.size) hb' (by (try simp) <;> omega); have hs' := hb'.size; (try simp at hs'); (try (have hs2' := Nat.lt_of_succ_le hs'))))
    go_ret
    exact ⟨rfl, (by repeat' (first | (with_reducible exact Below.refl _ _) | (with_reducible assumption) | (with_reducible refine below_alloc ?_ _ ?_) | (with_reducible refine below_set _ ?_ ?_) | (with_reducible refine Below.drew ?_) | (with_reducible refine below_dN ?_ _) | (apply below_thenA; assumption) | omega | (simp; done) | (simp; omega) | (simp [*]; done)))⟩
  · have h0' : c ≠ 0 := h0
    have hn : ¬ IFit (fq (a * b) c) := fun x => hm ⟨h0, x⟩
    have qW := fq_fit ha hb h0
    have qWd := Wd.of qW
    have dz : (c == 0) = false := by simpa using h0
    go_enter Try.func5, Try.ntmps5
    go_wp2_with (first
      | (go_at_call 24; (with_reducible refine (speaks01 _).mono ?_); rintro e w' ⟨rfl, hb'⟩; obtain ⟨hc', hf'⟩ := bcell hb'; have hz' := bz0 (n := w.heap.size) hb' (by (try simp) <;> omega); have hs' := hb'.size; (try simp at hs'); (try (have hs2' := Nat.lt_of_succ_le hs')))
      | (go_at_call 36; (with_reducible refine (wide_muldiv_no a b c ha hb hc hm _).mono ?_); rintro e w' ⟨rfl, hb'⟩; obtain ⟨hc', hf'⟩ := bcell hb'; have hz' := bz0 (n := w.heap.size) hb' (by (try simp) <;> omega); have hs' := hb'.size; (try simp at hs'); (try (have hs2' := Nat.lt_of_succ_le hs')))
      | (go_at_call 25; (with_reducible refine (wide_mul a b a1 a2 b1 b2 _).mono ?_); rintro e w' ⟨rfl, hb'⟩; obtain ⟨hc', hf'⟩ := bcell hb'; have hz' := bz0 (n := w.heap.size) hb' (by (try simp) <;> omega); have hs' := hb'.size; (try simp at hs'); (try (have hs2' := Nat.lt_of_succ_le hs')))
      | (go_at_call 32; (with_reducible refine (wide_div_some (a * b) c _ _ mW c1 c2 h0' qW _).mono ?_); rintro e w' ⟨rfl, hb'⟩; obtain ⟨hc', hf'⟩ := bcell hb'; have hz' := bz0 (n := w.heap.size) hb' (by (try simp) <;> omega); have hs' := hb'.size; (try simp at hs'); (try (have hs2' := Nat.lt_of_succ_le hs')))
      | (go_at_call 28; (with_reducible refine (wide_int_no (fq (a * b) c) _ _ qWd hn _).mono ?_); rintro e w' ⟨rfl, hb'⟩; obtain ⟨hc', hf'⟩ := bcell hb'; have hz' := bz0 (n := w.heap.size) hb' (by (try simp) <;> omega); have hs' := hb'.size; (try simp at hs'); (try (have hs2' := Nat.lt_of_succ_le hs'))))
    go_ret
    exact ⟨rfl, (by repeat' (first | (with_reducible exact Below.refl _ _) | (with_reducible assumption) | (with_reducible refine below_alloc ?_ _ ?_) | (with_reducible refine below_set _ ?_ ?_) | (with_reducible refine Below.drew ?_) | (with_reducible refine below_dN ?_ _) | (apply below_thenA; assumption) | omega | (simp; done) | (simp; omega) | (simp [*]; done)))⟩
theorem law_muldivs (a b c : Int) (ha : IFit a) (hb : IFit b) (hc : IFit c) (w : World) :
    Calls Try.prog 5 #[.int .i64 a, .int .i64 b, .int .i64 c] w fun e w' => e = .returned (.bool true) ∧ Below w.heap.size w w' := by
  by_cases hm : MFit a b c
  · by_cases hp : 0 < c
    · exact law_muldivs_pos a b c ha hb hc hm hp w
    · exact law_muldivs_neg a b c ha hb hc hm hp w
  · exact law_muldivs_no a b c ha hb hc hm w
end Go.Proofs.Ythffphcgkmjhbaa
