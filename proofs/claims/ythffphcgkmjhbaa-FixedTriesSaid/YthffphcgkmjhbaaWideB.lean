/-
  The functions of package wide, each by its contract: what it returns for whatever it is given. Second part.
-/
import Derived.Test.YthffphcgkmjhbaaWide
namespace Go.Proofs.Ythffphcgkmjhbaa
open Go.RowKit
set_option linter.unusedSimpArgs false
set_option linter.unusedVariables false

/-- What turned answers. -/
def WTurn (n : Int) (B : Nat) (w : World) (e : Ending) (w' : World) : Prop :=
  (WFit (-n) → e = .returned (.agg #[.int .i64 ((-n) / 18446744073709551616), .int .u64 ((-n) % 18446744073709551616)])) ∧ (¬ WFit (-n) → e = .returned (.agg #[.int .i64 (-9223372036854775808), .int .u64 0])) ∧ Below B w w'
theorem ret_w {h l h' l' : Int} (e1 : h = h') (e2 : l = l') : Ending.returned (.agg #[.int .i64 h, .int .u64 l]) = .returned (.agg #[.int .i64 (h'), .int .u64 (l')]) := by rw [e1, e2]
set_option maxRecDepth 100000 in
set_option maxHeartbeats 400000 in
theorem wide_turned (a hi lo : Int) (ha : Wd hi lo a) (w : World) :
    Calls Try.prog 103 #[.agg #[.int .i64 hi, .int .u64 lo]] w (WTurn a w.heap.size w) := by
  obtain ⟨a1, a2, a3, a4, a5⟩ := ha
  have A5 := Lib.hid a5
  clear a5
  have hs : IntKind.u64.signed = false := rfl
  have hm : IntKind.u64.max = 18446744073709551615 := rfl
  have N1 := u64_not lo a3 a4
  have N2 := u64_not (IntKind.u64.wrap hi) (u64n _) (u64le _)
  have A1 := add64_x0 (18446744073709551615 - lo) 1 (by omega) (by decide) (by decide)
  have A2 := add64_x0 (18446744073709551615 - IntKind.u64.wrap hi) ((18446744073709551615 - lo + 1) / 18446744073709551616) (by have := u64le hi; omega) (by omega) (by omega)
  go_enter Try.func103, Try.ntmps103
  go_wp2
  simp [bodyPost, results, Try.results103, go_sem]
  go_light
  clear N1 N2 A1 A2 hs hm
  have a5 := A5.out
  simp only [IntKind.wrap_u64, wrap64] at *
  refine ⟨fun h => ?_, fun h => ?_, (by repeat' (first | (with_reducible exact Below.refl _ _) | (with_reducible assumption) | (with_reducible refine below_alloc ?_ _ ?_) | (with_reducible refine below_set _ ?_ ?_) | (with_reducible refine Below.drew ?_) | (with_reducible refine below_dN ?_ _) | (apply below_thenA; assumption) | omega | (simp; done) | (simp; omega) | (simp [*]; done)))⟩
  all_goals unfold WFit at h
  all_goals (refine ret_w ?_ ?_ <;> omega)

theorem wide_turned_fit (a hi lo : Int) (ha : Wd hi lo a) (hf : WFit (-a)) (w : World) :
    Calls Try.prog 103 #[.agg #[.int .i64 hi, .int .u64 lo]] w fun e w' => e = .returned (.agg #[.int .i64 ((-a) / 18446744073709551616), .int .u64 ((-a) % 18446744073709551616)]) ∧ Below w.heap.size w w' :=
  (wide_turned a hi lo ha w).mono fun _ _ h => ⟨h.1 hf, h.2.2⟩
theorem wide_turned_min (a hi lo : Int) (ha : Wd hi lo a) (hf : ¬ WFit (-a)) (w : World) :
    Calls Try.prog 103 #[.agg #[.int .i64 hi, .int .u64 lo]] w fun e w' => e = .returned (.agg #[.int .i64 (-9223372036854775808), .int .u64 0]) ∧ Below w.heap.size w w' :=
  (wide_turned a hi lo ha w).mono fun _ _ h => ⟨h.2.1 hf, h.2.2⟩

set_option maxRecDepth 100000 in
set_option maxHeartbeats 400000 in
theorem wide_neg (a hi lo : Int) (ha : Wd hi lo a) (w : World) :
    Calls Try.prog 37 #[.agg #[.int .i64 hi, .int .u64 lo]] w (WAns (-a) w.heap.size w) := by
  have hA := ha
  obtain ⟨a1, a2, a3, a4, a5⟩ := ha
  have A5 := Lib.hid a5
  clear a5
  by_cases hf : WFit (-a)
  all_goals
    go_enter Try.func37, Try.ntmps37
    go_wp2_with (first | (go_at_call 103; (with_reducible refine (wide_turned_fit a hi lo hA hf _).mono ?_); rintro e w' ⟨rfl, hb'⟩; obtain ⟨hc', hf'⟩ := bcell hb'; have hz' := bz2 (n := w.heap.size) hb' (by (try simp) <;> omega); have hs' := hb'.size; (try simp at hs'); (try (have hs2' := Nat.lt_of_succ_le hs'))) | (go_at_call 103; (with_reducible refine (wide_turned_min a hi lo hA hf _).mono ?_); rintro e w' ⟨rfl, hb'⟩; obtain ⟨hc', hf'⟩ := bcell hb'; have hz' := bz2 (n := w.heap.size) hb' (by (try simp) <;> omega); have hs' := hb'.size; (try simp at hs'); (try (have hs2' := Nat.lt_of_succ_le hs'))))
    all_goals
      (go_light; simp [bodyPost, results, Try.results37, go_sem, *])
      go_light
      have a5 := A5.out
      refine ⟨fun h => ?_, fun h => ?_, (by repeat' (first | (with_reducible exact Below.refl _ _) | (with_reducible assumption) | (with_reducible refine below_alloc ?_ _ ?_) | (with_reducible refine below_set _ ?_ ?_) | (with_reducible refine Below.drew ?_) | (with_reducible refine below_dN ?_ _) | (apply below_thenA; assumption) | omega | (simp; done) | (simp; omega) | (simp [*]; done)))⟩
      all_goals unfold WFit at *
      all_goals first
        | (exfalso; omega)
        | (refine ret_wb ?_ ?_ <;> omega)

set_option maxRecDepth 100000 in
set_option maxHeartbeats 400000 in
theorem compare_i64 (a b : Int) (w : World) :
    Calls Try.prog 107 #[.int .i64 a, .int .i64 b] w fun e w' => e = .returned (.int .i64 (cmp3 a b)) ∧ w = w' := by
  go_enter Try.func107, Try.ntmps107
  go_wp2
  all_goals
    go_ret
    go_light
    exact ⟨ret_int (by unfold cmp3; split <;> (try split) <;> omega), rfl⟩
set_option maxRecDepth 100000 in
set_option maxHeartbeats 400000 in
theorem compare_u64 (a b : Int) (w : World) :
    Calls Try.prog 108 #[.int .u64 a, .int .u64 b] w fun e w' => e = .returned (.int .i64 (cmp3 a b)) ∧ w = w' := by
  go_enter Try.func108, Try.ntmps108
  go_wp2
  all_goals
    go_ret
    go_light
    exact ⟨ret_int (by unfold cmp3; split <;> (try split) <;> omega), rfl⟩

def orI (x y : Int) : Int := if x = 0 then y else x
set_option maxRecDepth 100000 in
set_option maxHeartbeats 400000 in
theorem or_int (b : Nat) (x y : Int) (w : World) (h0 : w.cell? ⟨b, 0, none⟩ = some (.int .i64 x)) (h1 : w.cell? ⟨b, 1, none⟩ = some (.int .i64 y)) :
    Calls Try.prog 106 #[.slice (some ⟨b, 0, none⟩) 2 2] w fun e w' => e = .returned (.int .i64 (orI x y)) ∧ w = w' := by
  by_cases hx : x = 0
  · have hx' : (x != 0) = false := by simpa using hx
    by_cases hy : y = 0
    · have hy' : (y != 0) = false := by simpa using hy
      go_enter Try.func106, Try.ntmps106
      go_wp2
      go_rounds 3
      go_ret
      exact ⟨ret_int (by rw [orI, if_pos hx, hy]), rfl⟩
    · have hy' : (y != 0) = true := by simpa using hy
      go_enter Try.func106, Try.ntmps106
      go_wp2
      go_rounds 3
      go_ret
      exact ⟨ret_int (by rw [orI, if_pos hx]), rfl⟩
  · have hx' : (x != 0) = true := by simpa using hx
    go_enter Try.func106, Try.ntmps106
    go_wp2
    go_rounds 3
    go_ret
    exact ⟨ret_int (by rw [orI, if_neg hx]), rfl⟩

theorem cmp3_or {a b h1 l1 h2 l2 : Int} (ha : Wd h1 l1 a) (hb : Wd h2 l2 b) : orI (cmp3 h1 h2) (cmp3 l1 l2) = cmp3 a b := by
  unfold orI
  obtain ⟨a1, a2, a3, a4, a5⟩ := ha
  obtain ⟨b1, b2, b3, b4, b5⟩ := hb
  unfold cmp3
  by_cases x1 : h1 < h2
  · rw [if_pos x1, if_neg (by decide), if_pos (by omega)]
  · by_cases x2 : h2 < h1
    · rw [if_neg x1, if_pos x2, if_neg (by decide), if_neg (by omega), if_pos (by omega)]
    · rw [if_neg x1, if_neg x2, if_pos rfl]
      by_cases x3 : l1 < l2
      · rw [if_pos x3, if_pos (by omega)]
      · by_cases x4 : l2 < l1
        · rw [if_neg x3, if_pos x4, if_neg (by omega), if_pos (by omega)]
        · rw [if_neg x3, if_neg x4, if_neg (by omega), if_neg (by omega)]

set_option maxRecDepth 100000 in
set_option maxHeartbeats 800000 in
theorem wide_cmp (a b h1 l1 h2 l2 : Int) (ha : Wd h1 l1 a) (hb : Wd h2 l2 b) (w : World) :
    Calls Try.prog 41 #[.agg #[.int .i64 h1, .int .u64 l1], .agg #[.int .i64 h2, .int .u64 l2]] w fun e w' => e = .returned (.int .i64 (cmp3 a b)) ∧ Below w.heap.size w w' := by
  have HC := Lib.hid (cmp3_or ha hb)
  clear ha hb
  go_enter Try.func41, Try.ntmps41
  go_wp2
  go_region_held3 (fun w' => w'.cell? ⟨w.heap.size, 0, none⟩ = some (.int .i64 h1) ∧ w'.cell? ⟨w.heap.size, 1, none⟩ = some (.int .u64 l1) ∧ w'.cell? ⟨w.heap.size + 1, 0, none⟩ = some (.int .i64 h2) ∧ w'.cell? ⟨w.heap.size + 1, 1, none⟩ = some (.int .u64 l2)) (simp [go_sem, World.cell?_alloc_past])
    (first
      | (go_at_call 107; refine (compare_i64 _ _ _).mono ?_; rintro e w' ⟨rfl, rfl⟩)
      | (go_at_call 108; refine (compare_u64 _ _ _).mono ?_; rintro e w' ⟨rfl, rfl⟩)
      | (go_at_call 106; refine (or_int _ (cmp3 h1 h2) (cmp3 l1 l2) _ (by simp [go_sem]) (by simp [go_sem])).mono ?_; rintro e w' ⟨rfl, rfl⟩))
  go_wp2
  go_ret
  exact ⟨ret_int HC.out, (by repeat' (first | (with_reducible exact Below.refl _ _) | (with_reducible assumption) | (with_reducible refine below_alloc ?_ _ ?_) | (with_reducible refine below_set _ ?_ ?_) | (with_reducible refine Below.drew ?_) | (with_reducible refine below_dN ?_ _) | (apply below_thenA; assumption) | omega | (simp; done) | (simp; omega) | (simp [*]; done)))⟩
end Go.Proofs.Ythffphcgkmjhbaa
