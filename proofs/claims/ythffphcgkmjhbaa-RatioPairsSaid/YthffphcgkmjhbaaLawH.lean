/-
  The statements of layer 2 that name no reference: what each begins with; RatioScales.
-/
import Derived.Test.YthffphcgkmjhbaaRatD
namespace Go.Proofs.Ythffphcgkmjhbaa
open Go.RowKit
set_option linter.unusedSimpArgs false
set_option linter.unusedVariables false

set_option maxRecDepth 100000 in
set_option maxHeartbeats 1600000 in
theorem rat_of_zero (n : Int) (w : World) : Calls Try.prog 44 #[.int .i64 n, .int .i64 0] w fun e w' => e = .returned (.tuple #[.agg #[.int .i64 0, .int .i64 0], .int .i64 3]) ∧ Below w.heap.size w w' := by
  have t1 := Rx.new w (.int .i64 0) (.int .i64 0) _ rfl
  have hB1 : Below w.heap.size w (w.alloc (.cells #[.int .i64 0, .int .i64 0] 57)) := (by repeat' (first | (with_reducible exact Below.refl _ _) | (with_reducible assumption) | (with_reducible refine below_alloc ?_ _ ?_) | (with_reducible refine below_set _ ?_ ?_) | (with_reducible refine Below.drew ?_) | (with_reducible refine below_dN ?_ _) | (apply below_thenA; assumption) | omega | (simp; done) | (simp; omega) | (simp [*]; done)))
  obtain ⟨p1, p2, p3, p4⟩ := t1.cells
  go_enter Try.func44, Try.ntmps44
  go_wp2_with fail
  (go_light; simp [bodyPost, results, Try.results44, go_sem, *])
theorem rat_down_ok (x N D F : Int) (hx : IFit x) (hN : IFit N) (hD : IFit D) (hg : goodB N D = true) (hF : fq (x * N) D = F) (hf : IFit F) (w : World) :
    Calls Try.prog 49 #[.agg #[.int .i64 N, .int .i64 D], .int .i64 x] w fun e w' => e = .returned (.tuple #[.int .i64 F, .int .i64 0]) ∧ Below w.heap.size w w' := by
  subst hF
  exact (rat_down x N D hx hN hD w).mono fun _ _ h => ⟨h.2.1 hg hf, h.2.2.2⟩
theorem rat_half_ok (x N D F : Int) (hx : IFit x) (hN : IFit N) (hD : IFit D) (hg : goodB N D = true) (hF : hq (x * N) D = F) (hf : IFit F) (w : World) :
    Calls Try.prog 50 #[.agg #[.int .i64 N, .int .i64 D], .int .i64 x] w fun e w' => e = .returned (.tuple #[.int .i64 F, .int .i64 0]) ∧ Below w.heap.size w w' := by
  subst hF
  exact (rat_half_good x N D hx hN hD hg w).mono fun _ _ h => ⟨h.1 hf, h.2.2⟩
theorem rat_good_ok (N D : Int) (hN : IFit N) (hD : IFit D) (hg : goodB N D = true) (w : World) :
    Calls Try.prog 45 #[.agg #[.int .i64 N, .int .i64 D]] w fun e w' => e = .returned (.bool true) ∧ Below w.heap.size w w' := by
  have := rat_good N D hN hD w; rwa [hg] at this
set_option maxRecDepth 100000 in
set_option maxHeartbeats 3200000 in
theorem speaks02 (w : World) :
    Calls Try.prog 43 #[] w fun e w' => e = .returned (.bool true) ∧ Below w.heap.size w w' := by
  have OF := fun W => (rat_of_neg 6 (-4) (by unfold IFit; omega) (by unfold IFit; omega) (by omega) (by omega) (.inr (by omega)) 3 2 (by decide) (by decide) W).mono fun _ _ h => (⟨h.1 (by decide), h.2.2⟩ : _ ∧ _)
  rw [show (if true = true then -((3 : Nat) : Int) else ((3 : Nat) : Int)) = -3 by decide, show ((2 : Nat) : Int) = 2 by decide] at OF
  have i3 : IFit 3 := by unfold IFit; omega
  have im3 : IFit (-3) := by unfold IFit; omega
  have i2 : IFit 2 := by unfold IFit; omega
  have DN := rat_down_ok 3 (-3) 2 (-5) i3 im3 i2 (by decide) (by decide) (by unfold IFit; omega)
  have HF := rat_half_ok 3 (-3) 2 (-4) i3 im3 i2 (by decide) (by decide) (by unfold IFit; omega)
  have GD := rat_good_ok (-3) 2 im3 i2 (by decide)
  go_enter Try.func43, Try.ntmps43
  go_wp2_with fail
  refine (OF _).mono ?_
  rintro e w1 ⟨rfl, hb1⟩
  have t := Rx.new w1 (.int .i64 (-3)) (.int .i64 2) _ rfl
  have hB := hb1.alloc hb1.size (.cells #[.int .i64 (-3), .int .i64 2] 57)
  obtain ⟨p1, p2, p3, p4⟩ := t.cells
  go_wp2_with fail
  refine (DN _).mono ?_
  rintro e w2 ⟨rfl, hb2⟩
  replace t := t.below hb2
  replace hB := hB.trans (hb2.mono hB.size)
  clear p1 p2 p3 p4
  obtain ⟨p1, p2, p3, p4⟩ := t.cells
  go_wp2_with fail
  refine (HF _).mono ?_
  rintro e w3 ⟨rfl, hb3⟩
  replace t := t.below hb3
  replace hB := hB.trans (hb3.mono hB.size)
  clear p1 p2 p3 p4
  go_wp2_with fail
  refine (rat_of_zero 1 _).mono ?_
  rintro e w4 ⟨rfl, hb4⟩
  replace t := (t.below hb4).alloc (.cells #[.int .i64 0, .int .i64 0] 57)
  replace hB := hB.trans (hb4.mono hB.size)
  replace hB := hB.alloc hB.size (.cells #[.int .i64 0, .int .i64 0] 57)
  obtain ⟨p1, p2, p3, p4⟩ := t.cells
  go_wp2_with fail
  refine (GD _).mono ?_
  rintro e w5 ⟨rfl, hb5⟩
  replace hB := hB.trans (hb5.mono hB.size)
  go_wp2_with fail
  go_ret
  exact ⟨rfl, hB⟩
/-- A block of four cells: the scale's two numbers, two lengths. -/
def Sx (w : World) (b : Nat) (n d x y : Value) : Prop := w.heap[b]? = some (Obj.cells #[n, d, x, y] 68 (0, 0))
theorem Sx.cells {w : World} {b : Nat} {n d x y : Value} (h : Sx w b n d x y) : w.cell? ⟨b, 0, none⟩ = some n ∧ w.cell? ⟨b, 1, none⟩ = some d ∧ w.cell? ⟨b, 2, none⟩ = some x ∧ w.cell? ⟨b, 3, none⟩ = some y := by
  refine ⟨by rw [cell_of_row w b 0 _ _ _ h]; rfl, by rw [cell_of_row w b 1 _ _ _ h]; rfl, by rw [cell_of_row w b 2 _ _ _ h]; rfl, by rw [cell_of_row w b 3 _ _ _ h]; rfl⟩
theorem Sx.lt {w : World} {b : Nat} {n d x y : Value} (h : Sx w b n d x y) : b < w.heap.size := (Array.getElem?_eq_some_iff.1 h).1
theorem Sx.new (w : World) (n d x y : Value) : Sx (w.alloc (.cells #[n, d, x, y] 68)) w.heap.size n d x y := heap_alloc_new w _
theorem Sx.below {w w' : World} {b : Nat} {n d x y : Value} (h : Sx w b n d x y) (hb : Below w.heap.size w w') : Sx w' b n d x y := (hb.block b h.lt).trans h

theorem rat_of_small (p q : Int) (p1 : 1 ≤ p) (p2 : p ≤ 4096) (q1 : 1 ≤ q) (q2 : q ≤ 4096) :
    ∃ N D : Int, 1 ≤ N ∧ N ≤ 4096 ∧ 1 ≤ D ∧ D ≤ 4096 ∧ goodB N D = true ∧
      ∀ W, Calls Try.prog 44 #[.int .i64 p, .int .i64 q] W fun e w' => e = .returned (.tuple #[.agg #[.int .i64 N, .int .i64 D], .int .i64 0]) ∧ Below W.heap.size W w' := by
  have hg : 0 < Nat.gcd p.natAbs q.natAbs := Nat.gcd_pos_of_pos_right _ (by omega)
  have hco := Nat.coprime_div_gcd_div_gcd hg
  have h1 : 0 < p.natAbs / Nat.gcd p.natAbs q.natAbs := Nat.div_pos (Nat.le_of_dvd (by omega) (Nat.gcd_dvd_left _ _)) hg
  have h2 : 0 < q.natAbs / Nat.gcd p.natAbs q.natAbs := Nat.div_pos (Nat.le_of_dvd (by omega) (Nat.gcd_dvd_right _ _)) hg
  have h3 : p.natAbs / Nat.gcd p.natAbs q.natAbs ≤ p.natAbs := Nat.div_le_self _ _
  have h4 : q.natAbs / Nat.gcd p.natAbs q.natAbs ≤ q.natAbs := Nat.div_le_self _ _
  have OF := fun W => rat_of_pos p q (by unfold IFit; omega) (by unfold IFit; omega) (by omega) (.inr (.inr ⟨by omega, by omega⟩)) _ _ rfl rfl W
  obtain ⟨A, eA⟩ : ∃ A, p.natAbs / Nat.gcd p.natAbs q.natAbs = A := ⟨_, rfl⟩
  obtain ⟨B, eB⟩ : ∃ B, q.natAbs / Nat.gcd p.natAbs q.natAbs = B := ⟨_, rfl⟩
  rw [eA, eB] at hco
  rw [eA] at h1 h3
  rw [eB] at h2 h4
  refine ⟨(A : Int), (B : Int), by omega, by omega, by omega, by omega, ?_, fun W => ?_⟩
  · unfold goodB
    rw [Int.natAbs_natCast, Int.natAbs_natCast, show Nat.gcd A B = 1 from hco]
    simp; omega
  · have h := OF W
    rw [eA, eB] at h
    refine h.mono fun e w' x => ⟨?_, x.2.2⟩
    have := x.1 ⟨by unfold limR; simp; omega, by omega⟩
    simpa using this
theorem scales_plain (x N D : Int) (x1 : -35184372088832 ≤ x) (x2 : x ≤ 35184372088831) (N1 : 1 ≤ N) (N2 : N ≤ 4096) (D1 : 1 ≤ D) (D2 : D ≤ 4096) (hg : goodB N D = true) :
    (0 ≤ x * N - fq (x * N) D * D ∧ x * N - fq (x * N) D * D < D) ∧ (-D ≤ 2 * (x * N - hq (x * N) D * D) ∧ 2 * (x * N - hq (x * N) D * D) < D) ∧
    (-144115188075855872 ≤ x * N ∧ x * N ≤ 144115188075855872) ∧ (-144115188075855872 ≤ fq (x * N) D ∧ fq (x * N) D ≤ 144115188075855872) ∧
    (hq (x * N) D = fq (x * N) D ∨ hq (x * N) D = fq (x * N) D + 1) ∧ (N = D → fq (x * N) D = x ∧ hq (x * N) D = x) := by
  have b1 : -144115188075855872 ≤ x * N ∧ x * N ≤ 144115188075855872 := by
    have h1 : (x + 35184372088832) * N ≥ 0 := Int.mul_nonneg (by omega) (by omega)
    have h2 : (35184372088832 - x) * N ≥ 0 := Int.mul_nonneg (by omega) (by omega)
    rw [Int.add_mul] at h1
    rw [Int.sub_mul] at h2
    omega
  have hfr : fr (x * N) D = x * N - fq (x * N) D * D := rfl
  have hr : 0 ≤ fr (x * N) D ∧ fr (x * N) D < D := by
    rw [fr_pos (by omega)]
    exact ⟨Int.emod_nonneg _ (by omega), Int.emod_lt_of_pos _ (by omega)⟩
  have hab := fq_abs (a := x * N) (d := D) (by omega)
  have hq1 : hq (x * N) D = fq (x * N) D ∧ ¬ D - fr (x * N) D ≤ fr (x * N) D ∨ hq (x * N) D = fq (x * N) D + 1 ∧ D - fr (x * N) D ≤ fr (x * N) D := by
    unfold hq
    by_cases h : D - fr (x * N) D ≤ fr (x * N) D
    · rw [if_pos h]; exact .inr ⟨rfl, h⟩
    · rw [if_neg h]; exact .inl ⟨rfl, h⟩
  refine ⟨by omega, ?_, b1, by omega, by omega, fun e => ?_⟩
  · rcases hq1 with ⟨h, h'⟩ | ⟨h, h'⟩
    · rw [h]; omega
    · rw [h, Int.add_mul]; omega
  · subst e
    have h1 : N = 1 := by
      unfold goodB at hg
      simp at hg
      omega
    subst h1
    have e1 : fq (x * 1) 1 = x := by unfold fq; rw [if_neg (by decide)]; omega
    refine ⟨e1, ?_⟩
    unfold hq fr
    rw [e1, if_neg (by omega)]
theorem fq_mono {a b D : Int} (hD : 1 ≤ D) (h : a ≤ b) : fq a D ≤ fq b D := by
  unfold fq
  rw [if_neg (by omega), if_neg (by omega)]
  exact Int.ediv_le_ediv (by omega) h

set_option maxRecDepth 100000 in
set_option maxHeartbeats 3200000 in
theorem law_scales (n d X Y : Int) (n1 : 0 ≤ n) (n2 : n ≤ 65535) (d1 : 0 ≤ d) (d2 : d ≤ 65535) (hX : IFit X) (hY : IFit Y) (w : World) :
    Calls Try.prog 10 #[.agg #[.int .u16 n, .int .u16 d, .int .i64 X, .int .i64 Y]] w fun e w' => e = .returned (.bool true) ∧ Below w.heap.size w w' := by
  obtain ⟨X1, X2⟩ := hX
  obtain ⟨Y1, Y2⟩ := hY
  obtain ⟨x, ex⟩ : ∃ x, X / 262144 = x := ⟨_, rfl⟩
  obtain ⟨y, ey⟩ : ∃ y, Y / 262144 = y := ⟨_, rfl⟩
  obtain ⟨p, ep⟩ : ∃ p, 1 + n % 4096 = p := ⟨_, rfl⟩
  obtain ⟨q, eq⟩ : ∃ q, 1 + d % 4096 = q := ⟨_, rfl⟩
  have x1 : -35184372088832 ≤ x ∧ x ≤ 35184372088831 := by omega
  have y1 : -35184372088832 ≤ y ∧ y ≤ 35184372088831 := by omega
  obtain ⟨x1, x2⟩ := x1
  obtain ⟨y1, y2⟩ := y1
  obtain ⟨N, D, N1, N2, D1, D2, hg, OF⟩ := rat_of_small p q (by omega) (by omega) (by omega) (by omega)
  obtain ⟨⟨r1, r2⟩, ⟨o1, o2⟩, ⟨m1, m2⟩, ⟨f1, f2⟩, hcq, hnd⟩ := scales_plain x N D x1 x2 N1 N2 D1 D2 hg
  obtain ⟨_, _, _, ⟨g1, g2⟩, _, _⟩ := scales_plain y N D y1 y2 N1 N2 D1 D2 hg
  have hm1 : x ≤ y → fq (x * N) D ≤ fq (y * N) D := fun h => fq_mono D1 (Int.mul_le_mul_of_nonneg_right h (by omega))
  have hm2 : y ≤ x → fq (y * N) D ≤ fq (x * N) D := fun h => fq_mono D1 (Int.mul_le_mul_of_nonneg_right h (by omega))
  obtain ⟨A, eA⟩ : ∃ A, fq (x * N) D = A := ⟨_, rfl⟩
  obtain ⟨B, eB⟩ : ∃ B, fq (y * N) D = B := ⟨_, rfl⟩
  obtain ⟨C, eC⟩ : ∃ C, hq (x * N) D = C := ⟨_, rfl⟩
  have DX := rat_down_ok x N D A (by unfold IFit; omega) (by unfold IFit; omega) (by unfold IFit; omega) hg eA (by unfold IFit; omega)
  have DY := rat_down_ok y N D B (by unfold IFit; omega) (by unfold IFit; omega) (by unfold IFit; omega) hg eB (by unfold IFit; omega)
  have HX := rat_half_ok x N D C (by unfold IFit; omega) (by unfold IFit; omega) (by unfold IFit; omega) hg eC (by unfold IFit; omega)
  rw [eA] at r1 r2 f1 f2 hcq hnd hm1 hm2
  rw [eB] at g1 g2 hm1 hm2
  rw [eC] at o1 o2 hcq hnd
  obtain ⟨M, eM⟩ : ∃ M, x * N = M := ⟨_, rfl⟩
  obtain ⟨P, eP⟩ : ∃ P, A * D = P := ⟨_, rfl⟩
  obtain ⟨Q, eQ⟩ : ∃ Q, C * D = Q := ⟨_, rfl⟩
  rw [eM] at r1 r2 o1 o2 m1 m2
  rw [eP] at r1 r2
  rw [eQ] at o1 o2
  have P1 : -144115188075859968 ≤ P ∧ P ≤ 144115188075855872 := by omega
  have Q1 : -144115188075859968 ≤ Q ∧ Q ≤ 144115188075859968 := by omega
  obtain ⟨P1, P2⟩ := P1
  obtain ⟨Q1, Q2⟩ := Q1
  have k1 : decide (0 ≤ M - P) = true := by simp; omega
  have k2 : decide (M - P < D) = true := by simp; omega
  have k3 : decide (-D ≤ 2 * (M - Q)) = true := by simp; omega
  have k4 : decide (2 * (M - Q) < D) = true := by simp; omega
  have HM1 := Lib.hid hm1
  have HM2 := Lib.hid hm2
  have HND := Lib.hid hnd
  have HCQ := Lib.hid hcq
  clear eA eB eC hg hm1 hm2 hnd hcq
  have ts := Sx.new w (.int .u16 n) (.int .u16 d) (.int .i64 X) (.int .i64 Y)
  have hB0 : Below w.heap.size w (w.alloc (.cells #[.int .u16 n, .int .u16 d, .int .i64 X, .int .i64 Y] 68)) := (by repeat' (first | (with_reducible exact Below.refl _ _) | (with_reducible assumption) | (with_reducible refine below_alloc ?_ _ ?_) | (with_reducible refine below_set _ ?_ ?_) | (with_reducible refine Below.drew ?_) | (with_reducible refine below_dN ?_ _) | (apply below_thenA; assumption) | omega | (simp; done) | (simp; omega) | (simp [*]; done)))
  go_enter Try.func10, Try.ntmps10
  go_wp2_with fail
  refine (speaks02 _).mono ?_
  rintro e w1 ⟨rfl, hb1⟩
  replace ts := ts.below hb1
  have hB1 := hB0.trans (hb1.mono hB0.size)
  clear hB0 hb1
  obtain ⟨p1, p2, p3, p4⟩ := ts.cells
  go_wp2_with fail
  go_quiet (fail)
  go_wp2_with fail
  refine (OF _).mono ?_
  rintro e w2 ⟨rfl, hb2⟩
  have hB2 := (below_dN hB1 nq).trans (hb2.mono (below_dN hB1 nq).size)
  have t := Rx.new w2 (.int .i64 N) (.int .i64 D) _ rfl
  have hB := hB2.alloc hB2.size (.cells #[.int .i64 N, .int .i64 D] 57)
  clear p1 p2 p3 p4 ts hB1 hb2 hB2
  obtain ⟨p1, p2, p3, p4⟩ := t.cells
  go_wp2_with fail
  refine (DX _).mono ?_
  rintro e w3 ⟨rfl, hb3⟩
  replace t := t.below hb3
  replace hB := hB.trans (hb3.mono hB.size)
  clear p1 p2 p3 p4
  obtain ⟨p1, p2, p3, p4⟩ := t.cells
  go_wp2_with fail
  refine (DY _).mono ?_
  rintro e w4 ⟨rfl, hb4⟩
  replace t := t.below hb4
  replace hB := hB.trans (hb4.mono hB.size)
  clear p1 p2 p3 p4
  obtain ⟨p1, p2, p3, p4⟩ := t.cells
  go_wp2_with fail
  refine (HX _).mono ?_
  rintro e w5 ⟨rfl, hb5⟩
  replace t := t.below hb5
  replace hB := hB.trans (hb5.mono hB.size)
  clear p1 p2 p3 p4 hb3 hb4 hb5 OF DX DY HX
  obtain ⟨p1, p2, p3, p4⟩ := t.cells
  rcases (by omega : N ≠ D ∨ N = D) with hND | hND
  · have hnb : (N != D) = true := by simp [hND]
    clear hND
    rcases (by omega : x < y ∨ x = y ∨ y < x) with h | h | h
    · have a1 : decide (x ≤ y) = true := by simp; omega
      have a2 : decide (B < A) = false := by have := HM1.out (by omega); simp; omega
      have a3 : decide (y ≤ x) = false := by simp; omega
      clear h
      go_wp2_with fail
      go_ret
      exact ⟨rfl, hB⟩
    · have a1 : decide (x ≤ y) = true := by simp; omega
      have a2 : decide (B < A) = false := by have := HM1.out (by omega); simp; omega
      have a3 : decide (y ≤ x) = true := by simp; omega
      have a4 : decide (A < B) = false := by have := HM2.out (by omega); simp; omega
      clear h
      go_wp2_with fail
      go_ret
      exact ⟨rfl, hB⟩
    · have a1 : decide (x ≤ y) = false := by simp; omega
      have a3 : decide (y ≤ x) = true := by simp; omega
      have a4 : decide (A < B) = false := by have := HM2.out (by omega); simp; omega
      clear h
      go_wp2_with fail
      go_ret
      exact ⟨rfl, hB⟩
  · obtain ⟨rfl, rfl⟩ := HND.out hND
    subst hND
    rcases (by omega : C < y ∨ C = y ∨ y < C) with h | h | h
    · have a1 : decide (C ≤ y) = true := by simp; omega
      have a2 : decide (B < C) = false := by have := HM1.out (by omega); simp; omega
      have a3 : decide (y ≤ C) = false := by simp; omega
      clear h
      go_wp2_with fail
      go_ret
      exact ⟨rfl, hB⟩
    · have a1 : decide (C ≤ y) = true := by simp; omega
      have a2 : decide (B < C) = false := by have := HM1.out (by omega); simp; omega
      have a3 : decide (y ≤ C) = true := by simp; omega
      have a4 : decide (C < B) = false := by have := HM2.out (by omega); simp; omega
      clear h
      go_wp2_with fail
      go_ret
      exact ⟨rfl, hB⟩
    · have a1 : decide (C ≤ y) = false := by simp; omega
      have a3 : decide (y ≤ C) = true := by simp; omega
      have a4 : decide (C < B) = false := by have := HM2.out (by omega); simp; omega
      clear h
      go_wp2_with fail
      go_ret
      exact ⟨rfl, hB⟩
end Go.Proofs.Ythffphcgkmjhbaa
