/-
  The statements of layer 4 that name no reference. Second part: FixedOrder.
-/
import Derived.Test.YthffphcgkmjhbaaLawF
namespace Go.Proofs.Ythffphcgkmjhbaa
open Go.RowKit
set_option linter.unusedSimpArgs false
set_option linter.unusedVariables false

set_option maxRecDepth 100000 in
set_option maxHeartbeats 6400000 in
theorem law_forder (a b n : Int) (ha : IFit a) (hb : IFit b) (n1 : -2147483648 ≤ n) (n2 : n ≤ 2147483647) (w : World) :
    Calls Try.prog 12 #[.int .i64 a, .int .i64 b, .int .i32 n] w fun e w' => e = .returned (.bool true) ∧ Below w.heap.size w w' := by
  obtain ⟨a1, a2⟩ := ha
  obtain ⟨b1, b2⟩ := hb
  obtain ⟨x, ex⟩ : ∃ x, a / 256 = x := ⟨_, rfl⟩
  obtain ⟨y, ey⟩ : ∃ y, b / 256 = y := ⟨_, rfl⟩
  have x1 : -36028797018963968 ≤ x ∧ x ≤ 36028797018963967 := by omega
  have y1 : -36028797018963968 ≤ y ∧ y ≤ 36028797018963967 := by omega
  obtain ⟨x1, x2⟩ := x1
  obtain ⟨y1, y2⟩ := y1
  have hx : IFit x := by unfold IFit; omega
  have hy : IFit y := by unfold IFit; omega
  by_cases hxy : x ≤ y
  · have hd : decide (y < x) = false := by simp; omega
    obtain ⟨fX, efX⟩ : ∃ fX, x / 64 = fX := ⟨_, rfl⟩
    have AfX := fix_floor x hx
    rw [efX] at AfX
    obtain ⟨fY, efY⟩ : ∃ fY, y / 64 = fY := ⟨_, rfl⟩
    have AfY := fix_floor y hy
    rw [efY] at AfY
    obtain ⟨cX, ecX⟩ : ∃ cX, -((-x) / 64) = cX := ⟨_, rfl⟩
    have AcX := fix_ceil x hx
    rw [ecX] at AcX
    obtain ⟨cY, ecY⟩ : ∃ cY, -((-y) / 64) = cY := ⟨_, rfl⟩
    have AcY := fix_ceil y hy
    rw [ecY] at AcY
    obtain ⟨rX, erX⟩ : ∃ rX, (x + 32) / 64 = rX := ⟨_, rfl⟩
    have ArX := fix_round x hx
    rw [erX] at ArX
    obtain ⟨rY, erY⟩ : ∃ rY, (y + 32) / 64 = rY := ⟨_, rfl⟩
    have ArY := fix_round y hy
    rw [erY] at ArY
    have Af0 := fix_floor (64 * n) (by unfold IFit at *; omega)
    rw [show (64 * n) / 64 = n by omega] at Af0
    have Ac0 := fix_ceil (64 * n) (by unfold IFit at *; omega)
    rw [show -((-(64 * n)) / 64) = n by omega] at Ac0
    have Ar0 := fix_round (64 * n) (by unfold IFit at *; omega)
    rw [show ((64 * n) + 32) / 64 = n by omega] at Ar0
    have Af1 := fix_floor (x + 64 * n) (by unfold IFit at *; omega)
    rw [show (x + 64 * n) / 64 = fX + n by omega] at Af1
    have Ac1 := fix_ceil (x + 64 * n) (by unfold IFit at *; omega)
    rw [show -((-(x + 64 * n)) / 64) = cX + n by omega] at Ac1
    have Ar1 := fix_round (x + 64 * n) (by unfold IFit at *; omega)
    rw [show ((x + 64 * n) + 32) / 64 = rX + n by omega] at Ar1
    have d1 : decide (fY < fX) = false := by simp; omega
    have d2 : decide (cY < cX) = false := by simp; omega
    have d3 : decide (rY < rX) = false := by simp; omega
    have d4 : decide (rX < fX) = false := by simp; omega
    have d5 : decide (cX < rX) = false := by simp; omega
    have d6 : decide (1 < cX - fX) = false := by simp; omega
    have lfX : -36028797018963968 ≤ fX ∧ fX ≤ 36028797018963968 := by omega
    obtain ⟨lfX, ufX⟩ := lfX
    have lcX : -36028797018963968 ≤ cX ∧ cX ≤ 36028797018963968 := by omega
    obtain ⟨lcX, ucX⟩ := lcX
    have lrX : -36028797018963968 ≤ rX ∧ rX ≤ 36028797018963968 := by omega
    obtain ⟨lrX, urX⟩ := lrX
    clear efX efY ecX ecY erX erY
    go_enter Try.func12, Try.ntmps12
    go_wp2_with fail
    refine (speaks04 _).mono ?_
    rintro e w1 ⟨rfl, hb1⟩
    go_wp2_with (first | (go_at_call 54; with_reducible refine (AfX _).mono ?_; rintro e w6 ⟨rfl, rfl⟩) | (go_at_call 54; with_reducible refine (AfY _).mono ?_; rintro e w6 ⟨rfl, rfl⟩) | (go_at_call 56; with_reducible refine (AcX _).mono ?_; rintro e w6 ⟨rfl, rfl⟩) | (go_at_call 56; with_reducible refine (AcY _).mono ?_; rintro e w6 ⟨rfl, rfl⟩) | (go_at_call 57; with_reducible refine (ArX _).mono ?_; rintro e w6 ⟨rfl, rfl⟩) | (go_at_call 57; with_reducible refine (ArY _).mono ?_; rintro e w6 ⟨rfl, rfl⟩) | (go_at_call 54; with_reducible refine (Af0 _).mono ?_; rintro e w6 ⟨rfl, rfl⟩) | (go_at_call 56; with_reducible refine (Ac0 _).mono ?_; rintro e w6 ⟨rfl, rfl⟩) | (go_at_call 57; with_reducible refine (Ar0 _).mono ?_; rintro e w6 ⟨rfl, rfl⟩) | (go_at_call 54; with_reducible refine (Af1 _).mono ?_; rintro e w6 ⟨rfl, rfl⟩) | (go_at_call 56; with_reducible refine (Ac1 _).mono ?_; rintro e w6 ⟨rfl, rfl⟩) | (go_at_call 57; with_reducible refine (Ar1 _).mono ?_; rintro e w6 ⟨rfl, rfl⟩))
    go_ret
    exact ⟨rfl, hb1⟩
  · have hd : decide (y < x) = true := by simp; omega
    obtain ⟨fX, efX⟩ : ∃ fX, y / 64 = fX := ⟨_, rfl⟩
    have AfX := fix_floor y hy
    rw [efX] at AfX
    obtain ⟨fY, efY⟩ : ∃ fY, x / 64 = fY := ⟨_, rfl⟩
    have AfY := fix_floor x hx
    rw [efY] at AfY
    obtain ⟨cX, ecX⟩ : ∃ cX, -((-y) / 64) = cX := ⟨_, rfl⟩
    have AcX := fix_ceil y hy
    rw [ecX] at AcX
    obtain ⟨cY, ecY⟩ : ∃ cY, -((-x) / 64) = cY := ⟨_, rfl⟩
    have AcY := fix_ceil x hx
    rw [ecY] at AcY
    obtain ⟨rX, erX⟩ : ∃ rX, (y + 32) / 64 = rX := ⟨_, rfl⟩
    have ArX := fix_round y hy
    rw [erX] at ArX
    obtain ⟨rY, erY⟩ : ∃ rY, (x + 32) / 64 = rY := ⟨_, rfl⟩
    have ArY := fix_round x hx
    rw [erY] at ArY
    have Af0 := fix_floor (64 * n) (by unfold IFit at *; omega)
    rw [show (64 * n) / 64 = n by omega] at Af0
    have Ac0 := fix_ceil (64 * n) (by unfold IFit at *; omega)
    rw [show -((-(64 * n)) / 64) = n by omega] at Ac0
    have Ar0 := fix_round (64 * n) (by unfold IFit at *; omega)
    rw [show ((64 * n) + 32) / 64 = n by omega] at Ar0
    have Af1 := fix_floor (y + 64 * n) (by unfold IFit at *; omega)
    rw [show (y + 64 * n) / 64 = fX + n by omega] at Af1
    have Ac1 := fix_ceil (y + 64 * n) (by unfold IFit at *; omega)
    rw [show -((-(y + 64 * n)) / 64) = cX + n by omega] at Ac1
    have Ar1 := fix_round (y + 64 * n) (by unfold IFit at *; omega)
    rw [show ((y + 64 * n) + 32) / 64 = rX + n by omega] at Ar1
    have d1 : decide (fY < fX) = false := by simp; omega
    have d2 : decide (cY < cX) = false := by simp; omega
    have d3 : decide (rY < rX) = false := by simp; omega
    have d4 : decide (rX < fX) = false := by simp; omega
    have d5 : decide (cX < rX) = false := by simp; omega
    have d6 : decide (1 < cX - fX) = false := by simp; omega
    have lfX : -36028797018963968 ≤ fX ∧ fX ≤ 36028797018963968 := by omega
    obtain ⟨lfX, ufX⟩ := lfX
    have lcX : -36028797018963968 ≤ cX ∧ cX ≤ 36028797018963968 := by omega
    obtain ⟨lcX, ucX⟩ := lcX
    have lrX : -36028797018963968 ≤ rX ∧ rX ≤ 36028797018963968 := by omega
    obtain ⟨lrX, urX⟩ := lrX
    clear efX efY ecX ecY erX erY
    go_enter Try.func12, Try.ntmps12
    go_wp2_with fail
    refine (speaks04 _).mono ?_
    rintro e w1 ⟨rfl, hb1⟩
    go_wp2_with (first | (go_at_call 54; with_reducible refine (AfX _).mono ?_; rintro e w6 ⟨rfl, rfl⟩) | (go_at_call 54; with_reducible refine (AfY _).mono ?_; rintro e w6 ⟨rfl, rfl⟩) | (go_at_call 56; with_reducible refine (AcX _).mono ?_; rintro e w6 ⟨rfl, rfl⟩) | (go_at_call 56; with_reducible refine (AcY _).mono ?_; rintro e w6 ⟨rfl, rfl⟩) | (go_at_call 57; with_reducible refine (ArX _).mono ?_; rintro e w6 ⟨rfl, rfl⟩) | (go_at_call 57; with_reducible refine (ArY _).mono ?_; rintro e w6 ⟨rfl, rfl⟩) | (go_at_call 54; with_reducible refine (Af0 _).mono ?_; rintro e w6 ⟨rfl, rfl⟩) | (go_at_call 56; with_reducible refine (Ac0 _).mono ?_; rintro e w6 ⟨rfl, rfl⟩) | (go_at_call 57; with_reducible refine (Ar0 _).mono ?_; rintro e w6 ⟨rfl, rfl⟩) | (go_at_call 54; with_reducible refine (Af1 _).mono ?_; rintro e w6 ⟨rfl, rfl⟩) | (go_at_call 56; with_reducible refine (Ac1 _).mono ?_; rintro e w6 ⟨rfl, rfl⟩) | (go_at_call 57; with_reducible refine (Ar1 _).mono ?_; rintro e w6 ⟨rfl, rfl⟩))
    go_ret
    exact ⟨rfl, hb1⟩
theorem fit32_of_wf {x : Int} (h : (Lit.int .i32 x).wf = true) : -2147483648 ≤ x ∧ x ≤ 2147483647 := by
  simp [Lit.wf, IntKind.min, IntKind.max, IntKind.signed, IntKind.bits] at h
  exact ⟨by omega, by omega⟩
end Go.Proofs.Ythffphcgkmjhbaa
