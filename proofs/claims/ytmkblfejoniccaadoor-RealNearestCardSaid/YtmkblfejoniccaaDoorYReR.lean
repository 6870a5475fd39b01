/-
  The law RealMonotone: the walk.
-/
import Derived.Test.YtmkblfejoniccaaDoorYReQ
namespace Go.Proofs.YtmkblfejoniccaaDoor
open Go.RowKit
set_option linter.unusedSimpArgs false
set_option linter.unusedVariables false

set_option maxRecDepth 100000 in
set_option maxHeartbeats 6400000 in
theorem law_mono (a b : Nat) (n : Int) (ha : a < 18446744073709551616) (hb : b < 18446744073709551616) (n1 : -2147483648 ≤ n) (n2 : n ≤ 2147483647) (w : World) (hT : TabW w) : Calls Tryd.prog 7 #[.int .u64 (a : Int), .int .u64 (b : Int), .int .i32 n] w fun e w' => e = .returned (.bool true) ∧ Below w.heap.size w w' := by
  have SP := fun W hW => speaks03 W hW
  have FF1 : ∀ w, (callFunc 16 #[.int .u64 (a : Int)]).run Tryd.prog w = .ok (.value (.float .f64 a)) w := flo_from2 a
  have FF2 : ∀ w, (callFunc 16 #[.int .u64 (b : Int)]).run Tryd.prog w = .ok (.value (.float .f64 b)) w := flo_from2 b
  obtain ⟨r0, r, c1, c2, c3, c4⟩ := grid_int n n1 (by omega)
  have hl : IFit (-1099511627776) := by unfold IFit; omega
  have hh : IFit 1099511627776 := by unfold IFit; omega
  have hd : IFit 64 := by unfold IFit; omega
  have G1 := real_Grid a ha 64 (-1099511627776) 1099511627776 hd hl hh
  have G2 := real_Grid b hb 64 (-1099511627776) 1099511627776 hd hl hh
  have G3 := real_Grid r c3 64 (-1099511627776) 1099511627776 hd hl hh
  rw [c4] at G3
  replace G3 : ∀ w, Calls Tryd.prog 26 #[.float .f64 r, .int .i64 64, .int .i64 (-1099511627776), .int .i64 1099511627776] w fun e w' => e = .returned (.tuple #[.int .i64 n, .int .i64 0]) ∧ Below w.heap.size w w' := G3
  have z1 := grid_nan a (den := 64) (low := -1099511627776) (high := 1099511627776) (by omega) (by omega) (by omega)
  have z2 := grid_nan b (den := 64) (low := -1099511627776) (high := 1099511627776) (by omega) (by omega) (by omega)
  have f1 : (FloatKind.f64.format.order a a != some .eq) = decide (fKi a = 1) := by
    rw [bne, show FloatKind.f64.format = Ieee.double from rfl, fl_eq_is a a ha ha]
    by_cases h : fKi a = 1 <;> simp [h]
  have f2 : (FloatKind.f64.format.order b b != some .eq) = decide (fKi b = 1) := by
    rw [bne, show FloatKind.f64.format = Ieee.double from rfl, fl_eq_is b b hb hb]
    by_cases h : fKi b = 1 <;> simp [h]
  have hle : (FloatKind.f64.format.order a b == some .lt || FloatKind.f64.format.order a b == some .eq) = true → ¬ (gridR b 64 (-1099511627776) 1099511627776).1 < (gridR a 64 (-1099511627776) 1099511627776).1 := by
    intro h
    rw [show FloatKind.f64.format = Ieee.double from rfl, fl_lt_is a b ha hb, fl_eq_is a b ha hb] at h
    by_cases na : fKi a = 1
    · simp [na] at h
    · by_cases nb : fKi b = 1
      · simp [nb] at h
      · have e1 : (fKi a != 1) = true := by simp [na]
        have e2 : (fKi b != 1) = true := by simp [nb]
        rw [e1, e2] at h
        simp only [Bool.true_and, Bool.or_eq_true, decide_eq_true_eq] at h
        have := grid_mono ha hb na nb (by omega) (den := 64) (low := -1099511627776) (high := 1099511627776) (by omega) (by omega) (by omega)
        omega
  have FQ : ∀ t w, (binOp .quo t (.float .f64 r0) (.float .f64 4634204016564240384)).run Tryd.prog w = .ok (.float .f64 r) w := fun t w => run_float_arith w .quo t .f64 _ _ _ c2
  obtain ⟨p1, ep1⟩ : ∃ x, (gridR a 64 (-1099511627776) 1099511627776).1 = x := ⟨_, rfl⟩
  obtain ⟨p2, ep2⟩ : ∃ x, (gridR a 64 (-1099511627776) 1099511627776).2 = x := ⟨_, rfl⟩
  obtain ⟨q1, eq1⟩ : ∃ x, (gridR b 64 (-1099511627776) 1099511627776).1 = x := ⟨_, rfl⟩
  obtain ⟨q2, eq2⟩ : ∃ x, (gridR b 64 (-1099511627776) 1099511627776).2 = x := ⟨_, rfl⟩
  rw [ep1, ep2] at G1
  rw [eq1, eq2] at G2
  rw [ep1, eq1] at hle
  rw [ep2] at z1
  rw [eq2] at z2
  obtain ⟨na, ena⟩ : ∃ x : Bool, decide (fKi a = 1) = x := ⟨_, rfl⟩
  obtain ⟨nb, enb⟩ : ∃ x : Bool, decide (fKi b = 1) = x := ⟨_, rfl⟩
  rw [ena] at f1 z1
  rw [enb] at f2 z2
  obtain ⟨le, ele⟩ : ∃ x : Bool, (FloatKind.f64.format.order a b == some .lt || FloatKind.f64.format.order a b == some .eq) = x := ⟨_, rfl⟩
  rw [ele] at hle
  have HT := Lib.hid hT
  have hwn : IntKind.i64.wrap n = n := by rw [IntWalk.i64_left]; exact IntWalk.wrap64_in _ (by omega)
  clear ep1 ep2 eq1 eq2 ena enb c4 c2 ha hb hT hl hh hd
  cases na <;> cases nb <;> cases le
  all_goals (try have hlt : decide (q1 < p1) = false := decide_eq_false (hle rfl))
  all_goals clear hle
  all_goals
    go_enter Tryd.func7, Tryd.ntmps7
    go_wp2_with (first
      | (go_at_call 14; with_reducible refine (SP _ HT.out).mono ?_; rintro e w1 ⟨rfl, hb1⟩)
      | (go_at_call 26; with_reducible refine (G1 _).mono ?_; rintro e w2 ⟨rfl, hb2⟩)
      | (go_at_call 26; with_reducible refine (G2 _).mono ?_; rintro e w3 ⟨rfl, hb3⟩)
      | (go_at_call 26; with_reducible refine (G3 _).mono ?_; rintro e w4 ⟨rfl, hb4⟩))
    go_ret
    have hB2 := hb1.trans (hb2.mono hb1.size)
    have hB3 := hB2.trans (hb3.mono hB2.size)
    exact ⟨by first | rfl | simp, hB3.trans (hb4.mono hB3.size)⟩
end Go.Proofs.YtmkblfejoniccaaDoor
