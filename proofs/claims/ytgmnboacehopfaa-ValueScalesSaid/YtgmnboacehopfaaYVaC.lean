/-
  The laws of layer 9: speaks.
-/
import Derived.Test.YtgmnboacehopfaaYVaB
namespace Go.Proofs.Ytgmnboacehopfaa
open Go.RowKit
set_option linter.unusedSimpArgs false
set_option linter.unusedVariables false

theorem flo_from (b : Nat) (w : World) : (callFunc 9 #[.int .u64 (b : Int)]).run Try.prog w = .ok (.value (.float .f64 b)) w := by
  rw [run_callFunc_extern Try.func9 (by kernel_rfl) (by kernel_rfl) (by kernel_rfl) (e := Extern.MathFloatBits.float64frombits) (by kernel_rfl)]
  rfl
set_option maxRecDepth 100000 in
set_option maxHeartbeats 1600000 in
theorem math_nan (w : World) : Calls Try.prog 26 #[] w fun e w' => e = .returned (.float .f64 9221120237041090561) ∧ w' = w := by
  have FF : ∀ w, (callFunc 9 #[.int .u64 9221120237041090561]).run Try.prog w = .ok (.value (.float .f64 9221120237041090561)) w := flo_from 9221120237041090561
  go_enter Try.func26, Try.ntmps26
  go_wp2_with fail
  go_ret
  exact ⟨rfl, rfl⟩
/-- The walk goes on in a world of which only this is known. -/
theorem wp_world {P : Program} {c : Code} {Q : Exit → Act → World → Prop} {a : Act} {w : World} (R : World → Prop) (h : R w) (k : ∀ W, R W → c.wp P Q a W) : c.wp P Q a w := k w h
theorem dec1 (w : World) : Calls Try.prog 17 #[.agg #[.float .f64 4623226492472524800, .bool false], .int .i64 0] w fun e w' => e = .returned (.tuple #[.agg #[.int .i64 3, .int .i64 800], .int .i64 0]) ∧ Below w.heap.size w w' := by
  have q := val_decode 4623226492472524800 (by omega) false false false false false 0 (by kernel_rfl) (by kernel_rfl) (by kernel_rfl) (by kernel_rfl) w
  rw [show vD 4623226492472524800 false false false false false = (3, 800, 0) by kernel_rfl] at q
  exact q
theorem dec2 (w : World) : Calls Try.prog 17 #[.agg #[.float .f64 9221120237041090561, .bool false], .int .i64 1] w fun e w' => e = .returned (.tuple #[.agg #[.int .i64 1, .int .i64 0], .int .i64 0]) ∧ Below w.heap.size w w' := by
  have q := val_decode 9221120237041090561 (by omega) false true false false false 1 (by kernel_rfl) (by kernel_rfl) (by kernel_rfl) (by kernel_rfl) w
  rw [show vD 9221120237041090561 false true false false false = (1, 0, 0) by kernel_rfl] at q
  exact q
theorem dec3 (w : World) : Calls Try.prog 17 #[.agg #[.float .f64 9221120237041090561, .bool false], .int .i64 0] w fun e w' => e = .returned (.tuple #[.agg #[.int .i64 0, .int .i64 0], .int .i64 4]) ∧ Below w.heap.size w w' := by
  have q := val_decode 9221120237041090561 (by omega) false false false false false 0 (by kernel_rfl) (by kernel_rfl) (by kernel_rfl) (by kernel_rfl) w
  rw [show vD 9221120237041090561 false false false false false = (0, 0, 4) by kernel_rfl] at q
  exact q
theorem in1 (w : World) : Calls Try.prog 20 #[.agg #[.int .i64 3, .int .i64 800], .int .i64 0, .agg #[.int .i64 3, .int .i64 2]] w fun e w' => e = .returned (.tuple #[.int .i64 1200, .bool true]) ∧ Below w.heap.size w w' := by
  have q := val_in 3 800 0 3 2 (by unfold IFit; omega) (by unfold IFit; omega) (by unfold IFit; omega) (by unfold IFit; omega) w
  rw [show vI 3 800 0 3 2 = (1200, true, 0) by kernel_rfl] at q
  exact q.mono fun e w' h => ⟨h.1 rfl, h.2.2⟩
set_option maxRecDepth 100000 in
set_option maxHeartbeats 1600000 in
theorem speaks09 (w : World) : Calls Try.prog 16 #[] w fun e w' => e = .returned (.bool true) ∧ Below w.heap.size w w' := by
  go_enter Try.func16, Try.ntmps16
  go_upto_region 2 with (go_at_call 17; with_reducible refine (dec1 _).mono ?_; rintro e w1 ⟨rfl, hb1⟩)
  refine wp_world (fun W => Blk W w1.heap.size #[.int .i64 3, .int .i64 800] 55 ∧ Below w.heap.size w W) ⟨Blk.new w1 _ _ _ rfl, by have hs := hb1.size; exact (by repeat' (first | (with_reducible exact Below.refl _ _) | (with_reducible assumption) | (with_reducible refine below_alloc ?_ _ ?_) | (with_reducible refine below_set _ ?_ ?_) | (with_reducible refine Below.drew ?_) | (with_reducible refine below_dN ?_ _) | (apply below_thenA; assumption) | omega | (simp; done) | (simp; omega) | (simp [*]; done)))⟩ ?_
  rintro W1 ⟨t1, hB1⟩
  clear hb1
  go_upto_region 3 with (first
    | (go_at_call 26; with_reducible refine (math_nan _).mono ?_; rintro e w2 ⟨rfl, rfl⟩)
    | (go_at_call 17; with_reducible refine (dec2 _).mono ?_; rintro e w2 ⟨rfl, hb2⟩))
  have ta := t1.below hb2
  have hB2 := hB1.trans (hb2.mono hB1.size)
  refine wp_world (fun W => Blk W w1.heap.size #[.int .i64 3, .int .i64 800] 55 ∧ Blk W w2.heap.size #[.int .i64 1, .int .i64 0] 55 ∧ Below w.heap.size w W) ⟨ta.alloc _, Blk.new w2 _ _ _ rfl, by have hs := hB2.size; exact (by repeat' (first | (with_reducible exact Below.refl _ _) | (with_reducible assumption) | (with_reducible refine below_alloc ?_ _ ?_) | (with_reducible refine below_set _ ?_ ?_) | (with_reducible refine Below.drew ?_) | (with_reducible refine below_dN ?_ _) | (apply below_thenA; assumption) | omega | (simp; done) | (simp; omega) | (simp [*]; done)))⟩ ?_
  rintro W2 ⟨t2, t3, hB3⟩
  clear hb2 ta hB2 t1 hB1
  go_upto_region 4 with (first
    | (go_at_call 26; with_reducible refine (math_nan _).mono ?_; rintro e w3 ⟨rfl, rfl⟩)
    | (go_at_call 17; with_reducible refine (dec3 _).mono ?_; rintro e w3 ⟨rfl, hb3⟩))
  have ta := t2.below hb3
  have tb := t3.below hb3
  have hB4 := hB3.trans (hb3.mono hB3.size)
  refine wp_world (fun W => Blk W w1.heap.size #[.int .i64 3, .int .i64 800] 55 ∧ Blk W w2.heap.size #[.int .i64 1, .int .i64 0] 55 ∧ Below w.heap.size w W) ⟨ta.alloc _, tb.alloc _, by have hs := hB4.size; exact (by repeat' (first | (with_reducible exact Below.refl _ _) | (with_reducible assumption) | (with_reducible refine below_alloc ?_ _ ?_) | (with_reducible refine below_set _ ?_ ?_) | (with_reducible refine Below.drew ?_) | (with_reducible refine below_dN ?_ _) | (apply below_thenA; assumption) | omega | (simp; done) | (simp; omega) | (simp [*]; done)))⟩ ?_
  rintro W3 ⟨t4, t5, hB5⟩
  clear hb3 ta tb hB4 t2 t3 hB3
  have c0 := t4.cell 0 _ rfl
  have c1 := t4.cell 1 _ rfl
  go_upto_region 5 with (go_at_call 20; with_reducible refine (in1 _).mono ?_; rintro e w4 ⟨rfl, hb4⟩)
  clear c0 c1
  have ta := t4.below hb4
  have tb := t5.below hb4
  have hB6 := hB5.trans (hb4.mono hB5.size)
  have c0 := ta.cell 0 _ rfl
  have c1 := ta.cell 1 _ rfl
  have d0 := tb.cell 0 _ rfl
  clear hb4 t4 t5 hB5
  go_wp2_with fail
  go_ret
  exact ⟨rfl, hB6⟩
end Go.Proofs.Ytgmnboacehopfaa
