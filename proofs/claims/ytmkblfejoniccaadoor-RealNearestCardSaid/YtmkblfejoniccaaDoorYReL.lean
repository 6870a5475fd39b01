/-
  The laws of layer 3: speaks; RealGrid, RealKinds.
-/
import Derived.Test.YtmkblfejoniccaaDoorZ11
import Derived.Test.YtmkblfejoniccaaDoorZ10
namespace Go.Proofs.YtmkblfejoniccaaDoor
open Go.RowKit
set_option linter.unusedSimpArgs false
set_option linter.unusedVariables false

set_option maxRecDepth 100000 in
set_option maxHeartbeats 1600000 in
theorem math_copysign (w : World) : Calls Tryd.prog 43 #[.float .f64 0, .float .f64 13830554455654793216] w fun e w' => e = .returned (.float .f64 9223372036854775808) ∧ w' = w := by
  have FB1 : ∀ w, (callFunc 21 #[.float .f64 0]).run Tryd.prog w = .ok (.value (.int .u64 0)) w := flo_bits 0
  have FB2 : ∀ w, (callFunc 21 #[.float .f64 13830554455654793216]).run Tryd.prog w = .ok (.value (.int .u64 13830554455654793216)) w := flo_bits 13830554455654793216
  have FF : ∀ w, (callFunc 16 #[.int .u64 9223372036854775808]).run Tryd.prog w = .ok (.value (.float .f64 9223372036854775808)) w := flo_from2 9223372036854775808
  have e1 : bits .andNot .u64 0 9223372036854775808 = 0 := by decide
  have e2 : bits .and .u64 13830554455654793216 9223372036854775808 = 9223372036854775808 := by decide
  have e3 : bits .or .u64 0 9223372036854775808 = 9223372036854775808 := by decide
  go_enter Tryd.func43, Tryd.ntmps43
  go_wp2_with fail
  go_ret
  exact ⟨rfl, rfl⟩
theorem sp_grid1 (w : World) : Calls Tryd.prog 26 #[.float .f64 4609434218613702656, .int .i64 64, .int .i64 0, .int .i64 1000] w fun e w' => e = .returned (.tuple #[.int .i64 96, .int .i64 0]) ∧ Below w.heap.size w w' := by
  have q := real_Grid 4609434218613702656 (by omega) 64 0 1000 (by unfold IFit; omega) (by unfold IFit; omega) (by unfold IFit; omega) w
  rw [show gridR 4609434218613702656 64 0 1000 = (96, 0) by kernel_rfl] at q
  exact q
theorem sp_grid2 (w : World) : Calls Tryd.prog 26 #[.float .f64 9221120237041090561, .int .i64 64, .int .i64 0, .int .i64 1000] w fun e w' => e = .returned (.tuple #[.int .i64 0, .int .i64 4]) ∧ Below w.heap.size w w' := by
  have q := real_Grid 9221120237041090561 (by omega) 64 0 1000 (by unfold IFit; omega) (by unfold IFit; omega) (by unfold IFit; omega) w
  rw [show gridR 9221120237041090561 64 0 1000 = (0, 4) by kernel_rfl] at q
  exact q
theorem sp_exact (w : World) (hT : TabW w) : Calls Tryd.prog 15 #[.float .f64 13828302655841107968] w fun e w' => e = .returned (.tuple #[.agg #[.int .i64 (-3), .int .i64 4], .int .i64 0]) ∧ Below w.heap.size w w' := by
  have q := real_exact 13828302655841107968 (by omega) w hT
  rw [show exN 13828302655841107968 = -3 by kernel_rfl, show exD 13828302655841107968 = 4 by kernel_rfl, show exE 13828302655841107968 = 0 by kernel_rfl] at q
  exact q
theorem sp_kind (w : World) : Calls Tryd.prog 39 #[.float .f64 9223372036854775808] w fun e w' => e = .returned (.tuple #[.int .i64 3, .bool true]) ∧ w' = w := by
  have q := real_kind 9223372036854775808 (by omega) w
  rw [show fKi 9223372036854775808 = 3 by kernel_rfl, show fDn 9223372036854775808 = true by kernel_rfl] at q
  exact q
theorem sp_near (w : World) : Calls Tryd.prog 20 #[.agg #[.int .i64 (-3), .int .i64 4]] w fun e w' => e = .returned (.float .f64 13828302655841107968) ∧ Below w.heap.size w w' := by
  have q := real_Nearest (-3) 4 (by unfold IFit; omega) (by unfold IFit; omega) w
  rw [show nrB (-3) 4 = 13828302655841107968 by kernel_rfl] at q
  exact q
set_option maxRecDepth 100000 in
set_option maxHeartbeats 3200000 in
theorem speaks03 (w : World) (hT : TabW w) : Calls Tryd.prog 14 #[] w fun e w' => e = .returned (.bool true) ∧ Below w.heap.size w w' := by
  have HT := Lib.hid hT
  have m1 : (FloatKind.f64.format.order 13828302655841107968 13828302655841107968 == some .eq) = true := by decide
  clear hT
  go_enter Tryd.func14, Tryd.ntmps14
  go_upto_region 2 with (go_at_call 26; with_reducible refine (sp_grid1 _).mono ?_; rintro e w1 ⟨rfl, hb1⟩)
  go_upto_region 3 with (first
    | (go_at_call 42; with_reducible refine (math_nan2 _).mono ?_; rintro e w2 ⟨rfl, rfl⟩)
    | (go_at_call 26; with_reducible refine (sp_grid2 _).mono ?_; rintro e w2 ⟨rfl, hb2⟩))
  have hB2 := hb1.trans (hb2.mono hb1.size)
  have HT2 := Lib.hid (HT.out.below hB2)
  clear hb1 hb2
  go_upto_region 4 with (go_at_call 15; with_reducible refine (sp_exact _ HT2.out).mono ?_; rintro e w3 ⟨rfl, hb3⟩)
  have hB3 := hB2.trans (hb3.mono hB2.size)
  refine wp_worldF (fun W => Blk W w3.heap.size #[.int .i64 (-3), .int .i64 4] 25 ∧ Below w.heap.size w W) ⟨Blk.new w3 _ _ _ rfl, by have hs := hB3.size; exact (by repeat' (first | (with_reducible exact Below.refl _ _) | (with_reducible assumption) | (with_reducible refine below_alloc ?_ _ ?_) | (with_reducible refine below_set _ ?_ ?_) | (with_reducible refine Below.drew ?_) | (with_reducible refine below_dN ?_ _) | (apply below_thenA; assumption) | omega | (simp; done) | (simp; omega) | (simp [*]; done)))⟩ ?_
  rintro W4 ⟨t4, hB4⟩
  clear hb3 hB2 hB3 HT2
  go_upto_region 5 with (first
    | (go_at_call 43; with_reducible refine (math_copysign _).mono ?_; rintro e w5 ⟨rfl, rfl⟩)
    | (go_at_call 39; with_reducible refine (sp_kind _).mono ?_; rintro e w5 ⟨rfl, rfl⟩))
  have k0 := t4.cell 0 _ rfl
  have k1 := t4.cell 1 _ rfl
  go_wp2_with (go_at_call 20; with_reducible refine (sp_near _).mono ?_; rintro e w6 ⟨rfl, hb6⟩)
  go_ret
  exact ⟨rfl, hB4.trans (hb6.mono hB4.size)⟩
end Go.Proofs.YtmkblfejoniccaaDoor
