/-
  ValueScales: math.Abs; the closure.
-/
import Derived.Test.YtgmnboacehopfaaYVaD
import Derived.Test.YtgmnboacehopfaaYFpD
import Derived.Test.YtgmnboacehopfaaYGrA
import Derived.WalkLawsBesides
namespace Go.Proofs.Ytgmnboacehopfaa
open Go.RowKit
set_option linter.unusedSimpArgs false
set_option linter.unusedVariables false

theorem abs_bits (b : Nat) (hb : b < 18446744073709551616) : bits .andNot .u64 (b : Int) 9223372036854775808 = ((b % 9223372036854775808 : Nat) : Int) := by
  have h := u64_andNot_nat b 9223372036854775808 hb (by omega)
  have e : b &&& (18446744073709551615 - 9223372036854775808) = b % 9223372036854775808 := by
    have := Nat.and_two_pow_sub_one_eq_mod b 63
    rw [show (2 : Nat) ^ 63 = 9223372036854775808 by decide] at this
    exact this
  rw [e] at h
  exact h
set_option maxRecDepth 100000 in
set_option maxHeartbeats 1600000 in
theorem math_abs (b : Nat) (hb : b < 18446744073709551616) (w : World) : Calls Try.prog 24 #[.float .f64 b] w fun e w' => e = .returned (.float .f64 (b % 9223372036854775808)) ∧ w' = w := by
  have FB := flo_bits
  have e1 := abs_bits b hb
  obtain ⟨x, ex⟩ : ∃ x, b % 9223372036854775808 = x := ⟨_, rfl⟩
  rw [ex] at e1
  rw [ex]
  have FF : ∀ w, (callFunc 9 #[.int .u64 (x : Int)]).run Try.prog w = .ok (.value (.float .f64 x)) w := flo_from x
  clear ex
  go_enter Try.func24, Try.ntmps24
  go_wp2_with fail
  go_ret
  exact ⟨rfl, rfl⟩
/-- What the closure knows: two values, a scale; four boxes of its answers. -/
def StV (b0 b1 b3 H : Nat) (n m N D : Int) (W : World) (x0 x1 x2 x3 : Int) (W' : World) : Prop :=
  Blk W' b0 #[.int .i64 3, .int .i64 n] 55 ∧ Blk W' b1 #[.int .i64 N, .int .i64 D] 51 ∧ Blk W' b3 #[.int .i64 3, .int .i64 m] 55 ∧
    Blk W' H #[.int .i64 x0] 2 ∧ Blk W' (H + 1) #[.int .i64 x1] 2 ∧ Blk W' (H + 2) #[.int .i64 x2] 2 ∧ Blk W' (H + 3) #[.int .i64 x3] 2 ∧ ButL [H, H + 1, H + 2, H + 3] W W'
section
variable {b0 b1 b3 H : Nat} {n m N D : Int} {W : World} {x0 x1 x2 x3 : Int} {W' : World}
theorem StV.below {W2 : World} (h : StV b0 b1 b3 H n m N D W x0 x1 x2 x3 W') (hb : Below W'.heap.size W' W2) : StV b0 b1 b3 H n m N D W x0 x1 x2 x3 W2 := by
  obtain ⟨h0, h1, h2, h3, h4, h5, h6, h7⟩ := h
  exact ⟨h0.below hb, h1.below hb, h2.below hb, h3.below hb, h4.below hb, h5.below hb, h6.below hb, h7.trans (ButL.of hb)⟩
theorem StV.put0 (h : StV b0 b1 b3 H n m N D W x0 x1 x2 x3 W') (l0 : b0 < H) (l1 : b1 < H) (l3 : b3 < H) (x : Int) : StV b0 b1 b3 H n m N D W x x1 x2 x3 (W'.setCell ⟨H, 0, none⟩ (.int .i64 x)) := by
  obtain ⟨h0, h1, h2, h3, h4, h5, h6, h7⟩ := h
  exact ⟨h0.other (by omega) _ _, h1.other (by omega) _ _, h2.other (by omega) _ _, (h3.set 0 _), h4.other (by omega) _ _, h5.other (by omega) _ _, h6.other (by omega) _ _, h7.trans (ButL.set _ _ _ (by simp))⟩
theorem StV.put1 (h : StV b0 b1 b3 H n m N D W x0 x1 x2 x3 W') (l0 : b0 < H) (l1 : b1 < H) (l3 : b3 < H) (x : Int) : StV b0 b1 b3 H n m N D W x0 x x2 x3 (W'.setCell ⟨H + 1, 0, none⟩ (.int .i64 x)) := by
  obtain ⟨h0, h1, h2, h3, h4, h5, h6, h7⟩ := h
  exact ⟨h0.other (by omega) _ _, h1.other (by omega) _ _, h2.other (by omega) _ _, h3.other (by omega) _ _, (h4.set 0 _), h5.other (by omega) _ _, h6.other (by omega) _ _, h7.trans (ButL.set _ _ _ (by simp))⟩
theorem StV.put2 (h : StV b0 b1 b3 H n m N D W x0 x1 x2 x3 W') (l0 : b0 < H) (l1 : b1 < H) (l3 : b3 < H) (x : Int) : StV b0 b1 b3 H n m N D W x0 x1 x x3 (W'.setCell ⟨H + 2, 0, none⟩ (.int .i64 x)) := by
  obtain ⟨h0, h1, h2, h3, h4, h5, h6, h7⟩ := h
  exact ⟨h0.other (by omega) _ _, h1.other (by omega) _ _, h2.other (by omega) _ _, h3.other (by omega) _ _, h4.other (by omega) _ _, (h5.set 0 _), h6.other (by omega) _ _, h7.trans (ButL.set _ _ _ (by simp))⟩
theorem StV.put3 (h : StV b0 b1 b3 H n m N D W x0 x1 x2 x3 W') (l0 : b0 < H) (l1 : b1 < H) (l3 : b3 < H) (x : Int) : StV b0 b1 b3 H n m N D W x0 x1 x2 x (W'.setCell ⟨H + 3, 0, none⟩ (.int .i64 x)) := by
  obtain ⟨h0, h1, h2, h3, h4, h5, h6, h7⟩ := h
  exact ⟨h0.other (by omega) _ _, h1.other (by omega) _ _, h2.other (by omega) _ _, h3.other (by omega) _ _, h4.other (by omega) _ _, h5.other (by omega) _ _, (h6.set 0 _), h7.trans (ButL.set _ _ _ (by simp))⟩
end
set_option maxRecDepth 100000 in
set_option maxHeartbeats 1600000 in
theorem valsc1 (b0 b1 b3 H : Nat) (n m N D A B : Int) (l0 : b0 < H) (l1 : b1 < H) (l3 : b3 < H) (W : World)
    (V1 : ∀ W, Calls Try.prog 20 #[.agg #[.int .i64 3, .int .i64 n], .int .i64 0, .agg #[.int .i64 N, .int .i64 D]] W fun e w' => e = .returned (.tuple #[.int .i64 A, .bool true]) ∧ Below W.heap.size W w')
    (V2 : ∀ W, Calls Try.prog 20 #[.agg #[.int .i64 3, .int .i64 m], .int .i64 0, .agg #[.int .i64 N, .int .i64 D]] W fun e w' => e = .returned (.tuple #[.int .i64 B, .bool true]) ∧ Below W.heap.size W w')
    (V3 : ∀ W, Calls Try.prog 20 #[.agg #[.int .i64 3, .int .i64 n], .int .i64 0, .agg #[.int .i64 1, .int .i64 1]] W fun e w' => e = .returned (.tuple #[.int .i64 n, .bool true]) ∧ Below W.heap.size W w')
    (V4 : ∀ W, Calls Try.prog 20 #[.agg #[.int .i64 4, .int .i64 6400], .int .i64 n, .agg #[.int .i64 N, .int .i64 D]] W fun e w' => e = .returned (.tuple #[.int .i64 n, .bool true]) ∧ Below W.heap.size W w')
    (hS : StV b0 b1 b3 H n m N D W 0 0 0 0 W) :
    Calls Try.prog 23 #[.pointer (some ⟨b0, 0, none⟩), .pointer (some ⟨b1, 0, none⟩), .pointer (some ⟨H, 0, none⟩), .pointer (some ⟨b3, 0, none⟩), .pointer (some ⟨H + 1, 0, none⟩), .pointer (some ⟨H + 2, 0, none⟩), .pointer (some ⟨H + 3, 0, none⟩)] W fun e W' =>
      e = .returned (.tuple #[]) ∧ StV b0 b1 b3 H n m N D W A B n n W' := by
  obtain ⟨Q, eQ⟩ : ∃ Q : Ending → World → Prop, Q = fun (e : Ending) (W' : World) => e = .returned (.tuple #[]) ∧ StV b0 b1 b3 H n m N D W A B n n W' := ⟨_, rfl⟩
  rw [← eQ]
  have EQ := Lib.hid eQ
  have HS := Lib.hid hS
  have L0 := Lib.hid l0
  have L1 := Lib.hid l1
  have L3 := Lib.hid l3
  obtain ⟨h0, h1, h2, h3, h4, h5, h6, -⟩ := hS
  have c0 := h0.cell 0 _ rfl
  have c1 := h0.cell 1 _ rfl
  have c2 := h1.cell 0 _ rfl
  have c3 := h1.cell 1 _ rfl
  clear h0 h1 h2 h3 h4 h5 h6 eQ l0 l1 l3
  go_enter Try.func23, Try.ntmps23
  go_wp2_with fail
  refine (V1 _).mono ?_
  rintro e w1 ⟨rfl, hb⟩
  have HS := Lib.hid (StV.below HS.out hb)
  clear hb c0 c1 c2 c3
  obtain ⟨-, -, -, h3, h4, h5, h6, -⟩ := HS.out
  have d0 := h3.cell 0 _ rfl
  have f0 := h3.free 0
  clear h3 h4 h5 h6
  go_upto_region 1 with (fail)
  refine wp_world (StV b0 b1 b3 H n m N D W A 0 0 0) (StV.put0 HS.out L0.out L1.out L3.out A) ?_
  clear d0 f0 HS
  rintro W1 hS
  have HS := Lib.hid hS
  obtain ⟨h0, h1, h2, -, -, -, -, -⟩ := hS
  have c0 := h2.cell 0 _ rfl
  have c1 := h2.cell 1 _ rfl
  have c2 := h1.cell 0 _ rfl
  have c3 := h1.cell 1 _ rfl
  clear h0 h1 h2
  go_wp2_with fail
  refine (V2 _).mono ?_
  rintro e w2 ⟨rfl, hb⟩
  have HS := Lib.hid (StV.below HS.out hb)
  clear hb c0 c1 c2 c3
  obtain ⟨-, -, -, h3, h4, h5, h6, -⟩ := HS.out
  have d0 := h4.cell 0 _ rfl
  have f0 := h4.free 0
  clear h3 h4 h5 h6
  go_upto_region 2 with (fail)
  refine wp_world (StV b0 b1 b3 H n m N D W A B 0 0) (StV.put1 HS.out L0.out L1.out L3.out B) ?_
  clear d0 f0 HS
  rintro W2 hS
  have HS := Lib.hid hS
  obtain ⟨h0, h1, h2, -, -, -, -, -⟩ := hS
  have c0 := h0.cell 0 _ rfl
  have c1 := h0.cell 1 _ rfl
  have c2 := h1.cell 0 _ rfl
  have c3 := h1.cell 1 _ rfl
  clear h0 h1 h2
  go_wp2_with fail
  refine (V3 _).mono ?_
  rintro e w3 ⟨rfl, hb⟩
  have HS := Lib.hid (StV.below HS.out hb)
  clear hb c0 c1 c2 c3
  obtain ⟨-, -, -, h3, h4, h5, h6, -⟩ := HS.out
  have d0 := h5.cell 0 _ rfl
  have f0 := h5.free 0
  clear h3 h4 h5 h6
  go_upto_region 3 with (fail)
  refine wp_world (StV b0 b1 b3 H n m N D W A B n 0) (StV.put2 HS.out L0.out L1.out L3.out n) ?_
  clear d0 f0 HS
  rintro W3 hS
  have HS := Lib.hid hS
  obtain ⟨h0, h1, h2, -, -, -, -, -⟩ := hS
  have c0 := h0.cell 0 _ rfl
  have c1 := h0.cell 1 _ rfl
  have c2 := h1.cell 0 _ rfl
  have c3 := h1.cell 1 _ rfl
  clear h0 h1 h2
  go_wp2_with fail
  refine (V4 _).mono ?_
  rintro e w4 ⟨rfl, hb⟩
  have HS := Lib.hid (StV.below HS.out hb)
  clear hb c0 c1 c2 c3
  obtain ⟨-, -, -, h3, h4, h5, h6, -⟩ := HS.out
  have d0 := h6.cell 0 _ rfl
  have f0 := h6.free 0
  clear h3 h4 h5 h6
  have HS2 := Lib.hid (StV.put3 HS.out L0.out L1.out L3.out n)
  clear HS
  go_wp2_with fail
  go_end0
  rw [EQ.out]
  exact ⟨rfl, HS2.out⟩
end Go.Proofs.Ytgmnboacehopfaa
