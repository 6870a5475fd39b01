/-
  The statement SizingLimits: its closure.
-/
import Derived.Test.YthffphcgkmjhbaaSizE
namespace Go.Proofs.Ythffphcgkmjhbaa
open Go.RowKit
set_option linter.unusedSimpArgs false
set_option linter.unusedVariables false

set_option maxRecDepth 100000 in
set_option maxHeartbeats 1600000 in
theorem sizlim1 (k0 N0 k1 N1 base : Int) (known : Bool) (p q siz edges n m1 m2 g : Int) (b3 : Bool) (c : Int) (bv ba bl bn bg : Nat) (W : World)
    (BT : ∀ W, Calls Try.prog 91 #[.agg #[.int .i64 k0, .int .i64 N0], .agg #[.int .i64 k1, .int .i64 N1], .agg #[.int .i64 base, .bool known, .int .i64 p, .int .i64 q, .int .i64 siz, .int .i64 edges]] W fun e w' =>
      (c = 0 → e = .returned (.agg #[.int .i64 m1, .int .i64 m2, .bool b3])) ∧ (c ≠ 0 → e = .panicked (gave c)) ∧ Below W.heap.size W w')
    (LO : ∀ W, Calls Try.prog 92 #[.agg #[.int .i64 m1, .int .i64 m2, .bool b3], .int .i64 n] W fun e w' => e = .returned (.int .i64 g) ∧ Below W.heap.size W w')
    (h1 : Blk W bv #[.int .i64 k0, .int .i64 N0, .int .i64 k1, .int .i64 N1] 129) (h2 : Blk W ba #[.int .i64 base, .bool known, .int .i64 p, .int .i64 q, .int .i64 siz, .int .i64 edges] 101)
    (h3 : Blk W bl #[.int .i64 0, .int .i64 0, .bool false] 131) (h4 : Blk W bn #[.int .i64 n] 2) (h5 : Blk W bg #[.int .i64 0] 2) (hne : bl ≠ bg) (hne2 : bn ≠ bl) :
    Calls Try.prog 90 #[.pointer (some ⟨bv, 0, none⟩), .pointer (some ⟨ba, 0, none⟩), .pointer (some ⟨bl, 0, none⟩), .pointer (some ⟨bn, 0, none⟩), .pointer (some ⟨bg, 0, none⟩)] W fun e W' =>
      (c = 0 → e = .returned (.tuple #[])) ∧ (c ≠ 0 → e = .panicked (gave c)) ∧
      BlkL W' [(bl, if c = 0 then #[.int .i64 m1, .int .i64 m2, .bool b3] else #[.int .i64 0, .int .i64 0, .bool false], 131), (bg, if c = 0 then #[.int .i64 g] else #[.int .i64 0], 2)] ∧ ButL [bl, bg] W W' := by
  have HN := Lib.hid hne
  have HN2 := Lib.hid hne2
  obtain ⟨Q, eQ⟩ : ∃ Q : Ending → World → Prop, Q = fun (e : Ending) (W' : World) => (c = 0 → e = .returned (.tuple #[])) ∧ (c ≠ 0 → e = .panicked (gave c)) ∧
      BlkL W' [(bl, if c = 0 then #[.int .i64 m1, .int .i64 m2, .bool b3] else #[.int .i64 0, .int .i64 0, .bool false], 131), (bg, if c = 0 then #[.int .i64 g] else #[.int .i64 0], 2)] ∧ ButL [bl, bg] W W' := ⟨_, rfl⟩
  rw [← eQ]
  have EQ := Lib.hid eQ
  clear eQ hne hne2
  have c0 := h1.cell 0 _ rfl
  have c1 := h1.cell 1 _ rfl
  have c2 := h1.cell 2 _ rfl
  have c3 := h1.cell 3 _ rfl
  have d0 := h2.cell 0 _ rfl
  have d1 := h2.cell 1 _ rfl
  have d2 := h2.cell 2 _ rfl
  have d3 := h2.cell 3 _ rfl
  have d4 := h2.cell 4 _ rfl
  have d5 := h2.cell 5 _ rfl
  by_cases hc : c = 0
  · have S0 := fun W => (BT W).mono fun e w' h => (⟨h.1 hc, h.2.2⟩ : _ ∧ _)
    have HC := Lib.hid hc
    clear hc BT
    go_enter Try.func90, Try.ntmps90
    go_wp2_with fail
    refine (S0 _).mono ?_
    rintro e w1 ⟨rfl, hb⟩
    replace h3 := h3.below hb
    replace h4 := h4.below hb
    replace h5 := h5.below hb
    clear c0 c1 c2 c3 d0 d1 d2 d3 d4 d5 h1 h2
    have c0 := h3.cell 0 _ rfl
    have c1 := h3.cell 1 _ rfl
    have c2 := h3.cell 2 _ rfl
    have f0 := h3.free 0
    have f1 := h3.free 1
    have f2 := h3.free 2
    have hB := ((((ButL.of (l := [bl, bg]) hb).trans (ButL.set (b := bl) _ 0 (.int .i64 m1) (by simp))).trans (ButL.set (b := bl) _ 1 (.int .i64 m2) (by simp))).trans (ButL.set (b := bl) _ 2 (.bool b3) (by simp)))
    replace h3 : Blk _ bl #[.int .i64 m1, .int .i64 m2, .bool b3] 131 := ((h3.set 0 (.int .i64 m1)).set 1 (.int .i64 m2)).set 2 (.bool b3)
    replace h4 := ((h4.other HN2.out 0 (.int .i64 m1)).other HN2.out 1 (.int .i64 m2)).other HN2.out 2 (.bool b3)
    replace h5 := ((h5.other (Ne.symm HN.out) 0 (.int .i64 m1)).other (Ne.symm HN.out) 1 (.int .i64 m2)).other (Ne.symm HN.out) 2 (.bool b3)
    have g0 := h3.cell 0 _ rfl
    have g1 := h3.cell 1 _ rfl
    have g2 := h3.cell 2 _ rfl
    have g3 := h4.cell 0 _ rfl
    go_wp2_with fail
    refine (LO _).mono ?_
    rintro e w2 ⟨rfl, hb2⟩
    replace h3 := h3.below hb2
    replace h5 := h5.below hb2
    replace hB := hB.trans (ButL.of hb2)
    clear c0 c1 c2 f0 f1 f2 g0 g1 g2 g3 hb hb2 h4
    have c0 := h5.cell 0 _ rfl
    have f0 := h5.free 0
    go_wp2_with fail
    go_end0
    rw [EQ.out]
    refine ⟨fun _ => rfl, fun h => absurd HC.out h, ?_, hB.trans (ButL.set _ _ _ (by simp))⟩
    rw [if_pos HC.out, if_pos HC.out]
    intro e he
    simp at he
    rcases he with rfl | rfl
    · exact h3.other HN.out _ _
    · exact h5.set 0 _
  · have S0 := fun W => (BT W).mono fun e w' h => (⟨h.2.1 hc, h.2.2⟩ : _ ∧ _)
    have HC := Lib.hid hc
    clear hc BT
    go_enter Try.func90, Try.ntmps90
    go_wp2_with fail
    refine (S0 _).mono ?_
    rintro e w1 ⟨rfl, hb⟩
    go_wp2_with fail
    simp only [bodyPost]
    rw [EQ.out]
    refine ⟨trivial, fun h => absurd h HC.out, fun _ => rfl, ?_, ButL.of hb⟩
    rw [if_neg HC.out, if_neg HC.out]
    intro e he
    simp at he
    rcases he with rfl | rfl
    · exact h3.below hb
    · exact h5.below hb
end Go.Proofs.Ythffphcgkmjhbaa
