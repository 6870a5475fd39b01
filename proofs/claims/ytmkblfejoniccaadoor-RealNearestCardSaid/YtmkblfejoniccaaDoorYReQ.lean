/-
  The laws RealExact, RealBack, RealMonotone: the walks.
-/
import Derived.Test.YtmkblfejoniccaaDoorYReP
import Derived.Test.YtmkblfejoniccaaDoorYReL
namespace Go.Proofs.YtmkblfejoniccaaDoor
open Go.RowKit
set_option linter.unusedSimpArgs false
set_option linter.unusedVariables false

set_option maxRecDepth 100000 in
set_option maxHeartbeats 3200000 in
theorem law_exact (a : Nat) (ha : a < 18446744073709551616) (w : World) (hT : TabW w) : Calls Tryd.prog 3 #[.int .u64 (a : Int)] w fun e w' => e = .returned (.bool true) ∧ Below w.heap.size w w' := by
  have SP := fun W hW => speaks03 W hW
  have EX := fun W hW => real_exact a ha W hW
  have RX := ref3_exact a ha
  have FF : ∀ w, (callFunc 16 #[.int .u64 (a : Int)]).run Tryd.prog w = .ok (.value (.float .f64 a)) w := flo_from2 a
  obtain ⟨f1, f2, f3, f4⟩ := ex_fit a
  have GD := rat_good (exN a) (exD a) f1 f2
  obtain ⟨n, en⟩ : ∃ x, exN a = x := ⟨_, rfl⟩
  obtain ⟨d, ed⟩ : ∃ x, exD a = x := ⟨_, rfl⟩
  obtain ⟨v, ev⟩ : ∃ x, exE a = x := ⟨_, rfl⟩
  rw [en, ed, ev] at EX RX
  rw [en, ed] at GD
  rw [en, ed, ev] at f3
  have HT := Lib.hid hT
  clear en ed ev hT f1 f2 f4
  by_cases h0 : v = 0
  · subst h0
    rw [f3 rfl] at GD
    clear f3
    go_enter Tryd.func3, Tryd.ntmps3
    go_upto_region 4 with (first
      | (go_at_call 14; with_reducible refine (SP _ HT.out).mono ?_; rintro e w1 ⟨rfl, hb1⟩; have HT1 := Lib.hid (HT.out.below hb1))
      | (go_at_call 15; with_reducible refine (EX _ HT1.out).mono ?_; rintro e w2 ⟨rfl, hb2⟩))
    have hB2 := hb1.trans (hb2.mono hb1.size)
    refine wp_worldF (fun W => Blk W w2.heap.size #[.int .i64 n, .int .i64 d] 25 ∧ Below w.heap.size w W) ⟨Blk.new w2 _ _ _ rfl, by have hs := hB2.size; exact (by repeat' (first | (with_reducible exact Below.refl _ _) | (with_reducible assumption) | (with_reducible refine below_alloc ?_ _ ?_) | (with_reducible refine below_set _ ?_ ?_) | (with_reducible refine Below.drew ?_) | (with_reducible refine below_dN ?_ _) | (apply below_thenA; assumption) | omega | (simp; done) | (simp; omega) | (simp [*]; done)))⟩ ?_
    rintro W3 ⟨t3, hB3⟩
    clear hb1 hb2 hB2 EX SP
    go_upto_region 5 with (go_at_call 17; with_reducible refine (RX _).mono ?_; rintro e w4 ⟨rfl, hb4⟩)
    have t4 := t3.below hb4
    have hB4 := hB3.trans (hb4.mono hB3.size)
    have k0 := t4.cell 0 _ rfl
    have k1 := t4.cell 1 _ rfl
    clear t3 hB3 hb4
    go_wp2_with (go_at_call 18; with_reducible refine (GD _).mono ?_; rintro e w5 ⟨rfl, hb5⟩)
    go_ret
    exact ⟨rfl, hB4.trans (hb5.mono hB4.size)⟩
  · have q0 : (v != 0) = true := by simp; omega
    clear f3 GD
    go_enter Tryd.func3, Tryd.ntmps3
    go_upto_region 4 with (first
      | (go_at_call 14; with_reducible refine (SP _ HT.out).mono ?_; rintro e w1 ⟨rfl, hb1⟩; have HT1 := Lib.hid (HT.out.below hb1))
      | (go_at_call 15; with_reducible refine (EX _ HT1.out).mono ?_; rintro e w2 ⟨rfl, hb2⟩))
    have hB2 := hb1.trans (hb2.mono hb1.size)
    refine wp_worldF (fun W => Blk W w2.heap.size #[.int .i64 n, .int .i64 d] 25 ∧ Below w.heap.size w W) ⟨Blk.new w2 _ _ _ rfl, by have hs := hB2.size; exact (by repeat' (first | (with_reducible exact Below.refl _ _) | (with_reducible assumption) | (with_reducible refine below_alloc ?_ _ ?_) | (with_reducible refine below_set _ ?_ ?_) | (with_reducible refine Below.drew ?_) | (with_reducible refine below_dN ?_ _) | (apply below_thenA; assumption) | omega | (simp; done) | (simp; omega) | (simp [*]; done)))⟩ ?_
    rintro W3 ⟨t3, hB3⟩
    clear hb1 hb2 hB2 EX SP
    go_upto_region 5 with (go_at_call 17; with_reducible refine (RX _).mono ?_; rintro e w4 ⟨rfl, hb4⟩)
    have t4 := t3.below hb4
    have hB4 := hB3.trans (hb4.mono hB3.size)
    have k0 := t4.cell 0 _ rfl
    have k1 := t4.cell 1 _ rfl
    clear t3 hB3 hb4
    go_wp2_with fail
    go_ret
    exact ⟨rfl, hB4⟩
set_option maxRecDepth 100000 in
set_option maxHeartbeats 3200000 in
theorem law_back (a : Nat) (ha : a < 18446744073709551616) (w : World) (hT : TabW w) : Calls Tryd.prog 5 #[.int .u64 (a : Int)] w fun e w' => e = .returned (.bool true) ∧ Below w.heap.size w w' := by
  have SP := fun W hW => speaks03 W hW
  have EX := fun W hW => real_exact a ha W hW
  have FF : ∀ w, (callFunc 16 #[.int .u64 (a : Int)]).run Tryd.prog w = .ok (.value (.float .f64 a)) w := flo_from2 a
  obtain ⟨f1, f2, f3, f4⟩ := ex_fit a
  have NR := real_Nearest (exN a) (exD a) f1 f2
  have bk := fun h => back_ok ha h
  obtain ⟨n, en⟩ : ∃ x, exN a = x := ⟨_, rfl⟩
  obtain ⟨d, ed⟩ : ∃ x, exD a = x := ⟨_, rfl⟩
  obtain ⟨v, ev⟩ : ∃ x, exE a = x := ⟨_, rfl⟩
  rw [en, ed, ev] at EX
  rw [en, ed] at NR
  rw [en, ed, ev] at f4
  rw [en, ed, ev] at bk
  have HT := Lib.hid hT
  clear en ed ev hT f1 f2 f3
  by_cases h0 : v = 0
  · subst h0
    obtain ⟨g1, g2, g3⟩ := bk rfl
    obtain ⟨g, eg⟩ : ∃ x, nrB n d = x := ⟨_, rfl⟩
    rw [eg] at NR g1 g2 g3
    clear bk f4 eg
    have m1 : (FloatKind.f64.format.order g a == some .eq) = true := g2
    have m2 : (FloatKind.f64.format.order a 0 != some .eq) = true ∨ ((FloatKind.f64.format.order a 0 != some .eq) = false ∧ g = 0) := g3
    clear g2 g3
    have FB := flo_bits
    rcases m2 with m2 | ⟨m2, rfl⟩
    all_goals
      go_enter Tryd.func5, Tryd.ntmps5
      go_upto_region 5 with (first
        | (go_at_call 14; with_reducible refine (SP _ HT.out).mono ?_; rintro e w1 ⟨rfl, hb1⟩; have HT1 := Lib.hid (HT.out.below hb1))
        | (go_at_call 15; with_reducible refine (EX _ HT1.out).mono ?_; rintro e w2 ⟨rfl, hb2⟩))
      have hB2 := hb1.trans (hb2.mono hb1.size)
      refine wp_worldF (fun W => Blk W w2.heap.size #[.int .i64 n, .int .i64 d] 25 ∧ Below w.heap.size w W) ⟨Blk.new w2 _ _ _ rfl, by have hs := hB2.size; exact (by repeat' (first | (with_reducible exact Below.refl _ _) | (with_reducible assumption) | (with_reducible refine below_alloc ?_ _ ?_) | (with_reducible refine below_set _ ?_ ?_) | (with_reducible refine Below.drew ?_) | (with_reducible refine below_dN ?_ _) | (apply below_thenA; assumption) | omega | (simp; done) | (simp; omega) | (simp [*]; done)))⟩ ?_
      rintro W3 ⟨t3, hB3⟩
      clear hb1 hb2 hB2 EX SP
      have k0 := t3.cell 0 _ rfl
      have k1 := t3.cell 1 _ rfl
      go_wp2_with (go_at_call 20; with_reducible refine (NR _).mono ?_; rintro e w5 ⟨rfl, hb5⟩)
      go_ret
      exact ⟨rfl, hB3.trans (hb5.mono hB3.size)⟩
  · have q0 : (v != 0) = true := by simp; omega
    obtain ⟨rfl, rfl⟩ := f4 h0
    clear bk NR
    go_enter Tryd.func5, Tryd.ntmps5
    go_upto_region 5 with (first
      | (go_at_call 14; with_reducible refine (SP _ HT.out).mono ?_; rintro e w1 ⟨rfl, hb1⟩; have HT1 := Lib.hid (HT.out.below hb1))
      | (go_at_call 15; with_reducible refine (EX _ HT1.out).mono ?_; rintro e w2 ⟨rfl, hb2⟩))
    have hB2 := hb1.trans (hb2.mono hb1.size)
    refine wp_worldF (fun W => Blk W w2.heap.size #[.int .i64 0, .int .i64 0] 25 ∧ Below w.heap.size w W) ⟨Blk.new w2 _ _ _ rfl, by have hs := hB2.size; exact (by repeat' (first | (with_reducible exact Below.refl _ _) | (with_reducible assumption) | (with_reducible refine below_alloc ?_ _ ?_) | (with_reducible refine below_set _ ?_ ?_) | (with_reducible refine Below.drew ?_) | (with_reducible refine below_dN ?_ _) | (apply below_thenA; assumption) | omega | (simp; done) | (simp; omega) | (simp [*]; done)))⟩ ?_
    rintro W3 ⟨t3, hB3⟩
    clear hb1 hb2 hB2 EX SP
    have k0 := t3.cell 0 _ rfl
    have k1 := t3.cell 1 _ rfl
    go_wp2_with fail
    go_ret
    exact ⟨rfl, hB3⟩
end Go.Proofs.YtmkblfejoniccaaDoor
