/-
  The statement ValueIns.
-/
import Derived.Test.YtgmnboacehopfaaYVaC
namespace Go.Proofs.Ytgmnboacehopfaa
open Go.RowKit
set_option linter.unusedSimpArgs false
set_option linter.unusedVariables false

set_option maxRecDepth 100000 in
set_option maxHeartbeats 1600000 in
theorem valins1 (kind N base p q n : Int) (ok : Bool) (c : Int) (b1 b3 b4 : Nat) (W : World)
    (VI : ∀ W, Calls Try.prog 20 #[.agg #[.int .i64 kind, .int .i64 N], .int .i64 base, .agg #[.int .i64 p, .int .i64 q]] W (VGives n ok c W)) (hz : c ≠ 0 → n = 0 ∧ ok = false)
    (h1 : Blk W b1 #[.int .i64 kind, .int .i64 N, .int .i64 base, .int .i64 p, .int .i64 q] 65) (h7 : Blk W b3 #[.int .i64 0] 2) (h8 : Blk W b4 #[.bool false] 4) (hne : b3 ≠ b4) :
    Calls Try.prog 19 #[.pointer (some ⟨b1, 0, none⟩), .pointer (some ⟨b3, 0, none⟩), .pointer (some ⟨b4, 0, none⟩)] W fun e W' =>
      (c = 0 → e = .returned (.tuple #[])) ∧ (c ≠ 0 → e = .panicked (gave c)) ∧ BlkL W' [(b3, #[.int .i64 n], 2), (b4, #[.bool ok], 4)] ∧ ButL [b3, b4] W W' := by
  have HN := Lib.hid hne
  obtain ⟨Q, eQ⟩ : ∃ Q : Ending → World → Prop, Q = fun (e : Ending) (W' : World) => (c = 0 → e = .returned (.tuple #[])) ∧ (c ≠ 0 → e = .panicked (gave c)) ∧ BlkL W' [(b3, #[.int .i64 n], 2), (b4, #[.bool ok], 4)] ∧ ButL [b3, b4] W W' := ⟨_, rfl⟩
  rw [← eQ]
  have EQ := Lib.hid eQ
  clear eQ hne
  have d0 := h1.cell 0 _ rfl
  have d1 := h1.cell 1 _ rfl
  have d2 := h1.cell 2 _ rfl
  have d3 := h1.cell 3 _ rfl
  have d4 := h1.cell 4 _ rfl
  by_cases hc : c = 0
  · have S0 : ∀ W, Calls Try.prog 20 #[.agg #[.int .i64 kind, .int .i64 N], .int .i64 base, .agg #[.int .i64 p, .int .i64 q]] W fun e w' => e = .returned (.tuple #[.int .i64 n, .bool ok]) ∧ Below W.heap.size W w' := fun W => (VI W).mono fun e w' h => ⟨h.1 hc, h.2.2⟩
    have HC := Lib.hid hc
    clear hc hz VI
    go_enter Try.func19, Try.ntmps19
    go_wp2_with fail
    refine (S0 _).mono ?_
    rintro e w1 ⟨rfl, hb⟩
    replace h7 := h7.below hb
    replace h8 := h8.below hb
    clear d0 d1 d2 d3 d4
    have c1 := h7.cell 0 _ rfl
    have c2 := h8.cell 0 _ rfl
    have f1 := h7.free 0
    have f2 := h8.free 0
    have g2 := (h8.other (Ne.symm HN.out) 0 (.int .i64 n)).cell 0 _ rfl
    have g3 := (h8.other (Ne.symm HN.out) 0 (.int .i64 n)).free 0
    go_wp2_with fail
    go_end0
    rw [EQ.out]
    refine ⟨fun _ => rfl, fun h => absurd HC.out h, ?_, ((ButL.of hb).trans (ButL.set _ _ _ (by simp))).trans (ButL.set _ _ _ (by simp))⟩
    intro e he
    simp at he
    rcases he with rfl | rfl
    · exact (h7.set 0 _).other HN.out _ _
    · exact (h8.other (Ne.symm HN.out) 0 _).set 0 _
  · obtain ⟨rfl, rfl⟩ := hz hc
    have S0 : ∀ W, Calls Try.prog 20 #[.agg #[.int .i64 kind, .int .i64 N], .int .i64 base, .agg #[.int .i64 p, .int .i64 q]] W fun e w' => e = .panicked (gave c) ∧ Below W.heap.size W w' := fun W => (VI W).mono fun e w' h => ⟨h.2.1 hc, h.2.2⟩
    have HC := Lib.hid hc
    clear hc hz VI
    go_enter Try.func19, Try.ntmps19
    go_wp2_with fail
    refine (S0 _).mono ?_
    rintro e w1 ⟨rfl, hb⟩
    replace h7 := h7.below hb
    replace h8 := h8.below hb
    clear d0 d1 d2 d3 d4
    go_wp2_with fail
    simp only [bodyPost]
    rw [EQ.out]
    refine ⟨trivial, fun h => absurd h HC.out, fun _ => rfl, ?_, ButL.of hb⟩
    intro e he
    simp at he
    rcases he with rfl | rfl
    · exact h7
    · exact h8
set_option maxRecDepth 100000 in
set_option maxHeartbeats 3200000 in
theorem law_ins (kind N base p q : Int) (hN : IFit N) (hb : IFit base) (hp : IFit p) (hq : IFit q) (w : World) :
    Calls Try.prog 6 #[.agg #[.int .i64 kind, .int .i64 N, .int .i64 base, .int .i64 p, .int .i64 q]] w fun e w' => e = .returned (.bool true) ∧ Below w.heap.size w w' := by
  have hmf : ∀ (fn : Fn) (first cap : Array Value) (w : World), (Instr.makeFunc fn first cap).run Try.prog w = .ok (.func fn first cap) w := fun _ _ _ _ => rfl
  have VI := fun W => val_in kind N base p q hN hb hp hq W
  have RI := fun W => ref9_in kind N base p q hN hb hp hq W
  have hz := @vI_err kind N base p q
  obtain ⟨r, er⟩ : ∃ r, vI kind N base p q = r := ⟨_, rfl⟩
  rw [er] at VI RI hz
  obtain ⟨n, ok, c⟩ := r
  dsimp only at VI RI hz
  have T1 := fun b1 b3 b4 W (h1 : Blk W b1 #[.int .i64 kind, .int .i64 N, .int .i64 base, .int .i64 p, .int .i64 q] 65) (h3 : Blk W b3 #[.int .i64 0] 2) (h4 : Blk W b4 #[.bool false] 4) (hne : b3 ≠ b4) =>
    try_blks 19 #[.pointer (some ⟨b1, 0, none⟩), .pointer (some ⟨b3, 0, none⟩), .pointer (some ⟨b4, 0, none⟩)] c [(b3, #[.int .i64 n], 2), (b4, #[.bool ok], 4)] W
      (by intro e he; simp at he; rcases he with rfl | rfl; exact h3.lt; exact h4.lt) (fun w => enters_of Try.func19 (by kernel_rfl) rfl _ w)
      (fun W' hb => valins1 kind N base p q n ok c b1 b3 b4 W' VI hz (h1.below hb) (h3.below hb) (h4.below hb) hne)
  clear er hN hb hp hq hz VI
  have h1 := Blk.new w #[.int .i64 kind, .int .i64 N, .int .i64 base, .int .i64 p, .int .i64 q] 65 _ rfl
  have hB : Below w.heap.size w (w.alloc (.cells #[.int .i64 kind, .int .i64 N, .int .i64 base, .int .i64 p, .int .i64 q] 65)) := (by repeat' (first | (with_reducible exact Below.refl _ _) | (with_reducible assumption) | (with_reducible refine below_alloc ?_ _ ?_) | (with_reducible refine below_set _ ?_ ?_) | (with_reducible refine Below.drew ?_) | (with_reducible refine below_dN ?_ _) | (apply below_thenA; assumption) | omega | (simp; done) | (simp; omega) | (simp [*]; done)))
  go_enter Try.func6, Try.ntmps6
  go_wp2_with fail
  refine (speaks09 _).mono ?_
  rintro e w1 ⟨rfl, hb1⟩
  replace h1 := h1.below hb1
  replace hB := hB.trans (hb1.mono hB.size)
  clear hb1
  go_upto_region 4 with (fail)
  refine wp_world (fun W => Blk W w.heap.size #[.int .i64 kind, .int .i64 N, .int .i64 base, .int .i64 p, .int .i64 q] 65 ∧ Blk W w1.heap.size #[.int .i64 0] 2 ∧ Blk W (w1.heap.size + 1) #[.bool false] 4 ∧ Below w.heap.size w W) ⟨(h1.alloc _).alloc _, (Blk.new w1 _ _ _ rfl).alloc _, Blk.new _ _ _ _ (by simp), by have hs := hB.size; exact (by repeat' (first | (with_reducible exact Below.refl _ _) | (with_reducible assumption) | (with_reducible refine below_alloc ?_ _ ?_) | (with_reducible refine below_set _ ?_ ?_) | (with_reducible refine Below.drew ?_) | (with_reducible refine below_dN ?_ _) | (apply below_thenA; assumption) | omega | (simp; done) | (simp; omega) | (simp [*]; done)))⟩ ?_
  have hl1 := h1.lt
  have hlB := hB.size
  clear h1 hB
  rintro W1 ⟨h1, h3, h4, hB⟩
  go_wp2_with fail
  refine (T1 _ _ _ _ h1 h3 h4 (by omega)).mono ?_
  rintro e w3 ⟨rfl, hl, hbut⟩
  have g3 : Blk w3 w1.heap.size #[.int .i64 n] 2 := hl (w1.heap.size, #[.int .i64 n], 2) (by simp)
  have g4 : Blk w3 (w1.heap.size + 1) #[.bool ok] 4 := hl (w1.heap.size + 1, #[.bool ok], 4) (by simp)
  replace h1 := h1.butl hbut (by simp; omega)
  replace hB := hbut.to hB (by intro b hb; simp at hb; rcases hb with rfl | rfl <;> omega) hB.size
  clear hl hbut h3 h4 T1
  have d0 := h1.cell 0 _ rfl
  have d1 := h1.cell 1 _ rfl
  have d2 := h1.cell 2 _ rfl
  have d3 := h1.cell 3 _ rfl
  have d4 := h1.cell 4 _ rfl
  go_wp2_with fail
  refine (RI _).mono ?_
  rintro e w4 ⟨rfl, hb4⟩
  replace g3 := g3.below hb4
  replace g4 := g4.below hb4
  replace hB := hB.trans (hb4.mono hB.size)
  clear d0 d1 d2 d3 d4 hb4
  have c0 := g3.cell 0 _ rfl
  have c1 := g4.cell 0 _ rfl
  go_wp2_with fail
  go_ret
  exact ⟨by simp, hB⟩
end Go.Proofs.Ytgmnboacehopfaa
