/-
  The statement SizingOf.
-/
import Derived.Test.YthffphcgkmjhbaaLawM
import Derived.Test.YthffphcgkmjhbaaSizC
import Derived.Test.YthffphcgkmjhbaaSizD
namespace Go.Proofs.Ythffphcgkmjhbaa
open Go.RowKit
set_option linter.unusedSimpArgs false
set_option linter.unusedVariables false

theorem ofR_err {kind N base : Int} {known : Bool} {p q : Int} {whole : Bool} {edges : Int} (h : (ofR kind N base known p q whole edges).2.2 ≠ 0) :
    (ofR kind N base known p q whole edges).1 = 0 ∧ (ofR kind N base known p q whole edges).2.1 = false := by
  unfold ofR at h ⊢
  split at h
  · exact absurd rfl h
  · split at h
    · rename_i h1 h2; rw [if_neg h1, if_pos h2]; exact ⟨rfl, rfl⟩
    · split at h
      · exact absurd rfl h
      · split at h
        · exact absurd rfl h
        · split at h
          · rename_i h1 h2 h3 h4 h5; rw [if_neg h1, if_neg h2, if_neg h3, if_neg h4, if_pos h5]; exact ⟨rfl, rfl⟩
          · exact absurd rfl h
set_option maxRecDepth 100000 in
set_option maxHeartbeats 1600000 in
theorem sizof1 (kind N base : Int) (known : Bool) (p q siz edges n : Int) (ok : Bool) (c : Int) (b2 b5 b7 b8 : Nat) (W : World)
    (SO : ∀ W, Calls Try.prog 81 #[.agg #[.int .i64 kind, .int .i64 N], .agg #[.int .i64 base, .bool known, .int .i64 p, .int .i64 q, .int .i64 siz, .int .i64 edges]] W (Gives2 n ok c W)) (hz : c ≠ 0 → n = 0 ∧ ok = false)
    (h2 : Blk W b2 #[.int .i64 kind, .int .i64 N] 97) (h5 : Blk W b5 #[.int .i64 base, .bool known, .int .i64 p, .int .i64 q, .int .i64 siz, .int .i64 edges] 101) (h7 : Blk W b7 #[.int .i64 0] 2) (h8 : Blk W b8 #[.bool false] 4) (hne : b7 ≠ b8) :
    Calls Try.prog 80 #[.pointer (some ⟨b2, 0, none⟩), .pointer (some ⟨b5, 0, none⟩), .pointer (some ⟨b7, 0, none⟩), .pointer (some ⟨b8, 0, none⟩)] W fun e W' =>
      (c = 0 → e = .returned (.tuple #[])) ∧ (c ≠ 0 → e = .panicked (gave c)) ∧ BlkL W' [(b7, #[.int .i64 n], 2), (b8, #[.bool ok], 4)] ∧ ButL [b7, b8] W W' := by
  have HN := Lib.hid hne
  obtain ⟨Q, eQ⟩ : ∃ Q : Ending → World → Prop, Q = fun (e : Ending) (W' : World) => (c = 0 → e = .returned (.tuple #[])) ∧ (c ≠ 0 → e = .panicked (gave c)) ∧ BlkL W' [(b7, #[.int .i64 n], 2), (b8, #[.bool ok], 4)] ∧ ButL [b7, b8] W W' := ⟨_, rfl⟩
  rw [← eQ]
  have EQ := Lib.hid eQ
  clear eQ hne
  have c0 := h2.cell 0 _ rfl
  have c1 := h2.cell 1 _ rfl
  have d0 := h5.cell 0 _ rfl
  have d1 := h5.cell 1 _ rfl
  have d2 := h5.cell 2 _ rfl
  have d3 := h5.cell 3 _ rfl
  have d4 := h5.cell 4 _ rfl
  have d5 := h5.cell 5 _ rfl
  by_cases hc : c = 0
  · have S0 : ∀ W, Calls Try.prog 81 #[.agg #[.int .i64 kind, .int .i64 N], .agg #[.int .i64 base, .bool known, .int .i64 p, .int .i64 q, .int .i64 siz, .int .i64 edges]] W fun e w' => e = .returned (.tuple #[.int .i64 n, .bool ok]) ∧ Below W.heap.size W w' := fun W => (SO W).mono fun e w' h => ⟨h.1 hc, h.2.2⟩
    have HC := Lib.hid hc
    clear hc hz SO
    go_enter Try.func80, Try.ntmps80
    go_wp2_with fail
    refine (S0 _).mono ?_
    rintro e w1 ⟨rfl, hb⟩
    replace h7 := h7.below hb
    replace h8 := h8.below hb
    clear c0 c1 d0 d1 d2 d3 d4 d5
    have c1 := h7.cell 0 _ rfl
    have c2 := h8.cell 0 _ rfl
    have f1 := h7.free 0
    have f2 := h8.free 0
    have g2 := (h8.other (Ne.symm HN.out) 0 (.int .i64 n)).cell 0 _ rfl
    have g3 := (h8.other (Ne.symm HN.out) 0 (.int .i64 n)).free 0
    go_wp2_with fail
    go_end0
    rw [EQ.out]
    refine ⟨fun _ => rfl, fun h => absurd HC.out h, ?_, ((ButL.of hb).trans (ButL.set _ _ _ (by simp))).trans (ButL.set _ _ _ (by simp))⟩
    intro e he
    simp at he
    rcases he with rfl | rfl
    · exact (h7.set 0 _).other HN.out _ _
    · exact (h8.other (Ne.symm HN.out) 0 _).set 0 _
  · obtain ⟨rfl, rfl⟩ := hz hc
    have S0 : ∀ W, Calls Try.prog 81 #[.agg #[.int .i64 kind, .int .i64 N], .agg #[.int .i64 base, .bool known, .int .i64 p, .int .i64 q, .int .i64 siz, .int .i64 edges]] W fun e w' => e = .panicked (gave c) ∧ Below W.heap.size W w' := fun W => (SO W).mono fun e w' h => ⟨h.2.1 hc, h.2.2⟩
    have HC := Lib.hid hc
    clear hc hz SO
    go_enter Try.func80, Try.ntmps80
    go_wp2_with fail
    refine (S0 _).mono ?_
    rintro e w1 ⟨rfl, hb⟩
    replace h7 := h7.below hb
    replace h8 := h8.below hb
    clear c0 c1 d0 d1 d2 d3 d4 d5
    go_wp2_with fail
    simp only [bodyPost]
    rw [EQ.out]
    refine ⟨trivial, fun h => absurd h HC.out, fun _ => rfl, ?_, ButL.of hb⟩
    intro e he
    simp at he
    rcases he with rfl | rfl
    · exact h7
    · exact h8
set_option maxRecDepth 100000 in
set_option maxHeartbeats 3200000 in
theorem law_sizof (kind N base num den edges : Int) (known whole : Bool) (hN : IFit N) (hb : IFit base) (hp : IFit num) (hq : IFit den) (he : IFit edges) (w : World) :
    Calls Try.prog 16 #[.agg #[.int .i64 kind, .int .i64 N], .agg #[.int .i64 base, .int .i64 num, .int .i64 den, .int .i64 edges, .bool known, .bool whole]] w fun e w' => e = .returned (.bool true) ∧ Below w.heap.size w w' := by
  have hmf : ∀ (fn : Fn) (first cap : Array Value) (w : World), (Instr.makeFunc fn first cap).run Try.prog w = .ok (.func fn first cap) w := fun _ _ _ _ => rfl
  have TD := fun W => law_told base num den edges known whole W
  have SO := fun W => siz_of kind N base known num den (toldS whole) edges hN hb hp hq he W
  have RO := fun W => ref14_of kind N base known num den whole edges hN hb hp hq he W
  have et : (toldS whole == 2) = whole := by cases whole <;> rfl
  rw [et] at SO
  have hz := @ofR_err kind N base known num den whole edges
  unfold Ans3 at RO
  obtain ⟨r, er⟩ : ∃ r, ofR kind N base known num den whole edges = r := ⟨_, rfl⟩
  rw [er] at SO RO hz
  obtain ⟨n, ok, c⟩ := r
  dsimp only at SO RO hz
  obtain ⟨s, es⟩ : ∃ s, toldS whole = s := ⟨_, rfl⟩
  rw [es] at TD SO
  have T1 := fun b2 b5 b7 b8 W (h2 : Blk W b2 #[.int .i64 kind, .int .i64 N] 97) (h5 : Blk W b5 #[.int .i64 base, .bool known, .int .i64 num, .int .i64 den, .int .i64 s, .int .i64 edges] 101) (h7 : Blk W b7 #[.int .i64 0] 2) (h8 : Blk W b8 #[.bool false] 4) (hne : b7 ≠ b8) =>
    try_blks 80 #[.pointer (some ⟨b2, 0, none⟩), .pointer (some ⟨b5, 0, none⟩), .pointer (some ⟨b7, 0, none⟩), .pointer (some ⟨b8, 0, none⟩)] c [(b7, #[.int .i64 n], 2), (b8, #[.bool ok], 4)] W
      (by intro e he; simp at he; rcases he with rfl | rfl; exact h7.lt; exact h8.lt) (fun w => enters_of Try.func80 (by kernel_rfl) rfl _ w)
      (fun W' hb => sizof1 kind N base known num den s edges n ok c b2 b5 b7 b8 W' SO hz (h2.below hb) (h5.below hb) (h7.below hb) (h8.below hb) hne)
  clear es er et hN hb hp hq he hz SO
  have h2 := (Blk.new w #[.int .i64 kind, .int .i64 N] 97 _ rfl).alloc (.cells #[.int .i64 base, .int .i64 num, .int .i64 den, .int .i64 edges, .bool known, .bool whole] 99)
  have h3 := Blk.new (w.alloc (.cells #[.int .i64 kind, .int .i64 N] 97)) #[.int .i64 base, .int .i64 num, .int .i64 den, .int .i64 edges, .bool known, .bool whole] 99 (w.heap.size + 1) (by simp)
  have hB : Below w.heap.size w ((w.alloc (.cells #[.int .i64 kind, .int .i64 N] 97)).alloc (.cells #[.int .i64 base, .int .i64 num, .int .i64 den, .int .i64 edges, .bool known, .bool whole] 99)) := (by repeat' (first | (with_reducible exact Below.refl _ _) | (with_reducible assumption) | (with_reducible refine below_alloc ?_ _ ?_) | (with_reducible refine below_set _ ?_ ?_) | (with_reducible refine Below.drew ?_) | (with_reducible refine below_dN ?_ _) | (apply below_thenA; assumption) | omega | (simp; done) | (simp; omega) | (simp [*]; done)))
  go_enter Try.func16, Try.ntmps16
  go_wp2_with fail
  refine (speaks14 _).mono ?_
  rintro e w1 ⟨rfl, hb1⟩
  have hw1 : w.heap.size + 2 ≤ w1.heap.size := by have := hb1.size; simp at this; omega
  replace h2 := h2.below hb1
  replace h3 := h3.below hb1
  replace hB := hB.trans (hb1.mono hB.size)
  clear hb1
  have c0 := h3.cell 0 _ rfl
  have c1 := h3.cell 1 _ rfl
  have c2 := h3.cell 2 _ rfl
  have c3 := h3.cell 3 _ rfl
  have c4 := h3.cell 4 _ rfl
  have c5 := h3.cell 5 _ rfl
  go_wp2_with fail
  refine (TD _).mono ?_
  rintro e w2 ⟨rfl, hb2⟩
  have hw2 := hb2.size
  replace h2 := h2.below hb2
  replace hB := hB.trans (hb2.mono hB.size)
  clear hb2 c0 c1 c2 c3 c4 c5 h3 TD
  have B5 : Obj := .cells #[.int .i64 base, .bool known, .int .i64 num, .int .i64 den, .int .i64 s, .int .i64 edges] 101
  clear B5
  have h5 := (((Blk.new w2 #[.int .i64 base, .bool known, .int .i64 num, .int .i64 den, .int .i64 s, .int .i64 edges] 101 _ rfl).alloc (.cells #[.int .i64 base, .bool known, .int .i64 num, .int .i64 den, .bool whole, .int .i64 edges] 103)).alloc (.cells #[.int .i64 0] 2)).alloc (.cells #[.bool false] 4)
  have h6 := ((Blk.new (w2.alloc (.cells #[.int .i64 base, .bool known, .int .i64 num, .int .i64 den, .int .i64 s, .int .i64 edges] 101)) #[.int .i64 base, .bool known, .int .i64 num, .int .i64 den, .bool whole, .int .i64 edges] 103 (w2.heap.size + 1) (by simp)).alloc (.cells #[.int .i64 0] 2)).alloc (.cells #[.bool false] 4)
  have h7 := (Blk.new ((w2.alloc (.cells #[.int .i64 base, .bool known, .int .i64 num, .int .i64 den, .int .i64 s, .int .i64 edges] 101)).alloc (.cells #[.int .i64 base, .bool known, .int .i64 num, .int .i64 den, .bool whole, .int .i64 edges] 103)) #[.int .i64 0] 2 (w2.heap.size + 1 + 1) (by simp)).alloc (.cells #[.bool false] 4)
  have h8 := Blk.new (((w2.alloc (.cells #[.int .i64 base, .bool known, .int .i64 num, .int .i64 den, .int .i64 s, .int .i64 edges] 101)).alloc (.cells #[.int .i64 base, .bool known, .int .i64 num, .int .i64 den, .bool whole, .int .i64 edges] 103)).alloc (.cells #[.int .i64 0] 2)) #[.bool false] 4 (w2.heap.size + 1 + 1 + 1) (by simp)
  have hz2 := hB.size
  replace h2 := h2.below (w' := (((w2.alloc (.cells #[.int .i64 base, .bool known, .int .i64 num, .int .i64 den, .int .i64 s, .int .i64 edges] 101)).alloc (.cells #[.int .i64 base, .bool known, .int .i64 num, .int .i64 den, .bool whole, .int .i64 edges] 103)).alloc (.cells #[.int .i64 0] 2)).alloc (.cells #[.bool false] 4)) (by repeat' (first | (with_reducible exact Below.refl _ _) | (with_reducible assumption) | (with_reducible refine below_alloc ?_ _ ?_) | (with_reducible refine below_set _ ?_ ?_) | (with_reducible refine Below.drew ?_) | (with_reducible refine below_dN ?_ _) | (apply below_thenA; assumption) | omega | (simp; done) | (simp; omega) | (simp [*]; done)))
  replace hB : Below w.heap.size w ((((w2.alloc (.cells #[.int .i64 base, .bool known, .int .i64 num, .int .i64 den, .int .i64 s, .int .i64 edges] 101)).alloc (.cells #[.int .i64 base, .bool known, .int .i64 num, .int .i64 den, .bool whole, .int .i64 edges] 103)).alloc (.cells #[.int .i64 0] 2)).alloc (.cells #[.bool false] 4)) := (by repeat' (first | (with_reducible exact Below.refl _ _) | (with_reducible assumption) | (with_reducible refine below_alloc ?_ _ ?_) | (with_reducible refine below_set _ ?_ ?_) | (with_reducible refine Below.drew ?_) | (with_reducible refine below_dN ?_ _) | (apply below_thenA; assumption) | omega | (simp; done) | (simp; omega) | (simp [*]; done)))
  go_wp2_with fail
  refine (T1 _ _ _ _ _ h2 h5 h7 h8 (by omega)).mono ?_
  rintro e w3 ⟨rfl, hl, hbut⟩
  have g7 : Blk w3 (w2.heap.size + 1 + 1) #[.int .i64 n] 2 := hl (w2.heap.size + 1 + 1, #[.int .i64 n], 2) (by simp)
  have g8 : Blk w3 (w2.heap.size + 1 + 1 + 1) #[.bool ok] 4 := hl (w2.heap.size + 1 + 1 + 1, #[.bool ok], 4) (by simp)
  replace h2 := h2.butl hbut (by simp; omega)
  replace h6 := h6.butl hbut (by simp)
  replace hB := hbut.to hB (by intro b hb; simp at hb; rcases hb with rfl | rfl <;> omega) hB.size
  clear hl hbut h7 h8 h5 T1
  have c0 := h2.cell 0 _ rfl
  have c1 := h2.cell 1 _ rfl
  have d0 := h6.cell 0 _ rfl
  have d1 := h6.cell 1 _ rfl
  have d2 := h6.cell 2 _ rfl
  have d3 := h6.cell 3 _ rfl
  have d4 := h6.cell 4 _ rfl
  have d5 := h6.cell 5 _ rfl
  go_wp2_with fail
  refine (RO _).mono ?_
  rintro e w4 ⟨rfl, hb4⟩
  replace g7 := g7.below hb4
  replace g8 := g8.below hb4
  replace hB := hB.trans (hb4.mono hB.size)
  clear c0 c1 d0 d1 d2 d3 d4 d5 hb4
  have c0 := g7.cell 0 _ rfl
  have c1 := g8.cell 0 _ rfl
  go_wp2_with fail
  go_ret
  exact ⟨rfl, hB⟩
end Go.Proofs.Ythffphcgkmjhbaa
