/-
  What the laws of layer 14 begin with; SizingFits.
-/
import Derived.Test.YthffphcgkmjhbaaSizB
namespace Go.Proofs.Ythffphcgkmjhbaa
open Go.RowKit
set_option linter.unusedSimpArgs false
set_option linter.unusedVariables false

set_option maxRecDepth 100000 in
set_option maxHeartbeats 1600000 in
theorem spk14 (b1 b2 : Nat) (x y : Value) (W : World) (h1 : Blk W b1 #[x] 2) (h2 : Blk W b2 #[y] 4) (hne : b1 ≠ b2) :
    Calls Try.prog 120 #[.pointer (some ⟨b1, 0, none⟩), .pointer (some ⟨b2, 0, none⟩)] W fun e W' =>
      ((0 : Int) = 0 → e = .returned (.tuple #[])) ∧ ((0 : Int) ≠ 0 → e = .panicked (gave 0)) ∧ BlkL W' [(b1, #[.int .i64 540], 2), (b2, #[.bool true], 4)] ∧ ButL [b1, b2] W W' := by
  have SO := fun W => (siz_of 3 640 0 false 1 1 2 100 (by unfold IFit; omega) (by unfold IFit; omega) (by unfold IFit; omega) (by unfold IFit; omega) (by unfold IFit; omega) W).mono fun e w' h => (⟨h.1 (by decide), h.2.2⟩ : _ ∧ _)
  rw [show (ofR 3 640 0 false 1 1 ((2 : Int) == 2) 100).1 = 540 by decide, show (ofR 3 640 0 false 1 1 ((2 : Int) == 2) 100).2.1 = true by decide] at SO
  have hP : ∀ (e : Ending) (W' : World), e = .returned (.tuple #[]) → BlkL W' [(b1, #[.int .i64 540], 2), (b2, #[.bool true], 4)] → ButL [b1, b2] W W' →
      ((0 : Int) = 0 → e = .returned (.tuple #[])) ∧ ((0 : Int) ≠ 0 → e = .panicked (gave 0)) ∧ BlkL W' [(b1, #[.int .i64 540], 2), (b2, #[.bool true], 4)] ∧ ButL [b1, b2] W W' := fun e W' a b c => ⟨fun _ => a, fun h => absurd rfl h, b, c⟩
  have HP := Lib.hid hP
  have HN := Lib.hid hne
  clear hP hne
  obtain ⟨Q, eQ⟩ : ∃ Q : Ending → World → Prop, Q = fun (e : Ending) (W' : World) => ((0 : Int) = 0 → e = .returned (.tuple #[])) ∧ ((0 : Int) ≠ 0 → e = .panicked (gave 0)) ∧ BlkL W' [(b1, #[.int .i64 540], 2), (b2, #[.bool true], 4)] ∧ ButL [b1, b2] W W' := ⟨_, rfl⟩
  rw [← eQ]
  have EQ := Lib.hid eQ
  clear eQ
  go_enter Try.func120, Try.ntmps120
  go_wp2_with fail
  refine (SO _).mono ?_
  rintro e w1 ⟨rfl, hb⟩
  replace h1 := h1.below hb
  replace h2 := h2.below hb
  have c1 := h1.cell 0 _ rfl
  have c2 := h2.cell 0 _ rfl
  have f1 := h1.free 0
  have f2 := h2.free 0
  have g2 := (h2.other (Ne.symm HN.out) 0 (.int .i64 540)).cell 0 _ rfl
  have g3 := (h2.other (Ne.symm HN.out) 0 (.int .i64 540)).free 0
  go_wp2_with fail
  go_end0
  rw [EQ.out]
  refine HP.out _ _ rfl ?_ (((ButL.of hb).trans (ButL.set _ _ _ (by simp))).trans (ButL.set _ _ _ (by simp)))
  intro e he
  simp at he
  rcases he with rfl | rfl
  · exact (h1.set 0 _).other HN.out _ _
  · exact (h2.other (Ne.symm HN.out) 0 _).set 0 _
set_option maxRecDepth 100000 in
set_option maxHeartbeats 1600000 in
theorem speaks14 (w : World) :
    Calls Try.prog 78 #[] w fun e w' => e = .returned (.bool true) ∧ Below w.heap.size w w' := by
  have hmf : ∀ (fn : Fn) (first cap : Array Value) (w : World), (Instr.makeFunc fn first cap).run Try.prog w = .ok (.func fn first cap) w := fun _ _ _ _ => rfl
  have h1 := (Blk.new w #[.int .i64 0] 2 _ rfl).alloc (.cells #[.bool false] 4)
  have h2 := Blk.new (w.alloc (.cells #[.int .i64 0] 2)) #[.bool false] 4 (w.heap.size + 1) (by simp)
  have TR := try_blks 120 #[.pointer (some ⟨w.heap.size, 0, none⟩), .pointer (some ⟨w.heap.size + 1, 0, none⟩)] 0 [(w.heap.size, #[.int .i64 540], 2), (w.heap.size + 1, #[.bool true], 4)]
    ((w.alloc (.cells #[.int .i64 0] 2)).alloc (.cells #[.bool false] 4)) (by intro e he; simp at he; rcases he with rfl | rfl <;> (first | (simp; done) | (simp; omega))) (fun w => enters_of Try.func120 (by kernel_rfl) rfl _ w)
    (fun W hb => spk14 w.heap.size (w.heap.size + 1) _ _ W (h1.below hb) (h2.below hb) (by omega))
  have hB : Below w.heap.size w ((w.alloc (.cells #[.int .i64 0] 2)).alloc (.cells #[.bool false] 4)) := (by repeat' (first | (with_reducible exact Below.refl _ _) | (with_reducible assumption) | (with_reducible refine below_alloc ?_ _ ?_) | (with_reducible refine below_set _ ?_ ?_) | (with_reducible refine Below.drew ?_) | (with_reducible refine below_dN ?_ _) | (apply below_thenA; assumption) | omega | (simp; done) | (simp; omega) | (simp [*]; done)))
  have FT := siz_fit 5 7 9 (by unfold IFit; omega) (by unfold IFit; omega) (by unfold IFit; omega)
  rw [show max (min (5 : Int) 9) 7 = 7 by decide] at FT
  have LM := lim_of 3 2 true 9
  rw [show limN 3 2 true 9 = 3 by decide] at LM
  go_enter Try.func78, Try.ntmps78
  go_wp2_with fail
  refine TR.mono ?_
  rintro e w1 ⟨rfl, hl, hbut⟩
  replace hB := hbut.to hB (by intro b hb; simp at hb; rcases hb with rfl | rfl <;> omega) hB.size
  have g1 : Blk w1 w.heap.size #[.int .i64 540] 2 := hl (w.heap.size, #[.int .i64 540], 2) (by simp)
  have g2 : Blk w1 (w.heap.size + 1) #[.bool true] 4 := hl (w.heap.size + 1, #[.bool true], 4) (by simp)
  have c1 := g1.cell 0 _ rfl
  have c2 := g2.cell 0 _ rfl
  clear hl hbut g1 g2 TR h1 h2
  go_wp2_with (first
    | (go_at_call 83; with_reducible refine (FT _).mono ?_; rintro e w6 ⟨rfl, rfl⟩)
    | (go_at_call 92; with_reducible refine (LM _).mono ?_; rintro e w6 ⟨rfl, hb6⟩; replace hB := hB.trans (hb6.mono hB.size)))
  go_ret
  exact ⟨rfl, hB⟩
set_option maxRecDepth 100000 in
set_option maxHeartbeats 3200000 in
theorem law_fits (a more l m : Int) (a1 : 0 ≤ a) (a2 : a ≤ 4294967295) (o1 : 0 ≤ more) (o2 : more ≤ 4294967295) (l1 : 0 ≤ l) (l2 : l ≤ 4294967295) (m1 : 0 ≤ m) (m2 : m ≤ 4294967295) (w : World) :
    Calls Try.prog 17 #[.agg #[.int .u32 a, .int .u32 more, .int .u32 l, .int .u32 m]] w fun e w' => e = .returned (.bool true) ∧ Below w.heap.size w w' := by
  have F1 := siz_fit a l m (by unfold IFit; omega) (by unfold IFit; omega) (by unfold IFit; omega)
  have F2 := siz_fit (a + more) l m (by unfold IFit; omega) (by unfold IFit; omega) (by unfold IFit; omega)
  obtain ⟨n, en⟩ : ∃ n, max (min a m) l = n := ⟨_, rfl⟩
  obtain ⟨g, eg⟩ : ∃ n, max (min (a + more) m) l = n := ⟨_, rfl⟩
  obtain ⟨x, ex⟩ : ∃ n, max l m = n := ⟨_, rfl⟩
  obtain ⟨y, ey⟩ : ∃ n, max l a = n := ⟨_, rfl⟩
  rw [en] at F1
  rw [eg] at F2
  have k1 : decide (l ≤ n) = true := by simp; omega
  have k2 : decide (n ≤ x) = true := by simp; omega
  have k3 : decide (n ≤ y) = true := by simp; omega
  have k4 : decide (n ≤ g) = true := by simp; omega
  have hn : n = l ∨ (n ≠ l ∧ n = m) ∨ (n ≠ l ∧ n ≠ m ∧ n = a) := by omega
  clear en eg
  have t := Blk.new w #[.int .u32 a, .int .u32 more, .int .u32 l, .int .u32 m] 114 _ rfl
  have hB : Below w.heap.size w (w.alloc (.cells #[.int .u32 a, .int .u32 more, .int .u32 l, .int .u32 m] 114)) := (by repeat' (first | (with_reducible exact Below.refl _ _) | (with_reducible assumption) | (with_reducible refine below_alloc ?_ _ ?_) | (with_reducible refine below_set _ ?_ ?_) | (with_reducible refine Below.drew ?_) | (with_reducible refine below_dN ?_ _) | (apply below_thenA; assumption) | omega | (simp; done) | (simp; omega) | (simp [*]; done)))
  go_enter Try.func17, Try.ntmps17
  go_wp2_with fail
  refine (speaks14 _).mono ?_
  rintro e w1 ⟨rfl, hb1⟩
  replace t := t.below hb1
  replace hB := hB.trans (hb1.mono hB.size)
  have p1 := t.cell 0 _ rfl
  have p2 := t.cell 1 _ rfl
  have p3 := t.cell 2 _ rfl
  have p4 := t.cell 3 _ rfl
  clear hb1
  go_wp2_with fail
  go_quiet (fail)
  replace hB := below_dN hB nq
  clear p1 p2 p3 p4
  rcases hn with h | ⟨h, h'⟩ | ⟨h, h', h''⟩
  · have q1 : (n == l) = true := by simp [h]
    clear h
    go_wp2_with (first
      | (go_at_call 83; with_reducible refine (F1 _).mono ?_; rintro e w6 ⟨rfl, rfl⟩)
      | (go_at_call 83; with_reducible refine (F2 _).mono ?_; rintro e w6 ⟨rfl, rfl⟩))
    go_ret
    exact ⟨rfl, hB⟩
  · have q1 : (n == l) = false := by simp [h]
    have q2 : (n == m) = true := by simp [h']
    clear h h'
    go_wp2_with (first
      | (go_at_call 83; with_reducible refine (F1 _).mono ?_; rintro e w6 ⟨rfl, rfl⟩)
      | (go_at_call 83; with_reducible refine (F2 _).mono ?_; rintro e w6 ⟨rfl, rfl⟩))
    go_ret
    exact ⟨rfl, hB⟩
  · have q1 : (n == l) = false := by simp [h]
    have q2 : (n == m) = false := by simp [h']
    have q3 : (n == a) = true := by simp [h'']
    clear h h' h''
    go_wp2_with (first
      | (go_at_call 83; with_reducible refine (F1 _).mono ?_; rintro e w6 ⟨rfl, rfl⟩)
      | (go_at_call 83; with_reducible refine (F2 _).mono ?_; rintro e w6 ⟨rfl, rfl⟩))
    go_ret
    exact ⟨rfl, hB⟩
end Go.Proofs.Ythffphcgkmjhbaa
