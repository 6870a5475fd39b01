/-
  The statements of layer 4 that name no reference. First part: what each begins with; FixedOrder.
-/
import Derived.Test.YthffphcgkmjhbaaFixB
import Derived.Shelf.Abstract
namespace Go.Proofs.Ythffphcgkmjhbaa
open Go.RowKit
set_option linter.unusedSimpArgs false
set_option linter.unusedVariables false

/-- A block of one cell. -/
def One (w : World) (b : Nat) (T : TypeId) (x : Value) : Prop := w.heap[b]? = some (Obj.cells #[x] T (0, 0))
theorem One.cell {w : World} {b : Nat} {T : TypeId} {x : Value} (h : One w b T x) : w.cell? ⟨b, 0, none⟩ = some x := by rw [cell_of_row w b 0 _ _ _ h]; rfl
theorem One.free {w : World} {b : Nat} {T : TypeId} {x : Value} (h : One w b T x) : w.frozen? ⟨b, 0, none⟩ = false := by simp [World.frozen?, show w.heap[b]? = _ from h]
theorem One.lt {w : World} {b : Nat} {T : TypeId} {x : Value} (h : One w b T x) : b < w.heap.size := (Array.getElem?_eq_some_iff.1 h).1
theorem One.new (w : World) (T : TypeId) (x : Value) (b : Nat) (hb : b = w.heap.size) : One (w.alloc (.cells #[x] T)) b T x := by subst hb; exact heap_alloc_new w _
theorem One.alloc {w : World} {b : Nat} {T : TypeId} {x : Value} (h : One w b T x) (o : Obj) : One (w.alloc o) b T x := (Below.heap_alloc w o _ h.lt).trans h
theorem One.below {w w' : World} {b : Nat} {T : TypeId} {x : Value} (h : One w b T x) (hb : Below w.heap.size w w') : One w' b T x := (hb.block b h.lt).trans h
theorem One.set {w : World} {b : Nat} {T : TypeId} {x : Value} (h : One w b T x) (u : Value) : One (w.setCell ⟨b, 0, none⟩ u) b T u := by
  unfold One at *
  simp only [World.setCell, Array.getElem?_modify, if_true, h]
  rfl
theorem One.other {w : World} {b c : Nat} {T : TypeId} {x : Value} (h : One w b T x) (hc : b ≠ c) (u : Value) : One (w.setCell ⟨c, 0, none⟩ u) b T x := by
  unfold One at *
  rw [Below.heap_setCell _ _ _ _ hc]; exact h
theorem intsAt_new (w : World) (xs : List Int) (k : Nat) (hk : xs.length = k) (hf : ∀ i, i < k → IFit (xs.getD i 0)) : IntsAt (w.alloc (.cells (xs.map fun x => Value.int .i64 x).toArray 2)) w.heap.size 0 k xs := by
  refine ⟨hk, hf, fun i hi => ?_⟩
  rw [cell_of_row _ w.heap.size (0 + i) _ _ _ (heap_alloc_new w _)]
  simp [List.getD, List.getElem?_eq_getElem (show i < xs.length by omega)]

set_option maxRecDepth 100000 in
set_option maxHeartbeats 1600000 in
/-- The first closure of speaks: 3 and 4 and a pixel. -/
theorem spk1 (b : Nat) (x : Value) (w : World) (hb : One w b 2 x) :
    Calls Try.prog 114 #[.pointer (some ⟨b, 0, none⟩)] w fun e w' => e = .returned (.tuple #[]) ∧ ∃ w3, Below w.heap.size w w3 ∧ w' = w3.setCell ⟨b, 0, none⟩ (.int .i64 71) := by
  have PX := fix_px 1 (by unfold IFit; omega) (by unfold LenB; omega)
  rw [show (1 : Int) * 64 = 64 by decide] at PX
  go_enter Try.func114, Try.ntmps114
  go_wp2_with fail
  refine (PX _).mono ?_
  rintro e w1 ⟨rfl, hb1⟩
  replace hb := hb.below hb1
  have AD := fix_add w1.heap.size 0 3 3 [3, 4, 64] (some 71) (by omega) (by decide) (w1.alloc (.cells #[.int .i64 3, .int .i64 4, .int .i64 64] 2)) (intsAt_new w1 [3, 4, 64] 3 rfl (by intro i hi; unfold IFit; match i, hi with | 0, _ => decide | 1, _ => decide | 2, _ => decide))
  go_wp2_with fail
  refine AD.mono ?_
  rintro e w2 ⟨rfl, rfl⟩
  have h2 := hb.alloc (.cells #[.int .i64 3, .int .i64 4, .int .i64 64] 2)
  have c1 := h2.cell
  have c2 := h2.free
  go_wp2_with fail
  go_end0
  exact ⟨rfl, _, hb1.alloc hb1.size _, rfl⟩
set_option maxRecDepth 100000 in
set_option maxHeartbeats 1600000 in
/-- The second closure of speaks: one unit more than there may be. -/
theorem spk2 (w : World) :
    Calls Try.prog 115 #[] w fun e w' => e = .panicked (gave 2) ∧ Below w.heap.size w w' := by
  have AD := fix_add w.heap.size 0 2 2 [17592186044416, 1] none (by omega) (by decide) (w.alloc (.cells #[.int .i64 17592186044416, .int .i64 1] 2)) (intsAt_new w [17592186044416, 1] 2 rfl (by intro i hi; unfold IFit; match i, hi with | 0, _ => decide | 1, _ => decide))
  go_enter Try.func115, Try.ntmps115
  go_wp2_with fail
  refine AD.mono ?_
  rintro e w2 ⟨rfl, rfl⟩
  go_wp2_with fail
  simp [bodyPost]
  exact (by repeat' (first | (with_reducible exact Below.refl _ _) | (with_reducible assumption) | (with_reducible refine below_alloc ?_ _ ?_) | (with_reducible refine below_set _ ?_ ?_) | (with_reducible refine Below.drew ?_) | (with_reducible refine below_dN ?_ _) | (apply below_thenA; assumption) | omega | (simp; done) | (simp; omega) | (simp [*]; done)))
theorem if0 : IFit 0 := by unfold IFit; omega
set_option maxRecDepth 100000 in
set_option maxHeartbeats 1600000 in
theorem speaks04 (w : World) :
    Calls Try.prog 53 #[] w fun e w' => e = .returned (.bool true) ∧ Below w.heap.size w w' := by
  have hmf : ∀ (fn : Fn) (first cap : Array Value) (w : World), (Instr.makeFunc fn first cap).run Try.prog w = .ok (.func fn first cap) w := fun _ _ _ _ => rfl
  have o1 : One (w.alloc (.cells #[.int .i64 0] 2)) w.heap.size 2 (.int .i64 0) := One.new w _ _ _ rfl
  have T1 := fix_try 114 #[.pointer (some ⟨w.heap.size, 0, none⟩)] (w.alloc (.cells #[.int .i64 0] 2))
    (fun c w' => c = 0 ∧ ∃ w3, Below ((w.alloc (.cells #[.int .i64 0] 2)).alloc (.cells #[.int .i64 0] 58)).heap.size ((w.alloc (.cells #[.int .i64 0] 2)).alloc (.cells #[.int .i64 0] 58)) w3 ∧ w' = w3.setCell ⟨w.heap.size, 0, none⟩ (.int .i64 71))
    (fun w => enters_of Try.func114 (by kernel_rfl) rfl _ w)
    ((spk1 w.heap.size _ _ (o1.alloc (.cells #[.int .i64 0] 58))).mono fun e w' x => by
      obtain ⟨rfl, w3, hb, rfl⟩ := x
      have o2 : One ((w.alloc (.cells #[.int .i64 0] 2)).alloc (.cells #[.int .i64 0] 58)) (w.alloc (.cells #[.int .i64 0] 2)).heap.size 58 (.int .i64 0) := One.new _ _ _ _ rfl
      have o3 := (o2.below hb).other (c := w.heap.size) (by simp) (.int .i64 71)
      exact ⟨o3.cell, o3.free, .inl ⟨rfl, rfl, w3, hb, rfl⟩⟩)
  have R1 := fix_round 32 (by unfold IFit; omega)
  have R2 := fix_round (-33) (by unfold IFit; omega)
  have F1 := fix_floor (-1) (by unfold IFit; omega)
  have C1 := fix_ceil 1 (by unfold IFit; omega)
  rw [show ((32 : Int) + 32) / 64 = 1 by decide] at R1
  rw [show ((-33 : Int) + 32) / 64 = -1 by decide] at R2
  rw [show (-1 : Int) / 64 = -1 by decide] at F1
  rw [show -((-1 : Int) / 64) = 1 by decide] at C1
  go_enter Try.func53, Try.ntmps53
  go_wp2_with fail
  refine T1.mono ?_
  rintro e w2 ⟨c, w1, ⟨rfl, w3, hb3, rfl⟩, rfl, rfl⟩
  have hB3 : Below w.heap.size w w3 := below_thenA hb3 (by repeat' (first | (with_reducible exact Below.refl _ _) | (with_reducible assumption) | (with_reducible refine below_alloc ?_ _ ?_) | (with_reducible refine below_set _ ?_ ?_) | (with_reducible refine Below.drew ?_) | (with_reducible refine below_dN ?_ _) | (apply below_thenA; assumption) | omega | (simp; done) | (simp; omega) | (simp [*]; done))) (by simp; omega)
  have o2 : One ((w3.setCell ⟨w.heap.size, 0, none⟩ (.int .i64 71)).setCell ⟨(w.alloc (.cells #[.int .i64 0] 2)).heap.size, 0, none⟩ (.int .i64 0)) w.heap.size 2 (.int .i64 71) := (((o1.alloc (.cells #[.int .i64 0] 58)).below hb3).set (.int .i64 71)).other (by simp) _
  have hB2 : Below w.heap.size w ((w3.setCell ⟨w.heap.size, 0, none⟩ (.int .i64 71)).setCell ⟨(w.alloc (.cells #[.int .i64 0] 2)).heap.size, 0, none⟩ (.int .i64 0)) :=
    (hB3.setCell (p := ⟨w.heap.size, 0, none⟩) (Nat.le_refl _) _).setCell (p := ⟨(w.alloc (.cells #[.int .i64 0] 2)).heap.size, 0, none⟩) (by simp) _
  obtain ⟨W2, eW⟩ : ∃ W2, W2 = (w3.setCell ⟨w.heap.size, 0, none⟩ (.int .i64 71)).setCell ⟨(w.alloc (.cells #[.int .i64 0] 2)).heap.size, 0, none⟩ (.int .i64 0) := ⟨_, rfl⟩
  rw [← eW] at o2 hB2 ⊢
  clear eW hb3 hB3 T1 o1
  have T2 := fix_try 115 #[] W2 (fun c w' => c = 2 ∧ Below (W2.alloc (.cells #[.int .i64 0] 58)).heap.size (W2.alloc (.cells #[.int .i64 0] 58)) w')
    (fun w => enters_of Try.func115 (by kernel_rfl) rfl _ w)
    ((spk2 _).mono fun e w' x => by
      obtain ⟨rfl, hb⟩ := x
      have o3 : One (W2.alloc (.cells #[.int .i64 0] 58)) W2.heap.size 58 (.int .i64 0) := One.new _ _ _ _ rfl
      have o4 := o3.below hb
      exact ⟨o4.cell, o4.free, .inr ⟨2, rfl, rfl, hb⟩⟩)
  go_wp2_with fail
  refine T2.mono ?_
  rintro e w4 ⟨c, w5, ⟨rfl, hb5⟩, rfl, rfl⟩
  have o3 : One (w5.setCell ⟨W2.heap.size, 0, none⟩ (.int .i64 2)) w.heap.size 2 (.int .i64 71) := ((o2.alloc (.cells #[.int .i64 0] 58)).below hb5).other (Nat.ne_of_lt o2.lt) _
  have hB5 : Below w.heap.size w (w5.setCell ⟨W2.heap.size, 0, none⟩ (.int .i64 2)) := by
    have h1 : Below w.heap.size w (W2.alloc (.cells #[.int .i64 0] 58)) := hB2.alloc hB2.size _
    exact (h1.trans (hb5.mono h1.size)).setCell (p := ⟨W2.heap.size, 0, none⟩) hB2.size _
  obtain ⟨W4, eW⟩ : ∃ W4, W4 = w5.setCell ⟨W2.heap.size, 0, none⟩ (.int .i64 2) := ⟨_, rfl⟩
  rw [← eW] at o3 hB5 ⊢
  clear eW hb5 T2 o2 hB2
  have c1 := o3.cell
  have c2 := o3.free
  go_wp2_with (first
    | (go_at_call 57; with_reducible refine (R1 _).mono ?_; rintro e w6 ⟨rfl, rfl⟩)
    | (go_at_call 57; with_reducible refine (R2 _).mono ?_; rintro e w6 ⟨rfl, rfl⟩)
    | (go_at_call 54; with_reducible refine (F1 _).mono ?_; rintro e w6 ⟨rfl, rfl⟩)
    | (go_at_call 56; with_reducible refine (C1 _).mono ?_; rintro e w6 ⟨rfl, rfl⟩))
  go_ret
  exact ⟨rfl, hB5⟩
end Go.Proofs.Ythffphcgkmjhbaa
