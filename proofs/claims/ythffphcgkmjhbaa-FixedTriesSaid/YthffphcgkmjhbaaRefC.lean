/-
  The reference of layer 2, each function by its contract. Second part: size, Ints; boxes by a list.
-/
import Derived.Test.YthffphcgkmjhbaaRefB
namespace Go.Proofs.Ythffphcgkmjhbaa
open Go.RowKit
set_option linter.unusedSimpArgs false
set_option linter.unusedVariables false

theorem IsBig.abs {w : World} {neg : Bool} {ao : Option Addr} {k cap : Nat} {n : Int} (h : IsBig w neg ao k cap n) : IsBig w false ao k cap ((n.natAbs : Nat) : Int) := by
  obtain ⟨ds, h1, h2, h3, rfl⟩ := h
  exact ⟨ds, h1, h2, (fun e => by cases e), by cases neg <;> simp [sgn]⟩
set_option maxRecDepth 100000 in
set_option maxHeartbeats 1600000 in
theorem ref_size (neg : Bool) (ao : Option Addr) (k cap : Nat) (w : World) :
    Calls Try.prog 113 #[.agg #[.bool neg, .slice ao k cap]] w fun e w' => e = .returned (.agg #[.bool false, .slice ao k cap]) ∧ Below w.heap.size w w' := by
  have t0 : Two (w.alloc (.cells #[.bool neg, .slice ao k cap] 29)) w.heap.size (.bool neg) (.slice ao k cap) := Two.new w _ _ _ rfl
  obtain ⟨q1, q2, q3, q4⟩ := t0.cells
  go_enter Try.func113, Try.ntmps113
  go_wp2_with fail
  (go_light; simp [bodyPost, results, Try.results113, go_sem, *])
  exact (by repeat' (first | (with_reducible exact Below.refl _ _) | (with_reducible assumption) | (with_reducible refine below_alloc ?_ _ ?_) | (with_reducible refine below_set _ ?_ ?_) | (with_reducible refine Below.drew ?_) | (with_reducible refine below_dN ?_ _) | (apply below_thenA; assumption) | omega | (simp; done) | (simp; omega) | (simp [*]; done)))
set_option maxRecDepth 100000 in
set_option maxHeartbeats 1600000 in
theorem ref_ints (na nb : Bool) (xa xb : Option Addr) (ka kb ca cb : Nat) (X Y : Int) (w : World) (ha : IsBig w na xa ka ca X) (hb : IsBig w nb xb kb cb Y) (h1 : ka ≤ 100000) (h2 : kb ≤ 100000) :
    Calls Try.prog 47 #[.agg #[.bool na, .slice xa ka ca], .agg #[.bool nb, .slice xb kb cb]] w fun e w' =>
      e = .returned (.tuple #[.int .i64 (intV X), .int .i64 (intV Y), .bool (intB X && intB Y)]) ∧ Below w.heap.size w w' := by
  have IX := fun W (hW : IsBig W na xa ka ca X) => big_int na xa ka ca X W hW h1
  have IY := fun W (hW : IsBig W nb xb kb cb Y) => big_int nb xb kb cb Y W hW h2
  obtain ⟨V, eV⟩ : ∃ V, intV X = V := ⟨_, rfl⟩
  obtain ⟨U, eU⟩ : ∃ U, intV Y = U := ⟨_, rfl⟩
  obtain ⟨B, eB⟩ : ∃ B, intB X = B := ⟨_, rfl⟩
  obtain ⟨C, eC⟩ : ∃ C, intB Y = C := ⟨_, rfl⟩
  rw [eV, eB] at IX
  rw [eU, eC] at IY
  rw [eV, eU, eB, eC]
  clear eV eU eB eC
  have t0 := (Two.new w (.bool na) (.slice xa ka ca) _ rfl).alloc (.cells #[.bool nb, .slice xb kb cb] 29)
  have t1 := Two.new (w.alloc (.cells #[.bool na, .slice xa ka ca] 29)) (.bool nb) (.slice xb kb cb) (w.heap.size + 1) (by simp)
  have hA : IsBig ((w.alloc (.cells #[.bool na, .slice xa ka ca] 29)).alloc (.cells #[.bool nb, .slice xb kb cb] 29)) na xa ka ca X := ha.keep (by repeat' (first | (with_reducible exact Below.refl _ _) | (with_reducible assumption) | (with_reducible refine below_alloc ?_ _ ?_) | (with_reducible refine below_set _ ?_ ?_) | (with_reducible refine Below.drew ?_) | (with_reducible refine below_dN ?_ _) | (apply below_thenA; assumption) | omega | (simp; done) | (simp; omega) | (simp [*]; done)))
  have hB : IsBig ((w.alloc (.cells #[.bool na, .slice xa ka ca] 29)).alloc (.cells #[.bool nb, .slice xb kb cb] 29)) nb xb kb cb Y := hb.keep (by repeat' (first | (with_reducible exact Below.refl _ _) | (with_reducible assumption) | (with_reducible refine below_alloc ?_ _ ?_) | (with_reducible refine below_set _ ?_ ?_) | (with_reducible refine Below.drew ?_) | (with_reducible refine below_dN ?_ _) | (apply below_thenA; assumption) | omega | (simp; done) | (simp; omega) | (simp [*]; done)))
  have hW : Below w.heap.size w ((w.alloc (.cells #[.bool na, .slice xa ka ca] 29)).alloc (.cells #[.bool nb, .slice xb kb cb] 29)) := (by repeat' (first | (with_reducible exact Below.refl _ _) | (with_reducible assumption) | (with_reducible refine below_alloc ?_ _ ?_) | (with_reducible refine below_set _ ?_ ?_) | (with_reducible refine Below.drew ?_) | (with_reducible refine below_dN ?_ _) | (apply below_thenA; assumption) | omega | (simp; done) | (simp; omega) | (simp [*]; done)))
  obtain ⟨q1, q2, q3, q4⟩ := t0.cells
  go_enter Try.func47, Try.ntmps47
  go_wp2_with fail
  refine (IX _ hA).mono ?_
  rintro e w1 ⟨rfl, hb1⟩
  replace t1 := t1.below hb1
  replace hB := hB.keep hb1
  replace hW := hW.trans (hb1.mono hW.size)
  clear q1 q2 q3 q4
  obtain ⟨q1, q2, q3, q4⟩ := t1.cells
  go_wp2_with fail
  refine (IY _ hB).mono ?_
  rintro e w2 ⟨rfl, hb2⟩
  replace hW := hW.trans (hb2.mono hW.size)
  cases B
  · go_wp2_with fail
    (go_light; simp [bodyPost, results, Try.results47, go_sem, *])
  · go_wp2_with fail
    (go_light; simp [bodyPost, results, Try.results47, go_sem, *])
/-- Boxes of two cells, by a list. -/
def LX (w : World) (l : List (Nat × Value × Value)) (wX : World) : Prop := (∀ e, e ∈ l → Two wX e.1 e.2.1 e.2.2) ∧ Below w.heap.size w wX
section
variable {w wX w' : World} {l : List (Nat × Value × Value)}
theorem LX.get (h : LX w l wX) {b : Nat} {x y : Value} (hm : (b, x, y) ∈ l) : Two wX b x y := h.1 _ hm
theorem LX.bl (h : LX w l wX) : Below w.heap.size w wX := h.2
theorem LX.alloc (h : LX w l wX) (o : Obj) : LX w l (wX.alloc o) := ⟨fun e he => (h.1 e he).alloc o, h.bl.alloc h.bl.size o⟩
theorem LX.drew (h : LX w l wX) : LX w l wX.drew := ⟨fun e he => h.1 e he, h.bl.drew⟩
theorem LX.below (hb : Below wX.heap.size wX w') (h : LX w l wX) : LX w l w' := ⟨fun e he => (h.1 e he).below hb, h.bl.trans (hb.mono h.bl.size)⟩
theorem LX.set (h : LX w l wX) (c o : Nat) (v : Value) (hc : ∀ e, e ∈ l → e.1 ≠ c) (hb : w.heap.size ≤ c) : LX w l (wX.setCell ⟨c, o, none⟩ v) :=
  ⟨fun e he => (Below.heap_setCell _ _ _ _ (hc e he)).trans (h.1 e he), h.bl.setCell (p := ⟨c, o, none⟩) hb v⟩
theorem LX.fresh (h : LX w l wX) : ∀ e, e ∈ l → e.1 ≠ wX.heap.size := fun e he => Nat.ne_of_lt (h.1 e he).lt
theorem LX.fresh' (h : LX w l wX) : ∀ e, e ∈ l → e.1 ≠ wX.heap.size + 1 := fun e he => Nat.ne_of_lt (Nat.lt_succ_of_lt (h.1 e he).lt)
theorem LX.add (h : LX w l wX) {b : Nat} {x y : Value} (t : Two wX b x y) : LX w ((b, x, y) :: l) wX :=
  ⟨fun e he => (List.mem_cons.1 he).elim (fun x => by subst x; exact t) (fun x => h.1 e x), h.bl⟩
theorem LX.nil (hb : Below w.heap.size w wX) : LX w [] wX := ⟨fun e he => absurd he (List.not_mem_nil), hb⟩
end
end Go.Proofs.Ythffphcgkmjhbaa
