/-
  The statements of layer 1 that name the reference. Third part: WideSums.
-/
import Derived.Test.YthffphcgkmjhbaaLawD
namespace Go.Proofs.Ythffphcgkmjhbaa
open Go.RowKit
set_option linter.unusedSimpArgs false
set_option linter.unusedVariables false

theorem cmp3_cmpI (a b : Int) : cmp3 a b = cmpI a b := rfl
/-- What Add and Neg answer, by the number. -/
def SumAns (n : Int) (h l : Int) (ok : Bool) : Prop := (WFit n ∧ Wd h l n ∧ ok = true) ∨ (¬ WFit n ∧ h = 0 ∧ l = 0 ∧ ok = false)
theorem wide_add_ans (a b h1 l1 h2 l2 : Int) (ha : Wd h1 l1 a) (hb : Wd h2 l2 b) (w : World) :
    Calls Try.prog 38 #[.agg #[.int .i64 h1, .int .u64 l1], .agg #[.int .i64 h2, .int .u64 l2]] w fun e w' => ∃ h l ok, e = .returned (.tuple #[.agg #[.int .i64 h, .int .u64 l], .bool ok]) ∧ SumAns (a + b) h l ok ∧ Below w.heap.size w w' := by
  by_cases hf : WFit (a + b)
  · exact (wide_add_fit a b h1 l1 h2 l2 ha hb hf w).mono fun _ _ x => ⟨_, _, _, x.1, .inl ⟨hf, Wd.of hf, rfl⟩, x.2⟩
  · exact (wide_add_no a b h1 l1 h2 l2 ha hb hf w).mono fun _ _ x => ⟨_, _, _, x.1, .inr ⟨hf, rfl, rfl, rfl⟩, x.2⟩
theorem wide_neg_ans (a h1 l1 : Int) (ha : Wd h1 l1 a) (w : World) :
    Calls Try.prog 37 #[.agg #[.int .i64 h1, .int .u64 l1]] w fun e w' => ∃ h l ok, e = .returned (.tuple #[.agg #[.int .i64 h, .int .u64 l], .bool ok]) ∧ SumAns (-a) h l ok ∧ Below w.heap.size w w' := by
  by_cases hf : WFit (-a)
  · exact (wide_neg_fit a h1 l1 ha hf w).mono fun _ _ x => ⟨_, _, _, x.1, .inl ⟨hf, Wd.of hf, rfl⟩, x.2⟩
  · exact (wide_neg_no a h1 l1 ha hf w).mono fun _ _ x => ⟨_, _, _, x.1, .inr ⟨hf, rfl, rfl, rfl⟩, x.2⟩
theorem SumAns.fits {n h l : Int} {ok : Bool} (hs : SumAns n h l ok) : fitsB n = ok := by
  rcases hs with ⟨a, _, rfl⟩ | ⟨a, _, _, rfl⟩
  · exact (fitsB_iff n).2 a
  · rw [Bool.eq_false_iff]; exact fun x => a ((fitsB_iff n).1 x)
theorem SumAns.yes {n h l : Int} (hs : SumAns n h l true) : Wd h l n := by
  rcases hs with ⟨_, a, _⟩ | ⟨_, _, _, a⟩
  · exact a
  · cases a
theorem SumAns.no {n h l : Int} (hs : SumAns n h l false) : h = 0 ∧ l = 0 := by
  rcases hs with ⟨_, _, a⟩ | ⟨_, a, b, _⟩
  · cases a
  · exact ⟨a, b⟩
/-- The numbers' boxes stand. -/
def RS (w : World) (b5 b6 : Nat) (h1 l1 h2 l2 : Int) (wX : World) : Prop := Bx wX b5 25 (.int .i64 h1) (.int .u64 l1) ∧ Bx wX b6 25 (.int .i64 h2) (.int .u64 l2) ∧ Below w.heap.size w wX
section
variable {w wX w' : World} {b5 b6 : Nat} {h1 l1 h2 l2 : Int}
theorem RS.x (h : RS w b5 b6 h1 l1 h2 l2 wX) : Bx wX b5 25 (.int .i64 h1) (.int .u64 l1) := h.1
theorem RS.y (h : RS w b5 b6 h1 l1 h2 l2 wX) : Bx wX b6 25 (.int .i64 h2) (.int .u64 l2) := h.2.1
theorem RS.b (h : RS w b5 b6 h1 l1 h2 l2 wX) : Below w.heap.size w wX := h.2.2
theorem RS.alloc (h : RS w b5 b6 h1 l1 h2 l2 wX) (o : Obj) : RS w b5 b6 h1 l1 h2 l2 (wX.alloc o) := ⟨h.x.alloc o, h.y.alloc o, h.b.alloc h.b.size o⟩
theorem RS.drew (h : RS w b5 b6 h1 l1 h2 l2 wX) : RS w b5 b6 h1 l1 h2 l2 wX.drew := ⟨h.x, h.y, h.b.drew⟩
theorem RS.below (hb : Below wX.heap.size wX w') (h : RS w b5 b6 h1 l1 h2 l2 wX) : RS w b5 b6 h1 l1 h2 l2 w' := ⟨h.x.below hb, h.y.below hb, h.b.trans (hb.mono h.b.size)⟩
theorem RS.set (h : RS w b5 b6 h1 l1 h2 l2 wX) (b o : Nat) (v : Value) (h5 : b5 ≠ b) (h6 : b6 ≠ b) (hb : w.heap.size ≤ b) : RS w b5 b6 h1 l1 h2 l2 (wX.setCell ⟨b, o, none⟩ v) :=
  ⟨(Below.heap_setCell _ _ _ _ h5).trans h.x, (Below.heap_setCell _ _ _ _ h6).trans h.y, h.b.setCell (p := ⟨b, o, none⟩) hb v⟩
theorem RS.n1 (h : RS w b5 b6 h1 l1 h2 l2 wX) : Two (wX.alloc (.cells #[.bool false, .slice none 0 0] 29)) wX.heap.size (.bool false) (.slice none 0 0) := Two.new _ _ _ _ rfl
theorem RS.n21 (h : RS w b5 b6 h1 l1 h2 l2 wX) : Two ((wX.alloc (.cells #[.bool false, .slice none 0 0] 29)).alloc (.cells #[.bool false, .slice none 0 0] 29)) wX.heap.size (.bool false) (.slice none 0 0) := (Two.new _ _ _ _ rfl).alloc _
theorem RS.n22 (h : RS w b5 b6 h1 l1 h2 l2 wX) : Two ((wX.alloc (.cells #[.bool false, .slice none 0 0] 29)).alloc (.cells #[.bool false, .slice none 0 0] 29)) (wX.heap.size + 1) (.bool false) (.slice none 0 0) := Two.new _ _ _ _ (by simp)
theorem RS.cells4 (h : RS w b5 b6 h1 l1 h2 l2 wX) : wX.cell? ⟨b5, 0, none⟩ = some (.int .i64 h1) ∧ wX.cell? ⟨b5, 1, none⟩ = some (.int .u64 l1) ∧ wX.cell? ⟨b6, 0, none⟩ = some (.int .i64 h2) ∧ wX.cell? ⟨b6, 1, none⟩ = some (.int .u64 l2) := ⟨h.x.cells.1, h.x.cells.2.1, h.y.cells.1, h.y.cells.2.1⟩
theorem RS.cells (h : RS w b5 b6 h1 l1 h2 l2 wX) : (wX.cell? ⟨b5, 0, none⟩ = some (.int .i64 h1) ∧ wX.cell? ⟨b5, 1, none⟩ = some (.int .u64 l1)) ∧ wX.cell? ⟨b6, 0, none⟩ = some (.int .i64 h2) ∧ wX.cell? ⟨b6, 1, none⟩ = some (.int .u64 l2) := ⟨⟨h.x.cells.1, h.x.cells.2.1⟩, h.y.cells.1, h.y.cells.2.1⟩
theorem RS.l5 (h : RS w b5 b6 h1 l1 h2 l2 wX) : b5 < wX.heap.size := h.x.lt
theorem RS.nes (h : RS w b5 b6 h1 l1 h2 l2 wX) : ¬ b5 = wX.heap.size ∧ ¬ b5 = wX.heap.size + 1 ∧ ¬ b6 = wX.heap.size ∧ ¬ b6 = wX.heap.size + 1 ∧ w.heap.size ≤ wX.heap.size ∧ w.heap.size ≤ wX.heap.size + 1 := by
  have a := h.x.lt
  have b := h.y.lt
  have c := h.b.size
  omega
theorem RS.l6 (h : RS w b5 b6 h1 l1 h2 l2 wX) : b6 < wX.heap.size := h.y.lt
end
theorem Two.drew {w : World} {b : Nat} {x y : Value} (h : Two w b x y) : Two w.drew b x y := h
theorem Two.putE {w : World} {b : Nat} (h : ∃ x y, Two w b x y) (u v : Value) : Two ((w.setCell ⟨b, 0, none⟩ u).setCell ⟨b, 1, none⟩ v) b u v := by
  obtain ⟨x, y, h⟩ := h; exact h.put u v
theorem Two.putE_other {w : World} {b c : Nat} (h : ∃ x y, Two w b x y) (hc : b ≠ c) (u v : Value) : ∃ x y, Two ((w.setCell ⟨c, 0, none⟩ u).setCell ⟨c, 1, none⟩ v) b x y := by
  obtain ⟨x, y, h⟩ := h; exact ⟨x, y, h.put_other hc u v⟩
theorem Two.newS (w : World) (b : Nat) (u v x y : Value) : Two (((w.setCell ⟨b, 0, none⟩ u).setCell ⟨b, 1, none⟩ v).alloc (.cells #[x, y] 29)) w.heap.size x y := Two.new _ _ _ _ (by simp [World.setCell])
theorem Two.new1 (w : World) (x y : Value) (o : Obj) : Two ((w.alloc o).alloc (.cells #[x, y] 29)) (w.heap.size + 1) x y := Two.new _ _ _ _ (by simp)
theorem Two.belowX {w w' : World} {b : Nat} {x y : Value} (hb : Below w.heap.size w w') (h : Two w b x y) : Two w' b x y := h.below hb
theorem IsBig.allocd {w : World} {neg : Bool} {ao : Option Addr} {k cap : Nat} {n : Int} (h : IsBig w neg ao k cap n) (o : Obj) : IsBig (w.alloc o) neg ao k cap n := h.keeps (Keeps.alloc (Keeps.refl w) o)
theorem IsBig.drewd {w : World} {neg : Bool} {ao : Option Addr} {k cap : Nat} {n : Int} (h : IsBig w neg ao k cap n) : IsBig w.drew neg ao k cap n := h.keeps (Keeps.drew (Keeps.refl w))
theorem IsBig.belowX {w w' : World} (hb : Below w.heap.size w w') {neg : Bool} {ao : Option Addr} {k cap : Nat} {n : Int} (h : IsBig w neg ao k cap n) : IsBig w' neg ao k cap n := h.keep hb
/-- Where the boxes of WideSums' numbers lie. -/
def CutS1 (w : World) (h1 l1 h2 l2 : Int) (s5 s6 : Value) (wc : World) : Prop :=
  ∃ b5 b6, s5 = .pointer (some ⟨b5, 0, none⟩) ∧ s6 = .pointer (some ⟨b6, 0, none⟩) ∧ Bx wc b5 25 (.int .i64 h1) (.int .u64 l1) ∧ Bx wc b6 25 (.int .i64 h2) (.int .u64 l2) ∧ Below w.heap.size w wc
def CutS2 (w : World) (b5 b6 : Nat) (h1 l1 h2 l2 a b : Int) (s7 s8 : Value) (wc : World) : Prop :=
  ∃ b7 b8 n7 x7 k7 c7 n8 x8 k8 c8, s7 = .pointer (some ⟨b7, 0, none⟩) ∧ s8 = .pointer (some ⟨b8, 0, none⟩) ∧ Bx wc b5 25 (.int .i64 h1) (.int .u64 l1) ∧ Bx wc b6 25 (.int .i64 h2) (.int .u64 l2) ∧
    Two wc b7 (.bool n7) (.slice x7 k7 c7) ∧ Two wc b8 (.bool n8) (.slice x8 k8 c8) ∧ IsBig wc n7 x7 k7 c7 a ∧ IsBig wc n8 x8 k8 c8 b ∧ Below w.heap.size w wc

set_option maxRecDepth 100000 in
set_option maxHeartbeats 3200000 in
theorem law_sums (a b h1 l1 h2 l2 : Int) (ha : Wd h1 l1 a) (hb : Wd h2 l2 b) (w : World) :
    Calls Try.prog 6 #[.agg #[.int .i64 h1, .int .u64 l1], .agg #[.int .i64 h2, .int .u64 l2]] w fun e w' => e = .returned (.bool true) ∧ Below w.heap.size w w' := by
  go_enter Try.func6, Try.ntmps6
  go_wp2_with fail
  refine (speaks01 _).mono ?_
  rintro e w1 ⟨rfl, hb1⟩
  have u0 := ((Bx.new w 38 (.int .i64 h1) (.int .u64 l1) _ rfl).alloc (.cells #[.int .i64 h2, .int .u64 l2] 38)).below hb1
  have u1 := (Bx.new (w.alloc (.cells #[.int .i64 h1, .int .u64 l1] 38)) 38 (.int .i64 h2) (.int .u64 l2) (w.heap.size + 1) (by simp)).below hb1
  have hB1 : Below w.heap.size w w1 := (by repeat' (first | (with_reducible exact Below.refl _ _) | (with_reducible assumption) | (with_reducible refine below_alloc ?_ _ ?_) | (with_reducible refine below_set _ ?_ ?_) | (with_reducible refine Below.drew ?_) | (with_reducible refine below_dN ?_ _) | (apply below_thenA; assumption) | omega | (simp; done) | (simp; omega) | (simp [*]; done)))
  obtain ⟨p1, p2, p3, p4⟩ := u0.cells
  obtain ⟨p5, p6, p7, p8⟩ := u1.cells
  have l0 := u0.lt
  have l1' := u1.lt
  go_upto_region 3 with (fail)
  go_cut [5, 6] from 17 (fun s5 s6 wc => CutS1 w h1 l1 h2 l2 s5 s6 wc)
  case first =>
    go_region
    all_goals
      go_wp2_with fail
      go_meet
      case rel =>
        refine ⟨_, _, rfl, rfl, ?_, ?_, (by repeat' (first | (with_reducible exact Below.refl _ _) | (with_reducible assumption) | (with_reducible refine below_alloc ?_ _ ?_) | (with_reducible refine below_set _ ?_ ?_) | (with_reducible refine Below.drew ?_) | (with_reducible refine below_dN ?_ _) | (apply below_thenA; assumption) | omega | (simp; done) | (simp; omega) | (simp [*]; done)))⟩
        · refine Bx.drew ?_; first | exact Bx.new _ _ _ _ _ rfl | exact Bx.new _ _ _ _ _ (by simp) | exact (Bx.new _ _ _ _ _ rfl).alloc _
        · refine Bx.drew ?_; first | exact Bx.new _ _ _ _ _ rfl | exact Bx.new _ _ _ _ _ (by simp) | exact (Bx.new _ _ _ _ _ rfl).alloc _
  case rest =>
    clear u0 u1 p1 p2 p3 p4 p5 p6 p7 p8 l0 l1' hb1 hB1
    obtain ⟨b5, b6, rfl, rfl, tx, ty, hB⟩ := hcut
    have E : RS w b5 b6 h1 l1 h2 l2 wc := ⟨tx, ty, hB⟩
    clear tx ty hB
    obtain ⟨⟨p1, p2⟩, p5, p6⟩ := E.cells
    have x1 := E.l5
    have x2 := E.l6
    obtain ⟨nn1, nn2, nn3, nn4, nn5, nn6⟩ := E.nes
    go_upto_region 4 with (fail)
    go_cut [7, 8] from 19 (fun s7 s8 wx => CutS2 w b5 b6 h1 l1 h2 l2 a b s7 s8 wx)
    case first =>
      go_region_held3 (fun w' => w'.cell? ⟨b5, 0, none⟩ = some (.int .i64 h1) ∧ w'.cell? ⟨b5, 1, none⟩ = some (.int .u64 l1) ∧ w'.cell? ⟨b6, 0, none⟩ = some (.int .i64 h2) ∧ w'.cell? ⟨b6, 1, none⟩ = some (.int .u64 l2))
        (first | with_reducible exact ⟨p1, p2, p5, p6⟩ | with_reducible exact E.drew.cells4 | (refine RS.cells4 (w := w) ?_; (first | with_reducible exact E | with_reducible refine RS.drew ?_ | with_reducible refine RS.alloc ?_ _ | with_reducible refine RS.set ?_ _ _ _ ?_ ?_ ?_ | with_reducible assumption) <;> (first | with_reducible exact E | with_reducible refine RS.drew ?_ | with_reducible refine RS.alloc ?_ _ | with_reducible refine RS.set ?_ _ _ _ ?_ ?_ ?_ | with_reducible assumption) <;> (first | with_reducible exact E | with_reducible refine RS.drew ?_ | with_reducible refine RS.alloc ?_ _ | with_reducible refine RS.set ?_ _ _ _ ?_ ?_ ?_ | with_reducible assumption) <;> (first | with_reducible exact E | with_reducible refine RS.drew ?_ | with_reducible refine RS.alloc ?_ _ | with_reducible refine RS.set ?_ _ _ _ ?_ ?_ ?_ | with_reducible assumption) <;> (first | with_reducible exact E | with_reducible refine RS.drew ?_ | with_reducible refine RS.alloc ?_ _ | with_reducible refine RS.set ?_ _ _ _ ?_ ?_ ?_ | with_reducible assumption) <;> (first | with_reducible exact E | with_reducible refine RS.drew ?_ | with_reducible refine RS.alloc ?_ _ | with_reducible refine RS.set ?_ _ _ _ ?_ ?_ ?_ | with_reducible assumption) <;> (first | with_reducible exact E | with_reducible refine RS.drew ?_ | with_reducible refine RS.alloc ?_ _ | with_reducible refine RS.set ?_ _ _ _ ?_ ?_ ?_ | with_reducible assumption) <;> (first | with_reducible exact E | with_reducible refine RS.drew ?_ | with_reducible refine RS.alloc ?_ _ | with_reducible refine RS.set ?_ _ _ _ ?_ ?_ ?_ | with_reducible assumption) <;> (first | with_reducible exact E | with_reducible refine RS.drew ?_ | with_reducible refine RS.alloc ?_ _ | with_reducible refine RS.set ?_ _ _ _ ?_ ?_ ?_ | with_reducible assumption); done))
        (first
        | (go_at_call 34; with_reducible refine (big_ofwide_at a h1 l1 ha _).mono ?_; rintro e wA hRA; obtain ⟨nA, xA, kA, cA, rfl, hIA, hbA⟩ := hRA.out; (try (have y1 := Two.belowX hbA (by with_reducible first | exact z1 | exact z1.drew | exact (z1.alloc _).drew | exact ((z1.alloc _).alloc _).drew | exact z1.alloc _ | exact (z1.alloc _).alloc _); obtain ⟨zf1, zf2, zf3, zf4⟩ := y1.cells; have zl4 := y1.lt)); (try (have y2 := Two.belowX hbA (by with_reducible first | exact z2 | exact z2.drew | exact (z2.alloc _).drew | exact ((z2.alloc _).alloc _).drew | exact z2.alloc _ | exact (z2.alloc _).alloc _); obtain ⟨zg1, zg2, zg3, zg4⟩ := y2.cells; have zl5 := y2.lt)); (try (have y3 := Two.belowX hbA (by with_reducible first | exact z3 | exact z3.drew | exact (z3.alloc _).drew | exact ((z3.alloc _).alloc _).drew | exact z3.alloc _ | exact (z3.alloc _).alloc _); obtain ⟨zh1, zh2, zh3, zh4⟩ := y3.cells; have zl6 := y3.lt)); (try (have z1 := Two.belowX hbA (by with_reducible first | exact E.n1.drew | exact E.n1); obtain ⟨zc1, zc2, zc3, zc4⟩ := z1.cells; have zl1 := z1.lt)); (try (have z2 := Two.belowX hbA (by with_reducible first | exact E.n21.drew | exact E.n21); obtain ⟨zd1, zd2, zd3, zd4⟩ := z2.cells; have zl2 := z2.lt)); (try (have z3 := Two.belowX hbA (by with_reducible first | exact E.n22.drew | exact E.n22); obtain ⟨ze1, ze2, ze3, ze4⟩ := z3.cells; have zl3 := z3.lt)); (try (replace hIB := IsBig.belowX hbA (by with_reducible first | exact hIB | exact hIB.drewd | exact (hIB.allocd _).drewd | exact ((hIB.allocd _).allocd _).drewd | exact hIB.allocd _ | exact (hIB.allocd _).allocd _))); (have E' := RS.below hbA (by with_reducible first | exact E | exact E.drew | exact (E.alloc _).drew | exact ((E.alloc _).alloc _).drew | exact E.alloc _ | exact (E.alloc _).alloc _)); clear E; have E := E'; clear E'; obtain ⟨⟨p1, p2⟩, p5, p6⟩ := E.cells; have x1 := E.l5; have x2 := E.l6; obtain ⟨nn1, nn2, nn3, nn4, nn5, nn6⟩ := E.nes)
        | (go_at_call 34; with_reducible refine (big_ofwide_at b h2 l2 hb _).mono ?_; rintro e wB hRB; obtain ⟨nB, xB, kB, cB, rfl, hIB, hbB⟩ := hRB.out; (try (have y1 := Two.belowX hbB (by with_reducible first | exact z1 | exact z1.drew | exact (z1.alloc _).drew | exact ((z1.alloc _).alloc _).drew | exact z1.alloc _ | exact (z1.alloc _).alloc _); obtain ⟨zf1, zf2, zf3, zf4⟩ := y1.cells; have zl4 := y1.lt)); (try (have y2 := Two.belowX hbB (by with_reducible first | exact z2 | exact z2.drew | exact (z2.alloc _).drew | exact ((z2.alloc _).alloc _).drew | exact z2.alloc _ | exact (z2.alloc _).alloc _); obtain ⟨zg1, zg2, zg3, zg4⟩ := y2.cells; have zl5 := y2.lt)); (try (have y3 := Two.belowX hbB (by with_reducible first | exact z3 | exact z3.drew | exact (z3.alloc _).drew | exact ((z3.alloc _).alloc _).drew | exact z3.alloc _ | exact (z3.alloc _).alloc _); obtain ⟨zh1, zh2, zh3, zh4⟩ := y3.cells; have zl6 := y3.lt)); (try (have z1 := Two.belowX hbB (by with_reducible first | exact E.n1.drew | exact E.n1); obtain ⟨zc1, zc2, zc3, zc4⟩ := z1.cells; have zl1 := z1.lt)); (try (have z2 := Two.belowX hbB (by with_reducible first | exact E.n21.drew | exact E.n21); obtain ⟨zd1, zd2, zd3, zd4⟩ := z2.cells; have zl2 := z2.lt)); (try (have z3 := Two.belowX hbB (by with_reducible first | exact E.n22.drew | exact E.n22); obtain ⟨ze1, ze2, ze3, ze4⟩ := z3.cells; have zl3 := z3.lt)); (try (replace hIA := IsBig.belowX hbB (by with_reducible first | exact hIA | exact hIA.drewd | exact (hIA.allocd _).drewd | exact ((hIA.allocd _).allocd _).drewd | exact hIA.allocd _ | exact (hIA.allocd _).allocd _))); (have E' := RS.below hbB (by with_reducible first | exact E | exact E.drew | exact (E.alloc _).drew | exact ((E.alloc _).alloc _).drew | exact E.alloc _ | exact (E.alloc _).alloc _)); clear E; have E := E'; clear E'; obtain ⟨⟨p1, p2⟩, p5, p6⟩ := E.cells; have x1 := E.l5; have x2 := E.l6; obtain ⟨nn1, nn2, nn3, nn4, nn5, nn6⟩ := E.nes))
      all_goals
        go_wp2_with fail
        go_meet
        case rel =>
          refine ⟨_, _, nA, xA, kA, cA, nB, xB, kB, cB, rfl, rfl, RS.x (w := w) (b6 := b6) (h2 := h2) (l2 := l2) ?_, RS.y (w := w) (b5 := b5) (h1 := h1) (l1 := l1) ?_, ?_, ?_, IsBig.keeps hIA ?_, IsBig.keeps hIB ?_, RS.b (b5 := b5) (b6 := b6) (h1 := h1) (h2 := h2) (l1 := l1) (l2 := l2) ?_⟩
          · (first | with_reducible exact E | with_reducible refine RS.drew ?_ | with_reducible refine RS.alloc ?_ _ | with_reducible refine RS.set ?_ _ _ _ ?_ ?_ ?_ | with_reducible assumption) <;> (first | with_reducible exact E | with_reducible refine RS.drew ?_ | with_reducible refine RS.alloc ?_ _ | with_reducible refine RS.set ?_ _ _ _ ?_ ?_ ?_ | with_reducible assumption) <;> (first | with_reducible exact E | with_reducible refine RS.drew ?_ | with_reducible refine RS.alloc ?_ _ | with_reducible refine RS.set ?_ _ _ _ ?_ ?_ ?_ | with_reducible assumption) <;> (first | with_reducible exact E | with_reducible refine RS.drew ?_ | with_reducible refine RS.alloc ?_ _ | with_reducible refine RS.set ?_ _ _ _ ?_ ?_ ?_ | with_reducible assumption) <;> (first | with_reducible exact E | with_reducible refine RS.drew ?_ | with_reducible refine RS.alloc ?_ _ | with_reducible refine RS.set ?_ _ _ _ ?_ ?_ ?_ | with_reducible assumption) <;> (first | with_reducible exact E | with_reducible refine RS.drew ?_ | with_reducible refine RS.alloc ?_ _ | with_reducible refine RS.set ?_ _ _ _ ?_ ?_ ?_ | with_reducible assumption) <;> (first | with_reducible exact E | with_reducible refine RS.drew ?_ | with_reducible refine RS.alloc ?_ _ | with_reducible refine RS.set ?_ _ _ _ ?_ ?_ ?_ | with_reducible assumption) <;> (first | with_reducible exact E | with_reducible refine RS.drew ?_ | with_reducible refine RS.alloc ?_ _ | with_reducible refine RS.set ?_ _ _ _ ?_ ?_ ?_ | with_reducible assumption) <;> (first | with_reducible exact E | with_reducible refine RS.drew ?_ | with_reducible refine RS.alloc ?_ _ | with_reducible refine RS.set ?_ _ _ _ ?_ ?_ ?_ | with_reducible assumption)
          · (first | with_reducible exact E | with_reducible refine RS.drew ?_ | with_reducible refine RS.alloc ?_ _ | with_reducible refine RS.set ?_ _ _ _ ?_ ?_ ?_ | with_reducible assumption) <;> (first | with_reducible exact E | with_reducible refine RS.drew ?_ | with_reducible refine RS.alloc ?_ _ | with_reducible refine RS.set ?_ _ _ _ ?_ ?_ ?_ | with_reducible assumption) <;> (first | with_reducible exact E | with_reducible refine RS.drew ?_ | with_reducible refine RS.alloc ?_ _ | with_reducible refine RS.set ?_ _ _ _ ?_ ?_ ?_ | with_reducible assumption) <;> (first | with_reducible exact E | with_reducible refine RS.drew ?_ | with_reducible refine RS.alloc ?_ _ | with_reducible refine RS.set ?_ _ _ _ ?_ ?_ ?_ | with_reducible assumption) <;> (first | with_reducible exact E | with_reducible refine RS.drew ?_ | with_reducible refine RS.alloc ?_ _ | with_reducible refine RS.set ?_ _ _ _ ?_ ?_ ?_ | with_reducible assumption) <;> (first | with_reducible exact E | with_reducible refine RS.drew ?_ | with_reducible refine RS.alloc ?_ _ | with_reducible refine RS.set ?_ _ _ _ ?_ ?_ ?_ | with_reducible assumption) <;> (first | with_reducible exact E | with_reducible refine RS.drew ?_ | with_reducible refine RS.alloc ?_ _ | with_reducible refine RS.set ?_ _ _ _ ?_ ?_ ?_ | with_reducible assumption) <;> (first | with_reducible exact E | with_reducible refine RS.drew ?_ | with_reducible refine RS.alloc ?_ _ | with_reducible refine RS.set ?_ _ _ _ ?_ ?_ ?_ | with_reducible assumption) <;> (first | with_reducible exact E | with_reducible refine RS.drew ?_ | with_reducible refine RS.alloc ?_ _ | with_reducible refine RS.set ?_ _ _ _ ?_ ?_ ?_ | with_reducible assumption)
          · (first | with_reducible refine Two.drew ?_ | with_reducible exact Two.new _ _ _ _ rfl | with_reducible exact Two.new1 _ _ _ _ | with_reducible exact Two.newS _ _ _ _ _ _ | with_reducible refine Two.alloc ?_ _ | with_reducible refine Two.putE ?_ _ _ | with_reducible refine Two.put_other ?_ ?_ _ _ | with_reducible refine Two.putE_other ?_ ?_ _ _ | with_reducible exact z1 | with_reducible exact ⟨_, _, z1⟩ | with_reducible exact z2 | with_reducible exact ⟨_, _, z2⟩ | with_reducible exact z3 | with_reducible exact ⟨_, _, z3⟩ | with_reducible exact y1 | with_reducible exact ⟨_, _, y1⟩ | with_reducible exact y2 | with_reducible exact ⟨_, _, y2⟩ | with_reducible exact y3 | with_reducible exact ⟨_, _, y3⟩ | with_reducible exact Nat.ne_of_lt (by with_reducible assumption) | with_reducible exact Nat.ne_of_gt (by with_reducible assumption) | with_reducible assumption | omega) <;> (first | with_reducible refine Two.drew ?_ | with_reducible exact Two.new _ _ _ _ rfl | with_reducible exact Two.new1 _ _ _ _ | with_reducible exact Two.newS _ _ _ _ _ _ | with_reducible refine Two.alloc ?_ _ | with_reducible refine Two.putE ?_ _ _ | with_reducible refine Two.put_other ?_ ?_ _ _ | with_reducible refine Two.putE_other ?_ ?_ _ _ | with_reducible exact z1 | with_reducible exact ⟨_, _, z1⟩ | with_reducible exact z2 | with_reducible exact ⟨_, _, z2⟩ | with_reducible exact z3 | with_reducible exact ⟨_, _, z3⟩ | with_reducible exact y1 | with_reducible exact ⟨_, _, y1⟩ | with_reducible exact y2 | with_reducible exact ⟨_, _, y2⟩ | with_reducible exact y3 | with_reducible exact ⟨_, _, y3⟩ | with_reducible exact Nat.ne_of_lt (by with_reducible assumption) | with_reducible exact Nat.ne_of_gt (by with_reducible assumption) | with_reducible assumption | omega) <;> (first | with_reducible refine Two.drew ?_ | with_reducible exact Two.new _ _ _ _ rfl | with_reducible exact Two.new1 _ _ _ _ | with_reducible exact Two.newS _ _ _ _ _ _ | with_reducible refine Two.alloc ?_ _ | with_reducible refine Two.putE ?_ _ _ | with_reducible refine Two.put_other ?_ ?_ _ _ | with_reducible refine Two.putE_other ?_ ?_ _ _ | with_reducible exact z1 | with_reducible exact ⟨_, _, z1⟩ | with_reducible exact z2 | with_reducible exact ⟨_, _, z2⟩ | with_reducible exact z3 | with_reducible exact ⟨_, _, z3⟩ | with_reducible exact y1 | with_reducible exact ⟨_, _, y1⟩ | with_reducible exact y2 | with_reducible exact ⟨_, _, y2⟩ | with_reducible exact y3 | with_reducible exact ⟨_, _, y3⟩ | with_reducible exact Nat.ne_of_lt (by with_reducible assumption) | with_reducible exact Nat.ne_of_gt (by with_reducible assumption) | with_reducible assumption | omega) <;> (first | with_reducible refine Two.drew ?_ | with_reducible exact Two.new _ _ _ _ rfl | with_reducible exact Two.new1 _ _ _ _ | with_reducible exact Two.newS _ _ _ _ _ _ | with_reducible refine Two.alloc ?_ _ | with_reducible refine Two.putE ?_ _ _ | with_reducible refine Two.put_other ?_ ?_ _ _ | with_reducible refine Two.putE_other ?_ ?_ _ _ | with_reducible exact z1 | with_reducible exact ⟨_, _, z1⟩ | with_reducible exact z2 | with_reducible exact ⟨_, _, z2⟩ | with_reducible exact z3 | with_reducible exact ⟨_, _, z3⟩ | with_reducible exact y1 | with_reducible exact ⟨_, _, y1⟩ | with_reducible exact y2 | with_reducible exact ⟨_, _, y2⟩ | with_reducible exact y3 | with_reducible exact ⟨_, _, y3⟩ | with_reducible exact Nat.ne_of_lt (by with_reducible assumption) | with_reducible exact Nat.ne_of_gt (by with_reducible assumption) | with_reducible assumption | omega) <;> (first | with_reducible refine Two.drew ?_ | with_reducible exact Two.new _ _ _ _ rfl | with_reducible exact Two.new1 _ _ _ _ | with_reducible exact Two.newS _ _ _ _ _ _ | with_reducible refine Two.alloc ?_ _ | with_reducible refine Two.putE ?_ _ _ | with_reducible refine Two.put_other ?_ ?_ _ _ | with_reducible refine Two.putE_other ?_ ?_ _ _ | with_reducible exact z1 | with_reducible exact ⟨_, _, z1⟩ | with_reducible exact z2 | with_reducible exact ⟨_, _, z2⟩ | with_reducible exact z3 | with_reducible exact ⟨_, _, z3⟩ | with_reducible exact y1 | with_reducible exact ⟨_, _, y1⟩ | with_reducible exact y2 | with_reducible exact ⟨_, _, y2⟩ | with_reducible exact y3 | with_reducible exact ⟨_, _, y3⟩ | with_reducible exact Nat.ne_of_lt (by with_reducible assumption) | with_reducible exact Nat.ne_of_gt (by with_reducible assumption) | with_reducible assumption | omega) <;> (first | with_reducible refine Two.drew ?_ | with_reducible exact Two.new _ _ _ _ rfl | with_reducible exact Two.new1 _ _ _ _ | with_reducible exact Two.newS _ _ _ _ _ _ | with_reducible refine Two.alloc ?_ _ | with_reducible refine Two.putE ?_ _ _ | with_reducible refine Two.put_other ?_ ?_ _ _ | with_reducible refine Two.putE_other ?_ ?_ _ _ | with_reducible exact z1 | with_reducible exact ⟨_, _, z1⟩ | with_reducible exact z2 | with_reducible exact ⟨_, _, z2⟩ | with_reducible exact z3 | with_reducible exact ⟨_, _, z3⟩ | with_reducible exact y1 | with_reducible exact ⟨_, _, y1⟩ | with_reducible exact y2 | with_reducible exact ⟨_, _, y2⟩ | with_reducible exact y3 | with_reducible exact ⟨_, _, y3⟩ | with_reducible exact Nat.ne_of_lt (by with_reducible assumption) | with_reducible exact Nat.ne_of_gt (by with_reducible assumption) | with_reducible assumption | omega)
          · (first | with_reducible refine Two.drew ?_ | with_reducible exact Two.new _ _ _ _ rfl | with_reducible exact Two.new1 _ _ _ _ | with_reducible exact Two.newS _ _ _ _ _ _ | with_reducible refine Two.alloc ?_ _ | with_reducible refine Two.putE ?_ _ _ | with_reducible refine Two.put_other ?_ ?_ _ _ | with_reducible refine Two.putE_other ?_ ?_ _ _ | with_reducible exact z1 | with_reducible exact ⟨_, _, z1⟩ | with_reducible exact z2 | with_reducible exact ⟨_, _, z2⟩ | with_reducible exact z3 | with_reducible exact ⟨_, _, z3⟩ | with_reducible exact y1 | with_reducible exact ⟨_, _, y1⟩ | with_reducible exact y2 | with_reducible exact ⟨_, _, y2⟩ | with_reducible exact y3 | with_reducible exact ⟨_, _, y3⟩ | with_reducible exact Nat.ne_of_lt (by with_reducible assumption) | with_reducible exact Nat.ne_of_gt (by with_reducible assumption) | with_reducible assumption | omega) <;> (first | with_reducible refine Two.drew ?_ | with_reducible exact Two.new _ _ _ _ rfl | with_reducible exact Two.new1 _ _ _ _ | with_reducible exact Two.newS _ _ _ _ _ _ | with_reducible refine Two.alloc ?_ _ | with_reducible refine Two.putE ?_ _ _ | with_reducible refine Two.put_other ?_ ?_ _ _ | with_reducible refine Two.putE_other ?_ ?_ _ _ | with_reducible exact z1 | with_reducible exact ⟨_, _, z1⟩ | with_reducible exact z2 | with_reducible exact ⟨_, _, z2⟩ | with_reducible exact z3 | with_reducible exact ⟨_, _, z3⟩ | with_reducible exact y1 | with_reducible exact ⟨_, _, y1⟩ | with_reducible exact y2 | with_reducible exact ⟨_, _, y2⟩ | with_reducible exact y3 | with_reducible exact ⟨_, _, y3⟩ | with_reducible exact Nat.ne_of_lt (by with_reducible assumption) | with_reducible exact Nat.ne_of_gt (by with_reducible assumption) | with_reducible assumption | omega) <;> (first | with_reducible refine Two.drew ?_ | with_reducible exact Two.new _ _ _ _ rfl | with_reducible exact Two.new1 _ _ _ _ | with_reducible exact Two.newS _ _ _ _ _ _ | with_reducible refine Two.alloc ?_ _ | with_reducible refine Two.putE ?_ _ _ | with_reducible refine Two.put_other ?_ ?_ _ _ | with_reducible refine Two.putE_other ?_ ?_ _ _ | with_reducible exact z1 | with_reducible exact ⟨_, _, z1⟩ | with_reducible exact z2 | with_reducible exact ⟨_, _, z2⟩ | with_reducible exact z3 | with_reducible exact ⟨_, _, z3⟩ | with_reducible exact y1 | with_reducible exact ⟨_, _, y1⟩ | with_reducible exact y2 | with_reducible exact ⟨_, _, y2⟩ | with_reducible exact y3 | with_reducible exact ⟨_, _, y3⟩ | with_reducible exact Nat.ne_of_lt (by with_reducible assumption) | with_reducible exact Nat.ne_of_gt (by with_reducible assumption) | with_reducible assumption | omega) <;> (first | with_reducible refine Two.drew ?_ | with_reducible exact Two.new _ _ _ _ rfl | with_reducible exact Two.new1 _ _ _ _ | with_reducible exact Two.newS _ _ _ _ _ _ | with_reducible refine Two.alloc ?_ _ | with_reducible refine Two.putE ?_ _ _ | with_reducible refine Two.put_other ?_ ?_ _ _ | with_reducible refine Two.putE_other ?_ ?_ _ _ | with_reducible exact z1 | with_reducible exact ⟨_, _, z1⟩ | with_reducible exact z2 | with_reducible exact ⟨_, _, z2⟩ | with_reducible exact z3 | with_reducible exact ⟨_, _, z3⟩ | with_reducible exact y1 | with_reducible exact ⟨_, _, y1⟩ | with_reducible exact y2 | with_reducible exact ⟨_, _, y2⟩ | with_reducible exact y3 | with_reducible exact ⟨_, _, y3⟩ | with_reducible exact Nat.ne_of_lt (by with_reducible assumption) | with_reducible exact Nat.ne_of_gt (by with_reducible assumption) | with_reducible assumption | omega) <;> (first | with_reducible refine Two.drew ?_ | with_reducible exact Two.new _ _ _ _ rfl | with_reducible exact Two.new1 _ _ _ _ | with_reducible exact Two.newS _ _ _ _ _ _ | with_reducible refine Two.alloc ?_ _ | with_reducible refine Two.putE ?_ _ _ | with_reducible refine Two.put_other ?_ ?_ _ _ | with_reducible refine Two.putE_other ?_ ?_ _ _ | with_reducible exact z1 | with_reducible exact ⟨_, _, z1⟩ | with_reducible exact z2 | with_reducible exact ⟨_, _, z2⟩ | with_reducible exact z3 | with_reducible exact ⟨_, _, z3⟩ | with_reducible exact y1 | with_reducible exact ⟨_, _, y1⟩ | with_reducible exact y2 | with_reducible exact ⟨_, _, y2⟩ | with_reducible exact y3 | with_reducible exact ⟨_, _, y3⟩ | with_reducible exact Nat.ne_of_lt (by with_reducible assumption) | with_reducible exact Nat.ne_of_gt (by with_reducible assumption) | with_reducible assumption | omega) <;> (first | with_reducible refine Two.drew ?_ | with_reducible exact Two.new _ _ _ _ rfl | with_reducible exact Two.new1 _ _ _ _ | with_reducible exact Two.newS _ _ _ _ _ _ | with_reducible refine Two.alloc ?_ _ | with_reducible refine Two.putE ?_ _ _ | with_reducible refine Two.put_other ?_ ?_ _ _ | with_reducible refine Two.putE_other ?_ ?_ _ _ | with_reducible exact z1 | with_reducible exact ⟨_, _, z1⟩ | with_reducible exact z2 | with_reducible exact ⟨_, _, z2⟩ | with_reducible exact z3 | with_reducible exact ⟨_, _, z3⟩ | with_reducible exact y1 | with_reducible exact ⟨_, _, y1⟩ | with_reducible exact y2 | with_reducible exact ⟨_, _, y2⟩ | with_reducible exact y3 | with_reducible exact ⟨_, _, y3⟩ | with_reducible exact Nat.ne_of_lt (by with_reducible assumption) | with_reducible exact Nat.ne_of_gt (by with_reducible assumption) | with_reducible assumption | omega)
          · exact (by repeat' (first | (with_reducible exact Keeps.refl _) | (with_reducible refine Keeps.alloc ?_ _) | (with_reducible refine Keeps.drew ?_) | (with_reducible refine Keeps.drewN ?_ _) | (with_reducible refine Keeps.set ?_ _ _ (T := 29) ?_ (by decide)) | (with_reducible exact TyAt.new _ _ _ _ (by simp)) | (with_reducible refine TyAt.set ?_ _ _) | (with_reducible refine TyAt.alloc ?_ _) | (with_reducible refine TyAt.drew ?_) | (with_reducible refine TyAt.drewN ?_ _) | (apply Keeps.below; assumption) | (exact Two.ty (by assumption)) | (apply TyAt.below; rotate_left; assumption)))
          · exact (by repeat' (first | (with_reducible exact Keeps.refl _) | (with_reducible refine Keeps.alloc ?_ _) | (with_reducible refine Keeps.drew ?_) | (with_reducible refine Keeps.drewN ?_ _) | (with_reducible refine Keeps.set ?_ _ _ (T := 29) ?_ (by decide)) | (with_reducible exact TyAt.new _ _ _ _ (by simp)) | (with_reducible refine TyAt.set ?_ _ _) | (with_reducible refine TyAt.alloc ?_ _) | (with_reducible refine TyAt.drew ?_) | (with_reducible refine TyAt.drewN ?_ _) | (apply Keeps.below; assumption) | (exact Two.ty (by assumption)) | (apply TyAt.below; rotate_left; assumption)))
          · (first | with_reducible exact E | with_reducible refine RS.drew ?_ | with_reducible refine RS.alloc ?_ _ | with_reducible refine RS.set ?_ _ _ _ ?_ ?_ ?_ | with_reducible assumption) <;> (first | with_reducible exact E | with_reducible refine RS.drew ?_ | with_reducible refine RS.alloc ?_ _ | with_reducible refine RS.set ?_ _ _ _ ?_ ?_ ?_ | with_reducible assumption) <;> (first | with_reducible exact E | with_reducible refine RS.drew ?_ | with_reducible refine RS.alloc ?_ _ | with_reducible refine RS.set ?_ _ _ _ ?_ ?_ ?_ | with_reducible assumption) <;> (first | with_reducible exact E | with_reducible refine RS.drew ?_ | with_reducible refine RS.alloc ?_ _ | with_reducible refine RS.set ?_ _ _ _ ?_ ?_ ?_ | with_reducible assumption) <;> (first | with_reducible exact E | with_reducible refine RS.drew ?_ | with_reducible refine RS.alloc ?_ _ | with_reducible refine RS.set ?_ _ _ _ ?_ ?_ ?_ | with_reducible assumption) <;> (first | with_reducible exact E | with_reducible refine RS.drew ?_ | with_reducible refine RS.alloc ?_ _ | with_reducible refine RS.set ?_ _ _ _ ?_ ?_ ?_ | with_reducible assumption) <;> (first | with_reducible exact E | with_reducible refine RS.drew ?_ | with_reducible refine RS.alloc ?_ _ | with_reducible refine RS.set ?_ _ _ _ ?_ ?_ ?_ | with_reducible assumption) <;> (first | with_reducible exact E | with_reducible refine RS.drew ?_ | with_reducible refine RS.alloc ?_ _ | with_reducible refine RS.set ?_ _ _ _ ?_ ?_ ?_ | with_reducible assumption) <;> (first | with_reducible exact E | with_reducible refine RS.drew ?_ | with_reducible refine RS.alloc ?_ _ | with_reducible refine RS.set ?_ _ _ _ ?_ ?_ ?_ | with_reducible assumption)
    case rest =>
      clear E p1 p2 p5 p6 x1 x2 nn1 nn2 nn3 nn4 nn5 nn6
      obtain ⟨b7, b8, n7, y7, k7, c7, n8, y8, k8, c8, rfl, rfl, tx, ty, ta, tb, hA, hBb, hB⟩ := hcut
      have hk7 := hA.le ha.sz
      have hk8 := hBb.le hb.sz
      obtain ⟨p1, p2, p3, p4⟩ := tx.cells
      obtain ⟨p5, p6, p7, p8⟩ := ty.cells
      go_wp2_with fail
      refine (wide_add_ans a b h1 l1 h2 l2 ha hb _).mono ?_
      rintro e w2 ⟨sh, sl, ok, rfl, hS, hb2⟩
      have HS := Lib.hid hS
      clear hS p1 p2 p3 p4 p5 p6 p7 p8
      replace tx := (tx.below hb2).alloc (.cells #[.int .i64 sh, .int .u64 sl] 25)
      replace ty := (ty.below hb2).alloc (.cells #[.int .i64 sh, .int .u64 sl] 25)
      replace ta := (ta.below hb2).alloc (.cells #[.int .i64 sh, .int .u64 sl] 25)
      replace tb := (tb.below hb2).alloc (.cells #[.int .i64 sh, .int .u64 sl] 25)
      have ts := Bx.new w2 25 (.int .i64 sh) (.int .u64 sl) _ rfl
      replace hA := (hA.keep hb2).allocd (.cells #[.int .i64 sh, .int .u64 sl] 25)
      replace hBb := (hBb.keep hb2).allocd (.cells #[.int .i64 sh, .int .u64 sl] 25)
      replace hB := hB.trans (hb2.mono hB.size)
      replace hB := hB.alloc hB.size (.cells #[.int .i64 sh, .int .u64 sl] 25)
      clear hb2
      obtain ⟨p1, p2, p3, p4⟩ := ta.cells
      obtain ⟨p5, p6, p7, p8⟩ := tb.cells
      go_wp2_with fail
      refine (big_plus n7 n8 y7 y8 k7 k8 c7 c8 a b _ hA hBb (by omega) (by omega)).mono ?_
      rintro e w3 ⟨n3, x3, k3, c3, rfl, hT, hb3⟩
      replace tx := (tx.below hb3).alloc (.cells #[.bool n3, .slice x3 k3 c3] 29)
      replace ty := (ty.below hb3).alloc (.cells #[.bool n3, .slice x3 k3 c3] 29)
      replace ta := (ta.below hb3).alloc (.cells #[.bool n3, .slice x3 k3 c3] 29)
      replace tb := (tb.below hb3).alloc (.cells #[.bool n3, .slice x3 k3 c3] 29)
      replace ts := (ts.below hb3).alloc (.cells #[.bool n3, .slice x3 k3 c3] 29)
      have tt := Two.new w3 (.bool n3) (.slice x3 k3 c3) _ rfl
      replace hA := (hA.keep hb3).allocd (.cells #[.bool n3, .slice x3 k3 c3] 29)
      replace hBb := (hBb.keep hb3).allocd (.cells #[.bool n3, .slice x3 k3 c3] 29)
      replace hT := hT.allocd (.cells #[.bool n3, .slice x3 k3 c3] 29)
      have hk3 := hT.le (ha.sz.add hb.sz)
      replace hB := hB.trans (hb3.mono hB.size)
      replace hB := hB.alloc hB.size (.cells #[.bool n3, .slice x3 k3 c3] 29)
      clear hb3 p1 p2 p3 p4 p5 p6 p7 p8
      obtain ⟨p1, p2, p3, p4⟩ := tx.cells
      go_wp2_with fail
      refine (wide_neg_ans a h1 l1 ha _).mono ?_
      rintro e w4 ⟨nh, nl, is, rfl, hN, hb4⟩
      have HN := Lib.hid hN
      replace tx := (tx.below hb4).alloc (.cells #[.int .i64 nh, .int .u64 nl] 25)
      replace ty := (ty.below hb4).alloc (.cells #[.int .i64 nh, .int .u64 nl] 25)
      replace ta := (ta.below hb4).alloc (.cells #[.int .i64 nh, .int .u64 nl] 25)
      replace tb := (tb.below hb4).alloc (.cells #[.int .i64 nh, .int .u64 nl] 25)
      replace ts := (ts.below hb4).alloc (.cells #[.int .i64 nh, .int .u64 nl] 25)
      replace tt := (tt.below hb4).alloc (.cells #[.int .i64 nh, .int .u64 nl] 25)
      have tn := Bx.new w4 25 (.int .i64 nh) (.int .u64 nl) _ rfl
      replace hA := (hA.keep hb4).allocd (.cells #[.int .i64 nh, .int .u64 nl] 25)
      replace hBb := (hBb.keep hb4).allocd (.cells #[.int .i64 nh, .int .u64 nl] 25)
      replace hT := (hT.keep hb4).allocd (.cells #[.int .i64 nh, .int .u64 nl] 25)
      replace hB := hB.trans (hb4.mono hB.size)
      replace hB := hB.alloc hB.size (.cells #[.int .i64 nh, .int .u64 nl] 25)
      clear hb4 hN p1 p2 p3 p4
      obtain ⟨p1, p2, p3, p4⟩ := ta.cells
      go_wp2_with fail
      refine (big_minus n7 y7 k7 c7 a _ hA (by omega)).mono ?_
      rintro e w5 ⟨n5, x5, k5, c5, rfl, hM, hb5⟩
      replace tx := (tx.below hb5).alloc (.cells #[.bool n5, .slice x5 k5 c5] 29)
      replace ty := (ty.below hb5).alloc (.cells #[.bool n5, .slice x5 k5 c5] 29)
      replace ta := (ta.below hb5).alloc (.cells #[.bool n5, .slice x5 k5 c5] 29)
      replace tb := (tb.below hb5).alloc (.cells #[.bool n5, .slice x5 k5 c5] 29)
      replace ts := (ts.below hb5).alloc (.cells #[.bool n5, .slice x5 k5 c5] 29)
      replace tt := (tt.below hb5).alloc (.cells #[.bool n5, .slice x5 k5 c5] 29)
      replace tn := (tn.below hb5).alloc (.cells #[.bool n5, .slice x5 k5 c5] 29)
      have tm := Two.new w5 (.bool n5) (.slice x5 k5 c5) _ rfl
      replace hA := (hA.keep hb5).allocd (.cells #[.bool n5, .slice x5 k5 c5] 29)
      replace hBb := (hBb.keep hb5).allocd (.cells #[.bool n5, .slice x5 k5 c5] 29)
      replace hT := (hT.keep hb5).allocd (.cells #[.bool n5, .slice x5 k5 c5] 29)
      replace hM := hM.allocd (.cells #[.bool n5, .slice x5 k5 c5] 29)
      have hk5 := hM.le ha.sz.neg
      replace hB := hB.trans (hb5.mono hB.size)
      replace hB := hB.alloc hB.size (.cells #[.bool n5, .slice x5 k5 c5] 29)
      clear hb5 p1 p2 p3 p4
      obtain ⟨p1, p2, p3, p4⟩ := tt.cells
      go_wp2_with fail
      refine (big_fits n3 x3 k3 c3 (a + b) _ hT (by omega)).mono ?_
      rintro e w6 ⟨rfl, hb6⟩
      rw [HS.out.fits]
      replace tx := tx.below hb6
      replace ty := ty.below hb6
      replace ta := ta.below hb6
      replace tb := tb.below hb6
      replace ts := ts.below hb6
      replace tt := tt.below hb6
      replace tn := tn.below hb6
      replace tm := tm.below hb6
      replace hA := hA.keep hb6
      replace hBb := hBb.keep hb6
      replace hT := hT.keep hb6
      replace hM := hM.keep hb6
      replace hB := hB.trans (hb6.mono hB.size)
      clear hb6 p1 p2 p3 p4
      obtain ⟨p1, p2, p3, p4⟩ := tm.cells
      go_wp2_with fail
      refine (big_fits n5 x5 k5 c5 (-a) _ hM (by omega)).mono ?_
      rintro e w7 ⟨rfl, hb7⟩
      rw [HN.out.fits]
      replace tx := tx.below hb7
      replace ty := ty.below hb7
      replace ta := ta.below hb7
      replace tb := tb.below hb7
      replace ts := ts.below hb7
      replace tt := tt.below hb7
      replace tn := tn.below hb7
      replace tm := tm.below hb7
      replace hA := hA.keep hb7
      replace hBb := hBb.keep hb7
      replace hT := hT.keep hb7
      replace hM := hM.keep hb7
      replace hB := hB.trans (hb7.mono hB.size)
      clear hb7 p1 p2 p3 p4
      have hq := Below.refl w7.heap.size w7
      have hcc : cmp3 a b = cmpI a b := rfl
      obtain ⟨c, ec⟩ : ∃ c, cmpI a b = c := ⟨_, rfl⟩
      have C1 := wide_cmp_at a b h1 l1 h2 l2 c ha hb (hcc.trans ec)
      have C2 := fun W (x : IsBig W n7 y7 k7 c7 a) (y : IsBig W n8 y8 k8 c8 b) => big_cmp n7 n8 y7 y8 k7 k8 c7 c8 a b W x y (by omega) (by omega)
      rw [ec] at C2
      clear hcc ec
      cases ok
      · obtain ⟨rfl, rfl⟩ := HS.out.no
        cases is
        · obtain ⟨rfl, rfl⟩ := HN.out.no
          obtain ⟨p1, p2, p3, p4⟩ := (ts.below hq).cells
          obtain ⟨p5, p6, p7, p8⟩ := (tt.below hq).cells
          obtain ⟨q1, q2, q3, q4⟩ := (tn.below hq).cells
          obtain ⟨q5, q6, q7, q8⟩ := (tm.below hq).cells
          go_wp2_with fail
          obtain ⟨r1, r2, r3, r4⟩ := (tx.below hq).cells
          obtain ⟨r5, r6, r7, r8⟩ := (ty.below hq).cells
          obtain ⟨s1, s2, s3, s4⟩ := (ta.below hq).cells
          obtain ⟨s5, s6, s7, s8⟩ := (tb.below hq).cells
          go_region_held3 (fun w' => w'.cell? ⟨b5, 0, none⟩ = some (.int .i64 h1) ∧ w'.cell? ⟨b5, 1, none⟩ = some (.int .u64 l1) ∧ w'.cell? ⟨b6, 0, none⟩ = some (.int .i64 h2) ∧ w'.cell? ⟨b6, 1, none⟩ = some (.int .u64 l2) ∧ w'.cell? ⟨b7, 0, none⟩ = some (.bool n7) ∧ w'.cell? ⟨b7, 1, none⟩ = some (.slice y7 k7 c7) ∧ w'.cell? ⟨b8, 0, none⟩ = some (.bool n8) ∧ w'.cell? ⟨b8, 1, none⟩ = some (.slice y8 k8 c8) ∧ w'.cell? ⟨w2.heap.size, 0, none⟩ = some (.int .i64 0) ∧ w'.cell? ⟨w2.heap.size, 1, none⟩ = some (.int .u64 0) ∧ w'.cell? ⟨w4.heap.size, 0, none⟩ = some (.int .i64 0) ∧ w'.cell? ⟨w4.heap.size, 1, none⟩ = some (.int .u64 0))
            (first | exact ⟨r1, r2, r5, r6, s1, s2, s5, s6, p1, p2, q1, q2⟩ | go_keep)
            (first
            | (go_at_call 41; with_reducible refine (C1 _).mono ?_; rintro e wA ⟨rfl, hbA⟩; (try replace hbA := below_undrew hbA); replace hq := below_step hq hbA; obtain ⟨p1, p2, p3, p4⟩ := (ts.below hq).cells; obtain ⟨p5, p6, p7, p8⟩ := (tt.below hq).cells; obtain ⟨q1, q2, q3, q4⟩ := (tn.below hq).cells; obtain ⟨q5, q6, q7, q8⟩ := (tm.below hq).cells; obtain ⟨r1, r2, r3, r4⟩ := (tx.below hq).cells; obtain ⟨r5, r6, r7, r8⟩ := (ty.below hq).cells; obtain ⟨s1, s2, s3, s4⟩ := (ta.below hq).cells; obtain ⟨s5, s6, s7, s8⟩ := (tb.below hq).cells)
            | (go_at_call 42; with_reducible refine (C2 _ (by with_reducible first | exact hA.keep hq | exact hA.keep (Below.drew hq)) (by with_reducible first | exact hBb.keep hq | exact hBb.keep (Below.drew hq))).mono ?_; rintro e wB ⟨rfl, hbB⟩; (try replace hbB := below_undrew hbB); replace hq := below_step hq hbB; obtain ⟨p1, p2, p3, p4⟩ := (ts.below hq).cells; obtain ⟨p5, p6, p7, p8⟩ := (tt.below hq).cells; obtain ⟨q1, q2, q3, q4⟩ := (tn.below hq).cells; obtain ⟨q5, q6, q7, q8⟩ := (tm.below hq).cells; obtain ⟨r1, r2, r3, r4⟩ := (tx.below hq).cells; obtain ⟨r5, r6, r7, r8⟩ := (ty.below hq).cells; obtain ⟨s1, s2, s3, s4⟩ := (ta.below hq).cells; obtain ⟨s5, s6, s7, s8⟩ := (tb.below hq).cells))
          all_goals
            go_wp2_with fail
            go_ret
            exact ⟨rfl, hB.trans (hq.mono hB.size)⟩
        · have hNW := HN.out.yes
          obtain ⟨p1, p2, p3, p4⟩ := (ts.below hq).cells
          obtain ⟨p5, p6, p7, p8⟩ := (tt.below hq).cells
          obtain ⟨q1, q2, q3, q4⟩ := (tn.below hq).cells
          obtain ⟨q5, q6, q7, q8⟩ := (tm.below hq).cells
          go_wp2_with (first
          | (go_at_call 30; with_reducible refine (law_same (-a) nh nl n5 x5 k5 c5 _ hNW (hM.keep hq)).mono ?_; rintro e w9 ⟨rfl, hb9⟩; replace hq := below_step hq hb9; obtain ⟨p1, p2, p3, p4⟩ := (ts.below hq).cells; obtain ⟨p5, p6, p7, p8⟩ := (tt.below hq).cells; obtain ⟨q1, q2, q3, q4⟩ := (tn.below hq).cells; obtain ⟨q5, q6, q7, q8⟩ := (tm.below hq).cells))
          obtain ⟨r1, r2, r3, r4⟩ := (tx.below hq).cells
          obtain ⟨r5, r6, r7, r8⟩ := (ty.below hq).cells
          obtain ⟨s1, s2, s3, s4⟩ := (ta.below hq).cells
          obtain ⟨s5, s6, s7, s8⟩ := (tb.below hq).cells
          refine wp_region_noPanic ?_
          refine wp_region_held_drew (S := (fun w' => w'.cell? ⟨b5, 0, none⟩ = some (.int .i64 h1) ∧ w'.cell? ⟨b5, 1, none⟩ = some (.int .u64 l1) ∧ w'.cell? ⟨b6, 0, none⟩ = some (.int .i64 h2) ∧ w'.cell? ⟨b6, 1, none⟩ = some (.int .u64 l2) ∧ w'.cell? ⟨b7, 0, none⟩ = some (.bool n7) ∧ w'.cell? ⟨b7, 1, none⟩ = some (.slice y7 k7 c7) ∧ w'.cell? ⟨b8, 0, none⟩ = some (.bool n8) ∧ w'.cell? ⟨b8, 1, none⟩ = some (.slice y8 k8 c8) ∧ w'.cell? ⟨w2.heap.size, 0, none⟩ = some (.int .i64 0) ∧ w'.cell? ⟨w2.heap.size, 1, none⟩ = some (.int .u64 0))) (by kernel_rfl) ?_ (fun hHeld => ?_)
          · try dsimp only
            (first | exact ⟨r1, r2, r5, r6, s1, s2, s5, s6, p1, p2⟩ | go_keep)
          refine wpAnyH_take (i := 0) (v := ?_) rfl (by kernel_rfl) (by kernel_rfl) (by kernel_rfl) (fun _ _ _ h => h) (Or.inl ⟨by rfl, ?_⟩) hHeld ?_
          rotate_left
          · intro w hSw
            try dsimp only at hSw
            (try simp only [List.getElem_toArray, List.getElem_cons_zero, List.getElem_cons_succ])
            go_simp
            try with_reducible rfl
          try simp only [Act.put, List.setIfInBounds_toArray, List.set_cons_zero, List.set_cons_succ, List.getElem_toArray, List.getElem_cons_zero, List.getElem_cons_succ]
          refine wpAnyH_take (i := 1) (v := ?_) rfl (by kernel_rfl) (by kernel_rfl) (by kernel_rfl) (fun _ _ _ h => h) (Or.inl ⟨by rfl, ?_⟩) hHeld ?_
          rotate_left
          · intro w hSw
            try dsimp only at hSw
            (try simp only [List.getElem_toArray, List.getElem_cons_zero, List.getElem_cons_succ])
            go_simp
            try with_reducible rfl
          try simp only [Act.put, List.setIfInBounds_toArray, List.set_cons_zero, List.set_cons_succ, List.getElem_toArray, List.getElem_cons_zero, List.getElem_cons_succ]
          refine wpAnyH_take (i := 2) (v := ?_) rfl (by kernel_rfl) (by kernel_rfl) (by kernel_rfl) (fun _ _ _ h => h) (Or.inl ⟨by rfl, ?_⟩) hHeld ?_
          rotate_left
          · intro w hSw
            try dsimp only at hSw
            (try simp only [List.getElem_toArray, List.getElem_cons_zero, List.getElem_cons_succ])
            go_simp
            try with_reducible rfl
          try simp only [Act.put, List.setIfInBounds_toArray, List.set_cons_zero, List.set_cons_succ, List.getElem_toArray, List.getElem_cons_zero, List.getElem_cons_succ]
          refine wpAnyH_take (i := 3) (v := ?_) rfl (by kernel_rfl) (by kernel_rfl) (by kernel_rfl) (fun _ _ _ h => h) (Or.inl ⟨by rfl, ?_⟩) hHeld ?_
          rotate_left
          · intro w hSw
            try dsimp only at hSw
            (try simp only [List.getElem_toArray, List.getElem_cons_zero, List.getElem_cons_succ])
            go_simp
            try with_reducible rfl
          try simp only [Act.put, List.setIfInBounds_toArray, List.set_cons_zero, List.set_cons_succ, List.getElem_toArray, List.getElem_cons_zero, List.getElem_cons_succ]
          refine wpAnyH_take (i := 4) (v := ?_) rfl (by kernel_rfl) (by kernel_rfl) (by kernel_rfl) (fun _ _ _ h => h) (Or.inl ⟨by rfl, ?_⟩) hHeld ?_
          rotate_left
          · intro w hSw
            try dsimp only at hSw
            (try simp only [List.getElem_toArray, List.getElem_cons_zero, List.getElem_cons_succ])
            go_simp
            try with_reducible rfl
          try simp only [Act.put, List.setIfInBounds_toArray, List.set_cons_zero, List.set_cons_succ, List.getElem_toArray, List.getElem_cons_zero, List.getElem_cons_succ]
          refine wpAnyH_take (i := 5) (v := ?_) rfl (by kernel_rfl) (by kernel_rfl) (by kernel_rfl) (fun _ _ _ h => h) (Or.inl ⟨by rfl, ?_⟩) hHeld ?_
          rotate_left
          · intro w hSw
            try dsimp only at hSw
            (try simp only [List.getElem_toArray, List.getElem_cons_zero, List.getElem_cons_succ])
            go_simp
            try with_reducible rfl
          try simp only [Act.put, List.setIfInBounds_toArray, List.set_cons_zero, List.set_cons_succ, List.getElem_toArray, List.getElem_cons_zero, List.getElem_cons_succ]
          refine wpAnyH_take (i := 6) (v := ?_) rfl (by kernel_rfl) (by kernel_rfl) (by kernel_rfl) (fun _ _ _ h => h) (Or.inl ⟨by rfl, ?_⟩) hHeld ?_
          rotate_left
          · intro w hSw
            try dsimp only at hSw
            (try simp only [List.getElem_toArray, List.getElem_cons_zero, List.getElem_cons_succ])
            go_simp
            try with_reducible rfl
          try simp only [Act.put, List.setIfInBounds_toArray, List.set_cons_zero, List.set_cons_succ, List.getElem_toArray, List.getElem_cons_zero, List.getElem_cons_succ]
          refine wpAnyH_take (i := 7) (v := ?_) rfl (by kernel_rfl) (by kernel_rfl) (by kernel_rfl) (fun _ _ _ h => h) (Or.inl ⟨by rfl, ?_⟩) hHeld ?_
          rotate_left
          · intro w hSw
            try dsimp only at hSw
            (try simp only [List.getElem_toArray, List.getElem_cons_zero, List.getElem_cons_succ])
            go_simp
            try with_reducible rfl
          try simp only [Act.put, List.setIfInBounds_toArray, List.set_cons_zero, List.set_cons_succ, List.getElem_toArray, List.getElem_cons_zero, List.getElem_cons_succ]
          refine wpAnyH_take (i := 8) (v := ?_) rfl (by kernel_rfl) (by kernel_rfl) (by kernel_rfl) (fun _ _ _ h => h) (Or.inl ⟨by rfl, ?_⟩) hHeld ?_
          rotate_left
          · intro w hSw
            try dsimp only at hSw
            (try simp only [List.getElem_toArray, List.getElem_cons_zero, List.getElem_cons_succ])
            go_simp
            try with_reducible rfl
          try simp only [Act.put, List.setIfInBounds_toArray, List.set_cons_zero, List.set_cons_succ, List.getElem_toArray, List.getElem_cons_zero, List.getElem_cons_succ]
          refine wpAnyH_take (i := 9) (v := undef) rfl (by kernel_rfl) (by kernel_rfl) (by kernel_rfl) (fun _ _ _ h => h) (Or.inr ⟨by rfl, rfl⟩) hHeld ?_
          try simp only [Act.put, List.setIfInBounds_toArray, List.set_cons_zero, List.set_cons_succ, List.getElem_toArray, List.getElem_cons_zero, List.getElem_cons_succ]
          refine wpAnyH_take (i := 10) (v := undef) rfl (by kernel_rfl) (by kernel_rfl) (by kernel_rfl) (fun _ _ _ h => h) (Or.inr ⟨by rfl, rfl⟩) hHeld ?_
          try simp only [Act.put, List.setIfInBounds_toArray, List.set_cons_zero, List.set_cons_succ, List.getElem_toArray, List.getElem_cons_zero, List.getElem_cons_succ]
          refine wpAnyH_take (i := 11) (v := undef) rfl (by kernel_rfl) (by kernel_rfl) (by kernel_rfl) (fun _ _ _ h => h) (Or.inr ⟨by rfl, rfl⟩) hHeld ?_
          try simp only [Act.put, List.setIfInBounds_toArray, List.set_cons_zero, List.set_cons_succ, List.getElem_toArray, List.getElem_cons_zero, List.getElem_cons_succ]
          refine wpAnyH_take (i := 12) (v := ?_) rfl (by kernel_rfl) (by kernel_rfl) (by kernel_rfl) (fun _ _ _ h => h) (Or.inl ⟨by rfl, ?_⟩) hHeld ?_
          rotate_left
          · intro w hSw
            try dsimp only at hSw
            (try simp only [List.getElem_toArray, List.getElem_cons_zero, List.getElem_cons_succ])
            go_simp
            try with_reducible rfl
          try simp only [Act.put, List.setIfInBounds_toArray, List.set_cons_zero, List.set_cons_succ, List.getElem_toArray, List.getElem_cons_zero, List.getElem_cons_succ]
          refine wpAnyH_take (i := 13) (v := ?_) rfl (by kernel_rfl) (by kernel_rfl) (by kernel_rfl) (fun _ _ _ h => h) (Or.inl ⟨by rfl, ?_⟩) hHeld ?_
          rotate_left
          · intro w hSw
            try dsimp only at hSw
            (try simp only [List.getElem_toArray, List.getElem_cons_zero, List.getElem_cons_succ])
            go_simp
            try with_reducible rfl
          try simp only [Act.put, List.setIfInBounds_toArray, List.set_cons_zero, List.set_cons_succ, List.getElem_toArray, List.getElem_cons_zero, List.getElem_cons_succ]
          refine wpAnyH_take (i := 14) (v := ?_) rfl (by kernel_rfl) (by kernel_rfl) (by kernel_rfl) (fun _ _ _ h => h) (Or.inl ⟨by rfl, ?_⟩) hHeld ?_
          rotate_left
          · intro w hSw
            try dsimp only at hSw
            (try simp only [List.getElem_toArray, List.getElem_cons_zero, List.getElem_cons_succ])
            go_simp
            try with_reducible rfl
          try simp only [Act.put, List.setIfInBounds_toArray, List.set_cons_zero, List.set_cons_succ, List.getElem_toArray, List.getElem_cons_zero, List.getElem_cons_succ]
          refine wpAnyH_take (i := 15) (v := ?_) rfl (by kernel_rfl) (by kernel_rfl) (by kernel_rfl) (fun _ _ _ h => h) (Or.inl ⟨by rfl, ?_⟩) hHeld ?_
          rotate_left
          · intro w hSw
            try dsimp only at hSw
            (try simp only [List.getElem_toArray, List.getElem_cons_zero, List.getElem_cons_succ])
            go_simp
            try with_reducible rfl
          try simp only [Act.put, List.setIfInBounds_toArray, List.set_cons_zero, List.set_cons_succ, List.getElem_toArray, List.getElem_cons_zero, List.getElem_cons_succ]
          refine wpAnyH_take (i := 16) (v := ?_) rfl (by kernel_rfl) (by kernel_rfl) (by kernel_rfl) (fun _ _ _ h => h) (Or.inl ⟨by rfl, ?_⟩) hHeld ?_
          rotate_left
          · intro w hSw
            try dsimp only at hSw
            (try simp only [List.getElem_toArray, List.getElem_cons_zero, List.getElem_cons_succ])
            go_simp
            try with_reducible rfl
          try simp only [Act.put, List.setIfInBounds_toArray, List.set_cons_zero, List.set_cons_succ, List.getElem_toArray, List.getElem_cons_zero, List.getElem_cons_succ]
          refine wpAnyH_take (i := 18) (v := ?_) rfl (by kernel_rfl) (by kernel_rfl) (by kernel_rfl) (fun _ _ _ h => h) (Or.inl ⟨by rfl, ?_⟩) hHeld ?_
          rotate_left
          · intro w hSw
            try dsimp only at hSw
            (try simp only [List.getElem_toArray, List.getElem_cons_zero, List.getElem_cons_succ])
            go_simp
            try with_reducible rfl
          try simp only [Act.put, List.setIfInBounds_toArray, List.set_cons_zero, List.set_cons_succ, List.getElem_toArray, List.getElem_cons_zero, List.getElem_cons_succ]
          refine wpAnyH_take (i := 19) (v := ?_) rfl (by kernel_rfl) (by kernel_rfl) (by kernel_rfl) (fun _ _ _ h => h) (Or.inl ⟨by rfl, ?_⟩) hHeld ?_
          rotate_left
          · intro w hSw
            try dsimp only at hSw
            (try simp only [List.getElem_toArray, List.getElem_cons_zero, List.getElem_cons_succ])
            go_simp
            try with_reducible rfl
          try simp only [Act.put, List.setIfInBounds_toArray, List.set_cons_zero, List.set_cons_succ, List.getElem_toArray, List.getElem_cons_zero, List.getElem_cons_succ]
          refine wpAnyH_ready (rs := [17]) (by kernel_rfl) (by simp) ?_
          refine AllReadyH.cons (o := _) rfl (fun K hK => ?_) ?_
          · (try simp only [List.getElem_toArray, List.getElem_cons_zero, List.getElem_cons_succ])
            go_simp
            go_at_call 41; with_reducible refine (C1 _).mono ?_; rintro e wA ⟨rfl, hbA⟩; (try replace hbA := below_undrew hbA); replace hq := below_step hq hbA; obtain ⟨p1, p2, p3, p4⟩ := (ts.below hq).cells; obtain ⟨p5, p6, p7, p8⟩ := (tt.below hq).cells; obtain ⟨q1, q2, q3, q4⟩ := (tn.below hq).cells; obtain ⟨q5, q6, q7, q8⟩ := (tm.below hq).cells; obtain ⟨r1, r2, r3, r4⟩ := (tx.below hq).cells; obtain ⟨r5, r6, r7, r8⟩ := (ty.below hq).cells; obtain ⟨s1, s2, s3, s4⟩ := (ta.below hq).cells; obtain ⟨s5, s6, s7, s8⟩ := (tb.below hq).cells
            go_wp2_with fail
            refine hK.out _ _ ?_ (fun hHeld => ?_)
            · try dsimp only
              (first | exact ⟨r1, r2, r5, r6, s1, s2, s5, s6, p1, p2⟩ | go_keep)
            clear hK K
            try simp only [Act.put, List.setIfInBounds_toArray, List.set_cons_zero, List.set_cons_succ, List.getElem_toArray, List.getElem_cons_zero, List.getElem_cons_succ]
            refine wpAnyH_ready (rs := [20]) (by kernel_rfl) (by simp) ?_
            refine AllReadyH.cons (o := _) rfl (fun K hK => ?_) ?_
            · (try simp only [List.getElem_toArray, List.getElem_cons_zero, List.getElem_cons_succ])
              go_simp
              go_at_call 42; with_reducible refine (C2 _ (by with_reducible first | exact hA.keep hq | exact hA.keep (Below.drew hq)) (by with_reducible first | exact hBb.keep hq | exact hBb.keep (Below.drew hq))).mono ?_; rintro e wB ⟨rfl, hbB⟩; (try replace hbB := below_undrew hbB); replace hq := below_step hq hbB; obtain ⟨p1, p2, p3, p4⟩ := (ts.below hq).cells; obtain ⟨p5, p6, p7, p8⟩ := (tt.below hq).cells; obtain ⟨q1, q2, q3, q4⟩ := (tn.below hq).cells; obtain ⟨q5, q6, q7, q8⟩ := (tm.below hq).cells; obtain ⟨r1, r2, r3, r4⟩ := (tx.below hq).cells; obtain ⟨r5, r6, r7, r8⟩ := (ty.below hq).cells; obtain ⟨s1, s2, s3, s4⟩ := (ta.below hq).cells; obtain ⟨s5, s6, s7, s8⟩ := (tb.below hq).cells
              go_wp2_with fail
              refine hK.out _ _ ?_ (fun hHeld => ?_)
              · try dsimp only
                (first | exact ⟨r1, r2, r5, r6, s1, s2, s5, s6, p1, p2⟩ | go_keep)
              clear hK K
              try simp only [Act.put, List.setIfInBounds_toArray, List.set_cons_zero, List.set_cons_succ, List.getElem_toArray, List.getElem_cons_zero, List.getElem_cons_succ]
              refine wpAnyH_take (i := 21) (v := ?_) rfl (by kernel_rfl) (by kernel_rfl) (by kernel_rfl) (fun _ _ _ h => h) (Or.inl ⟨by rfl, ?_⟩) hHeld ?_
              rotate_left
              · intro w hSw
                try dsimp only at hSw
                (try simp only [List.getElem_toArray, List.getElem_cons_zero, List.getElem_cons_succ])
                go_simp
                try with_reducible rfl
              try simp only [Act.put, List.setIfInBounds_toArray, List.set_cons_zero, List.set_cons_succ, List.getElem_toArray, List.getElem_cons_zero, List.getElem_cons_succ]
              refine wpAnyH_take (i := 22) (v := ?_) rfl (by kernel_rfl) (by kernel_rfl) (by kernel_rfl) (fun _ _ _ h => h) (Or.inl ⟨by rfl, ?_⟩) hHeld ?_
              rotate_left
              · intro w hSw
                try dsimp only at hSw
                (try simp only [List.getElem_toArray, List.getElem_cons_zero, List.getElem_cons_succ])
                go_simp
                try with_reducible rfl
              try simp only [Act.put, List.setIfInBounds_toArray, List.set_cons_zero, List.set_cons_succ, List.getElem_toArray, List.getElem_cons_zero, List.getElem_cons_succ]
              refine wpAnyH_take (i := 23) (v := ?_) rfl (by kernel_rfl) (by kernel_rfl) (by kernel_rfl) (fun _ _ _ h => h) (Or.inl ⟨by rfl, ?_⟩) hHeld ?_
              rotate_left
              · intro w hSw
                try dsimp only at hSw
                (try simp only [List.getElem_toArray, List.getElem_cons_zero, List.getElem_cons_succ])
                go_simp
                try with_reducible rfl
              try simp only [Act.put, List.setIfInBounds_toArray, List.set_cons_zero, List.set_cons_succ, List.getElem_toArray, List.getElem_cons_zero, List.getElem_cons_succ]
              refine wpAnyH_done (by kernel_rfl) ?_ _
              refine NoPanic.normal ?_
              go_wp2_with fail
              go_ret
              exact ⟨rfl, hB.trans (hq.mono hB.size)⟩
            exact AllReadyH.nil
          exact AllReadyH.nil
      · have hSW := HS.out.yes
        cases is
        · obtain ⟨rfl, rfl⟩ := HN.out.no
          obtain ⟨p1, p2, p3, p4⟩ := (ts.below hq).cells
          obtain ⟨p5, p6, p7, p8⟩ := (tt.below hq).cells
          obtain ⟨q1, q2, q3, q4⟩ := (tn.below hq).cells
          obtain ⟨q5, q6, q7, q8⟩ := (tm.below hq).cells
          go_wp2_with (first
          | (go_at_call 30; with_reducible refine (law_same (a + b) sh sl n3 x3 k3 c3 _ hSW (hT.keep hq)).mono ?_; rintro e w8 ⟨rfl, hb8⟩; replace hq := below_step hq hb8; obtain ⟨p1, p2, p3, p4⟩ := (ts.below hq).cells; obtain ⟨p5, p6, p7, p8⟩ := (tt.below hq).cells; obtain ⟨q1, q2, q3, q4⟩ := (tn.below hq).cells; obtain ⟨q5, q6, q7, q8⟩ := (tm.below hq).cells))
          obtain ⟨r1, r2, r3, r4⟩ := (tx.below hq).cells
          obtain ⟨r5, r6, r7, r8⟩ := (ty.below hq).cells
          obtain ⟨s1, s2, s3, s4⟩ := (ta.below hq).cells
          obtain ⟨s5, s6, s7, s8⟩ := (tb.below hq).cells
          refine wp_region_noPanic ?_
          refine wp_region_held_drew (S := (fun w' => w'.cell? ⟨b5, 0, none⟩ = some (.int .i64 h1) ∧ w'.cell? ⟨b5, 1, none⟩ = some (.int .u64 l1) ∧ w'.cell? ⟨b6, 0, none⟩ = some (.int .i64 h2) ∧ w'.cell? ⟨b6, 1, none⟩ = some (.int .u64 l2) ∧ w'.cell? ⟨b7, 0, none⟩ = some (.bool n7) ∧ w'.cell? ⟨b7, 1, none⟩ = some (.slice y7 k7 c7) ∧ w'.cell? ⟨b8, 0, none⟩ = some (.bool n8) ∧ w'.cell? ⟨b8, 1, none⟩ = some (.slice y8 k8 c8) ∧ w'.cell? ⟨w4.heap.size, 0, none⟩ = some (.int .i64 0) ∧ w'.cell? ⟨w4.heap.size, 1, none⟩ = some (.int .u64 0))) (by kernel_rfl) ?_ (fun hHeld => ?_)
          · try dsimp only
            (first | exact ⟨r1, r2, r5, r6, s1, s2, s5, s6, q1, q2⟩ | go_keep)
          refine wpAnyH_take (i := 0) (v := ?_) rfl (by kernel_rfl) (by kernel_rfl) (by kernel_rfl) (fun _ _ _ h => h) (Or.inl ⟨by rfl, ?_⟩) hHeld ?_
          rotate_left
          · intro w hSw
            try dsimp only at hSw
            (try simp only [List.getElem_toArray, List.getElem_cons_zero, List.getElem_cons_succ])
            go_simp
            try with_reducible rfl
          try simp only [Act.put, List.setIfInBounds_toArray, List.set_cons_zero, List.set_cons_succ, List.getElem_toArray, List.getElem_cons_zero, List.getElem_cons_succ]
          refine wpAnyH_take (i := 1) (v := ?_) rfl (by kernel_rfl) (by kernel_rfl) (by kernel_rfl) (fun _ _ _ h => h) (Or.inl ⟨by rfl, ?_⟩) hHeld ?_
          rotate_left
          · intro w hSw
            try dsimp only at hSw
            (try simp only [List.getElem_toArray, List.getElem_cons_zero, List.getElem_cons_succ])
            go_simp
            try with_reducible rfl
          try simp only [Act.put, List.setIfInBounds_toArray, List.set_cons_zero, List.set_cons_succ, List.getElem_toArray, List.getElem_cons_zero, List.getElem_cons_succ]
          refine wpAnyH_take (i := 2) (v := undef) rfl (by kernel_rfl) (by kernel_rfl) (by kernel_rfl) (fun _ _ _ h => h) (Or.inr ⟨by rfl, rfl⟩) hHeld ?_
          try simp only [Act.put, List.setIfInBounds_toArray, List.set_cons_zero, List.set_cons_succ, List.getElem_toArray, List.getElem_cons_zero, List.getElem_cons_succ]
          refine wpAnyH_take (i := 3) (v := undef) rfl (by kernel_rfl) (by kernel_rfl) (by kernel_rfl) (fun _ _ _ h => h) (Or.inr ⟨by rfl, rfl⟩) hHeld ?_
          try simp only [Act.put, List.setIfInBounds_toArray, List.set_cons_zero, List.set_cons_succ, List.getElem_toArray, List.getElem_cons_zero, List.getElem_cons_succ]
          refine wpAnyH_take (i := 4) (v := undef) rfl (by kernel_rfl) (by kernel_rfl) (by kernel_rfl) (fun _ _ _ h => h) (Or.inr ⟨by rfl, rfl⟩) hHeld ?_
          try simp only [Act.put, List.setIfInBounds_toArray, List.set_cons_zero, List.set_cons_succ, List.getElem_toArray, List.getElem_cons_zero, List.getElem_cons_succ]
          refine wpAnyH_take (i := 5) (v := ?_) rfl (by kernel_rfl) (by kernel_rfl) (by kernel_rfl) (fun _ _ _ h => h) (Or.inl ⟨by rfl, ?_⟩) hHeld ?_
          rotate_left
          · intro w hSw
            try dsimp only at hSw
            (try simp only [List.getElem_toArray, List.getElem_cons_zero, List.getElem_cons_succ])
            go_simp
            try with_reducible rfl
          try simp only [Act.put, List.setIfInBounds_toArray, List.set_cons_zero, List.set_cons_succ, List.getElem_toArray, List.getElem_cons_zero, List.getElem_cons_succ]
          refine wpAnyH_take (i := 6) (v := ?_) rfl (by kernel_rfl) (by kernel_rfl) (by kernel_rfl) (fun _ _ _ h => h) (Or.inl ⟨by rfl, ?_⟩) hHeld ?_
          rotate_left
          · intro w hSw
            try dsimp only at hSw
            (try simp only [List.getElem_toArray, List.getElem_cons_zero, List.getElem_cons_succ])
            go_simp
            try with_reducible rfl
          try simp only [Act.put, List.setIfInBounds_toArray, List.set_cons_zero, List.set_cons_succ, List.getElem_toArray, List.getElem_cons_zero, List.getElem_cons_succ]
          refine wpAnyH_take (i := 7) (v := ?_) rfl (by kernel_rfl) (by kernel_rfl) (by kernel_rfl) (fun _ _ _ h => h) (Or.inl ⟨by rfl, ?_⟩) hHeld ?_
          rotate_left
          · intro w hSw
            try dsimp only at hSw
            (try simp only [List.getElem_toArray, List.getElem_cons_zero, List.getElem_cons_succ])
            go_simp
            try with_reducible rfl
          try simp only [Act.put, List.setIfInBounds_toArray, List.set_cons_zero, List.set_cons_succ, List.getElem_toArray, List.getElem_cons_zero, List.getElem_cons_succ]
          refine wpAnyH_take (i := 8) (v := ?_) rfl (by kernel_rfl) (by kernel_rfl) (by kernel_rfl) (fun _ _ _ h => h) (Or.inl ⟨by rfl, ?_⟩) hHeld ?_
          rotate_left
          · intro w hSw
            try dsimp only at hSw
            (try simp only [List.getElem_toArray, List.getElem_cons_zero, List.getElem_cons_succ])
            go_simp
            try with_reducible rfl
          try simp only [Act.put, List.setIfInBounds_toArray, List.set_cons_zero, List.set_cons_succ, List.getElem_toArray, List.getElem_cons_zero, List.getElem_cons_succ]
          refine wpAnyH_take (i := 9) (v := ?_) rfl (by kernel_rfl) (by kernel_rfl) (by kernel_rfl) (fun _ _ _ h => h) (Or.inl ⟨by rfl, ?_⟩) hHeld ?_
          rotate_left
          · intro w hSw
            try dsimp only at hSw
            (try simp only [List.getElem_toArray, List.getElem_cons_zero, List.getElem_cons_succ])
            go_simp
            try with_reducible rfl
          try simp only [Act.put, List.setIfInBounds_toArray, List.set_cons_zero, List.set_cons_succ, List.getElem_toArray, List.getElem_cons_zero, List.getElem_cons_succ]
          refine wpAnyH_take (i := 10) (v := ?_) rfl (by kernel_rfl) (by kernel_rfl) (by kernel_rfl) (fun _ _ _ h => h) (Or.inl ⟨by rfl, ?_⟩) hHeld ?_
          rotate_left
          · intro w hSw
            try dsimp only at hSw
            (try simp only [List.getElem_toArray, List.getElem_cons_zero, List.getElem_cons_succ])
            go_simp
            try with_reducible rfl
          try simp only [Act.put, List.setIfInBounds_toArray, List.set_cons_zero, List.set_cons_succ, List.getElem_toArray, List.getElem_cons_zero, List.getElem_cons_succ]
          refine wpAnyH_take (i := 11) (v := ?_) rfl (by kernel_rfl) (by kernel_rfl) (by kernel_rfl) (fun _ _ _ h => h) (Or.inl ⟨by rfl, ?_⟩) hHeld ?_
          rotate_left
          · intro w hSw
            try dsimp only at hSw
            (try simp only [List.getElem_toArray, List.getElem_cons_zero, List.getElem_cons_succ])
            go_simp
            try with_reducible rfl
          try simp only [Act.put, List.setIfInBounds_toArray, List.set_cons_zero, List.set_cons_succ, List.getElem_toArray, List.getElem_cons_zero, List.getElem_cons_succ]
          refine wpAnyH_take (i := 12) (v := ?_) rfl (by kernel_rfl) (by kernel_rfl) (by kernel_rfl) (fun _ _ _ h => h) (Or.inl ⟨by rfl, ?_⟩) hHeld ?_
          rotate_left
          · intro w hSw
            try dsimp only at hSw
            (try simp only [List.getElem_toArray, List.getElem_cons_zero, List.getElem_cons_succ])
            go_simp
            try with_reducible rfl
          try simp only [Act.put, List.setIfInBounds_toArray, List.set_cons_zero, List.set_cons_succ, List.getElem_toArray, List.getElem_cons_zero, List.getElem_cons_succ]
          refine wpAnyH_take (i := 13) (v := ?_) rfl (by kernel_rfl) (by kernel_rfl) (by kernel_rfl) (fun _ _ _ h => h) (Or.inl ⟨by rfl, ?_⟩) hHeld ?_
          rotate_left
          · intro w hSw
            try dsimp only at hSw
            (try simp only [List.getElem_toArray, List.getElem_cons_zero, List.getElem_cons_succ])
            go_simp
            try with_reducible rfl
          try simp only [Act.put, List.setIfInBounds_toArray, List.set_cons_zero, List.set_cons_succ, List.getElem_toArray, List.getElem_cons_zero, List.getElem_cons_succ]
          refine wpAnyH_take (i := 14) (v := ?_) rfl (by kernel_rfl) (by kernel_rfl) (by kernel_rfl) (fun _ _ _ h => h) (Or.inl ⟨by rfl, ?_⟩) hHeld ?_
          rotate_left
          · intro w hSw
            try dsimp only at hSw
            (try simp only [List.getElem_toArray, List.getElem_cons_zero, List.getElem_cons_succ])
            go_simp
            try with_reducible rfl
          try simp only [Act.put, List.setIfInBounds_toArray, List.set_cons_zero, List.set_cons_succ, List.getElem_toArray, List.getElem_cons_zero, List.getElem_cons_succ]
          refine wpAnyH_take (i := 15) (v := ?_) rfl (by kernel_rfl) (by kernel_rfl) (by kernel_rfl) (fun _ _ _ h => h) (Or.inl ⟨by rfl, ?_⟩) hHeld ?_
          rotate_left
          · intro w hSw
            try dsimp only at hSw
            (try simp only [List.getElem_toArray, List.getElem_cons_zero, List.getElem_cons_succ])
            go_simp
            try with_reducible rfl
          try simp only [Act.put, List.setIfInBounds_toArray, List.set_cons_zero, List.set_cons_succ, List.getElem_toArray, List.getElem_cons_zero, List.getElem_cons_succ]
          refine wpAnyH_take (i := 16) (v := ?_) rfl (by kernel_rfl) (by kernel_rfl) (by kernel_rfl) (fun _ _ _ h => h) (Or.inl ⟨by rfl, ?_⟩) hHeld ?_
          rotate_left
          · intro w hSw
            try dsimp only at hSw
            (try simp only [List.getElem_toArray, List.getElem_cons_zero, List.getElem_cons_succ])
            go_simp
            try with_reducible rfl
          try simp only [Act.put, List.setIfInBounds_toArray, List.set_cons_zero, List.set_cons_succ, List.getElem_toArray, List.getElem_cons_zero, List.getElem_cons_succ]
          refine wpAnyH_take (i := 18) (v := ?_) rfl (by kernel_rfl) (by kernel_rfl) (by kernel_rfl) (fun _ _ _ h => h) (Or.inl ⟨by rfl, ?_⟩) hHeld ?_
          rotate_left
          · intro w hSw
            try dsimp only at hSw
            (try simp only [List.getElem_toArray, List.getElem_cons_zero, List.getElem_cons_succ])
            go_simp
            try with_reducible rfl
          try simp only [Act.put, List.setIfInBounds_toArray, List.set_cons_zero, List.set_cons_succ, List.getElem_toArray, List.getElem_cons_zero, List.getElem_cons_succ]
          refine wpAnyH_take (i := 19) (v := ?_) rfl (by kernel_rfl) (by kernel_rfl) (by kernel_rfl) (fun _ _ _ h => h) (Or.inl ⟨by rfl, ?_⟩) hHeld ?_
          rotate_left
          · intro w hSw
            try dsimp only at hSw
            (try simp only [List.getElem_toArray, List.getElem_cons_zero, List.getElem_cons_succ])
            go_simp
            try with_reducible rfl
          try simp only [Act.put, List.setIfInBounds_toArray, List.set_cons_zero, List.set_cons_succ, List.getElem_toArray, List.getElem_cons_zero, List.getElem_cons_succ]
          refine wpAnyH_ready (rs := [17]) (by kernel_rfl) (by simp) ?_
          refine AllReadyH.cons (o := _) rfl (fun K hK => ?_) ?_
          · (try simp only [List.getElem_toArray, List.getElem_cons_zero, List.getElem_cons_succ])
            go_simp
            go_at_call 41; with_reducible refine (C1 _).mono ?_; rintro e wA ⟨rfl, hbA⟩; (try replace hbA := below_undrew hbA); replace hq := below_step hq hbA; obtain ⟨p1, p2, p3, p4⟩ := (ts.below hq).cells; obtain ⟨p5, p6, p7, p8⟩ := (tt.below hq).cells; obtain ⟨q1, q2, q3, q4⟩ := (tn.below hq).cells; obtain ⟨q5, q6, q7, q8⟩ := (tm.below hq).cells; obtain ⟨r1, r2, r3, r4⟩ := (tx.below hq).cells; obtain ⟨r5, r6, r7, r8⟩ := (ty.below hq).cells; obtain ⟨s1, s2, s3, s4⟩ := (ta.below hq).cells; obtain ⟨s5, s6, s7, s8⟩ := (tb.below hq).cells
            go_wp2_with fail
            refine hK.out _ _ ?_ (fun hHeld => ?_)
            · try dsimp only
              (first | exact ⟨r1, r2, r5, r6, s1, s2, s5, s6, q1, q2⟩ | go_keep)
            clear hK K
            try simp only [Act.put, List.setIfInBounds_toArray, List.set_cons_zero, List.set_cons_succ, List.getElem_toArray, List.getElem_cons_zero, List.getElem_cons_succ]
            refine wpAnyH_ready (rs := [20]) (by kernel_rfl) (by simp) ?_
            refine AllReadyH.cons (o := _) rfl (fun K hK => ?_) ?_
            · (try simp only [List.getElem_toArray, List.getElem_cons_zero, List.getElem_cons_succ])
              go_simp
              go_at_call 42; with_reducible refine (C2 _ (by with_reducible first | exact hA.keep hq | exact hA.keep (Below.drew hq)) (by with_reducible first | exact hBb.keep hq | exact hBb.keep (Below.drew hq))).mono ?_; rintro e wB ⟨rfl, hbB⟩; (try replace hbB := below_undrew hbB); replace hq := below_step hq hbB; obtain ⟨p1, p2, p3, p4⟩ := (ts.below hq).cells; obtain ⟨p5, p6, p7, p8⟩ := (tt.below hq).cells; obtain ⟨q1, q2, q3, q4⟩ := (tn.below hq).cells; obtain ⟨q5, q6, q7, q8⟩ := (tm.below hq).cells; obtain ⟨r1, r2, r3, r4⟩ := (tx.below hq).cells; obtain ⟨r5, r6, r7, r8⟩ := (ty.below hq).cells; obtain ⟨s1, s2, s3, s4⟩ := (ta.below hq).cells; obtain ⟨s5, s6, s7, s8⟩ := (tb.below hq).cells
              go_wp2_with fail
              refine hK.out _ _ ?_ (fun hHeld => ?_)
              · try dsimp only
                (first | exact ⟨r1, r2, r5, r6, s1, s2, s5, s6, q1, q2⟩ | go_keep)
              clear hK K
              try simp only [Act.put, List.setIfInBounds_toArray, List.set_cons_zero, List.set_cons_succ, List.getElem_toArray, List.getElem_cons_zero, List.getElem_cons_succ]
              refine wpAnyH_take (i := 21) (v := ?_) rfl (by kernel_rfl) (by kernel_rfl) (by kernel_rfl) (fun _ _ _ h => h) (Or.inl ⟨by rfl, ?_⟩) hHeld ?_
              rotate_left
              · intro w hSw
                try dsimp only at hSw
                (try simp only [List.getElem_toArray, List.getElem_cons_zero, List.getElem_cons_succ])
                go_simp
                try with_reducible rfl
              try simp only [Act.put, List.setIfInBounds_toArray, List.set_cons_zero, List.set_cons_succ, List.getElem_toArray, List.getElem_cons_zero, List.getElem_cons_succ]
              refine wpAnyH_take (i := 22) (v := ?_) rfl (by kernel_rfl) (by kernel_rfl) (by kernel_rfl) (fun _ _ _ h => h) (Or.inl ⟨by rfl, ?_⟩) hHeld ?_
              rotate_left
              · intro w hSw
                try dsimp only at hSw
                (try simp only [List.getElem_toArray, List.getElem_cons_zero, List.getElem_cons_succ])
                go_simp
                try with_reducible rfl
              try simp only [Act.put, List.setIfInBounds_toArray, List.set_cons_zero, List.set_cons_succ, List.getElem_toArray, List.getElem_cons_zero, List.getElem_cons_succ]
              refine wpAnyH_take (i := 23) (v := ?_) rfl (by kernel_rfl) (by kernel_rfl) (by kernel_rfl) (fun _ _ _ h => h) (Or.inl ⟨by rfl, ?_⟩) hHeld ?_
              rotate_left
              · intro w hSw
                try dsimp only at hSw
                (try simp only [List.getElem_toArray, List.getElem_cons_zero, List.getElem_cons_succ])
                go_simp
                try with_reducible rfl
              try simp only [Act.put, List.setIfInBounds_toArray, List.set_cons_zero, List.set_cons_succ, List.getElem_toArray, List.getElem_cons_zero, List.getElem_cons_succ]
              refine wpAnyH_done (by kernel_rfl) ?_ _
              refine NoPanic.normal ?_
              go_wp2_with fail
              go_ret
              exact ⟨rfl, hB.trans (hq.mono hB.size)⟩
            exact AllReadyH.nil
          exact AllReadyH.nil
        · have hNW := HN.out.yes
          obtain ⟨p1, p2, p3, p4⟩ := (ts.below hq).cells
          obtain ⟨p5, p6, p7, p8⟩ := (tt.below hq).cells
          obtain ⟨q1, q2, q3, q4⟩ := (tn.below hq).cells
          obtain ⟨q5, q6, q7, q8⟩ := (tm.below hq).cells
          go_wp2_with (first
          | (go_at_call 30; with_reducible refine (law_same (a + b) sh sl n3 x3 k3 c3 _ hSW (hT.keep hq)).mono ?_; rintro e w8 ⟨rfl, hb8⟩; replace hq := below_step hq hb8; obtain ⟨p1, p2, p3, p4⟩ := (ts.below hq).cells; obtain ⟨p5, p6, p7, p8⟩ := (tt.below hq).cells; obtain ⟨q1, q2, q3, q4⟩ := (tn.below hq).cells; obtain ⟨q5, q6, q7, q8⟩ := (tm.below hq).cells)
          | (go_at_call 30; with_reducible refine (law_same (-a) nh nl n5 x5 k5 c5 _ hNW (hM.keep hq)).mono ?_; rintro e w9 ⟨rfl, hb9⟩; replace hq := below_step hq hb9; obtain ⟨p1, p2, p3, p4⟩ := (ts.below hq).cells; obtain ⟨p5, p6, p7, p8⟩ := (tt.below hq).cells; obtain ⟨q1, q2, q3, q4⟩ := (tn.below hq).cells; obtain ⟨q5, q6, q7, q8⟩ := (tm.below hq).cells))
          obtain ⟨r1, r2, r3, r4⟩ := (tx.below hq).cells
          obtain ⟨r5, r6, r7, r8⟩ := (ty.below hq).cells
          obtain ⟨s1, s2, s3, s4⟩ := (ta.below hq).cells
          obtain ⟨s5, s6, s7, s8⟩ := (tb.below hq).cells
          refine wp_region_noPanic ?_
          refine wp_region_held_drew (S := (fun w' => w'.cell? ⟨b5, 0, none⟩ = some (.int .i64 h1) ∧ w'.cell? ⟨b5, 1, none⟩ = some (.int .u64 l1) ∧ w'.cell? ⟨b6, 0, none⟩ = some (.int .i64 h2) ∧ w'.cell? ⟨b6, 1, none⟩ = some (.int .u64 l2) ∧ w'.cell? ⟨b7, 0, none⟩ = some (.bool n7) ∧ w'.cell? ⟨b7, 1, none⟩ = some (.slice y7 k7 c7) ∧ w'.cell? ⟨b8, 0, none⟩ = some (.bool n8) ∧ w'.cell? ⟨b8, 1, none⟩ = some (.slice y8 k8 c8))) (by kernel_rfl) ?_ (fun hHeld => ?_)
          · try dsimp only
            (first | exact ⟨r1, r2, r5, r6, s1, s2, s5, s6⟩ | go_keep)
          refine wpAnyH_take (i := 0) (v := ?_) rfl (by kernel_rfl) (by kernel_rfl) (by kernel_rfl) (fun _ _ _ h => h) (Or.inl ⟨by rfl, ?_⟩) hHeld ?_
          rotate_left
          · intro w hSw
            try dsimp only at hSw
            (try simp only [List.getElem_toArray, List.getElem_cons_zero, List.getElem_cons_succ])
            go_simp
            try with_reducible rfl
          try simp only [Act.put, List.setIfInBounds_toArray, List.set_cons_zero, List.set_cons_succ, List.getElem_toArray, List.getElem_cons_zero, List.getElem_cons_succ]
          refine wpAnyH_take (i := 1) (v := ?_) rfl (by kernel_rfl) (by kernel_rfl) (by kernel_rfl) (fun _ _ _ h => h) (Or.inl ⟨by rfl, ?_⟩) hHeld ?_
          rotate_left
          · intro w hSw
            try dsimp only at hSw
            (try simp only [List.getElem_toArray, List.getElem_cons_zero, List.getElem_cons_succ])
            go_simp
            try with_reducible rfl
          try simp only [Act.put, List.setIfInBounds_toArray, List.set_cons_zero, List.set_cons_succ, List.getElem_toArray, List.getElem_cons_zero, List.getElem_cons_succ]
          refine wpAnyH_take (i := 2) (v := undef) rfl (by kernel_rfl) (by kernel_rfl) (by kernel_rfl) (fun _ _ _ h => h) (Or.inr ⟨by rfl, rfl⟩) hHeld ?_
          try simp only [Act.put, List.setIfInBounds_toArray, List.set_cons_zero, List.set_cons_succ, List.getElem_toArray, List.getElem_cons_zero, List.getElem_cons_succ]
          refine wpAnyH_take (i := 3) (v := undef) rfl (by kernel_rfl) (by kernel_rfl) (by kernel_rfl) (fun _ _ _ h => h) (Or.inr ⟨by rfl, rfl⟩) hHeld ?_
          try simp only [Act.put, List.setIfInBounds_toArray, List.set_cons_zero, List.set_cons_succ, List.getElem_toArray, List.getElem_cons_zero, List.getElem_cons_succ]
          refine wpAnyH_take (i := 4) (v := undef) rfl (by kernel_rfl) (by kernel_rfl) (by kernel_rfl) (fun _ _ _ h => h) (Or.inr ⟨by rfl, rfl⟩) hHeld ?_
          try simp only [Act.put, List.setIfInBounds_toArray, List.set_cons_zero, List.set_cons_succ, List.getElem_toArray, List.getElem_cons_zero, List.getElem_cons_succ]
          refine wpAnyH_take (i := 5) (v := ?_) rfl (by kernel_rfl) (by kernel_rfl) (by kernel_rfl) (fun _ _ _ h => h) (Or.inl ⟨by rfl, ?_⟩) hHeld ?_
          rotate_left
          · intro w hSw
            try dsimp only at hSw
            (try simp only [List.getElem_toArray, List.getElem_cons_zero, List.getElem_cons_succ])
            go_simp
            try with_reducible rfl
          try simp only [Act.put, List.setIfInBounds_toArray, List.set_cons_zero, List.set_cons_succ, List.getElem_toArray, List.getElem_cons_zero, List.getElem_cons_succ]
          refine wpAnyH_take (i := 6) (v := ?_) rfl (by kernel_rfl) (by kernel_rfl) (by kernel_rfl) (fun _ _ _ h => h) (Or.inl ⟨by rfl, ?_⟩) hHeld ?_
          rotate_left
          · intro w hSw
            try dsimp only at hSw
            (try simp only [List.getElem_toArray, List.getElem_cons_zero, List.getElem_cons_succ])
            go_simp
            try with_reducible rfl
          try simp only [Act.put, List.setIfInBounds_toArray, List.set_cons_zero, List.set_cons_succ, List.getElem_toArray, List.getElem_cons_zero, List.getElem_cons_succ]
          refine wpAnyH_take (i := 7) (v := ?_) rfl (by kernel_rfl) (by kernel_rfl) (by kernel_rfl) (fun _ _ _ h => h) (Or.inl ⟨by rfl, ?_⟩) hHeld ?_
          rotate_left
          · intro w hSw
            try dsimp only at hSw
            (try simp only [List.getElem_toArray, List.getElem_cons_zero, List.getElem_cons_succ])
            go_simp
            try with_reducible rfl
          try simp only [Act.put, List.setIfInBounds_toArray, List.set_cons_zero, List.set_cons_succ, List.getElem_toArray, List.getElem_cons_zero, List.getElem_cons_succ]
          refine wpAnyH_take (i := 8) (v := ?_) rfl (by kernel_rfl) (by kernel_rfl) (by kernel_rfl) (fun _ _ _ h => h) (Or.inl ⟨by rfl, ?_⟩) hHeld ?_
          rotate_left
          · intro w hSw
            try dsimp only at hSw
            (try simp only [List.getElem_toArray, List.getElem_cons_zero, List.getElem_cons_succ])
            go_simp
            try with_reducible rfl
          try simp only [Act.put, List.setIfInBounds_toArray, List.set_cons_zero, List.set_cons_succ, List.getElem_toArray, List.getElem_cons_zero, List.getElem_cons_succ]
          refine wpAnyH_take (i := 9) (v := undef) rfl (by kernel_rfl) (by kernel_rfl) (by kernel_rfl) (fun _ _ _ h => h) (Or.inr ⟨by rfl, rfl⟩) hHeld ?_
          try simp only [Act.put, List.setIfInBounds_toArray, List.set_cons_zero, List.set_cons_succ, List.getElem_toArray, List.getElem_cons_zero, List.getElem_cons_succ]
          refine wpAnyH_take (i := 10) (v := undef) rfl (by kernel_rfl) (by kernel_rfl) (by kernel_rfl) (fun _ _ _ h => h) (Or.inr ⟨by rfl, rfl⟩) hHeld ?_
          try simp only [Act.put, List.setIfInBounds_toArray, List.set_cons_zero, List.set_cons_succ, List.getElem_toArray, List.getElem_cons_zero, List.getElem_cons_succ]
          refine wpAnyH_take (i := 11) (v := undef) rfl (by kernel_rfl) (by kernel_rfl) (by kernel_rfl) (fun _ _ _ h => h) (Or.inr ⟨by rfl, rfl⟩) hHeld ?_
          try simp only [Act.put, List.setIfInBounds_toArray, List.set_cons_zero, List.set_cons_succ, List.getElem_toArray, List.getElem_cons_zero, List.getElem_cons_succ]
          refine wpAnyH_take (i := 12) (v := ?_) rfl (by kernel_rfl) (by kernel_rfl) (by kernel_rfl) (fun _ _ _ h => h) (Or.inl ⟨by rfl, ?_⟩) hHeld ?_
          rotate_left
          · intro w hSw
            try dsimp only at hSw
            (try simp only [List.getElem_toArray, List.getElem_cons_zero, List.getElem_cons_succ])
            go_simp
            try with_reducible rfl
          try simp only [Act.put, List.setIfInBounds_toArray, List.set_cons_zero, List.set_cons_succ, List.getElem_toArray, List.getElem_cons_zero, List.getElem_cons_succ]
          refine wpAnyH_take (i := 13) (v := ?_) rfl (by kernel_rfl) (by kernel_rfl) (by kernel_rfl) (fun _ _ _ h => h) (Or.inl ⟨by rfl, ?_⟩) hHeld ?_
          rotate_left
          · intro w hSw
            try dsimp only at hSw
            (try simp only [List.getElem_toArray, List.getElem_cons_zero, List.getElem_cons_succ])
            go_simp
            try with_reducible rfl
          try simp only [Act.put, List.setIfInBounds_toArray, List.set_cons_zero, List.set_cons_succ, List.getElem_toArray, List.getElem_cons_zero, List.getElem_cons_succ]
          refine wpAnyH_take (i := 14) (v := ?_) rfl (by kernel_rfl) (by kernel_rfl) (by kernel_rfl) (fun _ _ _ h => h) (Or.inl ⟨by rfl, ?_⟩) hHeld ?_
          rotate_left
          · intro w hSw
            try dsimp only at hSw
            (try simp only [List.getElem_toArray, List.getElem_cons_zero, List.getElem_cons_succ])
            go_simp
            try with_reducible rfl
          try simp only [Act.put, List.setIfInBounds_toArray, List.set_cons_zero, List.set_cons_succ, List.getElem_toArray, List.getElem_cons_zero, List.getElem_cons_succ]
          refine wpAnyH_take (i := 15) (v := ?_) rfl (by kernel_rfl) (by kernel_rfl) (by kernel_rfl) (fun _ _ _ h => h) (Or.inl ⟨by rfl, ?_⟩) hHeld ?_
          rotate_left
          · intro w hSw
            try dsimp only at hSw
            (try simp only [List.getElem_toArray, List.getElem_cons_zero, List.getElem_cons_succ])
            go_simp
            try with_reducible rfl
          try simp only [Act.put, List.setIfInBounds_toArray, List.set_cons_zero, List.set_cons_succ, List.getElem_toArray, List.getElem_cons_zero, List.getElem_cons_succ]
          refine wpAnyH_take (i := 16) (v := ?_) rfl (by kernel_rfl) (by kernel_rfl) (by kernel_rfl) (fun _ _ _ h => h) (Or.inl ⟨by rfl, ?_⟩) hHeld ?_
          rotate_left
          · intro w hSw
            try dsimp only at hSw
            (try simp only [List.getElem_toArray, List.getElem_cons_zero, List.getElem_cons_succ])
            go_simp
            try with_reducible rfl
          try simp only [Act.put, List.setIfInBounds_toArray, List.set_cons_zero, List.set_cons_succ, List.getElem_toArray, List.getElem_cons_zero, List.getElem_cons_succ]
          refine wpAnyH_take (i := 18) (v := ?_) rfl (by kernel_rfl) (by kernel_rfl) (by kernel_rfl) (fun _ _ _ h => h) (Or.inl ⟨by rfl, ?_⟩) hHeld ?_
          rotate_left
          · intro w hSw
            try dsimp only at hSw
            (try simp only [List.getElem_toArray, List.getElem_cons_zero, List.getElem_cons_succ])
            go_simp
            try with_reducible rfl
          try simp only [Act.put, List.setIfInBounds_toArray, List.set_cons_zero, List.set_cons_succ, List.getElem_toArray, List.getElem_cons_zero, List.getElem_cons_succ]
          refine wpAnyH_take (i := 19) (v := ?_) rfl (by kernel_rfl) (by kernel_rfl) (by kernel_rfl) (fun _ _ _ h => h) (Or.inl ⟨by rfl, ?_⟩) hHeld ?_
          rotate_left
          · intro w hSw
            try dsimp only at hSw
            (try simp only [List.getElem_toArray, List.getElem_cons_zero, List.getElem_cons_succ])
            go_simp
            try with_reducible rfl
          try simp only [Act.put, List.setIfInBounds_toArray, List.set_cons_zero, List.set_cons_succ, List.getElem_toArray, List.getElem_cons_zero, List.getElem_cons_succ]
          refine wpAnyH_ready (rs := [17]) (by kernel_rfl) (by simp) ?_
          refine AllReadyH.cons (o := _) rfl (fun K hK => ?_) ?_
          · (try simp only [List.getElem_toArray, List.getElem_cons_zero, List.getElem_cons_succ])
            go_simp
            go_at_call 41; with_reducible refine (C1 _).mono ?_; rintro e wA ⟨rfl, hbA⟩; (try replace hbA := below_undrew hbA); replace hq := below_step hq hbA; obtain ⟨p1, p2, p3, p4⟩ := (ts.below hq).cells; obtain ⟨p5, p6, p7, p8⟩ := (tt.below hq).cells; obtain ⟨q1, q2, q3, q4⟩ := (tn.below hq).cells; obtain ⟨q5, q6, q7, q8⟩ := (tm.below hq).cells; obtain ⟨r1, r2, r3, r4⟩ := (tx.below hq).cells; obtain ⟨r5, r6, r7, r8⟩ := (ty.below hq).cells; obtain ⟨s1, s2, s3, s4⟩ := (ta.below hq).cells; obtain ⟨s5, s6, s7, s8⟩ := (tb.below hq).cells
            go_wp2_with fail
            refine hK.out _ _ ?_ (fun hHeld => ?_)
            · try dsimp only
              (first | exact ⟨r1, r2, r5, r6, s1, s2, s5, s6⟩ | go_keep)
            clear hK K
            try simp only [Act.put, List.setIfInBounds_toArray, List.set_cons_zero, List.set_cons_succ, List.getElem_toArray, List.getElem_cons_zero, List.getElem_cons_succ]
            refine wpAnyH_ready (rs := [20]) (by kernel_rfl) (by simp) ?_
            refine AllReadyH.cons (o := _) rfl (fun K hK => ?_) ?_
            · (try simp only [List.getElem_toArray, List.getElem_cons_zero, List.getElem_cons_succ])
              go_simp
              go_at_call 42; with_reducible refine (C2 _ (by with_reducible first | exact hA.keep hq | exact hA.keep (Below.drew hq)) (by with_reducible first | exact hBb.keep hq | exact hBb.keep (Below.drew hq))).mono ?_; rintro e wB ⟨rfl, hbB⟩; (try replace hbB := below_undrew hbB); replace hq := below_step hq hbB; obtain ⟨p1, p2, p3, p4⟩ := (ts.below hq).cells; obtain ⟨p5, p6, p7, p8⟩ := (tt.below hq).cells; obtain ⟨q1, q2, q3, q4⟩ := (tn.below hq).cells; obtain ⟨q5, q6, q7, q8⟩ := (tm.below hq).cells; obtain ⟨r1, r2, r3, r4⟩ := (tx.below hq).cells; obtain ⟨r5, r6, r7, r8⟩ := (ty.below hq).cells; obtain ⟨s1, s2, s3, s4⟩ := (ta.below hq).cells; obtain ⟨s5, s6, s7, s8⟩ := (tb.below hq).cells
              go_wp2_with fail
              refine hK.out _ _ ?_ (fun hHeld => ?_)
              · try dsimp only
                (first | exact ⟨r1, r2, r5, r6, s1, s2, s5, s6⟩ | go_keep)
              clear hK K
              try simp only [Act.put, List.setIfInBounds_toArray, List.set_cons_zero, List.set_cons_succ, List.getElem_toArray, List.getElem_cons_zero, List.getElem_cons_succ]
              refine wpAnyH_take (i := 21) (v := ?_) rfl (by kernel_rfl) (by kernel_rfl) (by kernel_rfl) (fun _ _ _ h => h) (Or.inl ⟨by rfl, ?_⟩) hHeld ?_
              rotate_left
              · intro w hSw
                try dsimp only at hSw
                (try simp only [List.getElem_toArray, List.getElem_cons_zero, List.getElem_cons_succ])
                go_simp
                try with_reducible rfl
              try simp only [Act.put, List.setIfInBounds_toArray, List.set_cons_zero, List.set_cons_succ, List.getElem_toArray, List.getElem_cons_zero, List.getElem_cons_succ]
              refine wpAnyH_take (i := 22) (v := ?_) rfl (by kernel_rfl) (by kernel_rfl) (by kernel_rfl) (fun _ _ _ h => h) (Or.inl ⟨by rfl, ?_⟩) hHeld ?_
              rotate_left
              · intro w hSw
                try dsimp only at hSw
                (try simp only [List.getElem_toArray, List.getElem_cons_zero, List.getElem_cons_succ])
                go_simp
                try with_reducible rfl
              try simp only [Act.put, List.setIfInBounds_toArray, List.set_cons_zero, List.set_cons_succ, List.getElem_toArray, List.getElem_cons_zero, List.getElem_cons_succ]
              refine wpAnyH_take (i := 23) (v := ?_) rfl (by kernel_rfl) (by kernel_rfl) (by kernel_rfl) (fun _ _ _ h => h) (Or.inl ⟨by rfl, ?_⟩) hHeld ?_
              rotate_left
              · intro w hSw
                try dsimp only at hSw
                (try simp only [List.getElem_toArray, List.getElem_cons_zero, List.getElem_cons_succ])
                go_simp
                try with_reducible rfl
              try simp only [Act.put, List.setIfInBounds_toArray, List.set_cons_zero, List.set_cons_succ, List.getElem_toArray, List.getElem_cons_zero, List.getElem_cons_succ]
              refine wpAnyH_done (by kernel_rfl) ?_ _
              refine NoPanic.normal ?_
              go_wp2_with fail
              go_ret
              exact ⟨rfl, hB.trans (hq.mono hB.size)⟩
            exact AllReadyH.nil
          exact AllReadyH.nil
end Go.Proofs.Ythffphcgkmjhbaa
