/-
  The reference of layer 4: Pixels; and the statement FixedPixels.
-/
import Derived.Test.YthffphcgkmjhbaaLawF
import Derived.Test.YthffphcgkmjhbaaLawC
namespace Go.Proofs.Ythffphcgkmjhbaa
open Go.RowKit
set_option linter.unusedSimpArgs false
set_option linter.unusedVariables false

theorem fq64 (x : Int) : fq x 64 = x / 64 := by unfold fq; rw [if_neg (by decide)]
theorem big_ofu63 (W : World) : Calls Try.prog 98 #[.int .u64 63] W (BigRet 63 W) := big_ofu 63 (by omega) W
theorem big_ofu32 (W : World) : Calls Try.prog 98 #[.int .u64 32] W (BigRet 32 W) := big_ofu 32 (by omega) W
theorem big_ofu64 (W : World) : Calls Try.prog 98 #[.int .u64 64] W (BigRet 64 W) := big_ofu 64 (by omega) W
theorem Two.drew {w : World} {b : Nat} {x y : Value} (h : Two w b x y) : Two w.drew b x y := h
theorem Two.belowX {w w' : World} {b : Nat} {x y : Value} (hb : Below w.heap.size w w') (h : Two w b x y) : Two w' b x y := h.below hb
theorem Two.putE {w : World} {b : Nat} (h : ∃ x y, Two w b x y) (u v : Value) : Two ((w.setCell ⟨b, 0, none⟩ u).setCell ⟨b, 1, none⟩ v) b u v := by
  obtain ⟨x, y, h⟩ := h; exact h.put u v
theorem Two.putE_other {w : World} {b c : Nat} (h : ∃ x y, Two w b x y) (hc : b ≠ c) (u v : Value) : ∃ x y, Two ((w.setCell ⟨c, 0, none⟩ u).setCell ⟨c, 1, none⟩ v) b x y := by
  obtain ⟨x, y, h⟩ := h; exact ⟨x, y, h.put_other hc u v⟩
theorem Two.newS (w : World) (b : Nat) (u v x y : Value) : Two (((w.setCell ⟨b, 0, none⟩ u).setCell ⟨b, 1, none⟩ v).alloc (.cells #[x, y] 29)) w.heap.size x y := Two.new _ _ _ _ (by simp [World.setCell])
theorem Two.new1 (w : World) (x y : Value) (o : Obj) : Two ((w.alloc o).alloc (.cells #[x, y] 29)) (w.heap.size + 1) x y := Two.new _ _ _ _ (by simp)
theorem IsBig.allocd {w : World} {neg : Bool} {ao : Option Addr} {k cap : Nat} {n : Int} (h : IsBig w neg ao k cap n) (o : Obj) : IsBig (w.alloc o) neg ao k cap n := h.keeps (Keeps.alloc (Keeps.refl w) o)
theorem IsBig.drewd {w : World} {neg : Bool} {ao : Option Addr} {k cap : Nat} {n : Int} (h : IsBig w neg ao k cap n) : IsBig w.drew neg ao k cap n := h.keeps (Keeps.drew (Keeps.refl w))
theorem IsBig.belowX {w w' : World} (hb : Below w.heap.size w w') {neg : Bool} {ao : Option Addr} {k cap : Nat} {n : Int} (h : IsBig w neg ao k cap n) : IsBig w' neg ao k cap n := h.keep hb
/-- The number's box stands. -/
def PB (w : World) (b : Nat) (q1 q2 : Value) (wX : World) : Prop := Two wX b q1 q2 ∧ Below w.heap.size w wX
section
variable {w wX w' : World} {b : Nat} {q1 q2 : Value}
theorem PB.x (h : PB w b q1 q2 wX) : Two wX b q1 q2 := h.1
theorem PB.bl (h : PB w b q1 q2 wX) : Below w.heap.size w wX := h.2
theorem PB.alloc (h : PB w b q1 q2 wX) (o : Obj) : PB w b q1 q2 (wX.alloc o) := ⟨h.x.alloc o, h.bl.alloc h.bl.size o⟩
theorem PB.drew (h : PB w b q1 q2 wX) : PB w b q1 q2 wX.drew := ⟨h.x, h.bl.drew⟩
theorem PB.below (hb : Below wX.heap.size wX w') (h : PB w b q1 q2 wX) : PB w b q1 q2 w' := ⟨h.x.below hb, h.bl.trans (hb.mono h.bl.size)⟩
theorem PB.set (h : PB w b q1 q2 wX) (c o : Nat) (v : Value) (h5 : ¬ b = c) (hb : w.heap.size ≤ c) : PB w b q1 q2 (wX.setCell ⟨c, o, none⟩ v) :=
  ⟨(Below.heap_setCell _ _ _ _ h5).trans h.x, h.bl.setCell (p := ⟨c, o, none⟩) hb v⟩
theorem PB.n1 (h : PB w b q1 q2 wX) : Two (wX.alloc (.cells #[.bool false, .slice none 0 0] 29)) wX.heap.size (.bool false) (.slice none 0 0) := Two.new _ _ _ _ rfl
theorem PB.n21 (h : PB w b q1 q2 wX) : Two ((wX.alloc (.cells #[.bool false, .slice none 0 0] 29)).alloc (.cells #[.bool false, .slice none 0 0] 29)) wX.heap.size (.bool false) (.slice none 0 0) := (Two.new _ _ _ _ rfl).alloc _
theorem PB.n22 (h : PB w b q1 q2 wX) : Two ((wX.alloc (.cells #[.bool false, .slice none 0 0] 29)).alloc (.cells #[.bool false, .slice none 0 0] 29)) (wX.heap.size + 1) (.bool false) (.slice none 0 0) := Two.new _ _ _ _ (by simp)
theorem PB.cells (h : PB w b q1 q2 wX) : wX.cell? ⟨b, 0, none⟩ = some q1 ∧ wX.cell? ⟨b, 1, none⟩ = some q2 := ⟨h.x.cells.1, h.x.cells.2.1⟩
theorem PB.nes (h : PB w b q1 q2 wX) : ¬ b = wX.heap.size ∧ ¬ b = wX.heap.size + 1 ∧ w.heap.size ≤ wX.heap.size ∧ w.heap.size ≤ wX.heap.size + 1 ∧ b < wX.heap.size := by
  have a := h.x.lt
  have c := h.bl.size
  omega
end
def PixS (w : World) (b : Nat) (X : Int) (wx : World) : Prop := ∃ n x k c, Two wx b (.bool n) (.slice x k c) ∧ IsBig wx n x k c X ∧ Below w.heap.size w wx ∧ w.heap.size ≤ b
def PixT (w : World) (F : Int) (s6 : Value) (wx : World) : Prop := ∃ b n x k c, s6 = .pointer (some ⟨b, 0, none⟩) ∧ Two wx b (.bool n) (.slice x k c) ∧ IsBig wx n x k c F ∧ Below w.heap.size w wx

set_option maxRecDepth 100000 in
set_option maxHeartbeats 3200000 in
theorem ref_pixels (a how X : Int) (ha : IFit a) (hX : (how = 0 ∧ X = a) ∨ (how = 1 ∧ X = a + 63) ∨ (how = 2 ∧ X = a + 32)) (w : World) :
    Calls Try.prog 55 #[.int .i64 a, .int .i64 how] w fun e w' => e = .returned (.int .i64 (X / 64)) ∧ Below w.heap.size w w' := by
  obtain ⟨a1, a2⟩ := ha
  have sa := BM.Sz.i64 a1 a2
  have sX : BM.Sz X 5 := by
    have : (65536 : Nat) ^ 5 = 1208925819614629174706176 := by decide
    unfold BM.Sz; omega
  have s64 : BM.Sz 64 4 := BM.Sz.u64 (by omega) (by omega)
  have hF : IFit (X / 64) := by unfold IFit; omega
  have sF := BM.Sz.i64 hF.1 hF.2
  have eI := (intB_iff (X / 64)).2 hF
  have eV : intV (X / 64) = X / 64 := by unfold intV; rw [eI]; rfl
  have DN := fun na nb ax bx k m ca cb W (h1 : IsBig W na ax k ca X) (h2 : IsBig W nb bx m cb 64) hk hm => big_down na nb ax bx k m ca cb X 64 W h1 h2 hk hm (by decide)
  rw [fq64] at DN
  have IN := fun neg ao k cap W => big_int neg ao k cap (X / 64) W
  rw [eI, eV] at IN
  obtain ⟨F, eF⟩ : ∃ F, X / 64 = F := ⟨_, rfl⟩
  rw [eF] at DN IN sF ⊢
  clear eI eV eF hF
  go_enter Try.func55, Try.ntmps55
  go_wp2_with fail
  refine (big_of a a1 a2 _).mono ?_
  rintro e w1 ⟨n1, x1, k1, c1, rfl, hI1, hb1⟩
  have hP : PixS w w1.heap.size a (w1.alloc (.cells #[.bool n1, .slice x1 k1 c1] 29)) := ⟨n1, x1, k1, c1, Two.new w1 _ _ _ rfl, hI1.keep (by repeat' (first | (with_reducible exact Below.refl _ _) | (with_reducible assumption) | (with_reducible refine below_alloc ?_ _ ?_) | (with_reducible refine below_set _ ?_ ?_) | (with_reducible refine Below.drew ?_) | (with_reducible refine below_dN ?_ _) | (apply below_thenA; assumption) | omega | (simp; done) | (simp; omega) | (simp [*]; done))), hb1.alloc hb1.size _, hb1.size⟩
  clear hI1 hb1
  go_upto_if 13 with (fail)
  go_cut [] from 13 (fun wx => PixS w w1.heap.size (if how = 1 then a + 63 else a) wx)
  case first =>
    by_cases h1 : how = 1
    · subst h1
      obtain ⟨n, x, k, c, D, hI, hB, hl⟩ := hP
      have hk := hI.le sa
      have EV := Lib.hid (show (if (1 : Int) = 1 then a + 63 else a) = a + 63 from if_pos rfl)
      go_wp2_with fail
      obtain ⟨p1, p2, p3, p4⟩ := D.cells
      go_region_with (first
        | (go_at_call 98; with_reducible refine (big_ofu63 _).mono ?_; rintro e w2 hB2; obtain ⟨n2, a2', k2, c2, rfl, hI2, hb2⟩ := hB2.out; replace hb2 := below_undrew hb2; have hk2 := hI2.le (BM.Sz.u64 (n := 63) (by omega) (by omega)); have D2 := D.below hb2; have hB' := below_step hB hb2; obtain ⟨q1, q2, q3, q4⟩ := D2.cells)
        | (go_at_call 39; with_reducible refine (big_plus n n2 x a2' k k2 c c2 a 63 _ (hI.keep hb2) hI2 ?_ ?_).mono ?_; omega; omega; rintro e w3 hB3; obtain ⟨n3, a3, k3, c3, rfl, hI3, hb3⟩ := hB3.out; have D3 := D2.below hb3; have hB'' := below_step hB' hb3; obtain ⟨r1, r2, r3, r4⟩ := D3.cells))
      all_goals
        clear p1 p2 p3 p4 q1 q2 q3 q4 r1 r2 r3 r4
        go_wp2_with fail
        go_meet
        case rel => exact ⟨n3, a3, k3, c3, D3.put _ _, by (first | exact IsBig.put hI3 D3 _ _ | (rw [EV.out]; exact IsBig.put hI3 D3 _ _)), BP hB'' hl _ _, hl⟩
    · have h1b : (how == 1) = false := by simp [h1]
      have EV := Lib.hid (show (if how = 1 then a + 63 else a) = a from if_neg h1)
      go_wp2_with fail
      go_meet
      case rel => rw [EV.out]; exact hP
  case rest =>
    clear hP
    go_upto_if 18 with (fail)
    go_cut [] from 18 (fun wx => PixS w w1.heap.size X wx)
    case first =>
      by_cases h2 : how = 2
      · subst h2
        obtain rfl : X = a + 32 := by omega
        rw [if_neg (by decide)] at hcut
        obtain ⟨n, x, k, c, D, hI, hB, hl⟩ := hcut
        have hk := hI.le sa
        have EV : Hid (a + 32 = a + 32) := Lib.hid rfl
        go_wp2_with fail
        obtain ⟨p1, p2, p3, p4⟩ := D.cells
        go_region_with (first
          | (go_at_call 98; with_reducible refine (big_ofu32 _).mono ?_; rintro e w2 hB2; obtain ⟨n2, a2', k2, c2, rfl, hI2, hb2⟩ := hB2.out; replace hb2 := below_undrew hb2; have hk2 := hI2.le (BM.Sz.u64 (n := 32) (by omega) (by omega)); have D2 := D.below hb2; have hB' := below_step hB hb2; obtain ⟨q1, q2, q3, q4⟩ := D2.cells)
          | (go_at_call 39; with_reducible refine (big_plus n n2 x a2' k k2 c c2 a 32 _ (hI.keep hb2) hI2 ?_ ?_).mono ?_; omega; omega; rintro e w3 hB3; obtain ⟨n3, a3, k3, c3, rfl, hI3, hb3⟩ := hB3.out; have D3 := D2.below hb3; have hB'' := below_step hB' hb3; obtain ⟨r1, r2, r3, r4⟩ := D3.cells))
        all_goals
          clear p1 p2 p3 p4 q1 q2 q3 q4 r1 r2 r3 r4
          go_wp2_with fail
          go_meet
          case rel => exact ⟨n3, a3, k3, c3, D3.put _ _, by (first | exact IsBig.put hI3 D3 _ _ | (rw [EV.out]; exact IsBig.put hI3 D3 _ _)), BP hB'' hl _ _, hl⟩
      · have h2b : (how == 2) = false := by simp [h2]
        have e : (if how = 1 then a + 63 else a) = X := by
          rcases hX with ⟨h, e⟩ | ⟨h, e⟩ | ⟨h, e⟩
          · rw [if_neg (by omega), e]
          · rw [if_pos h, e]
          · exact absurd h h2
        rw [e] at hcut
        go_wp2_with fail
        go_meet
        case rel => exact hcut
    case rest =>
      clear hX
      obtain ⟨n, x, k, c, D, hI, hB, hl⟩ := hcut
      have hk := hI.le sX
      have E : PB w w1.heap.size (.bool n) (.slice x k c) wc := ⟨D, hB⟩
      clear D hB
      obtain ⟨p1, p2⟩ := E.cells
      obtain ⟨nn1, nn2, nn3, nn4, nn5⟩ := E.nes
      go_upto_region 6 with (fail)
      go_cut [6] from 22 (fun s6 wx => PixT w F s6 wx)
      case first =>
        go_region_held3 (fun w' => w'.cell? ⟨w1.heap.size, 0, none⟩ = some (.bool n) ∧ w'.cell? ⟨w1.heap.size, 1, none⟩ = some (.slice x k c))
          (first | with_reducible exact ⟨p1, p2⟩ | with_reducible exact E.drew.cells | (refine PB.cells (w := w) ?_; (first | with_reducible exact E | with_reducible refine PB.drew ?_ | with_reducible refine PB.alloc ?_ _ | with_reducible refine PB.set ?_ _ _ _ ?_ ?_ | with_reducible assumption) <;> (first | with_reducible exact E | with_reducible refine PB.drew ?_ | with_reducible refine PB.alloc ?_ _ | with_reducible refine PB.set ?_ _ _ _ ?_ ?_ | with_reducible assumption) <;> (first | with_reducible exact E | with_reducible refine PB.drew ?_ | with_reducible refine PB.alloc ?_ _ | with_reducible refine PB.set ?_ _ _ _ ?_ ?_ | with_reducible assumption) <;> (first | with_reducible exact E | with_reducible refine PB.drew ?_ | with_reducible refine PB.alloc ?_ _ | with_reducible refine PB.set ?_ _ _ _ ?_ ?_ | with_reducible assumption) <;> (first | with_reducible exact E | with_reducible refine PB.drew ?_ | with_reducible refine PB.alloc ?_ _ | with_reducible refine PB.set ?_ _ _ _ ?_ ?_ | with_reducible assumption) <;> (first | with_reducible exact E | with_reducible refine PB.drew ?_ | with_reducible refine PB.alloc ?_ _ | with_reducible refine PB.set ?_ _ _ _ ?_ ?_ | with_reducible assumption) <;> (first | with_reducible exact E | with_reducible refine PB.drew ?_ | with_reducible refine PB.alloc ?_ _ | with_reducible refine PB.set ?_ _ _ _ ?_ ?_ | with_reducible assumption) <;> (first | with_reducible exact E | with_reducible refine PB.drew ?_ | with_reducible refine PB.alloc ?_ _ | with_reducible refine PB.set ?_ _ _ _ ?_ ?_ | with_reducible assumption) <;> (first | with_reducible exact E | with_reducible refine PB.drew ?_ | with_reducible refine PB.alloc ?_ _ | with_reducible refine PB.set ?_ _ _ _ ?_ ?_ | with_reducible assumption); done) | go_keep)
          (first
          | (go_at_call 98; with_reducible refine (big_ofu64 _).mono ?_; rintro e wA hRA; obtain ⟨nA, xA, kA, cA, rfl, hIA, hbA⟩ := hRA.out; have hkA := hIA.le s64; (try replace hI := IsBig.belowX hbA (by with_reducible first | exact hI | exact hI.drewd | exact (hI.allocd _).drewd | exact ((hI.allocd _).allocd _).drewd | exact hI.allocd _ | exact (hI.allocd _).allocd _)); (try (have y1 := Two.belowX hbA (by with_reducible first | exact z1 | exact z1.drew | exact (z1.alloc _).drew | exact ((z1.alloc _).alloc _).drew | exact z1.alloc _ | exact (z1.alloc _).alloc _); obtain ⟨zf1, zf2, zf3, zf4⟩ := y1.cells; have zl4 := y1.lt)); (try (have y2 := Two.belowX hbA (by with_reducible first | exact z2 | exact z2.drew | exact (z2.alloc _).drew | exact ((z2.alloc _).alloc _).drew | exact z2.alloc _ | exact (z2.alloc _).alloc _); obtain ⟨zf1, zf2, zf3, zf4⟩ := y2.cells; have zl4 := y2.lt)); (try (have y3 := Two.belowX hbA (by with_reducible first | exact z3 | exact z3.drew | exact (z3.alloc _).drew | exact ((z3.alloc _).alloc _).drew | exact z3.alloc _ | exact (z3.alloc _).alloc _); obtain ⟨zf1, zf2, zf3, zf4⟩ := y3.cells; have zl4 := y3.lt)); (try (have z1 := Two.belowX hbA (by with_reducible first | exact E.n1.drew | exact E.n1); obtain ⟨zc1, zc2, zc3, zc4⟩ := z1.cells; have zl1 := z1.lt)); (try (have z2 := Two.belowX hbA (by with_reducible first | exact E.n21.drew | exact E.n21); obtain ⟨zc1, zc2, zc3, zc4⟩ := z2.cells; have zl1 := z2.lt)); (try (have z3 := Two.belowX hbA (by with_reducible first | exact E.n22.drew | exact E.n22); obtain ⟨zc1, zc2, zc3, zc4⟩ := z3.cells; have zl1 := z3.lt)); (have E' := PB.below hbA (by with_reducible first | exact E | exact E.drew | exact (E.alloc _).drew | exact ((E.alloc _).alloc _).drew | exact E.alloc _ | exact (E.alloc _).alloc _)); clear E; have E := E'; clear E'; obtain ⟨p1, p2⟩ := E.cells; obtain ⟨nn1, nn2, nn3, nn4, nn5⟩ := E.nes)
          | (go_at_call 33; with_reducible refine (DN n nA x xA k kA c cA _ (by with_reducible first | exact hI | exact hI.drewd | exact (hI.allocd _).drewd | exact ((hI.allocd _).allocd _).drewd | exact hI.allocd _ | exact (hI.allocd _).allocd _) (by with_reducible first | exact hIA | exact hIA.drewd | exact (hIA.allocd _).drewd | exact ((hIA.allocd _).allocd _).drewd | exact hIA.allocd _ | exact (hIA.allocd _).allocd _) ?_ ?_).mono ?_; omega; omega; rintro e wB hRB; obtain ⟨nB, xB, kB, cB, nR, xR, kR, cR, rfl, hIB, hIR, hbB⟩ := hRB.out; (try (have y1 := Two.belowX hbB (by with_reducible first | exact z1 | exact z1.drew | exact (z1.alloc _).drew | exact ((z1.alloc _).alloc _).drew | exact z1.alloc _ | exact (z1.alloc _).alloc _); obtain ⟨zf1, zf2, zf3, zf4⟩ := y1.cells; have zl4 := y1.lt)); (try (have y2 := Two.belowX hbB (by with_reducible first | exact z2 | exact z2.drew | exact (z2.alloc _).drew | exact ((z2.alloc _).alloc _).drew | exact z2.alloc _ | exact (z2.alloc _).alloc _); obtain ⟨zf1, zf2, zf3, zf4⟩ := y2.cells; have zl4 := y2.lt)); (try (have y3 := Two.belowX hbB (by with_reducible first | exact z3 | exact z3.drew | exact (z3.alloc _).drew | exact ((z3.alloc _).alloc _).drew | exact z3.alloc _ | exact (z3.alloc _).alloc _); obtain ⟨zf1, zf2, zf3, zf4⟩ := y3.cells; have zl4 := y3.lt)); (try (have z1 := Two.belowX hbB (by with_reducible first | exact E.n1.drew | exact E.n1); obtain ⟨zc1, zc2, zc3, zc4⟩ := z1.cells; have zl1 := z1.lt)); (try (have z2 := Two.belowX hbB (by with_reducible first | exact E.n21.drew | exact E.n21); obtain ⟨zc1, zc2, zc3, zc4⟩ := z2.cells; have zl1 := z2.lt)); (try (have z3 := Two.belowX hbB (by with_reducible first | exact E.n22.drew | exact E.n22); obtain ⟨zc1, zc2, zc3, zc4⟩ := z3.cells; have zl1 := z3.lt)); (have E' := PB.below hbB (by with_reducible first | exact E | exact E.drew | exact (E.alloc _).drew | exact ((E.alloc _).alloc _).drew | exact E.alloc _ | exact (E.alloc _).alloc _)); clear E; have E := E'; clear E'; obtain ⟨p1, p2⟩ := E.cells; obtain ⟨nn1, nn2, nn3, nn4, nn5⟩ := E.nes))
        all_goals
          go_wp2_with fail
          go_meet
          case rel =>
            refine ⟨_, nB, xB, kB, cB, rfl, ?_, IsBig.keeps hIB ?_, PB.bl (b := w1.heap.size) (q1 := .bool n) (q2 := .slice x k c) ?_⟩
            · (first | with_reducible refine Two.drew ?_ | with_reducible exact Two.new _ _ _ _ rfl | with_reducible exact Two.new1 _ _ _ _ | with_reducible exact Two.newS _ _ _ _ _ _ | with_reducible refine Two.alloc ?_ _ | with_reducible refine Two.putE ?_ _ _ | with_reducible refine Two.put_other ?_ ?_ _ _ | with_reducible refine Two.putE_other ?_ ?_ _ _ | with_reducible exact z1 | with_reducible exact ⟨_, _, z1⟩ | with_reducible exact z2 | with_reducible exact ⟨_, _, z2⟩ | with_reducible exact z3 | with_reducible exact ⟨_, _, z3⟩ | with_reducible exact y1 | with_reducible exact ⟨_, _, y1⟩ | with_reducible exact y2 | with_reducible exact ⟨_, _, y2⟩ | with_reducible exact y3 | with_reducible exact ⟨_, _, y3⟩ | with_reducible exact Nat.ne_of_lt (by with_reducible assumption) | with_reducible exact Nat.ne_of_gt (by with_reducible assumption) | with_reducible assumption | omega) <;> (first | with_reducible refine Two.drew ?_ | with_reducible exact Two.new _ _ _ _ rfl | with_reducible exact Two.new1 _ _ _ _ | with_reducible exact Two.newS _ _ _ _ _ _ | with_reducible refine Two.alloc ?_ _ | with_reducible refine Two.putE ?_ _ _ | with_reducible refine Two.put_other ?_ ?_ _ _ | with_reducible refine Two.putE_other ?_ ?_ _ _ | with_reducible exact z1 | with_reducible exact ⟨_, _, z1⟩ | with_reducible exact z2 | with_reducible exact ⟨_, _, z2⟩ | with_reducible exact z3 | with_reducible exact ⟨_, _, z3⟩ | with_reducible exact y1 | with_reducible exact ⟨_, _, y1⟩ | with_reducible exact y2 | with_reducible exact ⟨_, _, y2⟩ | with_reducible exact y3 | with_reducible exact ⟨_, _, y3⟩ | with_reducible exact Nat.ne_of_lt (by with_reducible assumption) | with_reducible exact Nat.ne_of_gt (by with_reducible assumption) | with_reducible assumption | omega) <;> (first | with_reducible refine Two.drew ?_ | with_reducible exact Two.new _ _ _ _ rfl | with_reducible exact Two.new1 _ _ _ _ | with_reducible exact Two.newS _ _ _ _ _ _ | with_reducible refine Two.alloc ?_ _ | with_reducible refine Two.putE ?_ _ _ | with_reducible refine Two.put_other ?_ ?_ _ _ | with_reducible refine Two.putE_other ?_ ?_ _ _ | with_reducible exact z1 | with_reducible exact ⟨_, _, z1⟩ | with_reducible exact z2 | with_reducible exact ⟨_, _, z2⟩ | with_reducible exact z3 | with_reducible exact ⟨_, _, z3⟩ | with_reducible exact y1 | with_reducible exact ⟨_, _, y1⟩ | with_reducible exact y2 | with_reducible exact ⟨_, _, y2⟩ | with_reducible exact y3 | with_reducible exact ⟨_, _, y3⟩ | with_reducible exact Nat.ne_of_lt (by with_reducible assumption) | with_reducible exact Nat.ne_of_gt (by with_reducible assumption) | with_reducible assumption | omega) <;> (first | with_reducible refine Two.drew ?_ | with_reducible exact Two.new _ _ _ _ rfl | with_reducible exact Two.new1 _ _ _ _ | with_reducible exact Two.newS _ _ _ _ _ _ | with_reducible refine Two.alloc ?_ _ | with_reducible refine Two.putE ?_ _ _ | with_reducible refine Two.put_other ?_ ?_ _ _ | with_reducible refine Two.putE_other ?_ ?_ _ _ | with_reducible exact z1 | with_reducible exact ⟨_, _, z1⟩ | with_reducible exact z2 | with_reducible exact ⟨_, _, z2⟩ | with_reducible exact z3 | with_reducible exact ⟨_, _, z3⟩ | with_reducible exact y1 | with_reducible exact ⟨_, _, y1⟩ | with_reducible exact y2 | with_reducible exact ⟨_, _, y2⟩ | with_reducible exact y3 | with_reducible exact ⟨_, _, y3⟩ | with_reducible exact Nat.ne_of_lt (by with_reducible assumption) | with_reducible exact Nat.ne_of_gt (by with_reducible assumption) | with_reducible assumption | omega) <;> (first | with_reducible refine Two.drew ?_ | with_reducible exact Two.new _ _ _ _ rfl | with_reducible exact Two.new1 _ _ _ _ | with_reducible exact Two.newS _ _ _ _ _ _ | with_reducible refine Two.alloc ?_ _ | with_reducible refine Two.putE ?_ _ _ | with_reducible refine Two.put_other ?_ ?_ _ _ | with_reducible refine Two.putE_other ?_ ?_ _ _ | with_reducible exact z1 | with_reducible exact ⟨_, _, z1⟩ | with_reducible exact z2 | with_reducible exact ⟨_, _, z2⟩ | with_reducible exact z3 | with_reducible exact ⟨_, _, z3⟩ | with_reducible exact y1 | with_reducible exact ⟨_, _, y1⟩ | with_reducible exact y2 | with_reducible exact ⟨_, _, y2⟩ | with_reducible exact y3 | with_reducible exact ⟨_, _, y3⟩ | with_reducible exact Nat.ne_of_lt (by with_reducible assumption) | with_reducible exact Nat.ne_of_gt (by with_reducible assumption) | with_reducible assumption | omega) <;> (first | with_reducible refine Two.drew ?_ | with_reducible exact Two.new _ _ _ _ rfl | with_reducible exact Two.new1 _ _ _ _ | with_reducible exact Two.newS _ _ _ _ _ _ | with_reducible refine Two.alloc ?_ _ | with_reducible refine Two.putE ?_ _ _ | with_reducible refine Two.put_other ?_ ?_ _ _ | with_reducible refine Two.putE_other ?_ ?_ _ _ | with_reducible exact z1 | with_reducible exact ⟨_, _, z1⟩ | with_reducible exact z2 | with_reducible exact ⟨_, _, z2⟩ | with_reducible exact z3 | with_reducible exact ⟨_, _, z3⟩ | with_reducible exact y1 | with_reducible exact ⟨_, _, y1⟩ | with_reducible exact y2 | with_reducible exact ⟨_, _, y2⟩ | with_reducible exact y3 | with_reducible exact ⟨_, _, y3⟩ | with_reducible exact Nat.ne_of_lt (by with_reducible assumption) | with_reducible exact Nat.ne_of_gt (by with_reducible assumption) | with_reducible assumption | omega)
            · exact (by repeat' (first | (with_reducible exact Keeps.refl _) | (with_reducible refine Keeps.alloc ?_ _) | (with_reducible refine Keeps.drew ?_) | (with_reducible refine Keeps.drewN ?_ _) | (with_reducible refine Keeps.set ?_ _ _ (T := 29) ?_ (by decide)) | (with_reducible exact TyAt.new _ _ _ _ (by simp)) | (with_reducible refine TyAt.set ?_ _ _) | (with_reducible refine TyAt.alloc ?_ _) | (with_reducible refine TyAt.drew ?_) | (with_reducible refine TyAt.drewN ?_ _) | (apply Keeps.below; assumption) | (exact Two.ty (by assumption)) | (apply TyAt.below; rotate_left; assumption)))
            · (first | with_reducible exact E | with_reducible refine PB.drew ?_ | with_reducible refine PB.alloc ?_ _ | with_reducible refine PB.set ?_ _ _ _ ?_ ?_ | with_reducible assumption) <;> (first | with_reducible exact E | with_reducible refine PB.drew ?_ | with_reducible refine PB.alloc ?_ _ | with_reducible refine PB.set ?_ _ _ _ ?_ ?_ | with_reducible assumption) <;> (first | with_reducible exact E | with_reducible refine PB.drew ?_ | with_reducible refine PB.alloc ?_ _ | with_reducible refine PB.set ?_ _ _ _ ?_ ?_ | with_reducible assumption) <;> (first | with_reducible exact E | with_reducible refine PB.drew ?_ | with_reducible refine PB.alloc ?_ _ | with_reducible refine PB.set ?_ _ _ _ ?_ ?_ | with_reducible assumption) <;> (first | with_reducible exact E | with_reducible refine PB.drew ?_ | with_reducible refine PB.alloc ?_ _ | with_reducible refine PB.set ?_ _ _ _ ?_ ?_ | with_reducible assumption) <;> (first | with_reducible exact E | with_reducible refine PB.drew ?_ | with_reducible refine PB.alloc ?_ _ | with_reducible refine PB.set ?_ _ _ _ ?_ ?_ | with_reducible assumption) <;> (first | with_reducible exact E | with_reducible refine PB.drew ?_ | with_reducible refine PB.alloc ?_ _ | with_reducible refine PB.set ?_ _ _ _ ?_ ?_ | with_reducible assumption) <;> (first | with_reducible exact E | with_reducible refine PB.drew ?_ | with_reducible refine PB.alloc ?_ _ | with_reducible refine PB.set ?_ _ _ _ ?_ ?_ | with_reducible assumption) <;> (first | with_reducible exact E | with_reducible refine PB.drew ?_ | with_reducible refine PB.alloc ?_ _ | with_reducible refine PB.set ?_ _ _ _ ?_ ?_ | with_reducible assumption)
      case rest =>
        clear E p1 p2 nn1 nn2 nn3 nn4 nn5
        obtain ⟨b, nq, xq, kq, cq, rfl, D, hI, hB⟩ := hcut
        have hkq := hI.le sF
        obtain ⟨p1, p2, p3, p4⟩ := D.cells
        go_wp2_with fail
        refine (IN nq xq kq cq _ hI (by omega)).mono ?_
        rintro e w7 ⟨rfl, hb7⟩
        go_wp2_with fail
        go_ret
        exact ⟨rfl, hB.trans (hb7.mono hB.size)⟩

set_option maxRecDepth 100000 in
set_option maxHeartbeats 3200000 in
theorem law_fpixels (a : Int) (ha : IFit a) (w : World) :
    Calls Try.prog 11 #[.int .i64 a] w fun e w' => e = .returned (.bool true) ∧ Below w.heap.size w w' := by
  have F1 := fix_floor a ha
  have C1 := fix_ceil a ha
  have R1 := fix_round a ha
  have P0 := ref_pixels a 0 a ha (.inl ⟨rfl, rfl⟩)
  have P1 := ref_pixels a 1 (a + 63) ha (.inr (.inl ⟨rfl, rfl⟩))
  have P2 := ref_pixels a 2 (a + 32) ha (.inr (.inr ⟨rfl, rfl⟩))
  rw [show (a + 63) / 64 = -((-a) / 64) by omega] at P1
  obtain ⟨f, ef⟩ : ∃ f, a / 64 = f := ⟨_, rfl⟩
  obtain ⟨c, ec⟩ : ∃ c, -((-a) / 64) = c := ⟨_, rfl⟩
  obtain ⟨r, er⟩ : ∃ r, (a + 32) / 64 = r := ⟨_, rfl⟩
  rw [ef] at F1 P0
  rw [ec] at C1 P1
  rw [er] at R1 P2
  clear ef ec er
  go_enter Try.func11, Try.ntmps11
  go_wp2_with fail
  refine (speaks04 _).mono ?_
  rintro e w1 ⟨rfl, hb1⟩
  go_wp2_with (first
    | (go_at_call 54; with_reducible refine (F1 _).mono ?_; rintro e w6 ⟨rfl, rfl⟩)
    | (go_at_call 56; with_reducible refine (C1 _).mono ?_; rintro e w6 ⟨rfl, rfl⟩)
    | (go_at_call 57; with_reducible refine (R1 _).mono ?_; rintro e w6 ⟨rfl, rfl⟩)
    | (go_at_call 55; with_reducible refine (P0 _).mono ?_; rintro e w6 ⟨rfl, hb6⟩; replace hb1 := below_step hb1 hb6)
    | (go_at_call 55; with_reducible refine (P1 _).mono ?_; rintro e w6 ⟨rfl, hb6⟩; replace hb1 := below_step hb1 hb6)
    | (go_at_call 55; with_reducible refine (P2 _).mono ?_; rintro e w6 ⟨rfl, hb6⟩; replace hb1 := below_step hb1 hb6))
  go_ret
  exact ⟨rfl, hb1⟩
end Go.Proofs.Ythffphcgkmjhbaa
