/-
  The reference of layer 4: Pixels (as RefD, beside other texts).
-/
/-
  Layer 11 (style): Hairline, of the program and of the reference.
-/
/-
  Layer 11 (style): Borders of a style whose borders' widths give way at no scale.
-/
/-
  Layer 11 (style): speaks.
-/
import Derived.Test.YtmkblfejoniccaaDoorZ6
import Derived.Test.YtmkblfejoniccaaDoorZ7
import Derived.Test.YtmkblfejoniccaaDoorZ9
import Derived.Test.YtmkblfejoniccaaDoorZ13
namespace Go.Proofs.YtmkblfejoniccaaDoor
open Go.RowKit
set_option linter.unusedSimpArgs false
set_option linter.unusedVariables false

theorem fq64P (x : Int) : fq x 64 = x / 64 := by unfold fq; rw [if_neg (by decide)]
theorem big_ofu63P (W : World) : Calls Tryd.prog 67 #[.int .u64 63] W (BigRet 63 W) := big_ofu 63 (by omega) W
theorem big_ofu32P (W : World) : Calls Tryd.prog 67 #[.int .u64 32] W (BigRet 32 W) := big_ofu 32 (by omega) W
theorem big_ofu64P (W : World) : Calls Tryd.prog 67 #[.int .u64 64] W (BigRet 64 W) := big_ofu 64 (by omega) W
theorem Two.drewP {w : World} {b : Nat} {x y : Value} (h : Two w b x y) : Two w.drew b x y := h
theorem Two.belowXP {w w' : World} {b : Nat} {x y : Value} (hb : Below w.heap.size w w') (h : Two w b x y) : Two w' b x y := h.below hb
theorem Two.putEP {w : World} {b : Nat} (h : ∃ x y, Two w b x y) (u v : Value) : Two ((w.setCell ⟨b, 0, none⟩ u).setCell ⟨b, 1, none⟩ v) b u v := by
  obtain ⟨x, y, h⟩ := h; exact h.put u v
theorem Two.putE_otherP {w : World} {b c : Nat} (h : ∃ x y, Two w b x y) (hc : b ≠ c) (u v : Value) : ∃ x y, Two ((w.setCell ⟨c, 0, none⟩ u).setCell ⟨c, 1, none⟩ v) b x y := by
  obtain ⟨x, y, h⟩ := h; exact ⟨x, y, h.put_other hc u v⟩
theorem Two.newSP (w : World) (b : Nat) (u v x y : Value) : Two (((w.setCell ⟨b, 0, none⟩ u).setCell ⟨b, 1, none⟩ v).alloc (.cells #[x, y] 41)) w.heap.size x y := Two.new _ _ _ _ (by simp [World.setCell])
theorem Two.new1P (w : World) (x y : Value) (o : Obj) : Two ((w.alloc o).alloc (.cells #[x, y] 41)) (w.heap.size + 1) x y := Two.new _ _ _ _ (by simp)
theorem IsBig.allocdP {w : World} {neg : Bool} {ao : Option Addr} {k cap : Nat} {n : Int} (h : IsBig w neg ao k cap n) (o : Obj) : IsBig (w.alloc o) neg ao k cap n := h.keeps (Keeps.alloc (Keeps.refl w) o)
theorem IsBig.drewdP {w : World} {neg : Bool} {ao : Option Addr} {k cap : Nat} {n : Int} (h : IsBig w neg ao k cap n) : IsBig w.drew neg ao k cap n := h.keeps (Keeps.drew (Keeps.refl w))
theorem IsBig.belowXP {w w' : World} (hb : Below w.heap.size w w') {neg : Bool} {ao : Option Addr} {k cap : Nat} {n : Int} (h : IsBig w neg ao k cap n) : IsBig w' neg ao k cap n := h.keep hb
/-- The number's box stands. -/
def PBP (w : World) (b : Nat) (q1 q2 : Value) (wX : World) : Prop := Two wX b q1 q2 ∧ Below w.heap.size w wX
section
variable {w wX w' : World} {b : Nat} {q1 q2 : Value}
theorem PBP.x (h : PBP w b q1 q2 wX) : Two wX b q1 q2 := h.1
theorem PBP.bl (h : PBP w b q1 q2 wX) : Below w.heap.size w wX := h.2
theorem PBP.alloc (h : PBP w b q1 q2 wX) (o : Obj) : PBP w b q1 q2 (wX.alloc o) := ⟨h.x.alloc o, h.bl.alloc h.bl.size o⟩
theorem PBP.drew (h : PBP w b q1 q2 wX) : PBP w b q1 q2 wX.drew := ⟨h.x, h.bl.drew⟩
theorem PBP.below (hb : Below wX.heap.size wX w') (h : PBP w b q1 q2 wX) : PBP w b q1 q2 w' := ⟨h.x.below hb, h.bl.trans (hb.mono h.bl.size)⟩
theorem PBP.set (h : PBP w b q1 q2 wX) (c o : Nat) (v : Value) (h5 : ¬ b = c) (hb : w.heap.size ≤ c) : PBP w b q1 q2 (wX.setCell ⟨c, o, none⟩ v) :=
  ⟨(Below.heap_setCell _ _ _ _ h5).trans h.x, h.bl.setCell (p := ⟨c, o, none⟩) hb v⟩
theorem PBP.n1 (h : PBP w b q1 q2 wX) : Two (wX.alloc (.cells #[.bool false, .slice none 0 0] 41)) wX.heap.size (.bool false) (.slice none 0 0) := Two.new _ _ _ _ rfl
theorem PBP.n21 (h : PBP w b q1 q2 wX) : Two ((wX.alloc (.cells #[.bool false, .slice none 0 0] 41)).alloc (.cells #[.bool false, .slice none 0 0] 41)) wX.heap.size (.bool false) (.slice none 0 0) := (Two.new _ _ _ _ rfl).alloc _
theorem PBP.n22 (h : PBP w b q1 q2 wX) : Two ((wX.alloc (.cells #[.bool false, .slice none 0 0] 41)).alloc (.cells #[.bool false, .slice none 0 0] 41)) (wX.heap.size + 1) (.bool false) (.slice none 0 0) := Two.new _ _ _ _ (by simp)
theorem PBP.cells (h : PBP w b q1 q2 wX) : wX.cell? ⟨b, 0, none⟩ = some q1 ∧ wX.cell? ⟨b, 1, none⟩ = some q2 := ⟨h.x.cells.1, h.x.cells.2.1⟩
theorem PBP.nes (h : PBP w b q1 q2 wX) : ¬ b = wX.heap.size ∧ ¬ b = wX.heap.size + 1 ∧ w.heap.size ≤ wX.heap.size ∧ w.heap.size ≤ wX.heap.size + 1 ∧ b < wX.heap.size := by
  have a := h.x.lt
  have c := h.bl.size
  omega
end
def PixSP (w : World) (b : Nat) (X : Int) (wx : World) : Prop := ∃ n x k c, Two wx b (.bool n) (.slice x k c) ∧ IsBig wx n x k c X ∧ Below w.heap.size w wx ∧ w.heap.size ≤ b
def PixTP (w : World) (F : Int) (s6 : Value) (wx : World) : Prop := ∃ b n x k c, s6 = .pointer (some ⟨b, 0, none⟩) ∧ Two wx b (.bool n) (.slice x k c) ∧ IsBig wx n x k c F ∧ Below w.heap.size w wx

set_option maxRecDepth 100000 in
set_option maxHeartbeats 3200000 in
theorem ref_pixelsP (a how X : Int) (ha : IFit a) (hX : (how = 0 ∧ X = a) ∨ (how = 1 ∧ X = a + 63) ∨ (how = 2 ∧ X = a + 32)) (w : World) :
    Calls Tryd.prog 87 #[.int .i64 a, .int .i64 how] w fun e w' => e = .returned (.int .i64 (X / 64)) ∧ Below w.heap.size w w' := by
  obtain ⟨a1, a2⟩ := ha
  have sa := BM.Sz.i64 a1 a2
  have sX : BM.Sz X 5 := by
    have : (65536 : Nat) ^ 5 = 1208925819614629174706176 := by decide
    unfold BM.Sz; omega
  have s64 : BM.Sz 64 4 := BM.Sz.u64 (by omega) (by omega)
  have hF : IFit (X / 64) := by unfold IFit; omega
  have sF := BM.Sz.i64 hF.1 hF.2
  have eI := (intB_iff' (X / 64)).2 hF
  have eV : intV (X / 64) = X / 64 := by unfold intV; rw [eI]; rfl
  have DN := fun na nb ax bx k m ca cb W (h1 : IsBig W na ax k ca X) (h2 : IsBig W nb bx m cb 64) hk hm => big_down na nb ax bx k m ca cb X 64 W h1 h2 hk hm (by decide)
  rw [fq64P] at DN
  have IN := fun neg ao k cap W => big_int neg ao k cap (X / 64) W
  rw [eI, eV] at IN
  obtain ⟨F, eF⟩ : ∃ F, X / 64 = F := ⟨_, rfl⟩
  rw [eF] at DN IN sF ⊢
  clear eI eV eF hF
  go_enter Tryd.func87, Tryd.ntmps87
  go_wp2_with fail
  refine (big_of a a1 a2 _).mono ?_
  rintro e w1 ⟨n1, x1, k1, c1, rfl, hI1, hb1⟩
  have hP : PixSP w w1.heap.size a (w1.alloc (.cells #[.bool n1, .slice x1 k1 c1] 41)) := ⟨n1, x1, k1, c1, Two.new w1 _ _ _ rfl, hI1.keep (by repeat' (first | (with_reducible exact Below.refl _ _) | (with_reducible assumption) | (with_reducible refine below_alloc ?_ _ ?_) | (with_reducible refine below_set _ ?_ ?_) | (with_reducible refine Below.drew ?_) | (with_reducible refine below_dN ?_ _) | (apply below_thenA; assumption) | omega | (simp; done) | (simp; omega) | (simp [*]; done))), hb1.alloc hb1.size _, hb1.size⟩
  clear hI1 hb1
  go_upto_if 13 with (fail)
  go_cut [] from 13 (fun wx => PixSP w w1.heap.size (if how = 1 then a + 63 else a) wx)
  case first =>
    by_cases h1 : how = 1
    · subst h1
      obtain ⟨n, x, k, c, D, hI, hB, hl⟩ := hP
      have hk := hI.le sa
      have EV := Lib.hid (show (if (1 : Int) = 1 then a + 63 else a) = a + 63 from if_pos rfl)
      go_wp2_with fail
      obtain ⟨p1, p2, p3, p4⟩ := D.cells
      go_region_with (first
        | (go_at_call 67; with_reducible refine (big_ofu63P _).mono ?_; rintro e w2 hB2; obtain ⟨n2, a2', k2, c2, rfl, hI2, hb2⟩ := hB2.out; replace hb2 := below_undrew hb2; have hk2 := hI2.le (BM.Sz.u64 (n := 63) (by omega) (by omega)); have D2 := D.below hb2; have hB' := below_step hB hb2; obtain ⟨q1, q2, q3, q4⟩ := D2.cells)
        | (go_at_call 61; with_reducible refine (big_plus n n2 x a2' k k2 c c2 a 63 _ (hI.keep hb2) hI2 ?_ ?_).mono ?_; omega; omega; rintro e w3 hB3; obtain ⟨n3, a3, k3, c3, rfl, hI3, hb3⟩ := hB3.out; have D3 := D2.below hb3; have hB'' := below_step hB' hb3; obtain ⟨r1, r2, r3, r4⟩ := D3.cells))
      all_goals
        clear p1 p2 p3 p4 q1 q2 q3 q4 r1 r2 r3 r4
        go_wp2_with fail
        go_meet
        case rel => exact ⟨n3, a3, k3, c3, D3.put _ _, by (first | exact IsBig.put hI3 D3 _ _ | (rw [EV.out]; exact IsBig.put hI3 D3 _ _)), BP hB'' hl _ _, hl⟩
    · have h1b : (how == 1) = false := by simp [h1]
      have EV := Lib.hid (show (if how = 1 then a + 63 else a) = a from if_neg h1)
      go_wp2_with fail
      go_meet
      case rel => rw [EV.out]; exact hP
  case rest =>
    clear hP
    go_upto_if 18 with (fail)
    go_cut [] from 18 (fun wx => PixSP w w1.heap.size X wx)
    case first =>
      by_cases h2 : how = 2
      · subst h2
        obtain rfl : X = a + 32 := by omega
        rw [if_neg (by decide)] at hcut
        obtain ⟨n, x, k, c, D, hI, hB, hl⟩ := hcut
        have hk := hI.le sa
        have EV : Hid (a + 32 = a + 32) := Lib.hid rfl
        go_wp2_with fail
        obtain ⟨p1, p2, p3, p4⟩ := D.cells
        go_region_with (first
          | (go_at_call 67; with_reducible refine (big_ofu32P _).mono ?_; rintro e w2 hB2; obtain ⟨n2, a2', k2, c2, rfl, hI2, hb2⟩ := hB2.out; replace hb2 := below_undrew hb2; have hk2 := hI2.le (BM.Sz.u64 (n := 32) (by omega) (by omega)); have D2 := D.below hb2; have hB' := below_step hB hb2; obtain ⟨q1, q2, q3, q4⟩ := D2.cells)
          | (go_at_call 61; with_reducible refine (big_plus n n2 x a2' k k2 c c2 a 32 _ (hI.keep hb2) hI2 ?_ ?_).mono ?_; omega; omega; rintro e w3 hB3; obtain ⟨n3, a3, k3, c3, rfl, hI3, hb3⟩ := hB3.out; have D3 := D2.below hb3; have hB'' := below_step hB' hb3; obtain ⟨r1, r2, r3, r4⟩ := D3.cells))
        all_goals
          clear p1 p2 p3 p4 q1 q2 q3 q4 r1 r2 r3 r4
          go_wp2_with fail
          go_meet
          case rel => exact ⟨n3, a3, k3, c3, D3.put _ _, by (first | exact IsBig.put hI3 D3 _ _ | (rw [EV.out]; exact IsBig.put hI3 D3 _ _)), BP hB'' hl _ _, hl⟩
      · have h2b : (how == 2) = false := by simp [h2]
        have e : (if how = 1 then a + 63 else a) = X := by
          rcases hX with ⟨h, e⟩ | ⟨h, e⟩ | ⟨h, e⟩
          · rw [if_neg (by omega), e]
          · rw [if_pos h, e]
          · exact absurd h h2
        rw [e] at hcut
        go_wp2_with fail
        go_meet
        case rel => exact hcut
    case rest =>
      clear hX
      obtain ⟨n, x, k, c, D, hI, hB, hl⟩ := hcut
      have hk := hI.le sX
      have E : PBP w w1.heap.size (.bool n) (.slice x k c) wc := ⟨D, hB⟩
      clear D hB
      obtain ⟨p1, p2⟩ := E.cells
      obtain ⟨nn1, nn2, nn3, nn4, nn5⟩ := E.nes
      go_upto_region 6 with (fail)
      go_cut [6] from 22 (fun s6 wx => PixTP w F s6 wx)
      case first =>
        go_region_held3 (fun w' => w'.cell? ⟨w1.heap.size, 0, none⟩ = some (.bool n) ∧ w'.cell? ⟨w1.heap.size, 1, none⟩ = some (.slice x k c))
          (first | with_reducible exact ⟨p1, p2⟩ | with_reducible exact E.drew.cells | (refine PBP.cells (w := w) ?_; (first | with_reducible exact E | with_reducible refine PBP.drew ?_ | with_reducible refine PBP.alloc ?_ _ | with_reducible refine PBP.set ?_ _ _ _ ?_ ?_ | with_reducible assumption) <;> (first | with_reducible exact E | with_reducible refine PBP.drew ?_ | with_reducible refine PBP.alloc ?_ _ | with_reducible refine PBP.set ?_ _ _ _ ?_ ?_ | with_reducible assumption) <;> (first | with_reducible exact E | with_reducible refine PBP.drew ?_ | with_reducible refine PBP.alloc ?_ _ | with_reducible refine PBP.set ?_ _ _ _ ?_ ?_ | with_reducible assumption) <;> (first | with_reducible exact E | with_reducible refine PBP.drew ?_ | with_reducible refine PBP.alloc ?_ _ | with_reducible refine PBP.set ?_ _ _ _ ?_ ?_ | with_reducible assumption) <;> (first | with_reducible exact E | with_reducible refine PBP.drew ?_ | with_reducible refine PBP.alloc ?_ _ | with_reducible refine PBP.set ?_ _ _ _ ?_ ?_ | with_reducible assumption) <;> (first | with_reducible exact E | with_reducible refine PBP.drew ?_ | with_reducible refine PBP.alloc ?_ _ | with_reducible refine PBP.set ?_ _ _ _ ?_ ?_ | with_reducible assumption) <;> (first | with_reducible exact E | with_reducible refine PBP.drew ?_ | with_reducible refine PBP.alloc ?_ _ | with_reducible refine PBP.set ?_ _ _ _ ?_ ?_ | with_reducible assumption) <;> (first | with_reducible exact E | with_reducible refine PBP.drew ?_ | with_reducible refine PBP.alloc ?_ _ | with_reducible refine PBP.set ?_ _ _ _ ?_ ?_ | with_reducible assumption) <;> (first | with_reducible exact E | with_reducible refine PBP.drew ?_ | with_reducible refine PBP.alloc ?_ _ | with_reducible refine PBP.set ?_ _ _ _ ?_ ?_ | with_reducible assumption); done) | go_keep)
          (first
          | (go_at_call 67; with_reducible refine (big_ofu64P _).mono ?_; rintro e wA hRA; obtain ⟨nA, xA, kA, cA, rfl, hIA, hbA⟩ := hRA.out; have hkA := hIA.le s64; (try replace hI := IsBig.belowXP hbA (by with_reducible first | exact hI | exact hI.drewd | exact (hI.allocd _).drewd | exact ((hI.allocd _).allocd _).drewd | exact hI.allocd _ | exact (hI.allocd _).allocd _)); (try (have y1 := Two.belowXP hbA (by with_reducible first | exact z1 | exact z1.drew | exact (z1.alloc _).drew | exact ((z1.alloc _).alloc _).drew | exact z1.alloc _ | exact (z1.alloc _).alloc _); obtain ⟨zf1, zf2, zf3, zf4⟩ := y1.cells; have zl4 := y1.lt)); (try (have y2 := Two.belowXP hbA (by with_reducible first | exact z2 | exact z2.drew | exact (z2.alloc _).drew | exact ((z2.alloc _).alloc _).drew | exact z2.alloc _ | exact (z2.alloc _).alloc _); obtain ⟨zf1, zf2, zf3, zf4⟩ := y2.cells; have zl4 := y2.lt)); (try (have y3 := Two.belowXP hbA (by with_reducible first | exact z3 | exact z3.drew | exact (z3.alloc _).drew | exact ((z3.alloc _).alloc _).drew | exact z3.alloc _ | exact (z3.alloc _).alloc _); obtain ⟨zf1, zf2, zf3, zf4⟩ := y3.cells; have zl4 := y3.lt)); (try (have z1 := Two.belowXP hbA (by with_reducible first | exact E.n1.drew | exact E.n1); obtain ⟨zc1, zc2, zc3, zc4⟩ := z1.cells; have zl1 := z1.lt)); (try (have z2 := Two.belowXP hbA (by with_reducible first | exact E.n21.drew | exact E.n21); obtain ⟨zc1, zc2, zc3, zc4⟩ := z2.cells; have zl1 := z2.lt)); (try (have z3 := Two.belowXP hbA (by with_reducible first | exact E.n22.drew | exact E.n22); obtain ⟨zc1, zc2, zc3, zc4⟩ := z3.cells; have zl1 := z3.lt)); (have E' := PBP.below hbA (by with_reducible first | exact E | exact E.drew | exact (E.alloc _).drew | exact ((E.alloc _).alloc _).drew | exact E.alloc _ | exact (E.alloc _).alloc _)); clear E; have E := E'; clear E'; obtain ⟨p1, p2⟩ := E.cells; obtain ⟨nn1, nn2, nn3, nn4, nn5⟩ := E.nes)
          | (go_at_call 68; with_reducible refine (DN n nA x xA k kA c cA _ (by with_reducible first | exact hI | exact hI.drewd | exact (hI.allocd _).drewd | exact ((hI.allocd _).allocd _).drewd | exact hI.allocd _ | exact (hI.allocd _).allocd _) (by with_reducible first | exact hIA | exact hIA.drewd | exact (hIA.allocd _).drewd | exact ((hIA.allocd _).allocd _).drewd | exact hIA.allocd _ | exact (hIA.allocd _).allocd _) ?_ ?_).mono ?_; omega; omega; rintro e wB hRB; obtain ⟨nB, xB, kB, cB, nR, xR, kR, cR, rfl, hIB, hIR, hbB⟩ := hRB.out; (try (have y1 := Two.belowXP hbB (by with_reducible first | exact z1 | exact z1.drew | exact (z1.alloc _).drew | exact ((z1.alloc _).alloc _).drew | exact z1.alloc _ | exact (z1.alloc _).alloc _); obtain ⟨zf1, zf2, zf3, zf4⟩ := y1.cells; have zl4 := y1.lt)); (try (have y2 := Two.belowXP hbB (by with_reducible first | exact z2 | exact z2.drew | exact (z2.alloc _).drew | exact ((z2.alloc _).alloc _).drew | exact z2.alloc _ | exact (z2.alloc _).alloc _); obtain ⟨zf1, zf2, zf3, zf4⟩ := y2.cells; have zl4 := y2.lt)); (try (have y3 := Two.belowXP hbB (by with_reducible first | exact z3 | exact z3.drew | exact (z3.alloc _).drew | exact ((z3.alloc _).alloc _).drew | exact z3.alloc _ | exact (z3.alloc _).alloc _); obtain ⟨zf1, zf2, zf3, zf4⟩ := y3.cells; have zl4 := y3.lt)); (try (have z1 := Two.belowXP hbB (by with_reducible first | exact E.n1.drew | exact E.n1); obtain ⟨zc1, zc2, zc3, zc4⟩ := z1.cells; have zl1 := z1.lt)); (try (have z2 := Two.belowXP hbB (by with_reducible first | exact E.n21.drew | exact E.n21); obtain ⟨zc1, zc2, zc3, zc4⟩ := z2.cells; have zl1 := z2.lt)); (try (have z3 := Two.belowXP hbB (by with_reducible first | exact E.n22.drew | exact E.n22); obtain ⟨zc1, zc2, zc3, zc4⟩ := z3.cells; have zl1 := z3.lt)); (have E' := PBP.below hbB (by with_reducible first | exact E | exact E.drew | exact (E.alloc _).drew | exact ((E.alloc _).alloc _).drew | exact E.alloc _ | exact (E.alloc _).alloc _)); clear E; have E := E'; clear E'; obtain ⟨p1, p2⟩ := E.cells; obtain ⟨nn1, nn2, nn3, nn4, nn5⟩ := E.nes))
        all_goals
          go_wp2_with fail
          go_meet
          case rel =>
            refine ⟨_, nB, xB, kB, cB, rfl, ?_, IsBig.keeps hIB ?_, PBP.bl (b := w1.heap.size) (q1 := .bool n) (q2 := .slice x k c) ?_⟩
            · (first | with_reducible refine Two.drewP ?_ | with_reducible exact Two.new _ _ _ _ rfl | with_reducible exact Two.new1P _ _ _ _ | with_reducible exact Two.newSP _ _ _ _ _ _ | with_reducible refine Two.alloc ?_ _ | with_reducible refine Two.putEP ?_ _ _ | with_reducible refine Two.put_other ?_ ?_ _ _ | with_reducible refine Two.putE_otherP ?_ ?_ _ _ | with_reducible exact z1 | with_reducible exact ⟨_, _, z1⟩ | with_reducible exact z2 | with_reducible exact ⟨_, _, z2⟩ | with_reducible exact z3 | with_reducible exact ⟨_, _, z3⟩ | with_reducible exact y1 | with_reducible exact ⟨_, _, y1⟩ | with_reducible exact y2 | with_reducible exact ⟨_, _, y2⟩ | with_reducible exact y3 | with_reducible exact ⟨_, _, y3⟩ | with_reducible exact Nat.ne_of_lt (by with_reducible assumption) | with_reducible exact Nat.ne_of_gt (by with_reducible assumption) | with_reducible assumption | omega) <;> (first | with_reducible refine Two.drewP ?_ | with_reducible exact Two.new _ _ _ _ rfl | with_reducible exact Two.new1P _ _ _ _ | with_reducible exact Two.newSP _ _ _ _ _ _ | with_reducible refine Two.alloc ?_ _ | with_reducible refine Two.putEP ?_ _ _ | with_reducible refine Two.put_other ?_ ?_ _ _ | with_reducible refine Two.putE_otherP ?_ ?_ _ _ | with_reducible exact z1 | with_reducible exact ⟨_, _, z1⟩ | with_reducible exact z2 | with_reducible exact ⟨_, _, z2⟩ | with_reducible exact z3 | with_reducible exact ⟨_, _, z3⟩ | with_reducible exact y1 | with_reducible exact ⟨_, _, y1⟩ | with_reducible exact y2 | with_reducible exact ⟨_, _, y2⟩ | with_reducible exact y3 | with_reducible exact ⟨_, _, y3⟩ | with_reducible exact Nat.ne_of_lt (by with_reducible assumption) | with_reducible exact Nat.ne_of_gt (by with_reducible assumption) | with_reducible assumption | omega) <;> (first | with_reducible refine Two.drewP ?_ | with_reducible exact Two.new _ _ _ _ rfl | with_reducible exact Two.new1P _ _ _ _ | with_reducible exact Two.newSP _ _ _ _ _ _ | with_reducible refine Two.alloc ?_ _ | with_reducible refine Two.putEP ?_ _ _ | with_reducible refine Two.put_other ?_ ?_ _ _ | with_reducible refine Two.putE_otherP ?_ ?_ _ _ | with_reducible exact z1 | with_reducible exact ⟨_, _, z1⟩ | with_reducible exact z2 | with_reducible exact ⟨_, _, z2⟩ | with_reducible exact z3 | with_reducible exact ⟨_, _, z3⟩ | with_reducible exact y1 | with_reducible exact ⟨_, _, y1⟩ | with_reducible exact y2 | with_reducible exact ⟨_, _, y2⟩ | with_reducible exact y3 | with_reducible exact ⟨_, _, y3⟩ | with_reducible exact Nat.ne_of_lt (by with_reducible assumption) | with_reducible exact Nat.ne_of_gt (by with_reducible assumption) | with_reducible assumption | omega) <;> (first | with_reducible refine Two.drewP ?_ | with_reducible exact Two.new _ _ _ _ rfl | with_reducible exact Two.new1P _ _ _ _ | with_reducible exact Two.newSP _ _ _ _ _ _ | with_reducible refine Two.alloc ?_ _ | with_reducible refine Two.putEP ?_ _ _ | with_reducible refine Two.put_other ?_ ?_ _ _ | with_reducible refine Two.putE_otherP ?_ ?_ _ _ | with_reducible exact z1 | with_reducible exact ⟨_, _, z1⟩ | with_reducible exact z2 | with_reducible exact ⟨_, _, z2⟩ | with_reducible exact z3 | with_reducible exact ⟨_, _, z3⟩ | with_reducible exact y1 | with_reducible exact ⟨_, _, y1⟩ | with_reducible exact y2 | with_reducible exact ⟨_, _, y2⟩ | with_reducible exact y3 | with_reducible exact ⟨_, _, y3⟩ | with_reducible exact Nat.ne_of_lt (by with_reducible assumption) | with_reducible exact Nat.ne_of_gt (by with_reducible assumption) | with_reducible assumption | omega) <;> (first | with_reducible refine Two.drewP ?_ | with_reducible exact Two.new _ _ _ _ rfl | with_reducible exact Two.new1P _ _ _ _ | with_reducible exact Two.newSP _ _ _ _ _ _ | with_reducible refine Two.alloc ?_ _ | with_reducible refine Two.putEP ?_ _ _ | with_reducible refine Two.put_other ?_ ?_ _ _ | with_reducible refine Two.putE_otherP ?_ ?_ _ _ | with_reducible exact z1 | with_reducible exact ⟨_, _, z1⟩ | with_reducible exact z2 | with_reducible exact ⟨_, _, z2⟩ | with_reducible exact z3 | with_reducible exact ⟨_, _, z3⟩ | with_reducible exact y1 | with_reducible exact ⟨_, _, y1⟩ | with_reducible exact y2 | with_reducible exact ⟨_, _, y2⟩ | with_reducible exact y3 | with_reducible exact ⟨_, _, y3⟩ | with_reducible exact Nat.ne_of_lt (by with_reducible assumption) | with_reducible exact Nat.ne_of_gt (by with_reducible assumption) | with_reducible assumption | omega) <;> (first | with_reducible refine Two.drewP ?_ | with_reducible exact Two.new _ _ _ _ rfl | with_reducible exact Two.new1P _ _ _ _ | with_reducible exact Two.newSP _ _ _ _ _ _ | with_reducible refine Two.alloc ?_ _ | with_reducible refine Two.putEP ?_ _ _ | with_reducible refine Two.put_other ?_ ?_ _ _ | with_reducible refine Two.putE_otherP ?_ ?_ _ _ | with_reducible exact z1 | with_reducible exact ⟨_, _, z1⟩ | with_reducible exact z2 | with_reducible exact ⟨_, _, z2⟩ | with_reducible exact z3 | with_reducible exact ⟨_, _, z3⟩ | with_reducible exact y1 | with_reducible exact ⟨_, _, y1⟩ | with_reducible exact y2 | with_reducible exact ⟨_, _, y2⟩ | with_reducible exact y3 | with_reducible exact ⟨_, _, y3⟩ | with_reducible exact Nat.ne_of_lt (by with_reducible assumption) | with_reducible exact Nat.ne_of_gt (by with_reducible assumption) | with_reducible assumption | omega)
            · exact (by repeat' (first | (with_reducible exact Keeps.refl _) | (with_reducible refine Keeps.alloc ?_ _) | (with_reducible refine Keeps.drew ?_) | (with_reducible refine Keeps.drewN ?_ _) | (with_reducible refine Keeps.set ?_ _ _ (T := 41) ?_ (by decide)) | (with_reducible exact TyAt.new _ _ _ _ (by simp)) | (with_reducible refine TyAt.set ?_ _ _) | (with_reducible refine TyAt.alloc ?_ _) | (with_reducible refine TyAt.drew ?_) | (with_reducible refine TyAt.drewN ?_ _) | (apply Keeps.below; assumption) | (exact Two.ty (by assumption)) | (apply TyAt.below; rotate_left; assumption)))
            · (first | with_reducible exact E | with_reducible refine PBP.drew ?_ | with_reducible refine PBP.alloc ?_ _ | with_reducible refine PBP.set ?_ _ _ _ ?_ ?_ | with_reducible assumption) <;> (first | with_reducible exact E | with_reducible refine PBP.drew ?_ | with_reducible refine PBP.alloc ?_ _ | with_reducible refine PBP.set ?_ _ _ _ ?_ ?_ | with_reducible assumption) <;> (first | with_reducible exact E | with_reducible refine PBP.drew ?_ | with_reducible refine PBP.alloc ?_ _ | with_reducible refine PBP.set ?_ _ _ _ ?_ ?_ | with_reducible assumption) <;> (first | with_reducible exact E | with_reducible refine PBP.drew ?_ | with_reducible refine PBP.alloc ?_ _ | with_reducible refine PBP.set ?_ _ _ _ ?_ ?_ | with_reducible assumption) <;> (first | with_reducible exact E | with_reducible refine PBP.drew ?_ | with_reducible refine PBP.alloc ?_ _ | with_reducible refine PBP.set ?_ _ _ _ ?_ ?_ | with_reducible assumption) <;> (first | with_reducible exact E | with_reducible refine PBP.drew ?_ | with_reducible refine PBP.alloc ?_ _ | with_reducible refine PBP.set ?_ _ _ _ ?_ ?_ | with_reducible assumption) <;> (first | with_reducible exact E | with_reducible refine PBP.drew ?_ | with_reducible refine PBP.alloc ?_ _ | with_reducible refine PBP.set ?_ _ _ _ ?_ ?_ | with_reducible assumption) <;> (first | with_reducible exact E | with_reducible refine PBP.drew ?_ | with_reducible refine PBP.alloc ?_ _ | with_reducible refine PBP.set ?_ _ _ _ ?_ ?_ | with_reducible assumption) <;> (first | with_reducible exact E | with_reducible refine PBP.drew ?_ | with_reducible refine PBP.alloc ?_ _ | with_reducible refine PBP.set ?_ _ _ _ ?_ ?_ | with_reducible assumption)
      case rest =>
        clear E p1 p2 nn1 nn2 nn3 nn4 nn5
        obtain ⟨b, nq, xq, kq, cq, rfl, D, hI, hB⟩ := hcut
        have hkq := hI.le sF
        obtain ⟨p1, p2, p3, p4⟩ := D.cells
        go_wp2_with fail
        refine (IN nq xq kq cq _ hI (by omega)).mono ?_
        rintro e w7 ⟨rfl, hb7⟩
        go_wp2_with fail
        go_ret
        exact ⟨rfl, hB.trans (hb7.mono hB.size)⟩

end Go.Proofs.YtmkblfejoniccaaDoor
namespace Go.Proofs.YtmkblfejoniccaaDoor
open Go.RowKit
set_option linter.unusedSimpArgs false
set_option linter.unusedVariables false

def hairN (n p q : Int) : Int := if scaleE n p q ≠ 0 then 0 else if n = 0 then 0 else max (scaleN n p q / 64 * 64) 64
theorem partE_len {a n d : Int} (h : partE a n d = 0) : LenB (partN a n d) := by
  unfold partE at h
  unfold partN
  by_cases h0 : d = 0
  · rw [if_pos h0] at h; omega
  · rw [if_neg h0] at h ⊢
    cases hl : lenB (fq (a * n) d)
    · rw [hl] at h; simp at h
    · simp only [if_true]
      exact (lenB_iff _).1 hl
theorem scaleE_len {n p q : Int} (h : scaleE n p q = 0) : LenB (scaleN n p q) := by
  unfold scaleE at h
  unfold scaleN
  cases hg : goodB p q
  · rw [hg] at h; simp at h
  · rw [hg] at h
    simp only [if_true] at h ⊢
    exact partE_len h
set_option maxRecDepth 100000 in
set_option maxHeartbeats 1600000 in
theorem sty_hairline (n p q : Int) (hn : IFit n) (hp : IFit p) (hq : IFit q) (w : World) :
    Calls Tryd.prog 36 #[.int .i64 n, .agg #[.int .i64 p, .int .i64 q]] w (Gives (hairN n p q) (scaleE n p q) w) := by
  have SC := fun W => fix_scale n p q hn hp hq W
  unfold Gives at SC
  obtain ⟨Q, eQ⟩ : ∃ Q, Q = Gives (hairN n p q) (scaleE n p q) w := ⟨_, rfl⟩
  rw [← eQ]
  have t1 := Blk.new w #[.int .i64 p, .int .i64 q] 25 _ rfl
  have q0 := t1.cell 0 _ rfl
  have q1 := t1.cell 1 _ rfl
  have hB : Below w.heap.size w (w.alloc (.cells #[.int .i64 p, .int .i64 q] 25)) := (by repeat' (first | (with_reducible exact Below.refl _ _) | (with_reducible assumption) | (with_reducible refine below_alloc ?_ _ ?_) | (with_reducible refine below_set _ ?_ ?_) | (with_reducible refine Below.drew ?_) | (with_reducible refine below_dN ?_ _) | (apply below_thenA; assumption) | omega | (simp; done) | (simp; omega) | (simp [*]; done)))
  have hs := hB.size
  have HB := Lib.hid hB
  clear hB t1
  by_cases h : scaleE n p q = 0
  · have C : ∀ W, Calls Tryd.prog 82 #[.int .i64 n, .agg #[.int .i64 p, .int .i64 q]] W fun e w' => e = .returned (.int .i64 (scaleN n p q)) ∧ Below W.heap.size W w' := fun W => (SC W).mono fun e w' g => ⟨g.1 h, g.2.2⟩
    have hL := scaleE_len h
    have FL := fun W => fix_floor (scaleN n p q) hL.fit W
    have hL2 : LenB (scaleN n p q / 64 * 64) := by unfold LenB at hL ⊢; omega
    have PX := fun W => fix_px (scaleN n p q / 64) (by unfold LenB at hL; unfold IFit; omega) hL2 W
    unfold hairN at eQ
    rw [if_neg (by simpa using h)] at eQ
    obtain ⟨F, eF⟩ : ∃ F, scaleN n p q / 64 * 64 = F := ⟨_, rfl⟩
    obtain ⟨G, eG⟩ : ∃ G, scaleN n p q / 64 = G := ⟨_, rfl⟩
    obtain ⟨X, eX⟩ : ∃ X, scaleN n p q = X := ⟨_, rfl⟩
    obtain ⟨S, eS⟩ : ∃ S, scaleE n p q = S := ⟨_, rfl⟩
    rw [eF] at PX eQ hL2
    rw [eG] at PX FL
    rw [eX] at FL C
    rw [eS] at eQ h
    subst h
    clear SC eF eG eX eS hL hL2
    by_cases hn0 : n = 0
    · subst hn0
      rw [if_pos rfl] at eQ
      have EQ := Lib.hid eQ
      clear eQ
      go_enter Tryd.func36, Tryd.ntmps36
      go_wp2_with (go_at_call 82; with_reducible refine (C _).mono ?_; rintro e w1 ⟨rfl, hb1⟩)
      rw [EQ.out]
      exact ⟨fun _ => rfl, fun g => absurd rfl g, HB.out.trans (hb1.mono hs)⟩
    · rw [if_neg hn0] at eQ
      have z : (n == 0) = false := by simpa using hn0
      clear hn0
      obtain ⟨M, eM⟩ : ∃ M, max F 64 = M := ⟨_, rfl⟩
      rw [eM] at eQ
      have EQ := Lib.hid eQ
      clear eQ
      go_enter Tryd.func36, Tryd.ntmps36
      go_wp2_with (first
        | (go_at_call 82; with_reducible refine (C _).mono ?_; rintro e w1 ⟨rfl, hb1⟩)
        | (go_at_call 84; with_reducible refine (FL _).mono ?_; rintro e w2 ⟨rfl, rfl⟩)
        | (go_at_call 83; with_reducible refine (PX _).mono ?_; rintro e w3 ⟨rfl, hb3⟩))
      rw [EQ.out]
      exact ⟨fun _ => rfl, fun g => absurd rfl g, (HB.out.trans (hb1.mono hs)).trans (hb3.mono (HB.out.trans (hb1.mono hs)).size)⟩
  · have C : ∀ W, Calls Tryd.prog 82 #[.int .i64 n, .agg #[.int .i64 p, .int .i64 q]] W fun e w' => e = .panicked (gave (scaleE n p q)) ∧ Below W.heap.size W w' := fun W => (SC W).mono fun e w' g => ⟨g.2.1 h, g.2.2⟩
    obtain ⟨S, eS⟩ : ∃ S, scaleE n p q = S := ⟨_, rfl⟩
    rw [eS] at C h eQ
    have H := Lib.hid h
    have EQ := Lib.hid eQ
    clear eQ h SC eS
    go_enter Tryd.func36, Tryd.ntmps36
    go_wp2_with (go_at_call 82; with_reducible refine (C _).mono ?_; rintro e w1 ⟨rfl, hb1⟩)
    simp only [bodyPost]
    rw [EQ.out]
    exact ⟨trivial, fun g => absurd g H.out, fun _ => rfl, HB.out.trans (hb1.mono hs)⟩
set_option maxRecDepth 100000 in
set_option maxHeartbeats 1600000 in
theorem ref11_hairline (n p q : Int) (hn : IFit n) (hp : IFit p) (hq : IFit q) (w : World) :
    Calls Tryd.prog 37 #[.int .i64 n, .int .i64 p, .int .i64 q] w fun e w' => e = .returned (.tuple #[.int .i64 (hairN n p q), .int .i64 (scaleE n p q)]) ∧ Below w.heap.size w w' := by
  have GD := fun W => ref_good p q hp hq W
  have PT := fun W => ref4_part n p q hn hp hq W
  have PP := fun hl W => ref_pixelsP (partN n p q) 0 (partN n p q) (LenB.fit hl) (.inl ⟨rfl, rfl⟩) W
  obtain ⟨Q, eQ⟩ : ∃ Q : Ending → World → Prop, Q = fun e w' => e = .returned (.tuple #[.int .i64 (hairN n p q), .int .i64 (scaleE n p q)]) ∧ Below w.heap.size w w' := ⟨_, rfl⟩
  rw [← eQ]
  unfold hairN scaleN scaleE at eQ
  cases hg : goodB p q
  · rw [hg] at GD eQ
    simp only [Bool.false_eq_true, if_false, ne_eq, Int.one_ne_zero, not_false_eq_true, if_true] at eQ
    have EQ := Lib.hid eQ
    clear eQ PP PT hg
    go_enter Tryd.func37, Tryd.ntmps37
    go_wp2_with (go_at_call 85; with_reducible refine (GD _).mono ?_; rintro e w1 ⟨rfl, hb1⟩)
    rw [EQ.out]
    exact ⟨rfl, hb1⟩
  · rw [hg] at GD eQ
    simp only [if_true] at eQ
    by_cases h : partE n p q = 0
    · have hL := partE_len h
      have PX := PP hL
      have hL2 : -17592186044416 ≤ partN n p q / 64 ∧ partN n p q / 64 ≤ 17592186044416 := by unfold LenB at hL; omega
      rw [if_neg (by simpa using h)] at eQ
      obtain ⟨S, eS⟩ : ∃ S, partE n p q = S := ⟨_, rfl⟩
      obtain ⟨G, eG⟩ : ∃ G, partN n p q / 64 = G := ⟨_, rfl⟩
      obtain ⟨X, eX⟩ : ∃ X, partN n p q = X := ⟨_, rfl⟩
      rw [eG] at PX eQ hL2
      rw [eX] at PX PT
      rw [eS] at PT eQ h
      subst h
      obtain ⟨g1, g2⟩ := hL2
      clear PP hg eS eG eX hL
      by_cases hn0 : n = 0
      · subst hn0
        rw [if_pos rfl] at eQ
        have EQ := Lib.hid eQ
        clear eQ
        go_enter Tryd.func37, Tryd.ntmps37
        go_wp2_with (first
          | (go_at_call 85; with_reducible refine (GD _).mono ?_; rintro e w1 ⟨rfl, hb1⟩)
          | (go_at_call 86; with_reducible refine (PT _).mono ?_; rintro e w2 ⟨rfl, hb2⟩; replace hb1 := below_step hb1 hb2))
        rw [EQ.out]
        exact ⟨rfl, hb1⟩
      · rw [if_neg hn0] at eQ
        have z : (n == 0) = false := by simpa using hn0
        clear hn0
        by_cases h1 : G < 1
        · rw [show max (G * 64) 64 = 64 by omega] at eQ
          have EQ := Lib.hid eQ
          clear eQ
          go_enter Tryd.func37, Tryd.ntmps37
          go_wp2_with (first
            | (go_at_call 85; with_reducible refine (GD _).mono ?_; rintro e w1 ⟨rfl, hb1⟩)
            | (go_at_call 86; with_reducible refine (PT _).mono ?_; rintro e w2 ⟨rfl, hb2⟩; replace hb1 := below_step hb1 hb2)
            | (go_at_call 87; with_reducible refine (PX _).mono ?_; rintro e w3 ⟨rfl, hb3⟩; replace hb1 := below_step hb1 hb3))
          rw [EQ.out]
          exact ⟨rfl, hb1⟩
        · rw [show max (G * 64) 64 = 64 * G by omega] at eQ
          have d1 : decide (G < 1) = false := by simp; omega
          have EQ := Lib.hid eQ
          clear eQ
          go_enter Tryd.func37, Tryd.ntmps37
          go_wp2_with (first
            | (go_at_call 85; with_reducible refine (GD _).mono ?_; rintro e w1 ⟨rfl, hb1⟩)
            | (go_at_call 86; with_reducible refine (PT _).mono ?_; rintro e w2 ⟨rfl, hb2⟩; replace hb1 := below_step hb1 hb2)
            | (go_at_call 87; with_reducible refine (PX _).mono ?_; rintro e w3 ⟨rfl, hb3⟩; replace hb1 := below_step hb1 hb3))
          rw [EQ.out]
          exact ⟨rfl, hb1⟩
    · rw [if_pos h] at eQ
      obtain ⟨S, eS⟩ : ∃ S, partE n p q = S := ⟨_, rfl⟩
      obtain ⟨X, eX⟩ : ∃ X, partN n p q = X := ⟨_, rfl⟩
      rw [eS, eX] at PT
      rw [eS] at eQ h
      have z : (S == 0) = false := by simpa using h
      have EQ := Lib.hid eQ
      clear eQ PP hg eS eX h
      go_enter Tryd.func37, Tryd.ntmps37
      go_wp2_with (first
        | (go_at_call 85; with_reducible refine (GD _).mono ?_; rintro e w1 ⟨rfl, hb1⟩)
        | (go_at_call 86; with_reducible refine (PT _).mono ?_; rintro e w2 ⟨rfl, hb2⟩; replace hb1 := below_step hb1 hb2))
      rw [EQ.out]
      exact ⟨rfl, hb1⟩
end Go.Proofs.YtmkblfejoniccaaDoor
namespace Go.Proofs.YtmkblfejoniccaaDoor
open Go Go.RowKit
set_option linter.unusedSimpArgs false
set_option linter.unusedVariables false

/-- Four cells, the first i of which are told. -/
def brF (h : Nat → Int) (i : Nat) (k : Nat) : Value := .int .i64 (if k < i then h k else 0)
theorem brF_set (h : Nat → Int) (i : Nat) (hi : i < 4) : (cellsF 4 (brF h i)).setIfInBounds i (.int .i64 (h i)) = cellsF 4 (brF h (i + 1)) := by
  rw [cellsF_set]
  refine cellsF_ext (fun k hk => ?_)
  unfold brF
  by_cases h1 : k = i
  · rw [if_pos h1]
    subst h1
    rw [if_pos (by omega)]
  · rw [if_neg h1]
    have e : (k < i) = (k < i + 1) := by apply propext; omega
    simp only [e]
theorem brF_zero (h : Nat → Int) : cellsF 4 (brF h 0) = #[.int .i64 0, .int .i64 0, .int .i64 0, .int .i64 0] := by kernel_rfl
structure BoW (F : Nat → Value) (p q : Int) (h : Nat → Int) (w : World) (i : Nat) (W : World) : Prop where
  sty : Blk W w.heap.size (cellsF 62 F) 66
  rat : Blk W (w.heap.size + 1) #[.int .i64 p, .int .i64 q] 25
  out : Blk W (w.heap.size + 1 + 1) (cellsF 4 (brF h 0)) 133
  box : Blk W (w.heap.size + 1 + 1 + 1) (cellsF 4 (brF h i)) 133
  bel : Below w.heap.size w W
theorem BoW.below {F : Nat → Value} {p q : Int} {h : Nat → Int} {w W W' : World} {i : Nat} (x : BoW F p q h w i W) (hb : Below W.heap.size W W') : BoW F p q h w i W' :=
  ⟨x.sty.below hb, x.rat.below hb, x.out.below hb, x.box.below hb, x.bel.trans (hb.mono x.bel.size)⟩
theorem BoW.drew {F : Nat → Value} {p q : Int} {h : Nat → Int} {w W : World} {i : Nat} (x : BoW F p q h w i W) : BoW F p q h w i W.drew :=
  ⟨x.sty.drew, x.rat.drew, x.out.drew, x.box.drew, x.bel.drew⟩
theorem BoW.but {F : Nat → Value} {p q : Int} {h : Nat → Int} {w W W' : World} {i j : Nat} (x : BoW F p q h w i W) (hb : But (w.heap.size + 1 + 1 + 1) W W') (t : Blk W' (w.heap.size + 1 + 1 + 1) (cellsF 4 (brF h j)) 133) : BoW F p q h w j W' :=
  ⟨x.sty.but hb (by omega), x.rat.but hb (by omega), x.out.but hb (by omega), t, hb.to x.bel (by omega) x.bel.size⟩
set_option maxRecDepth 100000 in
set_option maxHeartbeats 3200000 in
theorem sty_borders (F : Nat → Value) (N : Nat → Int) (p q : Int) (hF : ∀ i, i < 4 → F (38 + i) = .int .i64 (N i)) (hN : ∀ i, i < 4 → IFit (N i) ∧ scaleE (N i) p q = 0) (hp : IFit p) (hq : IFit q) (w : World) :
    Calls Tryd.prog 71 #[.agg (cellsF 62 F), .agg #[.int .i64 p, .int .i64 q]] w fun e w' => e = .returned (.agg (cellsF 4 (brF (fun i => hairN (N i) p q) 4))) ∧ Below w.heap.size w w' := by
  obtain ⟨h, eh⟩ : ∃ h, (fun i => hairN (N i) p q) = h := ⟨_, rfl⟩
  have HC : ∀ i, i < 4 → ∀ W, Calls Tryd.prog 36 #[.int .i64 (N i), .agg #[.int .i64 p, .int .i64 q]] W fun e w' => e = .returned (.int .i64 (h i)) ∧ Below W.heap.size W w' := by
    intro i hi W
    rw [← eh]
    exact (sty_hairline (N i) p q (hN i hi).1 hp hq W).mono fun e w' g => ⟨g.1 (hN i hi).2, g.2.2⟩
  rw [eh]
  have HF := Lib.hid hF
  have HHC := Lib.hid HC
  clear eh hN hp hq hF HC
  go_enter Tryd.func71, Tryd.ntmps71
  go_upto_region 2 with (fail)
  refine wp_worldS (BoW F p q h w 0) ⟨Blk.alloc (Blk.alloc (Blk.alloc (Blk.new _ _ _ _ rfl) _) _) _, Blk.alloc (Blk.alloc (Blk.new _ _ _ _ (by simp)) _) _, by rw [brF_zero]; exact Blk.alloc (Blk.new _ _ _ _ (by simp)) _, by rw [brF_zero]; exact Blk.new _ _ _ _ (by simp), (by repeat' (first | (with_reducible exact Below.refl _ _) | (with_reducible assumption) | (with_reducible refine below_alloc ?_ _ ?_) | (with_reducible refine below_set _ ?_ ?_) | (with_reducible refine Below.drew ?_) | (with_reducible refine below_dN ?_ _) | (apply below_thenA; assumption) | omega | (simp; done) | (simp; omega) | (simp [*]; done)))⟩ ?_
  intro W1 hS0
  go_wp2_with fail
  go_loopg [7] 4 (fun gk s7 wr => ∃ i : Nat, i ≤ 4 ∧ gk = 4 - i ∧ s7 = .int .i64 ((i : Int)) ∧ BoW F p q h w i wr)
  case atStart => exact ⟨0, by omega, rfl, rfl, hS0⟩
  case round =>
    clear hS0
    obtain ⟨i, hi, rfl, rfl, hS⟩ := hrel
    by_cases hik : i < 4
    · have ix : (i : Int) < 4 := by omega
      go_upto_region 5 with (fail)
      have C := HHC.out i hik
      have wi : IntKind.i64.wrap (i : Int) = (i : Int) := by simp only [IntKind.wrap_i64, wrap64]; omega
      have i10 : (i : Int) < 10 := by omega
      have hfi := HF.out i hik
      obtain ⟨n, en⟩ : ∃ n, N i = n := ⟨_, rfl⟩
      have hset := brF_set h i hik
      obtain ⟨hh, ehh⟩ : ∃ n, h i = n := ⟨_, rfl⟩
      rw [en] at hfi C
      rw [ehh] at C hset
      have HSET := Lib.hid hset
      clear en ehh hset
      go_upto_region 5 with (fail)
      rename_i K5 hK5
      refine wp_region_calm (fun w' => ∃ j, BoW F p q h w j w') [9] (fun w' => BoW F p q h w i w') [Is (.int .i64 ((i : Int))), Is (.int .i64 ((i : Int))), Is (.int .i64 ((i : Int))), Is (.pointer (some ⟨w.heap.size, 38, none⟩)), Is (.pointer (some ⟨w.heap.size, 38 + i, none⟩)), Is (.int .i64 n), Is (.agg #[.int .i64 p, .int .i64 q]), Is (.int .i64 hh), Is (.pointer (some ⟨w.heap.size + 1 + 1 + 1, i, none⟩)), wldS (fun w' => BoW F p q h w (i + 1) w') (fun _ _ h hb => h.below hb)] [] (by kernel_rfl) (by kernel_rfl) (by kernel_rfl) (by kernel_rfl) ⟨i, hS.drew⟩ hS.drew ?_ ?_ ?_ ?_ ?_
      · rintro W W' hC hb
        exact hC.imp fun j h => h.below hb
      · intro W W' hB h0 hb; exact h0.below hb
      · intro k vs W hk h
        exact absurd hk (by simp)
      · intro Q; clear hK5 
        refine ⟨?_, ?_, ?_, ?_, ?_, ?_, ?_, ?_, ?_, ?_, trivial⟩
        · intro vs W hW hW0 hd hne hold K hK hA hL; clear hne hA hL; have hC := hW; simp only [puts, Act.put, List.setIfInBounds_toArray, List.set_cons_zero, List.set_cons_succ, Nat.zero_add, Nat.reduceAdd] at hK ⊢; clear hd hold; go_simp; exact hK.out rfl _ _ (Below.refl _ _) rfl
        · intro vs W hW hW0 hd hne hold K hK hA hL; clear hne hA hL; have hC := hW; simp only [puts, Act.put, List.setIfInBounds_toArray, List.set_cons_zero, List.set_cons_succ, Nat.zero_add, Nat.reduceAdd] at hK ⊢; clear hd hold; go_simp; exact hK.out rfl _ _ (Below.refl _ _) rfl
        · intro vs W hW hW0 hd hne hold K hK hA hL; clear hne hA hL; have hC := hW; simp only [puts, Act.put, List.setIfInBounds_toArray, List.set_cons_zero, List.set_cons_succ, Nat.zero_add, Nat.reduceAdd] at hK ⊢; have e1 : vs 1 = _ := hd 1 (by kernel_rfl); clear hd hold; simp only [e1] at hK; go_simp; exact hK.out rfl _ _ (Below.refl _ _) rfl
        · intro vs W hW hW0 hd hne hold K hK hA hL; clear hne hA hL; have hC := hW; simp only [puts, Act.put, List.setIfInBounds_toArray, List.set_cons_zero, List.set_cons_succ, Nat.zero_add, Nat.reduceAdd] at hK ⊢; clear hd hold; go_simp; exact hK.out rfl _ _ (Below.refl _ _) rfl
        · intro vs W hW hW0 hd hne hold K hK hA hL; clear hne hA hL; have hC := hW; simp only [puts, Act.put, List.setIfInBounds_toArray, List.set_cons_zero, List.set_cons_succ, Nat.zero_add, Nat.reduceAdd] at hK ⊢; have e3 : vs 3 = _ := hd 3 (by kernel_rfl); have e2 : vs 2 = _ := hd 2 (by kernel_rfl); clear hd hold; simp only [e3, e2] at hK; go_simp; exact hK.out rfl _ _ (Below.refl _ _) rfl
        · intro vs W hW hW0 hd hne hold K hK hA hL; clear hne hA hL; have hC := hW; simp only [puts, Act.put, List.setIfInBounds_toArray, List.set_cons_zero, List.set_cons_succ, Nat.zero_add, Nat.reduceAdd] at hK ⊢; have ea : vs 4 = _ := hd 4 (by kernel_rfl); obtain ⟨j, hCj⟩ := hC; have q1 := hCj.sty.cellF (i := 38 + i) (by omega); rw [hfi] at q1; clear hd hold hCj; simp only [ea] at hK; go_simp; exact hK.out rfl _ _ (Below.refl _ _) rfl
        · intro vs W hW hW0 hd hne hold K hK hA hL; clear hne hA hL; have hC := hW; simp only [puts, Act.put, List.setIfInBounds_toArray, List.set_cons_zero, List.set_cons_succ, Nat.zero_add, Nat.reduceAdd] at hK ⊢; obtain ⟨j, hCj⟩ := hC; have q1 := hCj.rat.cell 0 _ rfl; have q2 := hCj.rat.cell 1 _ rfl; clear hd hold hCj; go_simp; exact hK.out rfl _ _ (Below.refl _ _) rfl
        · intro vs W hW hW0 hd hne hold K hK hA hL; clear hne hA hL; have hC := hW; simp only [puts, Act.put, List.setIfInBounds_toArray, List.set_cons_zero, List.set_cons_succ, Nat.zero_add, Nat.reduceAdd] at hK ⊢; have ea : vs 5 = _ := hd 5 (by kernel_rfl); have eb : vs 6 = _ := hd 6 (by kernel_rfl); clear hd hold; simp only [ea, eb] at hK; go_simp; refine (C _).mono ?_; rintro e wx ⟨rfl, hbx⟩; go_simp; exact hK.out rfl _ _ hbx rfl
        · intro vs W hW hW0 hd hne hold K hK hA hL; clear hne hA hL; have hC := hW; simp only [puts, Act.put, List.setIfInBounds_toArray, List.set_cons_zero, List.set_cons_succ, Nat.zero_add, Nat.reduceAdd] at hK ⊢; have e0 : vs 0 = _ := hd 0 (by kernel_rfl); clear hd hold; simp only [e0] at hK; go_simp; exact hK.out rfl _ _ (Below.refl _ _) rfl
        · intro vs W hW hW0 hd hne hold K hK hA hL; clear hK hA; have hC := hW; simp only [puts, Act.put, List.setIfInBounds_toArray, List.set_cons_zero, List.set_cons_succ, Nat.zero_add, Nat.reduceAdd] at hL ⊢; have ea : vs 8 = _ := hd 8 (by kernel_rfl); have eb : vs 7 = _ := hd 7 (by kernel_rfl); have h0 := hW0 (by kernel_rfl); have q1 := h0.box.cellF (i := i) (by omega); have z1 := h0.box.free i; have tb := h0.box.set i (.int .i64 hh); rw [HSET.out] at tb; have hbt := But.set (b := w.heap.size + 1 + 1 + 1) W i (.int .i64 hh); have hN := h0.but hbt tb; clear hd hold h0; simp only [ea, eb] at hL; go_simp; refine hL.out rfl undef _ ⟨_, hN⟩ (fun h => by simp at h) hN ?_; exact claims_keep ⟨.inr is_keep, .inr is_keep, .inr is_keep, .inr is_keep, .inr is_keep, .inr is_keep, .inr is_keep, .inr is_keep, .inr is_keep, .inl rfl, trivial⟩
      · intro va5 WB hW hV _
        have hS9 : BoW F p q h w (i + 1) WB := hV 9 (by decide)
        clear hV hW
        simp only [puts, Act.put, List.setIfInBounds_toArray, List.set_cons_zero, List.set_cons_succ, Nat.zero_add, Nat.reduceAdd]
        refine hK5 _ _ ?_
        have HS9 := Lib.hid hS9
        clear hS9 hS C hfi
        go_wp2_with fail
        go_roundg (4 - (i + 1))
        case measure => go_light; omega
        case rel =>
          go_light
          exact ⟨i + 1, by omega, rfl, rfl, HS9.out⟩
    · have hi4 : i = 4 := by omega
      subst hi4
      have HS := Lib.hid hS
      clear hS
      go_wp2_with (first
        | (refine wpl_loadA (by rfl) 133 _ (by rfl) HS.out.box _ Tryd.underlying133 rfl (by kernel_rfl) (by rfl) ?_; simp only [Act.put, List.setIfInBounds_toArray, List.set_cons_zero, List.set_cons_succ, Nat.zero_add, Nat.reduceAdd])
        | (refine wpl_storeF (by rfl) 133 _ _ (by rfl) HS.out.out 0 4 (by omega) (brF h 4) (fun i _ => rfl) (by kernel_rfl) (by rfl) (by rfl) ?_; simp only [Act.put, List.setIfInBounds_toArray, List.set_cons_zero, List.set_cons_succ, Nat.zero_add, Nat.reduceAdd])
        | (refine bodyPost_ret (results_c1 (by rfl) (by rfl) (by exact load_allF (HS.out.out.storeF (g := brF h 4)) 133 _ Tryd.underlying133 rfl (by kernel_rfl))) (by rfl) ?_))
      exact (But.setCells _ _ _).to HS.out.bel (by omega) HS.out.bel.size
end Go.Proofs.YtmkblfejoniccaaDoor
namespace Go.Proofs.YtmkblfejoniccaaDoor
open Go Go.RowKit
set_option linter.unusedSimpArgs false
set_option linter.unusedVariables false

/-- The whole of a block is stored; of the world behind it no more is told than that. -/
theorem wpl_storeW {P : Program} {ops : Array Oper} {rest : List Oper} {op : Oper} {a : Act} {w : World} {Q : Exit → Act → World → Prop} (hg : op.guard = none) (ty : TypeId) (x y : Operand) (ho : op.op = .store ty x y)
    {b n : Nat} {f : Nat → Value} {T : TypeId} (t : Blk w b (cellsF n f) T) (g : Nat → Value) (h1 : ∀ i, i < n → (g i).oneCell' = true) (hi : (P.info? ty).map (·.size) = some n)
    (hx : a.eval x = .pointer (some ⟨b, 0, none⟩)) (hy : a.eval y = .agg (cellsF n g)) (hk : ∀ W, Blk W b (cellsF n g) T → But b w W → wpList P ops Q rest (a.put op.dst undef) W) : wpList P ops Q (op :: rest) a w :=
  wpl_storeF hg ty x y ho t 0 n (by omega) g h1 hi hx hy (hk _ t.storeF (But.setCells _ _ _))
def spR : Rs where
  L := defR.L
  P := defR.P
  N := fun j => if j = 0 then 4591870180066957722 else defR.N j
  W := defR.W
  B := fun j => decide (j = 0)
  C := 0
theorem spR_set : ((cellsF 65 (rawF defR)).setIfInBounds 38 (.float .f64 4591870180066957722)).setIfInBounds 60 (.bool true) = cellsF 65 (rawF spR) := by kernel_rfl
theorem spR_fit : spR.Fit := by
  refine ⟨fun i hi => ?_, fun i hi => ?_, fun i hi => ?_⟩
  · have : ∀ i, i < 19 → spR.L i < 18446744073709551616 := by decide
    exact this i hi
  · have : ∀ i, i < 10 → spR.N i < 18446744073709551616 := by decide
    exact this i hi
  · have : ∀ i, i < 12 → (-9223372036854775808 ≤ spR.W i ∧ spR.W i ≤ 9223372036854775807) := by decide
    exact this i hi
theorem spR_ok : dE spR = 0 := by kernel_rfl
theorem spR_cells : cellsF 62 (outF spR) = #[.int .i64 1, .int .i64 0, .int .i64 1, .int .i64 0, .int .i64 1, .int .i64 0, .int .i64 1, .int .i64 0, .int .i64 2, .int .i64 0, .int .i64 2, .int .i64 0, .int .i64 3, .int .i64 0, .int .i64 3, .int .i64 0, .int .i64 3, .int .i64 0, .int .i64 3, .int .i64 0, .int .i64 3, .int .i64 0, .int .i64 3, .int .i64 0, .int .i64 3, .int .i64 0, .int .i64 3, .int .i64 0, .int .i64 1, .int .i64 0, .int .i64 1, .int .i64 0, .int .i64 1, .int .i64 0, .int .i64 1, .int .i64 0, .int .i64 1, .int .i64 0, .int .i64 6, .int .i64 0, .int .i64 0, .int .i64 0, .int .i64 0, .int .i64 0, .int .i64 4096, .int .i64 0, .int .i64 0, .int .i64 1280, .bool true, .int .i64 1, .int .i64 1, .int .i64 1, .int .i64 1, .int .i64 0, .int .i64 1, .int .i64 1, .int .i64 1, .int .i64 1, .int .i64 0, .int .i64 1, .int .i64 1, .int .u8 0] := by kernel_rfl
def spN (i : Nat) : Int := if i = 0 then 6 else 0
theorem spN_cell (i : Nat) (hi : i < 4) : outF spR (38 + i) = .int .i64 (spN i) := by
  match i, hi with
  | 0, _ => (show _ = _; kernel_rfl)
  | 1, _ => (show _ = _; kernel_rfl)
  | 2, _ => (show _ = _; kernel_rfl)
  | 3, _ => (show _ = _; kernel_rfl)
theorem spN_ok (i : Nat) (hi : i < 4) : IFit (spN i) ∧ scaleE (spN i) 1 1 = 0 := by
  match i, hi with
  | 0, _ => exact ⟨by unfold IFit spN; omega, by kernel_rfl⟩
  | 1, _ => exact ⟨by unfold IFit spN; omega, by kernel_rfl⟩
  | 2, _ => exact ⟨by unfold IFit spN; omega, by kernel_rfl⟩
  | 3, _ => exact ⟨by unfold IFit spN; omega, by kernel_rfl⟩
theorem spN_out : cellsF 4 (brF (fun i => hairN (spN i) 1 1) 4) = #[.int .i64 64, .int .i64 0, .int .i64 0, .int .i64 0] := by kernel_rfl
set_option maxRecDepth 100000 in
set_option maxHeartbeats 1600000 in
theorem spk11a (s b : Nat) (hsb : s ≠ b) (f : Nat → Value) (W : World) (hs : Blk W s (cellsF 62 (outF spR)) 66) (hb : Blk W b (cellsF 4 f) 133) :
    Calls Tryd.prog 70 #[.pointer (some ⟨s, 0, none⟩), .pointer (some ⟨b, 0, none⟩)] W fun e W' => e = .returned (.tuple #[]) ∧ Blk W' b #[.int .i64 64, .int .i64 0, .int .i64 0, .int .i64 0] 133 ∧ But b W W' := by
  have BC := fun W => sty_borders (outF spR) spN 1 1 spN_cell spN_ok (by unfold IFit; omega) (by unfold IFit; omega) W
  have HS := Lib.hid hs
  have HB := Lib.hid hb
  obtain ⟨g, eg⟩ : ∃ g, brF (fun i => hairN (spN i) 1 1) 4 = g := ⟨_, rfl⟩
  have ho := spN_out
  rw [eg] at BC ho
  have hg1 : ∀ i, i < 4 → (g i).oneCell' = true := fun i _ => by rw [← eg]; rfl
  have HO := Lib.hid ho
  have HG := Lib.hid hg1
  clear hs hb eg ho hg1
  go_enter Tryd.func70, Tryd.ntmps70
  go_wp2_with (first
    | (refine wpl_loadA (by rfl) 66 _ (by rfl) HS.out _ Tryd.underlying66 rfl (by kernel_rfl) (by rfl) ?_; simp only [Act.put, List.setIfInBounds_toArray, List.set_cons_zero, List.set_cons_succ, Nat.zero_add, Nat.reduceAdd])
    | (go_at_call 71; with_reducible refine (BC _).mono ?_; rintro e w1 ⟨rfl, hb1⟩)
    | (refine wpl_storeF (by rfl) 133 _ _ (by rfl) (HB.out.below hb1) 0 4 (by omega) g HG.out (by kernel_rfl) (by rfl) (by rfl) ?_; simp only [Act.put, List.setIfInBounds_toArray, List.set_cons_zero, List.set_cons_succ, Nat.zero_add, Nat.reduceAdd]))
  refine bodyPost_end (results_none rfl _ _ _) rfl ?_
  refine ⟨rfl, ?_, (But.of hb1).trans (But.setCells _ _ _)⟩
  rw [← HO.out]
  exact (HB.out.below hb1).storeF
set_option maxRecDepth 100000 in
set_option maxHeartbeats 1600000 in
theorem speaks11_of (fD fX fO : Nat → Value) (hT : World → Prop)
    (DF : ∀ w, Calls Tryd.prog 33 #[] w fun e w' => e = .returned (.agg (cellsF 65 fD)) ∧ Below w.heap.size w w') (hD1 : ∀ i, (fD i).oneCell' = true)
    (FS : ((cellsF 65 fD).setIfInBounds 38 (.float .f64 4591870180066957722)).setIfInBounds 60 (.bool true) = cellsF 65 fX)
    (hO1 : ∀ i, (fO i).oneCell' = true) (o49 : fO 49 = .int .i64 1) (o0 : fO 0 = .int .i64 1) (o48 : fO 48 = .bool true) (o47 : fO 47 = .int .i64 1280)
    (SP : ∀ (s b : Nat), s ≠ b → ∀ (f : Nat → Value) (W : World), Blk W s (cellsF 62 fO) 66 → Blk W b (cellsF 4 f) 133 →
      Calls Tryd.prog 70 #[.pointer (some ⟨s, 0, none⟩), .pointer (some ⟨b, 0, none⟩)] W fun e W' => e = .returned (.tuple #[]) ∧ Blk W' b #[.int .i64 64, .int .i64 0, .int .i64 0, .int .i64 0] 133 ∧ But b W W')
    (w : World) (CC : ∀ W, Below w.heap.size w W → Calls Tryd.prog 29 #[.agg (cellsF 65 fX)] W fun e w' => e = .returned (.tuple #[.agg (cellsF 62 fO), .int .i64 0]) ∧ Below W.heap.size W w') :
    Calls Tryd.prog 28 #[] w fun e w' => e = .returned (.bool true) ∧ Below w.heap.size w w' := by
  have SF := sto_floS
  have HFS := Lib.hid FS
  have HSP := Lib.hid SP
  have HCC := Lib.hid CC
  have HD1 := Lib.hid hD1
  have HO1 := Lib.hid hO1
  have HO := Lib.hid (And.intro o49 (And.intro o0 (And.intro o48 o47)))
  clear FS SP CC hD1 hO1 o49 o0 o48 o47
  go_enter Tryd.func28, Tryd.ntmps28
  go_upto_region 2 with (first
    | (go_at_call 33; with_reducible refine (DF _).mono ?_; rintro e w1 ⟨rfl, hb1⟩)
    | (refine wpl_storeF (by rfl) 74 _ _ (by rfl) (b := w1.heap.size) (n := 65) (f := rawF (stR 0 false false 0)) (T := 74) (by rw [stR_zero]; exact Blk.new _ _ _ _ rfl) 0 65 (by omega) fD (fun i _ => HD1.out i) (by kernel_rfl) (by rfl) (by rfl) ?_; simp only [Act.put, List.setIfInBounds_toArray, List.set_cons_zero, List.set_cons_succ, Nat.zero_add, Nat.reduceAdd]))
  obtain ⟨r, er⟩ : ∃ r, r = w1.heap.size := ⟨_, rfl⟩
  rw [← er]
  refine wp_worldS (fun W => Blk W r (cellsF 65 fD) 74 ∧ Below w.heap.size w W ∧ w.heap.size ≤ r) ⟨?_, ?_, ?_⟩ ?_
  · have t0 : Blk (w1.alloc (.cells (cellsF 65 (rawF (stR 0 false false 0))) 74)) r (cellsF 65 (rawF (stR 0 false false 0))) 74 := Blk.new _ _ _ _ er
    have t1 := t0.storeF (g := fD)
    rw [stR_zero] at t1
    exact t1
  · exact (But.setCells (b := r) _ _ _).to (hb1.alloc hb1.size _) (by rw [er]; exact hb1.size) (by have := hb1.size; simp; omega)
  · rw [er]; exact hb1.size
  rintro W2 ⟨tr, hB2, hwr⟩
  clear er hb1
  have q1 := tr.cellF (i := 38) (by omega)
  have q2 := tr.cellF (i := 60) (by omega)
  have z1 := tr.free 38
  have z2 := tr.free 60
  have HTR := Lib.hid tr
  have HB2 := Lib.hid hB2
  clear tr hB2
  go_upto_region 4 with fail
  refine wp_worldS (fun W => Blk W r (cellsF 65 fX) 74 ∧ Below w.heap.size w W) ⟨?_, ?_⟩ ?_
  · have tb := (HTR.out.set 38 (.float .f64 4591870180066957722)).set 60 (.bool true)
    rw [HFS.out] at tb
    exact tb
  · exact ((But.set (b := r) _ _ _).trans (But.set _ _ _)).to HB2.out hwr HB2.out.size
  rintro W4 ⟨ts, hB4⟩
  clear q1 q2 z1 z2 HTR HB2 SF
  have CW := HCC.out W4 hB4
  have HB4 := Lib.hid hB4
  have HTS := Lib.hid ts
  clear hB4 ts
  go_upto_region 5 with (first
    | (refine wpl_loadA (by rfl) 74 _ (by rfl) HTS.out _ Tryd.underlying74 rfl (by kernel_rfl) (by rfl) ?_; simp only [Act.put, List.setIfInBounds_toArray, List.set_cons_zero, List.set_cons_succ, Nat.zero_add, Nat.reduceAdd])
    | (go_at_call 29; with_reducible refine CW.mono ?_; rintro e w3 ⟨rfl, hb3⟩)
    | (refine wpl_storeW (by rfl) 66 _ _ (by rfl) (b := w3.heap.size) (n := 62) (f := zerF) (T := 66) (by rw [zerF_cells]; exact Blk.new _ _ _ _ rfl) fO (fun i _ => HO1.out i) (by kernel_rfl) (by rfl) (by rfl) ?_; intro W7 t7 b7; simp only [Act.put, List.setIfInBounds_toArray, List.set_cons_zero, List.set_cons_succ, Nat.zero_add, Nat.reduceAdd]))
  have hB5 := HB4.out.trans (hb3.mono HB4.out.size)
  obtain ⟨s, es⟩ : ∃ s, s = w3.heap.size := ⟨_, rfl⟩
  rw [← es]
  have hws : w.heap.size ≤ s := by rw [es]; exact hB5.size
  rw [← es] at t7 b7
  have t5 := t7
  have hB6 : Below w.heap.size w W7 := b7.to (hB5.alloc hB5.size _) hws (by have := hB5.size; simp; omega)
  clear t7 b7
  clear es hB5 hb3 CW HTS HB4
  have HT5 := Lib.hid t5
  have HB6 := Lib.hid hB6
  clear t5 hB6
  go_upto_region 6 with (refine wpl_buildV (by rfl) 133 _ (by rfl) #[] (.agg #[.int .i64 0, .int .i64 0, .int .i64 0, .int .i64 0]) (by rfl) (fun _ => by kernel_rfl) ?_; simp only [Act.put, List.setIfInBounds_toArray, List.set_cons_zero, List.set_cons_succ, Nat.zero_add, Nat.reduceAdd])
  obtain ⟨b, eb⟩ : ∃ b, b = W7.heap.size := ⟨_, rfl⟩
  rw [← eb]
  have hsb : s ≠ b := fun e => by have := HT5.out.lt; omega
  have hwb : w.heap.size ≤ b := by rw [eb]; exact HB6.out.size
  refine wp_worldS (fun W => Blk W s (cellsF 62 fO) 66 ∧ Blk W b (cellsF 4 (fun _ => .int .i64 0)) 133 ∧ Below w.heap.size w W) ⟨HT5.out.alloc _, Blk.new _ _ _ _ eb, HB6.out.alloc HB6.out.size _⟩ ?_
  rintro W8 ⟨t8, u8, hB8⟩
  have TR := try_blks 70 #[.pointer (some ⟨s, 0, none⟩), .pointer (some ⟨b, 0, none⟩)] 0 [(b, #[.int .i64 64, .int .i64 0, .int .i64 0, .int .i64 0], 133)] W8
    (fun e he => by simp at he; subst he; exact u8.lt) (fun w => enters_of Tryd.func70 (by kernel_rfl) rfl _ w)
    (fun W hW => (HSP.out s b hsb _ W (t8.below hW) (u8.below hW)).mono fun e W' h => ⟨fun _ => h.1, fun hc => absurd rfl hc, (fun e he => by simp at he; subst he; exact h.2.1), ⟨h.2.2.os, h.2.2.tape, h.2.2.output, h.2.2.size, fun k hk hn => h.2.2.block k hk (fun e => hn (by simp [e]))⟩⟩)
  have HT8 := Lib.hid t8
  have HB8 := Lib.hid hB8
  clear t8 u8 hB8 HT5 HB6 eb
  go_upto_region 7 with (go_at_call 34; with_reducible refine TR.mono ?_; rintro e w9 ⟨rfl, hL9, hB9⟩)
  have t9 := HT8.out.butl hB9 (by simp; exact hsb)
  have u9 : Blk w9 b _ _ := hL9 (b, #[.int .i64 64, .int .i64 0, .int .i64 0, .int .i64 0], 133) (by simp)
  have hB10 : Below w.heap.size w w9 := hB9.to HB8.out (by simp; exact hwb) HB8.out.size
  have q49 := t9.cellF (i := 49) (by omega)
  have q0 := t9.cellF (i := 0) (by omega)
  have q48 := t9.cellF (i := 48) (by omega)
  have q47 := t9.cellF (i := 47) (by omega)
  rw [HO.out.1] at q49
  rw [HO.out.2.1] at q0
  rw [HO.out.2.2.1] at q48
  rw [HO.out.2.2.2] at q47
  have p0 := u9.cell 0 _ rfl
  have p1 := u9.cell 1 _ rfl
  have p2 := u9.cell 2 _ rfl
  have p3 := u9.cell 3 _ rfl
  have HB10 := Lib.hid hB10
  clear hL9 hB9 TR t9 u9 HT8 HB8 hB10
  have EQ : ∀ w, (Op.equalIn 10000 133 (.agg #[.int .i64 64, .int .i64 0, .int .i64 0, .int .i64 0]) (.agg #[.int .i64 64, .int .i64 0, .int .i64 0, .int .i64 0])).run Tryd.prog w = .ok true w := fun w => by kernel_rfl
  go_wp2_with fail
  go_ret
  exact ⟨rfl, HB10.out⟩
theorem speaks11 (w : World) (hT : StyW w) : Calls Tryd.prog 28 #[] w fun e w' => e = .returned (.bool true) ∧ Below w.heap.size w w' := by
  have hO : ∀ i, i < 62 → (cellsF 62 (outF spR))[i]? = some (outF spR i) := fun i hi => cellsF_get _ hi
  rw [spR_cells] at hO
  refine speaks11_of (rawF defR) (rawF spR) (outF spR) (fun _ => True) sty_default (rawF_one _) spR_set (fun i => by unfold outF; rw [if_pos spR_ok]; exact styF_one _ _ _ _ _ _ i)
    (Option.some.inj (hO 49 (by omega))).symm (Option.some.inj (hO 0 (by omega))).symm (Option.some.inj (hO 48 (by omega))).symm (Option.some.inj (hO 47 (by omega))).symm spk11a w (fun W hW => ?_)
  have := sty_compute spR spR_fit W (hT.below hW)
  rw [spR_ok] at this
  exact this
end Go.Proofs.YtmkblfejoniccaaDoor
