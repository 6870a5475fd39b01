/-
  The functions of package ratio, each by its contract. Fourth part: Half.
-/
import Derived.Test.YthffphcgkmjhbaaRatC
namespace Go.Proofs.Ythffphcgkmjhbaa
open Go.RowKit
set_option linter.unusedSimpArgs false
set_option linter.unusedVariables false

/-- A block of two cells of a wide number. -/
def Qx (w : World) (b : Nat) (x y : Value) : Prop := w.heap[b]? = some (Obj.cells #[x, y] 25 (0, 0))
theorem Qx.cells {w : World} {b : Nat} {x y : Value} (h : Qx w b x y) : w.cell? ⟨b, 0, none⟩ = some x ∧ w.cell? ⟨b, 1, none⟩ = some y ∧ w.frozen? ⟨b, 0, none⟩ = false ∧ w.frozen? ⟨b, 1, none⟩ = false := by
  refine ⟨by rw [cell_of_row w b 0 _ _ _ h]; rfl, by rw [cell_of_row w b 1 _ _ _ h]; rfl, ?_, ?_⟩ <;> simp [World.frozen?, show w.heap[b]? = _ from h]
theorem Qx.lt {w : World} {b : Nat} {x y : Value} (h : Qx w b x y) : b < w.heap.size := (Array.getElem?_eq_some_iff.1 h).1
theorem Qx.new (w : World) (x y : Value) (b : Nat) (hb : b = w.heap.size) : Qx (w.alloc (.cells #[x, y] 25)) b x y := by subst hb; exact heap_alloc_new w _
theorem Qx.alloc {w : World} {b : Nat} {x y : Value} (h : Qx w b x y) (o : Obj) : Qx (w.alloc o) b x y := (Below.heap_alloc w o _ h.lt).trans h
theorem Qx.below {w w' : World} {b : Nat} {x y : Value} (h : Qx w b x y) (hb : Below w.heap.size w w') : Qx w' b x y := (hb.block b h.lt).trans h
theorem Qx.belowX {w w' : World} {b : Nat} {x y : Value} (hb : Below w.heap.size w w') (h : Qx w b x y) : Qx w' b x y := h.below hb
theorem Qx.drew {w : World} {b : Nat} {x y : Value} (h : Qx w b x y) : Qx w.drew b x y := h
theorem Qx.put {w : World} {b : Nat} {x y : Value} (h : Qx w b x y) (u v : Value) : Qx ((w.setCell ⟨b, 0, none⟩ u).setCell ⟨b, 1, none⟩ v) b u v := by
  unfold Qx at *
  have h1 : (w.setCell ⟨b, 0, none⟩ u).heap[b]? = some (Obj.cells #[u, y] 25 (0, 0)) := by
    simp only [World.setCell, Array.getElem?_modify, if_true, h]; rfl
  simp only [World.setCell, Array.getElem?_modify, if_true] at h1 ⊢
  rw [h1]; rfl
theorem Qx.putE {w : World} {b : Nat} (h : ∃ x y, Qx w b x y) (u v : Value) : Qx ((w.setCell ⟨b, 0, none⟩ u).setCell ⟨b, 1, none⟩ v) b u v := by
  obtain ⟨x, y, h⟩ := h; exact h.put u v
theorem Rx.alloc {w : World} {b : Nat} {x y : Value} (h : Rx w b x y) (o : Obj) : Rx (w.alloc o) b x y := (Below.heap_alloc w o _ h.lt).trans h
/-- The ratio's box stands. -/
def RE (w : World) (b : Nat) (x y : Value) (wX : World) : Prop := Rx wX b x y ∧ Below w.heap.size w wX
section
variable {w wX w' : World} {b : Nat} {x y : Value}
theorem RE.tx (h : RE w b x y wX) : Rx wX b x y := h.1
theorem RE.bl (h : RE w b x y wX) : Below w.heap.size w wX := h.2
theorem RE.alloc (h : RE w b x y wX) (o : Obj) : RE w b x y (wX.alloc o) := ⟨h.tx.alloc o, h.bl.alloc h.bl.size o⟩
theorem RE.drew (h : RE w b x y wX) : RE w b x y wX.drew := ⟨h.tx, h.bl.drew⟩
theorem RE.below (hb : Below wX.heap.size wX w') (h : RE w b x y wX) : RE w b x y w' := ⟨h.tx.below hb, h.bl.trans (hb.mono h.bl.size)⟩
theorem RE.set (h : RE w b x y wX) (c o : Nat) (v : Value) (h5 : ¬ b = c) (hb : w.heap.size ≤ c) : RE w b x y (wX.setCell ⟨c, o, none⟩ v) :=
  ⟨(Below.heap_setCell _ _ _ _ h5).trans h.tx, h.bl.setCell (p := ⟨c, o, none⟩) hb v⟩
theorem RE.n1 (h : RE w b x y wX) : Qx (wX.alloc (.cells #[.int .i64 0, .int .u64 0] 25)) wX.heap.size (.int .i64 0) (.int .u64 0) := Qx.new _ _ _ _ rfl
theorem RE.cells (h : RE w b x y wX) : wX.cell? ⟨b, 0, none⟩ = some x ∧ wX.cell? ⟨b, 1, none⟩ = some y := ⟨h.tx.cells.1, h.tx.cells.2.1⟩
theorem RE.nes (h : RE w b x y wX) : ¬ b = wX.heap.size ∧ w.heap.size ≤ wX.heap.size ∧ b < wX.heap.size := by
  have a := h.tx.lt
  have c := h.bl.size
  omega
end

/-- The quotient rounded to the nearest number, a half upwards. -/
def hq (a d : Int) : Int := if d - fr a d ≤ fr a d then fq a d + 1 else fq a d
/-- What Half answers. -/
def HalfAns (x N D : Int) (w : World) (e : Ending) (w' : World) : Prop :=
  (goodB N D = false → e = .returned (.tuple #[.int .i64 0, .int .i64 1])) ∧ (goodB N D = true → IFit (hq (x * N) D) → e = .returned (.tuple #[.int .i64 (hq (x * N) D), .int .i64 0])) ∧
  (goodB N D = true → ¬ IFit (hq (x * N) D) → e = .returned (.tuple #[.int .i64 0, .int .i64 2])) ∧ Below w.heap.size w w'
def CutH (w : World) (F R : Int) (N D : Value) (s6 s7 s8 : Value) (wx : World) : Prop :=
  ∃ b qh ql, s6 = .pointer (some ⟨b, 0, none⟩) ∧ s7 = .int .i64 R ∧ s8 = .bool true ∧ Wd qh ql F ∧ Qx wx b (.int .i64 qh) (.int .u64 ql) ∧ RE w w.heap.size N D wx ∧ w.heap.size ≤ b

set_option maxRecDepth 100000 in
set_option maxHeartbeats 3200000 in
theorem rat_half_good (x N D : Int) (hx : IFit x) (hN : IFit N) (hD : IFit D) (hg : goodB N D = true) (w : World) :
    Calls Try.prog 50 #[.agg #[.int .i64 N, .int .i64 D], .int .i64 x] w fun e w' =>
      (IFit (hq (x * N) D) → e = .returned (.tuple #[.int .i64 (hq (x * N) D), .int .i64 0])) ∧ (¬ IFit (hq (x * N) D) → e = .returned (.tuple #[.int .i64 0, .int .i64 2])) ∧ Below w.heap.size w w' := by
  have GD := rat_good N D hN hD
  rw [hg] at GD
  have hD1 : 1 ≤ D := by unfold goodB at hg; simp at hg; omega
  have hM := mul_fit hx hN
  have MU := wide_mul x N hx.1 hx.2 hN.1 hN.2
  have hqf := fq_fit hx hN (show D ≠ 0 by omega)
  have DV := wide_div_some (x * N) D _ _ (Wd.of hM) hD.1 hD.2 (by omega) hqf
  have WF := Wd.of hqf
  have hR : 0 ≤ fr (x * N) D ∧ fr (x * N) D < D := by
    rw [fr_pos (by omega)]
    exact ⟨Int.emod_nonneg _ (by omega), Int.emod_lt_of_pos _ (by omega)⟩
  have hbd := mul_bound x N hx.1 hx.2 hN.1 hN.2
  have hab := fq_abs (a := x * N) (d := D) (by omega)
  have hh : hq (x * N) D = if D - fr (x * N) D ≤ fr (x * N) D then fq (x * N) D + 1 else fq (x * N) D := rfl
  obtain ⟨K, eK⟩ : ∃ K, hq (x * N) D = K := ⟨_, rfl⟩
  rw [eK] at hh ⊢
  obtain ⟨F, eF⟩ : ∃ F, fq (x * N) D = F := ⟨_, rfl⟩
  obtain ⟨R, eR⟩ : ∃ R, fr (x * N) D = R := ⟨_, rfl⟩
  rw [eF, eR] at DV hh
  rw [eF] at WF hab
  rw [eR] at hR
  have w1f : WFit (F + 1) := by unfold WFit; omega
  obtain ⟨ph, e1⟩ : ∃ ph, (x * N) / 18446744073709551616 = ph := ⟨_, rfl⟩
  obtain ⟨pl, e2⟩ : ∃ pl, (x * N) % 18446744073709551616 = pl := ⟨_, rfl⟩
  rw [e1, e2] at MU DV
  obtain ⟨qh, e3⟩ : ∃ qh, F / 18446744073709551616 = qh := ⟨_, rfl⟩
  obtain ⟨ql, e4⟩ : ∃ ql, F % 18446744073709551616 = ql := ⟨_, rfl⟩
  rw [e3, e4] at DV WF
  have HH := Lib.hid hh
  have O1 := wide_of 1 (by omega) (by omega)
  rw [show (1 : Int) / 18446744073709551616 = 0 by decide, show (1 : Int) % 18446744073709551616 = 1 by decide] at O1
  have W1 : Wd 0 1 1 := by unfold Wd; omega
  have WFF := WF
  obtain ⟨d1, d2⟩ := hD
  obtain ⟨r1, r2⟩ := hR
  clear hh eK eF eR e1 e2 e3 e4 hM hqf hbd hab hg hx hN
  have t := Rx.new w (.int .i64 N) (.int .i64 D) _ rfl
  have hB : Below w.heap.size w (w.alloc (.cells #[.int .i64 N, .int .i64 D] 57)) := (by repeat' (first | (with_reducible exact Below.refl _ _) | (with_reducible assumption) | (with_reducible refine below_alloc ?_ _ ?_) | (with_reducible refine below_set _ ?_ ?_) | (with_reducible refine Below.drew ?_) | (with_reducible refine below_dN ?_ _) | (apply below_thenA; assumption) | omega | (simp; done) | (simp; omega) | (simp [*]; done)))
  obtain ⟨p1, p2, p3, p4⟩ := t.cells
  go_enter Try.func50, Try.ntmps50
  go_wp2_with fail
  refine (GD _).mono ?_
  rintro e w1 ⟨rfl, hb1⟩
  have E : RE w w.heap.size (.int .i64 N) (.int .i64 D) w1 := ⟨t.below hb1, hB.trans (hb1.mono hB.size)⟩
  clear p1 p2 p3 p4 t hB hb1
  obtain ⟨p1, p2⟩ := E.cells
  obtain ⟨nn1, nn2, nn3⟩ := E.nes
  go_upto_region 3 with (fail)
  go_cut [6, 7, 8] from 14 (fun s6 s7 s8 wx => CutH w F R (.int .i64 N) (.int .i64 D) s6 s7 s8 wx)
  case first =>
    go_region_held3 (fun w' => w'.cell? ⟨w.heap.size, 0, none⟩ = some (.int .i64 N) ∧ w'.cell? ⟨w.heap.size, 1, none⟩ = some (.int .i64 D))
      (first | with_reducible exact ⟨p1, p2⟩ | with_reducible exact E.drew.cells | (refine RE.cells (w := w) ?_; (first | with_reducible exact E | with_reducible refine RE.drew ?_ | with_reducible refine RE.alloc ?_ _ | with_reducible refine RE.set ?_ _ _ _ ?_ ?_ | with_reducible assumption) <;> (first | with_reducible exact E | with_reducible refine RE.drew ?_ | with_reducible refine RE.alloc ?_ _ | with_reducible refine RE.set ?_ _ _ _ ?_ ?_ | with_reducible assumption) <;> (first | with_reducible exact E | with_reducible refine RE.drew ?_ | with_reducible refine RE.alloc ?_ _ | with_reducible refine RE.set ?_ _ _ _ ?_ ?_ | with_reducible assumption) <;> (first | with_reducible exact E | with_reducible refine RE.drew ?_ | with_reducible refine RE.alloc ?_ _ | with_reducible refine RE.set ?_ _ _ _ ?_ ?_ | with_reducible assumption) <;> (first | with_reducible exact E | with_reducible refine RE.drew ?_ | with_reducible refine RE.alloc ?_ _ | with_reducible refine RE.set ?_ _ _ _ ?_ ?_ | with_reducible assumption) <;> (first | with_reducible exact E | with_reducible refine RE.drew ?_ | with_reducible refine RE.alloc ?_ _ | with_reducible refine RE.set ?_ _ _ _ ?_ ?_ | with_reducible assumption) <;> (first | with_reducible exact E | with_reducible refine RE.drew ?_ | with_reducible refine RE.alloc ?_ _ | with_reducible refine RE.set ?_ _ _ _ ?_ ?_ | with_reducible assumption) <;> (first | with_reducible exact E | with_reducible refine RE.drew ?_ | with_reducible refine RE.alloc ?_ _ | with_reducible refine RE.set ?_ _ _ _ ?_ ?_ | with_reducible assumption); done) | go_keep)
      (first
      | (go_at_call 25; with_reducible refine (MU _).mono ?_; rintro e wA ⟨rfl, hbA⟩; (try (have y1 := Qx.belowX hbA (by with_reducible first | exact z1 | exact z1.drew | exact (z1.alloc _).drew | exact z1.alloc _); obtain ⟨zf1, zf2, zf3, zf4⟩ := y1.cells; have zl4 := y1.lt)); (try (have z1 := Qx.belowX hbA (by with_reducible first | exact E.n1.drew | exact E.n1); obtain ⟨zc1, zc2, zc3, zc4⟩ := z1.cells; have zl1 := z1.lt)); (have E' := RE.below hbA (by with_reducible first | exact E | exact E.drew | exact (E.alloc _).drew | exact E.alloc _)); clear E; have E := E'; clear E'; obtain ⟨p1, p2⟩ := E.cells; obtain ⟨nn1, nn2, nn3⟩ := E.nes)
      | (go_at_call 32; with_reducible refine (DV _).mono ?_; rintro e wB ⟨rfl, hbB⟩; (try (have y1 := Qx.belowX hbB (by with_reducible first | exact z1 | exact z1.drew | exact (z1.alloc _).drew | exact z1.alloc _); obtain ⟨zf1, zf2, zf3, zf4⟩ := y1.cells; have zl4 := y1.lt)); (try (have z1 := Qx.belowX hbB (by with_reducible first | exact E.n1.drew | exact E.n1); obtain ⟨zc1, zc2, zc3, zc4⟩ := z1.cells; have zl1 := z1.lt)); (have E' := RE.below hbB (by with_reducible first | exact E | exact E.drew | exact (E.alloc _).drew | exact E.alloc _)); clear E; have E := E'; clear E'; obtain ⟨p1, p2⟩ := E.cells; obtain ⟨nn1, nn2, nn3⟩ := E.nes))
    all_goals
      go_wp2_with fail
      go_meet
      case rel =>
        refine ⟨_, qh, ql, rfl, rfl, rfl, WFF, ?_, ?_, by (first | assumption | omega)⟩
        · (first | with_reducible refine Qx.drew ?_ | with_reducible exact Qx.new _ _ _ _ rfl | with_reducible refine Qx.alloc ?_ _ | with_reducible refine Qx.putE ?_ _ _ | with_reducible exact ⟨_, _, z1⟩ | with_reducible exact ⟨_, _, y1⟩) <;> (first | with_reducible refine Qx.drew ?_ | with_reducible exact Qx.new _ _ _ _ rfl | with_reducible refine Qx.alloc ?_ _ | with_reducible refine Qx.putE ?_ _ _ | with_reducible exact ⟨_, _, z1⟩ | with_reducible exact ⟨_, _, y1⟩) <;> (first | with_reducible refine Qx.drew ?_ | with_reducible exact Qx.new _ _ _ _ rfl | with_reducible refine Qx.alloc ?_ _ | with_reducible refine Qx.putE ?_ _ _ | with_reducible exact ⟨_, _, z1⟩ | with_reducible exact ⟨_, _, y1⟩) <;> (first | with_reducible refine Qx.drew ?_ | with_reducible exact Qx.new _ _ _ _ rfl | with_reducible refine Qx.alloc ?_ _ | with_reducible refine Qx.putE ?_ _ _ | with_reducible exact ⟨_, _, z1⟩ | with_reducible exact ⟨_, _, y1⟩)
        · (first | with_reducible exact E | with_reducible refine RE.drew ?_ | with_reducible refine RE.alloc ?_ _ | with_reducible refine RE.set ?_ _ _ _ ?_ ?_ | with_reducible assumption) <;> (first | with_reducible exact E | with_reducible refine RE.drew ?_ | with_reducible refine RE.alloc ?_ _ | with_reducible refine RE.set ?_ _ _ _ ?_ ?_ | with_reducible assumption) <;> (first | with_reducible exact E | with_reducible refine RE.drew ?_ | with_reducible refine RE.alloc ?_ _ | with_reducible refine RE.set ?_ _ _ _ ?_ ?_ | with_reducible assumption) <;> (first | with_reducible exact E | with_reducible refine RE.drew ?_ | with_reducible refine RE.alloc ?_ _ | with_reducible refine RE.set ?_ _ _ _ ?_ ?_ | with_reducible assumption) <;> (first | with_reducible exact E | with_reducible refine RE.drew ?_ | with_reducible refine RE.alloc ?_ _ | with_reducible refine RE.set ?_ _ _ _ ?_ ?_ | with_reducible assumption) <;> (first | with_reducible exact E | with_reducible refine RE.drew ?_ | with_reducible refine RE.alloc ?_ _ | with_reducible refine RE.set ?_ _ _ _ ?_ ?_ | with_reducible assumption) <;> (first | with_reducible exact E | with_reducible refine RE.drew ?_ | with_reducible refine RE.alloc ?_ _ | with_reducible refine RE.set ?_ _ _ _ ?_ ?_ | with_reducible assumption) <;> (first | with_reducible exact E | with_reducible refine RE.drew ?_ | with_reducible refine RE.alloc ?_ _ | with_reducible refine RE.set ?_ _ _ _ ?_ ?_ | with_reducible assumption)
  case rest =>
    clear E p1 p2 nn1 nn2 nn3
    obtain ⟨b, qh', ql', rfl, rfl, rfl, hWq, Q, E, hl⟩ := hcut
    obtain ⟨p1, p2⟩ := E.cells
    obtain ⟨q1, q2, q3, q4⟩ := Q.cells
    by_cases hc : D - R ≤ R
    · have eK : K = F + 1 := by rw [HH.out, if_pos hc]
      have AD := wide_add_fit F 1 qh' ql' 0 1 hWq W1 w1f
      have WK := Wd.of w1f
      obtain ⟨kh, e5⟩ : ∃ kh, (F + 1) / 18446744073709551616 = kh := ⟨_, rfl⟩
      obtain ⟨kl, e6⟩ : ∃ kl, (F + 1) % 18446744073709551616 = kl := ⟨_, rfl⟩
      rw [e5, e6] at AD WK
      rw [← eK] at WK
      clear e5 e6 eK
      go_upto_region 5 with (fail)
      go_region_with (first
        | (go_at_call 31; with_reducible refine (O1 _).mono ?_; rintro e w2 ⟨rfl, hb2⟩; replace hb2 := below_undrew' hb2; replace Q := Q.below hb2; replace E := RE.below hb2 E; obtain ⟨q1, q2, q3, q4⟩ := Q.cells)
        | (go_at_call 38; with_reducible refine (AD _).mono ?_; rintro e w3 ⟨rfl, hb3⟩; replace Q := Q.below hb3; replace E := RE.below hb3 E; obtain ⟨q1, q2, q3, q4⟩ := Q.cells))
      all_goals
        have hB6 := BP2 E.bl (b := b) (u := .int .i64 kh) (v := .int .u64 kl) hl
        have Q6 := Q.put (.int .i64 kh) (.int .u64 kl)
        obtain ⟨s1, s2, s3, s4⟩ := Q6.cells
        by_cases hf : IFit K
        · go_wp2_with fail
          refine (wide_int_fit K kh kl WK hf _).mono ?_
          rintro e w5 ⟨rfl, hb5⟩
          go_wp2_with fail
          go_ret2
          exact ⟨fun _ => rfl, fun h => absurd hf h, hB6.trans (hb5.mono hB6.size)⟩
        · go_wp2_with fail
          refine (wide_int_no K kh kl WK hf _).mono ?_
          rintro e w5 ⟨rfl, hb5⟩
          go_wp2_with fail
          go_ret2
          exact ⟨fun h => absurd h hf, fun _ => rfl, hB6.trans (hb5.mono hB6.size)⟩
    · have eK : K = F := by rw [HH.out, if_neg hc]
      obtain rfl : K = F := eK
      have hB6 := E.bl
      by_cases hf : IFit K
      · go_wp2_with fail
        refine (wide_int_fit K qh' ql' hWq hf _).mono ?_
        rintro e w5 ⟨rfl, hb5⟩
        go_wp2_with fail
        go_ret2
        exact ⟨fun _ => rfl, fun h => absurd hf h, hB6.trans (hb5.mono hB6.size)⟩
      · go_wp2_with fail
        refine (wide_int_no K qh' ql' hWq hf _).mono ?_
        rintro e w5 ⟨rfl, hb5⟩
        go_wp2_with fail
        go_ret2
        exact ⟨fun h => absurd h hf, fun _ => rfl, hB6.trans (hb5.mono hB6.size)⟩
end Go.Proofs.Ythffphcgkmjhbaa
