/-
  Package flexsize, each function by its contract. Third part: free, weight.
-/
import Derived.Test.YthofammjbicogaaYFxB
namespace Go.Proofs.Ythofammjbicogaa
open Go.RowKit
set_option linter.unusedSimpArgs false
set_option linter.unusedVariables false

def FxFit (x : Fx) : Prop := (IFit x.base ∧ IFit x.least ∧ IFit x.most) ∧ IFit x.extra ∧ IFit x.grow ∧ IFit x.shrink
def FlFit (x : Fl) : Prop := FxFit x.it ∧ IFit x.tg ∧ IFit x.fa
def Fl.now (x : Fl) : Int := if x.fi then x.tg else x.it.base
def freeF : Int → List Fl → Option Int
  | o, [] => some o
  | o, x :: l => if lenB (o - x.now) then freeF (o - x.now) l else none
/-- A number, or the giving up. -/
def GivO (r : Option Int) (w : World) (e : Ending) (w' : World) : Prop := (match r with | some t => e = .returned (.int .i64 t) | none => e = .panicked (gave 2)) ∧ Below w.heap.size w w'
theorem lenB_fit {n : Int} (h : lenB n = true) : IFit n := by
  have := (lenB_iff n).1 h
  unfold LenB at this; unfold IFit; omega
theorem drop_at {α : Type} (d : α) {l : List α} {j : Nat} (h : j < l.length) : l.drop j = l.getD j d :: l.drop (j + 1) := by
  rw [List.drop_eq_getElem_cons h]
  simp [List.getD, h]
theorem at_fit {P : Fl → Prop} {st : List Fl} (h : ∀ x ∈ st, P x) {j : Nat} (hj : j < st.length) : P (st.getD j fl0) := by
  have e : st.getD j fl0 = st[j] := by simp [List.getD, hj]
  rw [e]; exact h _ (List.getElem_mem hj)
set_option maxRecDepth 100000 in
set_option maxHeartbeats 1600000 in
theorem fx_free (b : Nat) (ao : Option Addr) (n cap : Nat) (st : List Fl) (room : Int) (v1 v3 : Value) (hn : n ≤ 1000000) (hl : st.length = n) (hf : ∀ x ∈ st, FlFit x) (hro : IFit room) (w : World) (tb : Blk w b #[.slice ao n cap, v1, .int .i64 room, v3] 145) (hr : RowV w ao n 10 (flV st)) :
    Calls Try.prog 109 #[.pointer (some ⟨b, 0, none⟩)] w (GivO (freeF room st) w) := by
  have c0 := tb.cell 0 _ rfl
  have c2 := tb.cell 2 _ rfl
  have lb := tb.lt
  have HR := Lib.hid hr
  have HL := Lib.hid hl
  have HF := Lib.hid hf
  have HRO := Lib.hid hro
  clear tb hr hl hf hro
  obtain ⟨D, eD⟩ : ∃ D, freeF room st = D := ⟨_, rfl⟩
  rw [eD]
  have ED := Lib.hid eD
  clear eD
  go_enter Try.func109, Try.ntmps109
  go_wp2_with fail
  go_loopg [3, 15] n (fun gk s3 s15 wr => ∃ (j : Nat) (o : Int), j ≤ n ∧ gk = n - j ∧ s3 = .int .i64 o ∧ s15 = .int .i64 ((j : Int)) ∧ IFit o ∧ freeF o (st.drop j) = D ∧ Below w.heap.size w wr)
  case atStart => exact ⟨0, room, by omega, by omega, rfl, rfl, HRO.out, by rw [List.drop_zero]; exact ED.out, Below.refl _ _⟩
  case round =>
    clear c0 c2
    obtain ⟨j, o, hj, rfl, rfl, rfl, ho, hd, hB⟩ := hrel
    have hsB := hB.size
    have HD := Lib.hid hd
    have HO := Lib.hid ho
    clear hd ho
    by_cases hjk : j < n
    · have ix : (j : Int) < (n : Int) := by omega
      obtain ⟨g, off, rfl, hg, hF⟩ := fl_at (HR.out.below hB) HL.out hjk
      have hs := drop_at fl0 (l := st) (j := j) (by rw [HL.out]; exact hjk)
      have hfit := at_fit HF.out (j := j) (by rw [HL.out]; exact hjk)
      obtain ⟨x, ex⟩ : ∃ x, st.getD j fl0 = x := ⟨_, rfl⟩
      rw [ex] at hF hs hfit
      obtain ⟨h0, h1, h2, h3, h4, h5, h6, h7, h8, h9⟩ := hF
      have hD := HD.out
      rw [hs, freeF] at hD
      have hnow : IFit x.now := by
        unfold Fl.now; split
        · exact hfit.2.1
        · exact hfit.1.1.1
      have Sy := fun (h : lenB (o - x.now) = true) W => fix_sub_yes o x.now HO.out hnow ((lenB_iff _).1 h) W
      have Sn := fun (h : lenB (o - x.now) = false) W => fix_sub_no o x.now HO.out hnow (fun q => by rw [(lenB_iff _).2 q] at h; cases h) W
      clear hs ex hfit hnow
      cases hx : x.fi
      · have en : x.now = x.it.base := by unfold Fl.now; rw [hx]; rfl
        rw [en] at hD Sy Sn
        rw [hx] at h9
        cases hL : lenB (o - x.it.base)
        · have S := Sn hL
          rw [hL] at hD
          have hD2 : D = none := hD.symm
          subst hD2
          clear hD Sy Sn hL hx en
          go_wp2_with (go_at_call 81; with_reducible refine (S _).mono ?_; rintro e w1 ⟨rfl, rfl⟩)
          simp only [bodyPost, GivO]
          exact ⟨trivial, trivial, hB.trans (Below.mono (show Below wr.heap.size wr _ from (by repeat' (first | (with_reducible exact Below.refl _ _) | (with_reducible assumption) | (with_reducible refine below_alloc ?_ _ ?_) | (with_reducible refine below_set _ ?_ ?_) | (with_reducible refine Below.drew ?_) | (with_reducible refine below_dN ?_ _) | (apply below_thenA; assumption) | omega | (simp; done) | (simp; omega) | (simp [*]; done)))) hsB)⟩
        · have S := Sy hL
          rw [hL, if_pos rfl] at hD
          have HD2 := Lib.hid hD
          have HFT := Lib.hid (lenB_fit hL)
          clear hD Sy Sn hL hx en
          go_wp2_with (go_at_call 81; with_reducible refine (S _).mono ?_; rintro e w1 ⟨rfl, rfl⟩)
          go_roundg (n - (j + 1))
          case measure => omega
          case rel => exact ⟨j + 1, _, by omega, rfl, rfl, by go_num, HFT.out, HD2.out, hB.trans (Below.mono (show Below wr.heap.size wr _ from (by repeat' (first | (with_reducible exact Below.refl _ _) | (with_reducible assumption) | (with_reducible refine below_alloc ?_ _ ?_) | (with_reducible refine below_set _ ?_ ?_) | (with_reducible refine Below.drew ?_) | (with_reducible refine below_dN ?_ _) | (apply below_thenA; assumption) | omega | (simp; done) | (simp; omega) | (simp [*]; done)))) hsB)⟩
      · have en : x.now = x.tg := by unfold Fl.now; rw [hx]; rfl
        rw [en] at hD Sy Sn
        rw [hx] at h9
        cases hL : lenB (o - x.tg)
        · have S := Sn hL
          rw [hL] at hD
          have hD2 : D = none := hD.symm
          subst hD2
          clear hD Sy Sn hL hx en
          go_wp2_with (go_at_call 81; with_reducible refine (S _).mono ?_; rintro e w1 ⟨rfl, rfl⟩)
          simp only [bodyPost, GivO]
          exact ⟨trivial, trivial, hB.trans (Below.mono (show Below wr.heap.size wr _ from (by repeat' (first | (with_reducible exact Below.refl _ _) | (with_reducible assumption) | (with_reducible refine below_alloc ?_ _ ?_) | (with_reducible refine below_set _ ?_ ?_) | (with_reducible refine Below.drew ?_) | (with_reducible refine below_dN ?_ _) | (apply below_thenA; assumption) | omega | (simp; done) | (simp; omega) | (simp [*]; done)))) hsB)⟩
        · have S := Sy hL
          rw [hL, if_pos rfl] at hD
          have HD2 := Lib.hid hD
          have HFT := Lib.hid (lenB_fit hL)
          clear hD Sy Sn hL hx en
          go_wp2_with (go_at_call 81; with_reducible refine (S _).mono ?_; rintro e w1 ⟨rfl, rfl⟩)
          go_roundg (n - (j + 1))
          case measure => omega
          case rel => exact ⟨j + 1, _, by omega, rfl, rfl, by go_num, HFT.out, HD2.out, hB.trans (Below.mono (show Below wr.heap.size wr _ from (by repeat' (first | (with_reducible exact Below.refl _ _) | (with_reducible assumption) | (with_reducible refine below_alloc ?_ _ ?_) | (with_reducible refine below_set _ ?_ ?_) | (with_reducible refine Below.drew ?_) | (with_reducible refine below_dN ?_ _) | (apply below_thenA; assumption) | omega | (simp; done) | (simp; omega) | (simp [*]; done)))) hsB)⟩
    · obtain rfl : n = j := by omega
      have ix : ¬ (n : Int) < (n : Int) := by omega
      have hd2 : D = some o := by have := HD.out; rw [List.drop_eq_nil_of_le (by rw [HL.out]; omega)] at this; exact this.symm
      subst hd2
      go_wp2_with fail
      go_ret
      exact ⟨rfl, hB⟩
end Go.Proofs.Ythofammjbicogaa
