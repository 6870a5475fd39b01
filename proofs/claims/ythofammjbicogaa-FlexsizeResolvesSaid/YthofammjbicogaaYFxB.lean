/-
  Package flexsize, each function by its contract. Second part: the line's rows, done, free.
-/
import Derived.Test.YthofammjbicogaaYFxA
namespace Go.Proofs.Ythofammjbicogaa
open Go.RowKit
set_option linter.unusedSimpArgs false
set_option linter.unusedVariables false

/-- Rows of things of s cells each, laid one behind the other. -/
theorem flG_get {α : Type} (f : α → List Value) (s : Nat) (hs : ∀ x, (f x).length = s) (d : α) : ∀ (l : List α) (i j : Nat), i < l.length → j < s → (l.flatMap f)[i * s + j]? = (f (l.getD i d))[j]?
  | [], i, j, h, _ => by simp at h
  | x :: l, 0, j, _, hj => by
    rw [List.flatMap_cons, Nat.zero_mul, Nat.zero_add, List.getElem?_append_left (by rw [hs]; exact hj)]
    rfl
  | x :: l, i + 1, j, h, hj => by
    rw [List.flatMap_cons, List.getElem?_append_right (by rw [hs, Nat.succ_mul]; omega), hs, show (i + 1) * s + j - s = i * s + j by rw [Nat.succ_mul]; omega]
    exact flG_get f s hs d l i j (by simpa using h) hj
theorem flG_len {α : Type} (f : α → List Value) (s : Nat) (hs : ∀ x, (f x).length = s) : ∀ (l : List α), (l.flatMap f).length = l.length * s
  | [] => by simp
  | x :: l => by rw [List.flatMap_cons, List.length_append, hs, flG_len f s hs l, List.length_cons, Nat.succ_mul]; omega
def Fx.vals (x : Fx) : List Value := [.int .i64 x.base, .int .i64 x.least, .int .i64 x.most, .bool x.bound, .int .i64 x.extra, .int .i64 x.grow, .int .i64 x.shrink]
def fx0 : Fx := ⟨0, 0, 0, false, 0, 0, 0⟩
def fxV (l : List Fx) : List Value := l.flatMap Fx.vals
theorem fxV_get (l : List Fx) (i j : Nat) (hi : i < l.length) (hj : j < 7) : (fxV l)[i * 7 + j]? = (l.getD i fx0).vals[j]? := flG_get Fx.vals 7 (fun _ => rfl) fx0 l i j hi hj
/-- An item that is resolved: itself, its target, its factor, whether it is fixed. -/
structure Fl where
  it : Fx
  tg : Int
  fa : Int
  fi : Bool
def Fl.vals (x : Fl) : List Value := [.int .i64 x.it.base, .int .i64 x.it.least, .int .i64 x.it.most, .bool x.it.bound, .int .i64 x.it.extra, .int .i64 x.it.grow, .int .i64 x.it.shrink, .int .i64 x.tg, .int .i64 x.fa, .bool x.fi]
def Fl.val (x : Fl) : Value := .agg #[.int .i64 x.it.base, .int .i64 x.it.least, .int .i64 x.it.most, .bool x.it.bound, .int .i64 x.it.extra, .int .i64 x.it.grow, .int .i64 x.it.shrink, .int .i64 x.tg, .int .i64 x.fa, .bool x.fi]
def fl0 : Fl := ⟨fx0, 0, 0, false⟩
def flV (l : List Fl) : List Value := l.flatMap Fl.vals
theorem flV_get (l : List Fl) (i j : Nat) (hi : i < l.length) (hj : j < 10) : (flV l)[i * 10 + j]? = (l.getD i fl0).vals[j]? := flG_get Fl.vals 10 (fun _ => rfl) fl0 l i j hi hj
/-- What a row of items holds at an index, cell by cell. -/
def FlAt (w : World) (g o : Nat) (x : Fl) : Prop :=
  w.cell? ⟨g, o, none⟩ = some (.int .i64 x.it.base) ∧ w.cell? ⟨g, o + 1, none⟩ = some (.int .i64 x.it.least) ∧ w.cell? ⟨g, o + 2, none⟩ = some (.int .i64 x.it.most) ∧ w.cell? ⟨g, o + 3, none⟩ = some (.bool x.it.bound) ∧ w.cell? ⟨g, o + 4, none⟩ = some (.int .i64 x.it.extra) ∧ w.cell? ⟨g, o + 5, none⟩ = some (.int .i64 x.it.grow) ∧ w.cell? ⟨g, o + 6, none⟩ = some (.int .i64 x.it.shrink) ∧ w.cell? ⟨g, o + 7, none⟩ = some (.int .i64 x.tg) ∧ w.cell? ⟨g, o + 8, none⟩ = some (.int .i64 x.fa) ∧ w.cell? ⟨g, o + 9, none⟩ = some (.bool x.fi)
theorem fl_at {w : World} {ao : Option Addr} {n : Nat} {st : List Fl} (h : RowV w ao n 10 (flV st)) (hl : st.length = n) {i : Nat} (hi : i < n) : ∃ g off, ao = some ⟨g, off, none⟩ ∧ g < w.heap.size ∧ FlAt w g (off + i * 10) (st.getD i fl0) := by
  obtain ⟨g, off, e, hg, hc⟩ := h.at hi
  have hx := fun j hj => (hc j hj).trans (flV_get st i j (by omega) hj)
  exact ⟨g, off, e, hg, hx 0 (by omega), hx 1 (by omega), hx 2 (by omega), hx 3 (by omega), hx 4 (by omega), hx 5 (by omega), hx 6 (by omega), hx 7 (by omega), hx 8 (by omega), hx 9 (by omega)⟩
theorem FlAt.below {w w' : World} {g o : Nat} {x : Fl} (h : FlAt w g o x) (hg : g < w.heap.size) (hb : Below w.heap.size w w') : FlAt w' g o x := by
  obtain ⟨h0, h1, h2, h3, h4, h5, h6, h7, h8, h9⟩ := h
  have k : ∀ {p : Nat} {v : Value}, w.cell? ⟨g, p, none⟩ = some v → w'.cell? ⟨g, p, none⟩ = some v := fun {p v} h => (hb.cell (p := ⟨g, p, none⟩) hg).trans h
  exact ⟨k h0, k h1, k h2, k h3, k h4, k h5, k h6, k h7, k h8, k h9⟩
def doneF (st : List Fl) : Bool := st.all Fl.fi
theorem doneF_step {st : List Fl} {j : Nat} (hj : j < st.length) : doneF (st.drop j) = ((st.getD j fl0).fi && doneF (st.drop (j + 1))) := by
  unfold doneF
  rw [List.drop_eq_getElem_cons hj, List.all_cons]
  congr 1
  simp [List.getD, hj]
set_option maxRecDepth 100000 in
set_option maxHeartbeats 1600000 in
theorem fx_done (b : Nat) (ao : Option Addr) (n cap : Nat) (st : List Fl) (v1 v2 v3 : Value) (hn : n ≤ 1000000) (hl : st.length = n) (w : World) (tb : Blk w b #[.slice ao n cap, v1, v2, v3] 145) (hr : RowV w ao n 10 (flV st)) :
    Calls Try.prog 99 #[.pointer (some ⟨b, 0, none⟩)] w fun e w' => e = .returned (.bool (doneF st)) ∧ Below w.heap.size w w' := by
  have c0 := tb.cell 0 _ rfl
  have lb := tb.lt
  have HR := Lib.hid hr
  have HL := Lib.hid hl
  clear tb hr hl
  obtain ⟨D, eD⟩ : ∃ D, doneF st = D := ⟨_, rfl⟩
  rw [eD]
  have ED := Lib.hid eD
  clear eD
  go_enter Try.func99, Try.ntmps99
  go_wp2_with fail
  go_loopg [10] n (fun gk s10 wr => ∃ (j : Nat), j ≤ n ∧ gk = n - j ∧ s10 = .int .i64 ((j : Int)) ∧ doneF (st.drop j) = D ∧ Below w.heap.size w wr)
  case atStart => exact ⟨0, by omega, by omega, rfl, by rw [List.drop_zero]; exact ED.out, Below.refl _ _⟩
  case round =>
    clear c0
    obtain ⟨j, hj, rfl, rfl, hd, hB⟩ := hrel
    have hsB := hB.size
    have HD := Lib.hid hd
    clear hd
    by_cases hjk : j < n
    · have ix : (j : Int) < (n : Int) := by omega
      obtain ⟨g, off, rfl, hg, hF⟩ := fl_at (HR.out.below hB) HL.out hjk
      have hs := doneF_step (st := st) (j := j) (by rw [HL.out]; exact hjk)
      obtain ⟨x, ex⟩ : ∃ x, st.getD j fl0 = x := ⟨_, rfl⟩
      rw [ex] at hF hs
      obtain ⟨h0, h1, h2, h3, h4, h5, h6, h7, h8, h9⟩ := hF
      have HS := Lib.hid hs
      clear hs ex
      by_cases hx : x.fi = true
      · have hd2 : doneF (st.drop (j + 1)) = D := by have := HS.out; rw [HD.out, hx, Bool.true_and] at this; exact this.symm
        have HD2 := Lib.hid hd2
        clear hd2
        go_wp2_with fail
        go_roundg (n - (j + 1))
        case measure => omega
        case rel => exact ⟨j + 1, by omega, rfl, by go_num, HD2.out, hB.trans (Below.mono (show Below wr.heap.size wr _ from (by repeat' (first | (with_reducible exact Below.refl _ _) | (with_reducible assumption) | (with_reducible refine below_alloc ?_ _ ?_) | (with_reducible refine below_set _ ?_ ?_) | (with_reducible refine Below.drew ?_) | (with_reducible refine below_dN ?_ _) | (apply below_thenA; assumption) | omega | (simp; done) | (simp; omega) | (simp [*]; done)))) hsB)⟩
      · have hx2 : x.fi = false := by simpa using hx
        have hd2 : D = false := by have := HS.out; rw [HD.out, hx2, Bool.false_and] at this; exact this
        subst hd2
        clear hx
        go_wp2_with fail
        go_ret
        exact ⟨rfl, hB.trans (Below.mono (show Below wr.heap.size wr _ from (by repeat' (first | (with_reducible exact Below.refl _ _) | (with_reducible assumption) | (with_reducible refine below_alloc ?_ _ ?_) | (with_reducible refine below_set _ ?_ ?_) | (with_reducible refine Below.drew ?_) | (with_reducible refine below_dN ?_ _) | (apply below_thenA; assumption) | omega | (simp; done) | (simp; omega) | (simp [*]; done)))) hsB)⟩
    · obtain rfl : n = j := by omega
      have ix : ¬ (n : Int) < (n : Int) := by omega
      have hd2 : D = true := by have := HD.out; rw [List.drop_eq_nil_of_le (by rw [HL.out]; omega)] at this; exact this.symm
      subst hd2
      go_wp2_with fail
      go_ret
      exact ⟨rfl, hB⟩
end Go.Proofs.Ythofammjbicogaa
