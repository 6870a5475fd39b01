/-
  What came in, opened: slices of structs of scalars.
-/
import Derived.Test.YtgmnboacehopfaaYOpen
import Derived.Test.YtgmnboacehopfaaYLnM
namespace Go.Proofs.Ytgmnboacehopfaa
open Go.ChangeShapes Go.WideShapes Go.ChangeAt Go.RowKit Go.Joins Go.Deep
set_option linter.unusedVariables false

section
variable {H : Type} {enc : TypeId × Value → H} {P : Program} {w : World} {base b0 : Nat} {spare : Nat → Bool} {held : Bool} {r : Reach}
/-- A slice by itself, read as a cell. -/
theorem open_dir {t e : TypeId} {v : Value} {d : DataW H} {p : List MemPlace} (ht : P.underlying t = some (.slice e)) (hv : Value.okWide P w r b0 t v) (h : DataW.Trod enc P w base spare held t v d p) :
    Cell.okWide P w r b0 t v ∧ ∃ n y, DataW.trod enc P w base spare held n t [v] = some y := by
  obtain ⟨fuel, hf⟩ := h
  have hv' := hv
  simp only [Value.okWide, ht] at hv'
  obtain ⟨a, l, c, rfl⟩ := okWide_slice ht hv
  exact ⟨hv', fuel, _, hf⟩
/-- A slice of structs of one-cell fields. -/
theorem open_row_flat {t e : TypeId} {fs : Array Field} {n0 : Nat} {u : Value} {y : DataW H × List MemPlace} (ht : P.underlying t = some (.slice e)) (he : P.underlying e = some (.struct fs)) (hone : oneCellFields P fs = true) (hE : P.cellsOf e = fs.size) (hs : 0 < fs.size) (hok : Cell.okWide P w r b0 t u) (h : DataW.trod enc P w base spare held n0 t [u] = some y) :
    u = .slice none 0 0 ∨ ∃ g off n cap vs, u = .slice (some ⟨g, off, none⟩) n cap ∧ n ≤ cap ∧ cap ≤ maxLen ∧ RowV w (some ⟨g, off, none⟩) n fs.size vs ∧ ∀ i, i < n → ∀ (j : Nat) (f : Field), fs[j]? = some f → ∃ u y m, vs[i * fs.size + j]? = some u ∧ DataW.trod enc P w base spare held m f.type [u] = some y := by
  rcases open_row ht hE hs hok h with rfl | ⟨g, off, n, cap, vs, rfl, h1, h2, h3, h4, h5⟩
  · exact .inl rfl
  · refine .inr ⟨g, off, n, cap, vs, rfl, h1, h2, h4, fun i hi j f hj => ?_⟩
    obtain ⟨m, z, hz⟩ := h5 i hi
    obtain ⟨xs, n', _, _, _, hlen, hg⟩ := DataW.trod_struct he hz
    have hjl : j < fs.size := (Array.getElem?_eq_some_iff.1 hj).1
    have h6 := hg j f hj
    obtain ⟨ho, hk⟩ := hone_of hone j f hj
    have hvl := h4.1
    have hin : i * fs.size + fs.size ≤ n * fs.size := by rw [← Nat.succ_mul]; exact Nat.mul_le_mul_right _ hi
    have hll : j < ((vs.drop (i * fs.size)).take fs.size).length := by rw [List.length_take, List.length_drop]; omega
    rw [ho, hk, List.drop_eq_getElem_cons hll, List.getElem?_eq_getElem (show j < xs.length by omega)] at h6
    refine ⟨_, _, n', ?_, h6⟩
    rw [← List.getElem?_drop, ← List.getElem?_take_of_lt hjl, List.getElem?_eq_getElem hll]
end
theorem its_of : ∀ (n : Nat) (vs : List Value), vs.length = n * 4 → (∀ i, i < n → ∃ x y z b, vs[i * 4 + 0]? = some (.int .i64 x) ∧ vs[i * 4 + 1]? = some (.int .i64 y) ∧ vs[i * 4 + 2]? = some (.int .i64 z) ∧ vs[i * 4 + 3]? = some (.bool b) ∧ IFit x ∧ IFit y ∧ IFit z) → ∃ l : List It, l.length = n ∧ vs = itV l ∧ ItFit l
  | 0, vs, h, _ => ⟨[], rfl, (List.eq_nil_of_length_eq_zero (by simpa using h)).trans rfl, fun i => by simp [it0, IFit, List.getD]⟩
  | n + 1, vs, h, hf => by
    match vs, h with
    | [], h => exact absurd h (by simp)
    | [_], h => exact absurd h (by simp; omega)
    | [_, _], h => exact absurd h (by simp; omega)
    | [_, _, _], h => exact absurd h (by simp; omega)
    | a :: b :: c :: d :: vs, h =>
      obtain ⟨x, y, z, q, e0, e1, e2, e3, f0, f1, f2⟩ := hf 0 (by omega)
      obtain ⟨l, hl, hv, hfit⟩ := its_of n vs (by simp at h; omega) (fun i hi => by
        obtain ⟨x, y, z, q, e0, e1, e2, e3, f⟩ := hf (i + 1) (by omega)
        rw [show (i + 1) * 4 + 0 = (i * 4 + 0) + 1 + 1 + 1 + 1 by omega] at e0
        rw [show (i + 1) * 4 + 1 = (i * 4 + 1) + 1 + 1 + 1 + 1 by omega] at e1
        rw [show (i + 1) * 4 + 2 = (i * 4 + 2) + 1 + 1 + 1 + 1 by omega] at e2
        rw [show (i + 1) * 4 + 3 = (i * 4 + 3) + 1 + 1 + 1 + 1 by omega] at e3
        exact ⟨x, y, z, q, by simpa using e0, by simpa using e1, by simpa using e2, by simpa using e3, f⟩)
      obtain rfl : a = .int .i64 x := by simpa using e0
      obtain rfl : b = .int .i64 y := by simpa using e1
      obtain rfl : c = .int .i64 z := by simpa using e2
      obtain rfl : d = .bool q := by simpa using e3
      refine ⟨⟨x, y, z, q⟩ :: l, by simp [hl], by rw [hv]; rfl, fun i => ?_⟩
      cases i with
      | zero => exact ⟨f0, f1, f2⟩
      | succ i => simpa [List.getD] using hfit i
/-- Items that came in. -/
def ItIn (w : World) (v : Value) : Prop := ∃ ao n cap l, v = .slice ao n cap ∧ n ≤ maxLen ∧ l.length = n ∧ RowV w ao n 4 (itV l) ∧ ItFit l
section
variable {H : Type} {enc : TypeId × Value → H} {P : Program} {w : World} {base b0 : Nat} {spare : Nat → Bool} {held : Bool} {r : Reach}
theorem items_cell {t e : TypeId} {fs : Array Field} {F0 F1 F2 F3 : Field} {n0 : Nat} {u : Value} {y : DataW H × List MemPlace} (ht : P.underlying t = some (.slice e)) (he : P.underlying e = some (.struct fs)) (hone : oneCellFields P fs = true) (hE : P.cellsOf e = fs.size) (hfs : fs = #[F0, F1, F2, F3])
    (h0 : P.underlying F0.type = some (.int .i64)) (h1 : P.underlying F1.type = some (.int .i64)) (h2 : P.underlying F2.type = some (.int .i64)) (h3 : P.underlying F3.type = some .bool) (hok : Cell.okWide P w r b0 t u) (h : DataW.trod enc P w base spare held n0 t [u] = some y) : ItIn w u := by
  subst hfs
  rcases open_row_flat ht he hone hE (by simp) hok h with rfl | ⟨g, off, n, cap, vs, rfl, c1, c2, c4, c5⟩
  · exact ⟨none, 0, 0, [], rfl, Nat.zero_le _, rfl, RowV.nil _ _ _, fun i => by simp [it0, IFit, List.getD]⟩
  · obtain ⟨l, hl, hv, hf⟩ := its_of n vs c4.1 (fun i hi => by
      obtain ⟨x, e0, w0⟩ := flat_int h0 (c5 i hi 0 F0 rfl)
      obtain ⟨y, e1, w1⟩ := flat_int h1 (c5 i hi 1 F1 rfl)
      obtain ⟨z, e2, w2⟩ := flat_int h2 (c5 i hi 2 F2 rfl)
      obtain ⟨q, e3⟩ := flat_bool h3 (c5 i hi 3 F3 rfl)
      exact ⟨x, y, z, q, e0, e1, e2, e3, fit_of_wf w0, fit_of_wf w1, fit_of_wf w2⟩)
    subst hv
    exact ⟨_, n, cap, l, rfl, by omega, hl, c4, hf⟩
theorem items_dir {t e : TypeId} {fs : Array Field} {F0 F1 F2 F3 : Field} {v : Value} {d : DataW H} {p : List MemPlace} (ht : P.underlying t = some (.slice e)) (he : P.underlying e = some (.struct fs)) (hone : oneCellFields P fs = true) (hE : P.cellsOf e = fs.size) (hfs : fs = #[F0, F1, F2, F3])
    (h0 : P.underlying F0.type = some (.int .i64)) (h1 : P.underlying F1.type = some (.int .i64)) (h2 : P.underlying F2.type = some (.int .i64)) (h3 : P.underlying F3.type = some .bool) (hv : Value.okWide P w r b0 t v) (h : DataW.Trod enc P w base spare held t v d p) : ItIn w v := by
  obtain ⟨k, n, y, hy⟩ := open_dir ht hv h
  exact items_cell ht he hone hE hfs h0 h1 h2 h3 k hy
end
end Go.Proofs.Ytgmnboacehopfaa
