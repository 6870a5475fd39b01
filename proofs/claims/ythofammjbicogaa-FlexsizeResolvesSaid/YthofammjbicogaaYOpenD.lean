/-
  What came in, opened: items of seven fields.
-/
import Derived.Test.YthofammjbicogaaYOpenB
import Derived.Test.YthofammjbicogaaYFxC
namespace Go.Proofs.Ythofammjbicogaa
open Go.ChangeShapes Go.WideShapes Go.ChangeAt Go.RowKit Go.Joins Go.Deep
set_option linter.unusedVariables false

theorem fxs_of : ∀ (n : Nat) (vs : List Value), vs.length = n * 7 → (∀ i, i < n → ∃ x : Fx, FxFit x ∧ vs[i * 7 + 0]? = some (.int .i64 x.base) ∧ vs[i * 7 + 1]? = some (.int .i64 x.least) ∧ vs[i * 7 + 2]? = some (.int .i64 x.most) ∧ vs[i * 7 + 3]? = some (.bool x.bound) ∧ vs[i * 7 + 4]? = some (.int .i64 x.extra) ∧ vs[i * 7 + 5]? = some (.int .i64 x.grow) ∧ vs[i * 7 + 6]? = some (.int .i64 x.shrink)) → ∃ l : List Fx, l.length = n ∧ vs = fxV l ∧ ∀ x ∈ l, FxFit x
  | 0, vs, h, _ => ⟨[], rfl, (List.eq_nil_of_length_eq_zero (by simpa using h)).trans rfl, fun x hx => by simp at hx⟩
  | n + 1, vs, h, hf => by
    have hlen : (vs.take 7).length = 7 := by rw [List.length_take]; omega
    obtain ⟨x, hx, e0, e1, e2, e3, e4, e5, e6⟩ := hf 0 (by omega)
    obtain ⟨l, hl, hv, hfit⟩ := fxs_of n (vs.drop 7) (by rw [List.length_drop]; omega) (fun i hi => by
      obtain ⟨y, hy, g0, g1, g2, g3, g4, g5, g6⟩ := hf (i + 1) (by omega)
      refine ⟨y, hy, ?_, ?_, ?_, ?_, ?_, ?_, ?_⟩
      all_goals rw [List.getElem?_drop]
      · rw [← g0]; congr 1; omega
      · rw [← g1]; congr 1; omega
      · rw [← g2]; congr 1; omega
      · rw [← g3]; congr 1; omega
      · rw [← g4]; congr 1; omega
      · rw [← g5]; congr 1; omega
      · rw [← g6]; congr 1; omega)
    have ht : vs.take 7 = x.vals := by
      refine List.ext_getElem? fun i => ?_
      by_cases hi : i < 7
      · rw [List.getElem?_take_of_lt hi]
        match i, hi with
        | 0, _ => exact e0
        | 1, _ => exact e1
        | 2, _ => exact e2
        | 3, _ => exact e3
        | 4, _ => exact e4
        | 5, _ => exact e5
        | 6, _ => exact e6
      · rw [List.getElem?_eq_none (by omega), List.getElem?_eq_none (by show 7 ≤ i; omega)]
    refine ⟨x :: l, by simp [hl], ?_, fun y hy => ?_⟩
    · rw [← List.take_append_drop 7 vs, ht, hv]
      rfl
    · rcases List.mem_cons.1 hy with rfl | hy
      · exact hx
      · exact hfit y hy
/-- Items that came in. -/
def FxIn (w : World) (v : Value) : Prop := ∃ ao n cap l, v = .slice ao n cap ∧ n ≤ maxLen ∧ l.length = n ∧ RowV w ao n 7 (fxV l) ∧ ∀ x ∈ l, FxFit x
section
variable {H : Type} {enc : TypeId × Value → H} {P : Program} {w : World} {base b0 : Nat} {spare : Nat → Bool} {held : Bool} {r : Reach}
theorem fx_dir {t e : TypeId} {fs : Array Field} {F0 F1 F2 F3 F4 F5 F6 : Field} {v : Value} {d : DataW H} {p : List MemPlace} (ht : P.underlying t = some (.slice e)) (he : P.underlying e = some (.struct fs)) (hone : oneCellFields P fs = true) (hE : P.cellsOf e = fs.size) (hfs : fs = #[F0, F1, F2, F3, F4, F5, F6])
    (h0 : P.underlying F0.type = some (.int .i64)) (h1 : P.underlying F1.type = some (.int .i64)) (h2 : P.underlying F2.type = some (.int .i64)) (h3 : P.underlying F3.type = some .bool) (h4 : P.underlying F4.type = some (.int .i64)) (h5 : P.underlying F5.type = some (.int .i64)) (h6 : P.underlying F6.type = some (.int .i64)) (hv : Value.okWide P w r b0 t v) (h : DataW.Trod enc P w base spare held t v d p) : FxIn w v := by
  obtain ⟨hok, n, y, hy⟩ := open_dir ht hv h
  subst hfs
  rcases open_row_flat ht he hone hE (by simp) hok hy with rfl | ⟨g, off, n, cap, vs, rfl, c1, c2, c4, c5⟩
  · exact ⟨none, 0, 0, [], rfl, Nat.zero_le _, rfl, RowV.nil _ _ _, fun x hx => by simp at hx⟩
  · obtain ⟨l, hl, hv, hf⟩ := fxs_of n vs c4.1 (fun i hi => by
      obtain ⟨x0, e0, w0⟩ := flat_int h0 (c5 i hi 0 F0 rfl)
      obtain ⟨x1, e1, w1⟩ := flat_int h1 (c5 i hi 1 F1 rfl)
      obtain ⟨x2, e2, w2⟩ := flat_int h2 (c5 i hi 2 F2 rfl)
      obtain ⟨q, e3⟩ := flat_bool h3 (c5 i hi 3 F3 rfl)
      obtain ⟨x4, e4, w4⟩ := flat_int h4 (c5 i hi 4 F4 rfl)
      obtain ⟨x5, e5, w5⟩ := flat_int h5 (c5 i hi 5 F5 rfl)
      obtain ⟨x6, e6, w6⟩ := flat_int h6 (c5 i hi 6 F6 rfl)
      exact ⟨⟨x0, x1, x2, q, x4, x5, x6⟩, ⟨⟨fit_of_wf w0, fit_of_wf w1, fit_of_wf w2⟩, fit_of_wf w4, fit_of_wf w5, fit_of_wf w6⟩, e0, e1, e2, e3, e4, e5, e6⟩)
    subst hv
    exact ⟨_, n, cap, l, rfl, by omega, hl, c4, hf⟩
end
end Go.Proofs.Ythofammjbicogaa
