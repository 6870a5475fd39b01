/-
  What came in, opened: words (numbers; floats by their bits).
-/
import Derived.Test.YtgmnboacehopfaaYOpenB
import Derived.Test.YtgmnboacehopfaaYWoE
import Derived.Test.YtgmnboacehopfaaYVaD
namespace Go.Proofs.Ytgmnboacehopfaa
open Go.ChangeShapes Go.WideShapes Go.ChangeAt Go.RowKit Go.Joins Go.Deep
set_option linter.unusedVariables false

/-- A row that holds, piece by piece, what the elements hold. -/
theorem rows_of {α : Type} (f : α → List Value) (s : Nat) (hs : ∀ x, (f x).length = s) (F : α → Prop) : ∀ (n : Nat) (vs : List Value), vs.length = n * s → (∀ i, i < n → ∃ x : α, F x ∧ ∀ j, j < s → vs[i * s + j]? = (f x)[j]?) → ∃ l : List α, l.length = n ∧ vs = l.flatMap f ∧ ∀ x ∈ l, F x
  | 0, vs, h, _ => ⟨[], rfl, (List.eq_nil_of_length_eq_zero (by simpa using h)).trans rfl, fun x hx => by simp at hx⟩
  | n + 1, vs, h, hf => by
    have hns : (n + 1) * s = n * s + s := Nat.succ_mul n s
    have hlen : (vs.take s).length = s := by rw [List.length_take]; omega
    obtain ⟨x, hx, e0⟩ := hf 0 (by omega)
    obtain ⟨l, hl, hv, hfit⟩ := rows_of f s hs F n (vs.drop s) (by rw [List.length_drop]; omega) (fun i hi => by
      obtain ⟨y, hy, g0⟩ := hf (i + 1) (by omega)
      refine ⟨y, hy, fun j hj => ?_⟩
      rw [List.getElem?_drop, ← g0 j hj]
      congr 1
      have : (i + 1) * s = i * s + s := Nat.succ_mul i s
      omega)
    have ht : vs.take s = f x := by
      refine List.ext_getElem? fun i => ?_
      by_cases hi : i < s
      · rw [List.getElem?_take_of_lt hi, ← e0 i hi]; congr 1; omega
      · rw [List.getElem?_eq_none (by omega), List.getElem?_eq_none (by rw [hs]; omega)]
    refine ⟨x :: l, by simp [hl], ?_, fun y hy => ?_⟩
    · rw [← List.take_append_drop s vs, ht, hv]
      rfl
    · rcases List.mem_cons.1 hy with rfl | hy
      · exact hx
      · exact hfit y hy
/-- Words that came in: numbers. -/
def WoIn (w : World) (v : Value) : Prop := ∃ (ao : Option Addr) (n cap : Nat) (l : List Wo), v = .slice ao n cap ∧ n ≤ maxLen ∧ l.length = n ∧ RowV w ao n 3 (l.flatMap Wo.vals) ∧ ∀ x ∈ l, Wo.Fit x
/-- Words that came in: floats by their bits. -/
def Rw.bits (x : Rw) : List Value := [.int .u64 (x.w : Int), .int .u64 (x.s : Int), .bool x.br]
def RwIn (w : World) (v : Value) : Prop := ∃ (ao : Option Addr) (n cap : Nat) (l : List Rw), v = .slice ao n cap ∧ n ≤ maxLen ∧ l.length = n ∧ RowV w ao n 3 (l.flatMap Rw.bits) ∧ ∀ x ∈ l, Rw.Wf x
section
variable {H : Type} {enc : TypeId × Value → H} {P : Program} {w : World} {base b0 : Nat} {spare : Nat → Bool} {held : Bool} {r : Reach}
theorem wo_dir {t e : TypeId} {fs : Array Field} {F0 F1 F2 : Field} {v : Value} {d : DataW H} {p : List MemPlace} (ht : P.underlying t = some (.slice e)) (he : P.underlying e = some (.struct fs)) (hone : oneCellFields P fs = true) (hE : P.cellsOf e = fs.size) (hfs : fs = #[F0, F1, F2])
    (h0 : P.underlying F0.type = some (.int .i64)) (h1 : P.underlying F1.type = some (.int .i64)) (h2 : P.underlying F2.type = some .bool) (hv : Value.okWide P w r b0 t v) (h : DataW.Trod enc P w base spare held t v d p) : WoIn w v := by
  obtain ⟨hok, n, y, hy⟩ := open_dir ht hv h
  subst hfs
  rcases open_row_flat ht he hone hE (by simp) hok hy with rfl | ⟨g, off, n, cap, vs, rfl, c1, c2, c4, c5⟩
  · exact ⟨none, 0, 0, [], rfl, Nat.zero_le _, rfl, RowV.nil _ _ _, fun x hx => by simp at hx⟩
  · obtain ⟨l, hl, hv, hf⟩ := rows_of Wo.vals 3 (fun _ => rfl) Wo.Fit n vs c4.1 (fun i hi => by
      obtain ⟨x0, e0, w0⟩ := flat_int h0 (c5 i hi 0 F0 rfl)
      obtain ⟨x1, e1, w1⟩ := flat_int h1 (c5 i hi 1 F1 rfl)
      obtain ⟨q, e2⟩ := flat_bool h2 (c5 i hi 2 F2 rfl)
      refine ⟨⟨x0, x1, q⟩, ⟨fit_of_wf w0, fit_of_wf w1⟩, fun j hj => ?_⟩
      match j, hj with
      | 0, _ => exact e0
      | 1, _ => exact e1
      | 2, _ => exact e2)
    subst hv
    exact ⟨_, n, cap, l, rfl, by omega, hl, c4, hf⟩
theorem rw_dir {t e : TypeId} {fs : Array Field} {F0 F1 F2 : Field} {v : Value} {d : DataW H} {p : List MemPlace} (ht : P.underlying t = some (.slice e)) (he : P.underlying e = some (.struct fs)) (hone : oneCellFields P fs = true) (hE : P.cellsOf e = fs.size) (hfs : fs = #[F0, F1, F2])
    (h0 : P.underlying F0.type = some (.int .u64)) (h1 : P.underlying F1.type = some (.int .u64)) (h2 : P.underlying F2.type = some .bool) (hv : Value.okWide P w r b0 t v) (h : DataW.Trod enc P w base spare held t v d p) : RwIn w v := by
  obtain ⟨hok, n, y, hy⟩ := open_dir ht hv h
  subst hfs
  rcases open_row_flat ht he hone hE (by simp) hok hy with rfl | ⟨g, off, n, cap, vs, rfl, c1, c2, c4, c5⟩
  · exact ⟨none, 0, 0, [], rfl, Nat.zero_le _, rfl, RowV.nil _ _ _, fun x hx => by simp at hx⟩
  · obtain ⟨l, hl, hv, hf⟩ := rows_of Rw.bits 3 (fun _ => rfl) Rw.Wf n vs c4.1 (fun i hi => by
      obtain ⟨x0, e0, w0⟩ := flat_int h0 (c5 i hi 0 F0 rfl)
      obtain ⟨x1, e1, w1⟩ := flat_int h1 (c5 i hi 1 F1 rfl)
      obtain ⟨q, e2⟩ := flat_bool h2 (c5 i hi 2 F2 rfl)
      have f0 := fitu_of_wf w0
      have f1 := fitu_of_wf w1
      obtain ⟨y0, rfl⟩ := Int.eq_ofNat_of_zero_le f0.1
      obtain ⟨y1, rfl⟩ := Int.eq_ofNat_of_zero_le f1.1
      refine ⟨⟨y0, y1, q⟩, ⟨by have := f0.2; show y0 < _; omega, by have := f1.2; show y1 < _; omega⟩, fun j hj => ?_⟩
      match j, hj with
      | 0, _ => exact e0
      | 1, _ => exact e1
      | 2, _ => exact e2)
    subst hv
    exact ⟨_, n, cap, l, rfl, by omega, hl, c4, hf⟩
end
end Go.Proofs.Ytgmnboacehopfaa
