/-
  What came in, opened: an array of ints.
-/
import Derived.Test.YtmkblfejoniccaaDoorZ1
namespace Go.Proofs.YtmkblfejoniccaaDoor
open Go.ChangeShapes Go.WideShapes Go.ChangeAt Go.RowKit Go.Joins Go.Deep
set_option linter.unusedVariables false

section
variable {H : Type} {enc : TypeId × Value → H} {P : Program} {w : World} {base b0 : Nat} {spare : Nat → Bool} {held : Bool} {r : Reach}
theorem open_arr_ints {n : Nat} {t e : TypeId} {k : IntKind} {v : Value} {d : DataW H} {p : List MemPlace} (hs : P.underlying t = some (.array n e)) (he : P.underlying e = some (.int k)) (hE : P.cellsOf e = 1) (hC : P.cellsOf t = n)
    (hv : Value.okWide P w r b0 t v) (h : DataW.Trod enc P w base spare held t v d p) :
    ∃ xs : List Int, v = .agg (xs.map fun x => .int k x).toArray ∧ xs.length = n ∧ ∀ x ∈ xs, (Lit.int k x).wf = true := by
  simp only [Value.okWide, hs] at hv
  obtain ⟨⟨l⟩, rfl, hsz, _⟩ := hv
  obtain ⟨fuel, hf⟩ := h
  obtain ⟨xs, m, _, _, _, hxl, hg⟩ := DataW.trod_array hs hf
  have hl : l.length = n := by rw [← hC, ← hsz]; rfl
  have key : ∀ i, i < n → ∃ a : Int, l[i]? = some (.int k a) ∧ (Lit.int k a).wf = true := by
    intro i hi
    have h1 := hg i hi
    rw [List.getElem?_eq_getElem (by omega), show (Value.agg { toList := l }).cells.toList = l from rfl, hE, Nat.mul_one, List.drop_eq_getElem_cons (by omega)] at h1
    exact flat_int he ⟨_, _, m, List.getElem?_eq_getElem (by omega), h1⟩
  have mk : ∀ (l : List Value), (∀ i, i < l.length → ∃ a : Int, l[i]? = some (.int k a) ∧ (Lit.int k a).wf = true) → ∃ xs : List Int, l = xs.map (fun x => .int k x) ∧ ∀ x ∈ xs, (Lit.int k x).wf = true := by
    intro l
    induction l with
    | nil => exact fun _ => ⟨[], rfl, fun x hx => by simp at hx⟩
    | cons u l ih =>
      intro hk
      obtain ⟨a, e1, e2⟩ := hk 0 (by simp)
      obtain ⟨xs, e3, e4⟩ := ih (fun i hi => by
        obtain ⟨b, g1, g2⟩ := hk (i + 1) (by simp; omega)
        exact ⟨b, by simpa using g1, g2⟩)
      refine ⟨a :: xs, ?_, fun x hx => ?_⟩
      · rw [e3]
        have : u = .int k a := by simpa using e1
        rw [this]; rfl
      · rcases List.mem_cons.1 hx with rfl | hx
        · exact e2
        · exact e4 x hx
  obtain ⟨ys, e1, e2⟩ := mk l (fun i hi => key i (by omega))
  refine ⟨ys, ?_, ?_, e2⟩
  · rw [e1]
  · have : l.length = ys.length := by rw [e1]; simp
    omega
/-- Two small ints that came in. -/
def Ar2 (w : World) (v : Value) : Prop := ∃ x y : Int, v = .agg #[.int .u16 x, .int .u16 y] ∧ (Lit.int .u16 x).wf = true ∧ (Lit.int .u16 y).wf = true
theorem ar2_dir {t e : TypeId} {v : Value} {d : DataW H} {p : List MemPlace} (hs : P.underlying t = some (.array 2 e)) (he : P.underlying e = some (.int .u16)) (hE : P.cellsOf e = 1) (hC : P.cellsOf t = 2)
    (hv : Value.okWide P w r b0 t v) (h : DataW.Trod enc P w base spare held t v d p) : Ar2 w v := by
  obtain ⟨xs, rfl, hl, hw⟩ := open_arr_ints hs he hE hC hv h
  match xs, hl, hw with
  | [x, y], _, hw => exact ⟨x, y, rfl, hw x (by simp), hw y (by simp)⟩
end
end Go.Proofs.YtmkblfejoniccaaDoor
