/-
  The functions of package ratio, each by its contract. Fourth part: Half.
-/
import Derived.Test.YtmkblfejoniccaaDoorZ5
namespace Go.Proofs.YtmkblfejoniccaaDoor
open Go.RowKit
set_option linter.unusedSimpArgs false
set_option linter.unusedVariables false

/-- A block of two cells of a wide number. -/
def Qx (w : World) (b : Nat) (x y : Value) : Prop := w.heap[b]? = some (Obj.cells #[x, y] 156 (0, 0))
theorem Qx.cells {w : World} {b : Nat} {x y : Value} (h : Qx w b x y) : w.cell? ⟨b, 0, none⟩ = some x ∧ w.cell? ⟨b, 1, none⟩ = some y ∧ w.frozen? ⟨b, 0, none⟩ = false ∧ w.frozen? ⟨b, 1, none⟩ = false := by
  refine ⟨by rw [cell_of_row w b 0 _ _ _ h]; rfl, by rw [cell_of_row w b 1 _ _ _ h]; rfl, ?_, ?_⟩ <;> simp [World.frozen?, show w.heap[b]? = _ from h]
theorem Qx.lt {w : World} {b : Nat} {x y : Value} (h : Qx w b x y) : b < w.heap.size := (Array.getElem?_eq_some_iff.1 h).1
theorem Qx.new (w : World) (x y : Value) (b : Nat) (hb : b = w.heap.size) : Qx (w.alloc (.cells #[x, y] 156)) b x y := by subst hb; exact heap_alloc_new w _
theorem Qx.alloc {w : World} {b : Nat} {x y : Value} (h : Qx w b x y) (o : Obj) : Qx (w.alloc o) b x y := (Below.heap_alloc w o _ h.lt).trans h
theorem Qx.below {w w' : World} {b : Nat} {x y : Value} (h : Qx w b x y) (hb : Below w.heap.size w w') : Qx w' b x y := (hb.block b h.lt).trans h
theorem Qx.belowX {w w' : World} {b : Nat} {x y : Value} (hb : Below w.heap.size w w') (h : Qx w b x y) : Qx w' b x y := h.below hb
theorem Qx.drew {w : World} {b : Nat} {x y : Value} (h : Qx w b x y) : Qx w.drew b x y := h
theorem Qx.put {w : World} {b : Nat} {x y : Value} (h : Qx w b x y) (u v : Value) : Qx ((w.setCell ⟨b, 0, none⟩ u).setCell ⟨b, 1, none⟩ v) b u v := by
  unfold Qx at *
  have h1 : (w.setCell ⟨b, 0, none⟩ u).heap[b]? = some (Obj.cells #[u, y] 156 (0, 0)) := by
    simp only [World.setCell, Array.getElem?_modify, if_true, h]; rfl
  simp only [World.setCell, Array.getElem?_modify, if_true] at h1 ⊢
  rw [h1]; rfl
theorem Qx.putE {w : World} {b : Nat} (h : ∃ x y, Qx w b x y) (u v : Value) : Qx ((w.setCell ⟨b, 0, none⟩ u).setCell ⟨b, 1, none⟩ v) b u v := by
  obtain ⟨x, y, h⟩ := h; exact h.put u v
theorem Rx.alloc {w : World} {b : Nat} {x y : Value} (h : Rx w b x y) (o : Obj) : Rx (w.alloc o) b x y := (Below.heap_alloc w o _ h.lt).trans h
/-- The ratio's box stands. -/
def RE (w : World) (b : Nat) (x y : Value) (wX : World) : Prop := Rx wX b x y ∧ Below w.heap.size w wX
section
variable {w wX w' : World} {b : Nat} {x y : Value}
theorem RE.tx (h : RE w b x y wX) : Rx wX b x y := h.1
theorem RE.bl (h : RE w b x y wX) : Below w.heap.size w wX := h.2
theorem RE.alloc (h : RE w b x y wX) (o : Obj) : RE w b x y (wX.alloc o) := ⟨h.tx.alloc o, h.bl.alloc h.bl.size o⟩
theorem RE.drew (h : RE w b x y wX) : RE w b x y wX.drew := ⟨h.tx, h.bl.drew⟩
theorem RE.below (hb : Below wX.heap.size wX w') (h : RE w b x y wX) : RE w b x y w' := ⟨h.tx.below hb, h.bl.trans (hb.mono h.bl.size)⟩
theorem RE.set (h : RE w b x y wX) (c o : Nat) (v : Value) (h5 : ¬ b = c) (hb : w.heap.size ≤ c) : RE w b x y (wX.setCell ⟨c, o, none⟩ v) :=
  ⟨(Below.heap_setCell _ _ _ _ h5).trans h.tx, h.bl.setCell (p := ⟨c, o, none⟩) hb v⟩
theorem RE.n1 (h : RE w b x y wX) : Qx (wX.alloc (.cells #[.int .i64 0, .int .u64 0] 156)) wX.heap.size (.int .i64 0) (.int .u64 0) := Qx.new _ _ _ _ rfl
theorem RE.cells (h : RE w b x y wX) : wX.cell? ⟨b, 0, none⟩ = some x ∧ wX.cell? ⟨b, 1, none⟩ = some y := ⟨h.tx.cells.1, h.tx.cells.2.1⟩
theorem RE.nes (h : RE w b x y wX) : ¬ b = wX.heap.size ∧ w.heap.size ≤ wX.heap.size ∧ b < wX.heap.size := by
  have a := h.tx.lt
  have c := h.bl.size
  omega
end

/-- The quotient rounded to the nearest number, a half upwards. -/
def hq (a d : Int) : Int := if d - fr a d ≤ fr a d then fq a d + 1 else fq a d
/-- What Half answers. -/
def HalfAns (x N D : Int) (w : World) (e : Ending) (w' : World) : Prop :=
  (goodB N D = false → e = .returned (.tuple #[.int .i64 0, .int .i64 1])) ∧ (goodB N D = true → IFit (hq (x * N) D) → e = .returned (.tuple #[.int .i64 (hq (x * N) D), .int .i64 0])) ∧
  (goodB N D = true → ¬ IFit (hq (x * N) D) → e = .returned (.tuple #[.int .i64 0, .int .i64 2])) ∧ Below w.heap.size w w'
def CutH (w : World) (F R : Int) (N D : Value) (s6 s7 s8 : Value) (wx : World) : Prop :=
  ∃ b qh ql, s6 = .pointer (some ⟨b, 0, none⟩) ∧ s7 = .int .i64 R ∧ s8 = .bool true ∧ Wd qh ql F ∧ Qx wx b (.int .i64 qh) (.int .u64 ql) ∧ RE w w.heap.size N D wx ∧ w.heap.size ≤ b

end Go.Proofs.YtmkblfejoniccaaDoor
