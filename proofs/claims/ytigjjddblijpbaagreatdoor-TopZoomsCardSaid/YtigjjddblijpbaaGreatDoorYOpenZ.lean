/-
  What came in, opened: a width and two scales' parts (TopZooms); the law of what came in.
-/
import Derived.Test.YtigjjddblijpbaaGreatDoorYExLb
import Derived.Test.YtigjjddblijpbaaGreatDoorYOpenS
namespace Go.Proofs.YtigjjddblijpbaaGreatDoor
open Go.ChangeShapes Go.WideShapes Go.ChangeAt Go.RowKit Go.Joins Go.Deep
set_option linter.unusedVariables false
set_option linter.unusedSimpArgs false

def ZoomIn (w : World) (v : Value) : Prop := ∃ z : Ex.Zin, z.Fit ∧ v = z.v
section
variable {H : Type} {enc : TypeId × Value → H} {w : World} {base : Nat} {spare : Nat → Bool} {held : Bool}
set_option maxRecDepth 100000 in
theorem zoom_dir {r : Reach} {b0 : Nat} {v : Value} {d : DataW H} {p : List MemPlace} (hv : Value.okWide Tryz.prog w r b0 25 v) (h : DataW.Trod enc Tryz.prog w base spare held 25 v d p) : ZoomIn w v := by
  obtain ⟨⟨l⟩, rfl, hsz⟩ := okWide_struct Tryz.underlying25 hv
  obtain ⟨fuel, hf⟩ := h
  obtain ⟨xs, n, _, _, hl, hxl, hg⟩ := DataW.trod_struct Tryz.underlying25 hf
  rw [show (Value.agg { toList := l }).cells.toList = l from rfl] at hl hg
  have hl5 : l.length = 5 := hl.trans (by kernel_rfl)
  have hx3 : xs.length = 3 := hxl
  have g0 := hg 0 _ rfl
  have g1 := hg 1 _ rfl
  have g2 := hg 2 _ rfl
  rw [List.getElem?_eq_getElem (show 0 < xs.length by omega)] at g0
  rw [List.getElem?_eq_getElem (show 1 < xs.length by omega)] at g1
  rw [List.getElem?_eq_getElem (show 2 < xs.length by omega)] at g2
  obtain ⟨W, eW, wW⟩ := flat_int (t := 22) Tryz.underlying22 (one_reads (o := 0) (by kernel_rfl) (by omega) g0)
  have a1 := part_ints (o := 1) Tryz.underlying23 (by kernel_rfl) (by kernel_rfl) Tryz.underlying5 g1
  have a2 := part_ints (o := 3) Tryz.underlying23 (by kernel_rfl) (by kernel_rfl) Tryz.underlying5 g2
  obtain ⟨x1, e1, w1⟩ := a1 0 (by omega)
  obtain ⟨x2, e2, w2⟩ := a1 1 (by omega)
  obtain ⟨y1, e3, w3⟩ := a2 0 (by omega)
  obtain ⟨y2, e4, w4⟩ := a2 1 (by omega)
  refine ⟨⟨W, x1, x2, y1, y2⟩, ⟨u32_of_wf wW, u8_of_wf w1, u8_of_wf w2, u8_of_wf w3, u8_of_wf w4⟩, ?_⟩
  unfold Ex.Zin.v
  congr 2
  match l, hl5, eW, e1, e2, e3, e4 with
  | [c0, c1, c2, c3, c4], _, eW, e1, e2, e3, e4 =>
    simp at eW e1 e2 e3 e4
    rw [eW, e1, e2, e3, e4]
end
theorem law_zooms_in (v : Value) (w : World) (h : ZoomIn w v) (hT : StyW w) : Calls Tryz.prog 3 #[v] w fun e w' => e = .returned (.bool true) ∧ Below w.heap.size w w' := by
  obtain ⟨z, hz, rfl⟩ := h
  exact Ex.law_zooms hz w hT
end Go.Proofs.YtigjjddblijpbaaGreatDoor
