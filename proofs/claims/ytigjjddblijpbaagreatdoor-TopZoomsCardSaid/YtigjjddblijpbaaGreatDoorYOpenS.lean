/-
  What came in, opened: raw styles (StyleComputes), a default with one value of another kind (StyleSets), a pair of numbers (StyleHairlines).
-/
import Derived.Test.YtigjjddblijpbaaGreatDoorZ1
import Derived.Test.YtigjjddblijpbaaGreatDoorZ16
namespace Go.Proofs.YtigjjddblijpbaaGreatDoor
open Go.ChangeShapes Go.WideShapes Go.ChangeAt Go.RowKit Go.Joins Go.Deep
set_option linter.unusedVariables false
set_option linter.unusedSimpArgs false

section
variable {H : Type} {enc : TypeId × Value → H} {P : Program} {w : World} {base : Nat} {spare : Nat → Bool} {held : Bool}
theorem part_reads {n fuel o : Nat} {t e : TypeId} {l : List Value} {x : DataW H × List MemPlace} (hs : P.underlying t = some (.array n e)) (hC : P.cellsOf t = n) (hE : P.cellsOf e = 1)
    (h : DataW.trod enc P w base spare held fuel t ((l.drop o).take (P.cellsOf t)) = some x) : ∀ i, i < n → ∃ u y m, l[o + i]? = some u ∧ DataW.trod enc P w base spare held m e [u] = some y := by
  obtain ⟨xs, m, _, _, hl, hxl, hg⟩ := DataW.trod_array hs h
  intro i hi
  have h1 := hg i hi
  rw [hE, Nat.mul_one, List.getElem?_eq_getElem (show i < xs.length by omega)] at h1
  have hil : i < ((l.drop o).take (P.cellsOf t)).length := by rw [hl, hC]; exact hi
  have e1 : (((l.drop o).take (P.cellsOf t)).drop i).take 1 = [((l.drop o).take (P.cellsOf t))[i]] := by rw [List.drop_eq_getElem_cons hil]; rfl
  rw [e1] at h1
  refine ⟨_, _, m, ?_, h1⟩
  have e2 := List.getElem?_eq_getElem hil
  rw [List.getElem?_take, if_pos (by rw [hC]; exact hi), List.getElem?_drop] at e2
  exact e2
theorem part_ints {n fuel o : Nat} {t e : TypeId} {k : IntKind} {l : List Value} {x : DataW H × List MemPlace} (hs : P.underlying t = some (.array n e)) (hC : P.cellsOf t = n) (hE : P.cellsOf e = 1) (hk : P.underlying e = some (.int k))
    (h : DataW.trod enc P w base spare held fuel t ((l.drop o).take (P.cellsOf t)) = some x) : ∀ i, i < n → ∃ a : Int, l[o + i]? = some (.int k a) ∧ (Lit.int k a).wf = true := fun i hi => flat_int hk (part_reads hs hC hE h i hi)
theorem part_bools {n fuel o : Nat} {t e : TypeId} {l : List Value} {x : DataW H × List MemPlace} (hs : P.underlying t = some (.array n e)) (hC : P.cellsOf t = n) (hE : P.cellsOf e = 1) (hk : P.underlying e = some .bool)
    (h : DataW.trod enc P w base spare held fuel t ((l.drop o).take (P.cellsOf t)) = some x) : ∀ i, i < n → ∃ a : Bool, l[o + i]? = some (.bool a) := fun i hi => flat_bool hk (part_reads hs hC hE h i hi)
theorem one_reads {fuel o : Nat} {t : TypeId} {l : List Value} {x : DataW H × List MemPlace} (hC : P.cellsOf t = 1) (ho : o < l.length) (h : DataW.trod enc P w base spare held fuel t ((l.drop o).take (P.cellsOf t)) = some x) : ∃ u y m, l[o]? = some u ∧ DataW.trod enc P w base spare held m t [u] = some y := by
  rw [hC, List.drop_eq_getElem_cons ho] at h
  exact ⟨_, _, fuel, List.getElem?_eq_getElem ho, h⟩
def natAt (l : List Value) (i : Nat) : Nat := match l[i]? with | some (.int _ a) => a.toNat | _ => 0
def intAt (l : List Value) (i : Nat) : Int := match l[i]? with | some (.int _ a) => a | _ => 0
def boolAt (l : List Value) (i : Nat) : Bool := match l[i]? with | some (.bool a) => a | _ => false
theorem natAt_is {l : List Value} {i : Nat} (h : ∃ a : Int, l[i]? = some (.int .u64 a) ∧ (Lit.int .u64 a).wf = true) : l[i]? = some (.int .u64 (natAt l i)) ∧ natAt l i < 18446744073709551616 := by
  obtain ⟨a, e, hw⟩ := h
  have h2 := fitu_of_wf hw
  unfold natAt
  rw [e]
  refine ⟨?_, ?_⟩
  · dsimp only
    rw [Int.toNat_of_nonneg (by have := h2.1; omega)]
  · dsimp only
    have := h2.1
    have := h2.2
    omega
theorem intAt_is {l : List Value} {i : Nat} (h : ∃ a : Int, l[i]? = some (.int .i64 a) ∧ (Lit.int .i64 a).wf = true) : l[i]? = some (.int .i64 (intAt l i)) ∧ IFit (intAt l i) := by
  obtain ⟨a, e, hw⟩ := h
  unfold intAt
  rw [e]
  exact ⟨rfl, fit_of_wf hw⟩
theorem boolAt_is {l : List Value} {i : Nat} (h : ∃ a : Bool, l[i]? = some (.bool a)) : l[i]? = some (.bool (boolAt l i)) := by
  obtain ⟨a, e⟩ := h
  unfold boolAt
  rw [e]
end
/-- A raw style that came in. -/
def RawIn (w : World) (v : Value) : Prop := ∃ x : Rs, x.Fit ∧ v = .agg (cellsF 65 (lawF x))
def SetIn (w : World) (v : Value) : Prop := ∃ (wh aw : Int) (b : Nat) (p : Bool) (n : Int) (B : Nat → Bool), IFit wh ∧ IFit aw ∧ b < 18446744073709551616 ∧ IFit n ∧ v = .agg (cellsF 9 (seF wh aw b p n B))
def TwoIn (w : World) (v : Value) : Prop := ∃ s t : Int, (0 ≤ s ∧ s ≤ 65535) ∧ (0 ≤ t ∧ t ≤ 65535) ∧ v = .agg #[.int .u16 s, .int .u16 t]
section
variable {H : Type} {enc : TypeId × Value → H} {w : World} {base : Nat} {spare : Nat → Bool} {held : Bool}
end
end Go.Proofs.YtigjjddblijpbaaGreatDoor
