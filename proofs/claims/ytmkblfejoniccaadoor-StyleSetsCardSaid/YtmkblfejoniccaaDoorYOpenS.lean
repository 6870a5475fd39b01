/-
  What came in, opened: raw styles (StyleComputes), a default with one value of another kind (StyleSets), a pair of numbers (StyleHairlines).
-/
import Derived.Test.YtmkblfejoniccaaDoorZ1
import Derived.Test.YtmkblfejoniccaaDoorYSyU
namespace Go.Proofs.YtmkblfejoniccaaDoor
open Go.ChangeShapes Go.WideShapes Go.ChangeAt Go.RowKit Go.Joins Go.Deep
set_option linter.unusedVariables false
set_option linter.unusedSimpArgs false

section
variable {H : Type} {enc : TypeId × Value → H} {P : Program} {w : World} {base : Nat} {spare : Nat → Bool} {held : Bool}
theorem part_reads {n fuel o : Nat} {t e : TypeId} {l : List Value} {x : DataW H × List MemPlace} (hs : P.underlying t = some (.array n e)) (hC : P.cellsOf t = n) (hE : P.cellsOf e = 1)
    (h : DataW.trod enc P w base spare held fuel t ((l.drop o).take (P.cellsOf t)) = some x) : ∀ i, i < n → ∃ u y m, l[o + i]? = some u ∧ DataW.trod enc P w base spare held m e [u] = some y := by
  obtain ⟨xs, m, _, _, hl, hxl, hg⟩ := DataW.trod_array hs h
  intro i hi
  have h1 := hg i hi
  rw [hE, Nat.mul_one, List.getElem?_eq_getElem (show i < xs.length by omega)] at h1
  have hil : i < ((l.drop o).take (P.cellsOf t)).length := by rw [hl, hC]; exact hi
  have e1 : (((l.drop o).take (P.cellsOf t)).drop i).take 1 = [((l.drop o).take (P.cellsOf t))[i]] := by rw [List.drop_eq_getElem_cons hil]; rfl
  rw [e1] at h1
  refine ⟨_, _, m, ?_, h1⟩
  have e2 := List.getElem?_eq_getElem hil
  rw [List.getElem?_take, if_pos (by rw [hC]; exact hi), List.getElem?_drop] at e2
  exact e2
theorem part_ints {n fuel o : Nat} {t e : TypeId} {k : IntKind} {l : List Value} {x : DataW H × List MemPlace} (hs : P.underlying t = some (.array n e)) (hC : P.cellsOf t = n) (hE : P.cellsOf e = 1) (hk : P.underlying e = some (.int k))
    (h : DataW.trod enc P w base spare held fuel t ((l.drop o).take (P.cellsOf t)) = some x) : ∀ i, i < n → ∃ a : Int, l[o + i]? = some (.int k a) ∧ (Lit.int k a).wf = true := fun i hi => flat_int hk (part_reads hs hC hE h i hi)
theorem part_bools {n fuel o : Nat} {t e : TypeId} {l : List Value} {x : DataW H × List MemPlace} (hs : P.underlying t = some (.array n e)) (hC : P.cellsOf t = n) (hE : P.cellsOf e = 1) (hk : P.underlying e = some .bool)
    (h : DataW.trod enc P w base spare held fuel t ((l.drop o).take (P.cellsOf t)) = some x) : ∀ i, i < n → ∃ a : Bool, l[o + i]? = some (.bool a) := fun i hi => flat_bool hk (part_reads hs hC hE h i hi)
theorem one_reads {fuel o : Nat} {t : TypeId} {l : List Value} {x : DataW H × List MemPlace} (hC : P.cellsOf t = 1) (ho : o < l.length) (h : DataW.trod enc P w base spare held fuel t ((l.drop o).take (P.cellsOf t)) = some x) : ∃ u y m, l[o]? = some u ∧ DataW.trod enc P w base spare held m t [u] = some y := by
  rw [hC, List.drop_eq_getElem_cons ho] at h
  exact ⟨_, _, fuel, List.getElem?_eq_getElem ho, h⟩
def natAt (l : List Value) (i : Nat) : Nat := match l[i]? with | some (.int _ a) => a.toNat | _ => 0
def intAt (l : List Value) (i : Nat) : Int := match l[i]? with | some (.int _ a) => a | _ => 0
def boolAt (l : List Value) (i : Nat) : Bool := match l[i]? with | some (.bool a) => a | _ => false
theorem natAt_is {l : List Value} {i : Nat} (h : ∃ a : Int, l[i]? = some (.int .u64 a) ∧ (Lit.int .u64 a).wf = true) : l[i]? = some (.int .u64 (natAt l i)) ∧ natAt l i < 18446744073709551616 := by
  obtain ⟨a, e, hw⟩ := h
  have h2 := fitu_of_wf hw
  unfold natAt
  rw [e]
  refine ⟨?_, ?_⟩
  · dsimp only
    rw [Int.toNat_of_nonneg (by have := h2.1; omega)]
  · dsimp only
    have := h2.1
    have := h2.2
    omega
theorem intAt_is {l : List Value} {i : Nat} (h : ∃ a : Int, l[i]? = some (.int .i64 a) ∧ (Lit.int .i64 a).wf = true) : l[i]? = some (.int .i64 (intAt l i)) ∧ IFit (intAt l i) := by
  obtain ⟨a, e, hw⟩ := h
  unfold intAt
  rw [e]
  exact ⟨rfl, fit_of_wf hw⟩
theorem boolAt_is {l : List Value} {i : Nat} (h : ∃ a : Bool, l[i]? = some (.bool a)) : l[i]? = some (.bool (boolAt l i)) := by
  obtain ⟨a, e⟩ := h
  unfold boolAt
  rw [e]
end
/-- A raw style that came in. -/
def RawIn (w : World) (v : Value) : Prop := ∃ x : Rs, x.Fit ∧ v = .agg (cellsF 65 (lawF x))
def SetIn (w : World) (v : Value) : Prop := ∃ (wh aw : Int) (b : Nat) (p : Bool) (n : Int) (B : Nat → Bool), IFit wh ∧ IFit aw ∧ b < 18446744073709551616 ∧ IFit n ∧ v = .agg (cellsF 9 (seF wh aw b p n B))
def TwoIn (w : World) (v : Value) : Prop := ∃ s t : Int, (0 ≤ s ∧ s ≤ 65535) ∧ (0 ≤ t ∧ t ≤ 65535) ∧ v = .agg #[.int .u16 s, .int .u16 t]
section
variable {H : Type} {enc : TypeId × Value → H} {w : World} {base : Nat} {spare : Nat → Bool} {held : Bool}
set_option maxRecDepth 100000 in
theorem raw_dir {r : Reach} {b0 : Nat} {v : Value} {d : DataW H} {p : List MemPlace} (hv : Value.okWide Tryd.prog w r b0 60 v) (h : DataW.Trod enc Tryd.prog w base spare held 60 v d p) : RawIn w v := by
  obtain ⟨⟨l⟩, rfl, hsz⟩ := okWide_struct Tryd.underlying60 hv
  obtain ⟨fuel, hf⟩ := h
  obtain ⟨xs, n, _, _, hl, hxl, hg⟩ := DataW.trod_struct Tryd.underlying60 hf
  rw [show (Value.agg { toList := l }).cells.toList = l from rfl] at hl hg
  have hl65 : l.length = 65 := hl.trans (by kernel_rfl)
  have hx6 : xs.length = 6 := hxl
  have g0 := hg 0 _ rfl
  have g1 := hg 1 _ rfl
  have g2 := hg 2 _ rfl
  have g3 := hg 3 _ rfl
  have g4 := hg 4 _ rfl
  have g5 := hg 5 _ rfl
  rw [List.getElem?_eq_getElem (show 0 < xs.length by omega)] at g0
  rw [List.getElem?_eq_getElem (show 1 < xs.length by omega)] at g1
  rw [List.getElem?_eq_getElem (show 2 < xs.length by omega)] at g2
  rw [List.getElem?_eq_getElem (show 3 < xs.length by omega)] at g3
  rw [List.getElem?_eq_getElem (show 4 < xs.length by omega)] at g4
  rw [List.getElem?_eq_getElem (show 5 < xs.length by omega)] at g5
  have a0 := fun i hi => natAt_is (part_ints (o := 0) Tryd.underlying54 (by kernel_rfl) (by kernel_rfl) Tryd.underlying22 g0 i hi)
  have a1 := fun i hi => boolAt_is (part_bools (o := 19) Tryd.underlying55 (by kernel_rfl) (by kernel_rfl) Tryd.underlying4 g1 i hi)
  have a2 := fun i hi => natAt_is (part_ints (o := 38) Tryd.underlying56 (by kernel_rfl) (by kernel_rfl) Tryd.underlying22 g2 i hi)
  have a3 := fun i hi => intAt_is (part_ints (o := 48) Tryd.underlying57 (by kernel_rfl) (by kernel_rfl) Tryd.underlying3 g3 i hi)
  have a4 := fun i hi => boolAt_is (part_bools (o := 60) Tryd.underlying58 (by kernel_rfl) (by kernel_rfl) Tryd.underlying4 g4 i hi)
  obtain ⟨c, ec, -⟩ := flat_int (t := 5) Tryd.underlying5 (one_reads (o := 64) (by kernel_rfl) (by omega) g5)
  refine ⟨⟨fun i => natAt l (0 + i), fun i => boolAt l (19 + i), fun i => natAt l (38 + i), fun i => intAt l (48 + i), fun i => boolAt l (60 + i), c⟩, ⟨fun i hi => (a0 i hi).2, fun i hi => (a2 i hi).2, fun i hi => (a3 i hi).2⟩, ?_⟩
  congr 1
  refine eq_cellsF (by simpa using hl65) (fun k hk => ?_)
  rw [← Array.getElem?_toList]
  show l[k]? = _
  unfold lawF refF
  by_cases h1 : k < 64
  · rw [if_pos h1]
    by_cases h2 : k < 19
    · rw [if_pos h2]
      exact (show l[k]? = l[0 + k]? by rw [Nat.zero_add]).trans (a0 k h2).1
    · rw [if_neg h2]
      by_cases h3 : k < 38
      · rw [if_pos h3]
        exact (show l[k]? = l[19 + (k - 19)]? by rw [show 19 + (k - 19) = k by omega]).trans (a1 (k - 19) (by omega))
      · rw [if_neg h3]
        by_cases h4 : k < 48
        · rw [if_pos h4]
          exact (show l[k]? = l[38 + (k - 38)]? by rw [show 38 + (k - 38) = k by omega]).trans (a2 (k - 38) (by omega)).1
        · rw [if_neg h4]
          by_cases h5 : k < 60
          · rw [if_pos h5]
            exact (show l[k]? = l[48 + (k - 48)]? by rw [show 48 + (k - 48) = k by omega]).trans (a3 (k - 48) (by omega)).1
          · rw [if_neg h5]
            exact (show l[k]? = l[60 + (k - 60)]? by rw [show 60 + (k - 60) = k by omega]).trans (a4 (k - 60) (by omega))
  · rw [if_neg h1, show k = 64 by omega]
    exact ec
set_option maxRecDepth 100000 in
theorem set_dir {r : Reach} {b0 : Nat} {v : Value} {d : DataW H} {p : List MemPlace} (hv : Value.okWide Tryd.prog w r b0 87 v) (h : DataW.Trod enc Tryd.prog w base spare held 87 v d p) : SetIn w v := by
  obtain ⟨⟨l⟩, rfl, hsz⟩ := okWide_struct Tryd.underlying87 hv
  obtain ⟨fuel, hf⟩ := h
  obtain ⟨xs, n, _, _, hl, hxl, hg⟩ := DataW.trod_struct Tryd.underlying87 hf
  rw [show (Value.agg { toList := l }).cells.toList = l from rfl] at hl hg
  have hl9 : l.length = 9 := hl.trans (by kernel_rfl)
  have hx6 : xs.length = 6 := hxl
  have g0 := hg 0 _ rfl
  have g1 := hg 1 _ rfl
  have g2 := hg 2 _ rfl
  have g3 := hg 3 _ rfl
  have g4 := hg 4 _ rfl
  have g5 := hg 5 _ rfl
  rw [List.getElem?_eq_getElem (show 0 < xs.length by omega)] at g0
  rw [List.getElem?_eq_getElem (show 1 < xs.length by omega)] at g1
  rw [List.getElem?_eq_getElem (show 2 < xs.length by omega)] at g2
  rw [List.getElem?_eq_getElem (show 3 < xs.length by omega)] at g3
  rw [List.getElem?_eq_getElem (show 4 < xs.length by omega)] at g4
  rw [List.getElem?_eq_getElem (show 5 < xs.length by omega)] at g5
  obtain ⟨a0, e0⟩ := intAt_is (flat_int (t := 3) Tryd.underlying3 (one_reads (o := 0) (by kernel_rfl) (by omega) g0))
  obtain ⟨a1, e1⟩ := intAt_is (flat_int (t := 3) Tryd.underlying3 (one_reads (o := 1) (by kernel_rfl) (by omega) g1))
  obtain ⟨a2, e2⟩ := natAt_is (flat_int (t := 22) Tryd.underlying22 (one_reads (o := 2) (by kernel_rfl) (by omega) g2))
  have a3 := boolAt_is (flat_bool (t := 4) Tryd.underlying4 (one_reads (o := 3) (by kernel_rfl) (by omega) g3))
  obtain ⟨a4, e4⟩ := intAt_is (flat_int (t := 3) Tryd.underlying3 (one_reads (o := 4) (by kernel_rfl) (by omega) g4))
  have a5 := fun i hi => boolAt_is (part_bools (o := 5) Tryd.underlying58 (by kernel_rfl) (by kernel_rfl) Tryd.underlying4 g5 i hi)
  refine ⟨_, _, _, boolAt l 3, _, fun i => boolAt l (5 + i), e0, e1, e2, e4, ?_⟩
  congr 1
  refine eq_cellsF (by simpa using hl9) (fun k hk => ?_)
  rw [← Array.getElem?_toList]
  show l[k]? = _
  match k, hk with
  | 0, _ => exact a0
  | 1, _ => exact a1
  | 2, _ => exact a2
  | 3, _ => exact a3
  | 4, _ => exact a4
  | k + 5, hk =>
    have := a5 k (by omega)
    rw [Nat.add_comm] at this
    rw [this]
    unfold seF
    rw [if_neg (by omega), if_neg (by omega), if_neg (by omega), if_neg (by omega), if_neg (by omega), show k + 5 - 5 = k by omega, Nat.add_comm]
set_option maxRecDepth 100000 in
theorem two_dir {r : Reach} {b0 : Nat} {v : Value} {d : DataW H} {p : List MemPlace} (hv : Value.okWide Tryd.prog w r b0 96 v) (h : DataW.Trod enc Tryd.prog w base spare held 96 v d p) : TwoIn w v := by
  have hu := Tryd.underlying96
  simp only [Value.okWide, hu] at hv
  obtain ⟨⟨l⟩, rfl, hsz, _⟩ := hv
  obtain ⟨fuel, hf⟩ := h
  rw [show (Value.agg { toList := l }).cells.toList = l from rfl] at hf
  have hC : Tryd.prog.cellsOf 96 = 2 := by kernel_rfl
  have hl : l.length = 2 := (show l.length = _ from hsz).trans hC
  have e : (l.drop 0).take (Tryd.prog.cellsOf 96) = l := by rw [hC, List.drop_zero, List.take_of_length_le (by omega)]
  rw [← e] at hf
  have a := part_ints (o := 0) Tryd.underlying96 hC (by kernel_rfl) Tryd.underlying95 hf
  obtain ⟨s, es, ws⟩ := a 0 (by omega)
  obtain ⟨t, et, wt⟩ := a 1 (by omega)
  refine ⟨s, t, u16_of_wf ws, u16_of_wf wt, ?_⟩
  match l, hl with
  | [x, y], _ =>
    obtain rfl : x = .int .u16 s := by simpa using es
    obtain rfl : y = .int .u16 t := by simpa using et
    rfl
end
end Go.Proofs.YtmkblfejoniccaaDoor
