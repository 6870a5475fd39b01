/-
  The statement StyleSets: what its world bears.
-/
import Derived.Test.YtmkblfejoniccaaDoorYSyU
import Derived.Test.YtmkblfejoniccaaDoorYSyT
namespace Go.Proofs.YtmkblfejoniccaaDoor
open Go Go.RowKit
set_option linter.unusedSimpArgs false
set_option linter.unusedVariables false

/-- Each claim but those behind lasts from one world to another. -/
def KeepB (os : Array Oper) (n i : Nat) (vs : Nat → Value) (w w' : World) : List Cl → Nat → Prop
  | [], _ => True
  | c :: cs, k => (k = i ∨ anc os n k i = true ∨ (c.holds k vs w → c.holds k vs w')) ∧ KeepB os n i vs w w' cs (k + 1)
theorem keep_b {os : Array Oper} {n i : Nat} {vs : Nat → Value} {w w' : World} : ∀ {cls : List Cl} {k : Nat}, KeepB os n i vs w w' cls k → ∀ j, k + j ≠ i → anc os n (k + j) i = false → (cls.getD j .any).holds (k + j) vs w → (cls.getD j .any).holds (k + j) vs w'
  | [], _, _, j, _, _, h => by simp [Cl.holds]
  | c :: cs, k, hk, j, hj, ha, h => by
    cases j with
    | zero =>
      rcases hk.1 with h1 | h1 | h1
      · exact absurd h1 hj
      · rw [Nat.add_zero] at ha; rw [h1] at ha; cases ha
      · exact h1 h
    | succ j =>
      have := keep_b (cls := cs) (k := k + 1) hk.2 j (by omega) (by rw [show k + 1 + j = k + (j + 1) by omega]; exact ha)
      rw [show k + 1 + j = k + (j + 1) by omega] at this
      exact this h
theorem claims_keep_b {os : Array Oper} {n i : Nat} {vs : Nat → Value} {w w' : World} {cls : List Cl} (h : KeepB os n i vs w w' cls 0) : ∀ j, j ≠ i → anc os n j i = false → claim cls j vs w → claim cls j vs w' := fun j hj ha hc => by
  have := keep_b h j (by omega)
  rw [Nat.zero_add] at this
  exact this ha hc
/-- Cells, of which one is set and another one may be anything. -/
def holeF (F : Nat → Value) (i : Nat) (v : Value) (j : Nat) (u : Value) (k : Nat) : Value := if k = j then u else if k = i then v else F k
theorem hole_set {n : Nat} (F : Nat → Value) {i j : Nat} (v : Value) (hij : i ≠ j) : (cellsF n F).setIfInBounds i v = cellsF n (holeF F i v j (F j)) := by
  rw [cellsF_set]
  refine cellsF_ext (fun k hk => ?_)
  unfold holeF
  by_cases h : k = j
  · rw [if_pos h, if_neg (fun e => hij (e.symm.trans h)), h]
  · rw [if_neg h]
theorem hole_again {n : Nat} (F : Nat → Value) (i j : Nat) (v u u' : Value) : (cellsF n (holeF F i v j u)).setIfInBounds j u' = cellsF n (holeF F i v j u') := by
  rw [cellsF_set]
  refine cellsF_ext (fun k hk => ?_)
  unfold holeF
  by_cases h : k = j
  · rw [if_pos h, if_pos h]
  · rw [if_neg h, if_neg h, if_neg h]
theorem hole_fill {n : Nat} (F : Nat → Value) (i j : Nat) (v u u' : Value) : (cellsF n (holeF F i v j u)).setIfInBounds j u' = ((cellsF n F).setIfInBounds i v).setIfInBounds j u' := by
  rw [hole_again, cellsF_set, cellsF_set]
  refine cellsF_ext (fun k hk => ?_)
  unfold holeF
  rfl
/-- A part of a block is stored; of the world behind it no more is told than that. -/
theorem wpl_storeP {P : Program} {ops : Array Oper} {rest : List Oper} {op : Oper} {a : Act} {w : World} {Q : Exit → Act → World → Prop} (hg : op.guard = none) (ty : TypeId) (x y : Operand) (ho : op.op = .store ty x y)
    {b n : Nat} {f : Nat → Value} {T : TypeId} (t : Blk w b (cellsF n f) T) (o m : Nat) (h : o + m ≤ n) (g f' : Nat → Value) (h1 : ∀ i, i < m → (g i).oneCell' = true) (he : cellsF n (fun k => if o ≤ k ∧ k < o + m then g (k - o) else f k) = cellsF n f') (hi : (P.info? ty).map (·.size) = some m)
    (hx : a.eval x = .pointer (some ⟨b, o, none⟩)) (hy : a.eval y = .agg (cellsF m g)) (hk : ∀ W, Blk W b (cellsF n f') T → But b w W → wpList P ops Q rest (a.put op.dst undef) W) : wpList P ops Q (op :: rest) a w :=
  wpl_storeF hg ty x y ho t o m h g h1 hi hx hy (hk _ (by rw [← he]; exact t.setCellsF m g o) (But.setCells _ _ _))
/-- What the law's world bears: what came in, the raw style, the default's style. -/
structure StW (w : World) (x r d : Nat) (X R D : Nat → Value) (W : World) : Prop where
  inn : Blk W x (cellsF 9 X) 87
  raw : Blk W r (cellsF 65 R) 74
  dfl : Blk W d (cellsF 62 D) 66
  bel : Below w.heap.size w W
  rlo : w.heap.size ≤ r
  xr : x ≠ r
  rd : r ≠ d
theorem StW.below {w : World} {x r d : Nat} {X R D : Nat → Value} {W W' : World} (h : StW w x r d X R D W) (hb : Below W.heap.size W W') : StW w x r d X R D W' :=
  ⟨h.inn.below hb, h.raw.below hb, h.dfl.below hb, h.bel.trans (hb.mono h.bel.size), h.rlo, h.xr, h.rd⟩
theorem StW.drew {w : World} {x r d : Nat} {X R D : Nat → Value} {W : World} (h : StW w x r d X R D W) : StW w x r d X R D W.drew := ⟨h.inn.drew, h.raw.drew, h.dfl.drew, h.bel.drew, h.rlo, h.xr, h.rd⟩
theorem StW.alloc {w : World} {x r d : Nat} {X R D : Nat → Value} {W : World} (h : StW w x r d X R D W) (o : Obj) : StW w x r d X R D (W.alloc o) := h.below ((Below.refl _ _).alloc (Nat.le_refl _) _)
theorem StW.butr {w : World} {x r d : Nat} {X R R' D : Nat → Value} {W W' : World} (h : StW w x r d X R D W) (hb : But r W W') (t : Blk W' r (cellsF 65 R') 74) : StW w x r d X R' D W' :=
  ⟨h.inn.but hb h.xr, t, h.dfl.but hb h.rd.symm, hb.to h.bel h.rlo h.bel.size, h.rlo, h.xr, h.rd⟩
theorem StW.but {w : World} {x r d b : Nat} {X R D : Nat → Value} {W W' : World} (h : StW w x r d X R D W) (hb : But b W W') (h1 : x ≠ b) (h2 : r ≠ b) (h3 : d ≠ b) (hl : w.heap.size ≤ b) : StW w x r d X R D W' :=
  ⟨h.inn.but hb h1, h.raw.but hb h2, h.dfl.but hb h3, hb.to h.bel hl h.bel.size, h.rlo, h.xr, h.rd⟩
/-- And what is read back. -/
structure StP (w : World) (x r d p : Nat) (X R D P : Nat → Value) (W : World) : Prop where
  st : StW w x r d X R D W
  box : Blk W p (cellsF 65 P) 60
  plo : w.heap.size ≤ p
  xp : x ≠ p
  rp : r ≠ p
  dp : d ≠ p
theorem StP.below {w : World} {x r d p : Nat} {X R D P : Nat → Value} {W W' : World} (h : StP w x r d p X R D P W) (hb : Below W.heap.size W W') : StP w x r d p X R D P W' := ⟨h.st.below hb, h.box.below hb, h.plo, h.xp, h.rp, h.dp⟩
theorem StP.drew {w : World} {x r d p : Nat} {X R D P : Nat → Value} {W : World} (h : StP w x r d p X R D P W) : StP w x r d p X R D P W.drew := ⟨h.st.drew, h.box.drew, h.plo, h.xp, h.rp, h.dp⟩
theorem StP.butp {w : World} {x r d p : Nat} {X R D P P' : Nat → Value} {W W' : World} (h : StP w x r d p X R D P W) (hb : But p W W') (t : Blk W' p (cellsF 65 P') 60) : StP w x r d p X R D P' W' :=
  ⟨h.st.but hb h.xp h.rp h.dp h.plo, t, h.plo, h.xp, h.rp, h.dp⟩
/-- At the end: the default's style and the other one. -/
structure FiW (w : World) (d s : Nat) (D S : Nat → Value) (W : World) : Prop where
  dfl : Blk W d (cellsF 62 D) 66
  sty : Blk W s (cellsF 62 S) 66
  bel : Below w.heap.size w W
  slo : w.heap.size ≤ s
  ds : d ≠ s
theorem FiW.below {w : World} {d s : Nat} {D S : Nat → Value} {W W' : World} (h : FiW w d s D S W) (hb : Below W.heap.size W W') : FiW w d s D S W' := ⟨h.dfl.below hb, h.sty.below hb, h.bel.trans (hb.mono h.bel.size), h.slo, h.ds⟩
theorem FiW.drew {w : World} {d s : Nat} {D S : Nat → Value} {W : World} (h : FiW w d s D S W) : FiW w d s D S W.drew := ⟨h.dfl.drew, h.sty.drew, h.bel.drew, h.slo, h.ds⟩
theorem FiW.but {w : World} {d s : Nat} {D S S' : Nat → Value} {W W' : World} (h : FiW w d s D S W) (hb : But s W W') (t : Blk W' s (cellsF 62 S') 66) : FiW w d s D S' W' :=
  ⟨h.dfl.but hb h.ds, t, hb.to h.bel h.slo h.bel.size, h.slo, h.ds⟩
end Go.Proofs.YtmkblfejoniccaaDoor
