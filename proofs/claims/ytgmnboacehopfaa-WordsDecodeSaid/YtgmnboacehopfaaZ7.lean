/-
  Slices of ints: what one holds; one of the call's own, that grows.
-/
/-
  Slices of flat things of some cells each: what one holds; one of the call's own, that grows.
-/
import Derived.Test.YtgmnboacehopfaaZ1
import Derived.OwnWalk
namespace Go.Proofs.Ytgmnboacehopfaa
open Go.RowKit
set_option linter.unusedSimpArgs false
set_option linter.unusedVariables false

/-- The slice of k elements at ao holds these numbers. -/
def RowI (w : World) (ao : Option Addr) (k : Nat) (xs : List Int) : Prop :=
  xs.length = k ∧ (0 < k → ∃ g off, ao = some ⟨g, off, none⟩ ∧ g < w.heap.size ∧ ∀ i, i < k → w.cell? ⟨g, off + i, none⟩ = some (.int .i64 (xs.getD i 0)))
theorem RowI.nil (w : World) (ao : Option Addr) : RowI w ao 0 [] := ⟨rfl, fun h => absurd h (by omega)⟩
theorem RowI.below {w w' : World} {ao : Option Addr} {k : Nat} {xs : List Int} (h : RowI w ao k xs) (hb : Below w.heap.size w w') : RowI w' ao k xs := by
  refine ⟨h.1, fun hk => ?_⟩
  obtain ⟨g, off, e, hg, hc⟩ := h.2 hk
  exact ⟨g, off, e, Nat.lt_of_lt_of_le hg hb.size, fun i hi => (hb.cell (p := ⟨g, off + i, none⟩) hg).trans (hc i hi)⟩
theorem RowI.at {w : World} {ao : Option Addr} {k : Nat} {xs : List Int} (h : RowI w ao k xs) {i : Nat} (hi : i < k) : ∃ g off, ao = some ⟨g, off, none⟩ ∧ g < w.heap.size ∧ w.cell? ⟨g, off + i, none⟩ = some (.int .i64 (xs.getD i 0)) := by
  obtain ⟨g, off, e, hg, hc⟩ := h.2 (by omega)
  exact ⟨g, off, e, hg, hc i hi⟩
def Fits (xs : List Int) : Prop := ∀ i, -9223372036854775808 ≤ xs.getD i 0 ∧ xs.getD i 0 ≤ 9223372036854775807
def i64s (xs : List Int) : List Value := xs.map fun x => .int .i64 x
/-- The numbers of a slice of the call's own. -/
def OwnI (w : World) (B : Nat) (ao : Option Addr) (k cap : Nat) (xs : List Int) : Prop := w.ownsRow B 2 1 (.slice ao k cap) k (i64s xs) ∧ xs.length = k
theorem OwnI.row {w : World} {B : Nat} {ao : Option Addr} {k cap : Nat} {xs : List Int} (h : OwnI w B ao k cap xs) : RowI w ao k xs := by
  obtain ⟨h1, h2⟩ := h
  refine ⟨h2, fun hk => ?_⟩
  rcases h1.2 with ⟨e, e2⟩ | ⟨g, c, cur, e, _, hg, hl, hm, hs, ht⟩
  · omega
  · obtain ⟨rfl, -, rfl⟩ : ao = some ⟨g, 0, none⟩ ∧ True ∧ cap = c := by simpa using e
    refine ⟨g, 0, rfl, (Array.getElem?_eq_some_iff.1 hg).1, fun i hi => ?_⟩
    rw [cell_of_row w g _ _ _ _ hg, Nat.zero_add, ← Array.getElem?_toList]
    have : (cur.toList.take (k * 1))[i]? = some (.int .i64 (xs.getD i 0)) := by
      rw [ht]
      unfold i64s
      rw [List.getElem?_map]
      have hx : i < xs.length := by omega
      simp [List.getD, hx]
    rwa [List.getElem?_take_of_lt (by omega)] at this
theorem OwnI.shape {w : World} {B : Nat} {ao : Option Addr} {k cap : Nat} {xs : List Int} (h : OwnI w B ao k cap xs) : k ≤ cap ∧ cap ≤ maxLen := by
  rcases h.1.2 with ⟨e, e2⟩ | ⟨g, c, cur, e, _, hg, hl, hm, hs, ht⟩
  · simp at e; omega
  · simp at e; omega
theorem OwnI.nil (w : World) (B : Nat) : OwnI w B none 0 0 [] := ⟨World.ownsRow_nil _ _ _ _, rfl⟩
theorem OwnI.below {w w' : World} {B : Nat} {ao : Option Addr} {k cap : Nat} {xs : List Int} (h : OwnI w B ao k cap xs) (hb : Below w.heap.size w w') : OwnI w' B ao k cap xs := by
  refine ⟨⟨h.1.1, ?_⟩, h.2⟩
  rcases h.1.2 with h | ⟨g, c, cur, hv, hg, hh, r⟩
  · exact .inl h
  · exact .inr ⟨g, c, cur, hv, hg, (hb.block g (Array.getElem?_eq_some_iff.1 hh).1).trans hh, r⟩
theorem OwnI.alloc {w : World} {B : Nat} {ao : Option Addr} {k cap : Nat} {xs : List Int} (h : OwnI w B ao k cap xs) (o : Obj) : OwnI (w.alloc o) B ao k cap xs := ⟨h.1.alloc _, h.2⟩
theorem OwnI.drew {w : World} {B : Nat} {ao : Option Addr} {k cap : Nat} {xs : List Int} (h : OwnI w B ao k cap xs) : OwnI w.drew B ao k cap xs := ⟨h.1.drew, h.2⟩
theorem OwnI.ge {w : World} {B : Nat} {ao : Option Addr} {k cap : Nat} {xs : List Int} (h : OwnI w B ao k cap xs) {g : Nat} (hg : (Value.slice ao k cap).ownBlock = some g) : B ≤ g ∧ g < w.heap.size := h.1.lt g hg
/-- A store into a block that isn't the row's. -/
theorem OwnI.set {w : World} {B : Nat} {ao : Option Addr} {k cap : Nat} {xs : List Int} (h : OwnI w B ao k cap xs) (a : Addr) (u : Value) (ha : (Value.slice ao k cap).ownBlock ≠ some a.block) : OwnI (w.setCell a u) B ao k cap xs := by
  refine ⟨⟨h.1.1, ?_⟩, h.2⟩
  rcases h.1.2 with h | ⟨g, c, cur, hv, hg, hh, r⟩
  · exact .inl h
  · refine .inr ⟨g, c, cur, hv, hg, ?_, r⟩
    rw [Below.heap_setCell _ _ _ _ (fun e => ha (by rw [hv]; simp [Value.ownBlock, e]))]; exact hh
/-- A block of another type isn't the row's. -/
theorem OwnI.ne {w : World} {B : Nat} {ao : Option Addr} {k cap : Nat} {xs : List Int} (h : OwnI w B ao k cap xs) {b : Nat} {cs : Array Value} {T : TypeId} (hb : Blk w b cs T) (hT : T ≠ 2) : (Value.slice ao k cap).ownBlock ≠ some b := by
  intro e
  rcases h.1.2 with ⟨hv, _⟩ | ⟨g, c, cur, hv, _, hh, _⟩
  · rw [hv] at e; simp [Value.ownBlock] at e
  · rw [hv] at e
    simp [Value.ownBlock] at e
    subst e
    unfold Blk at hb
    rw [hh] at hb
    simp at hb
    exact hT hb.2.symm
/-- Behind an append of one number. -/
theorem OwnI.grown {w w1 : World} {B : Nat} {ao : Option Addr} {k cap : Nat} {xs : List Int} {x : Int} {v' : Value} {o : Obj} (h : OwnI w B ao k cap xs)
    (ho : w1.ownsRow B 2 1 v' (k + 1) (i64s xs ++ [.int .i64 x])) (hg : (w.alloc o).grownBy w1 (Value.slice ao k cap).ownBlock) (hB : B ≤ w.heap.size) :
    ∃ ao' cap', v' = .slice ao' (k + 1) cap' ∧ OwnI w1 B ao' (k + 1) cap' (xs ++ [x]) ∧ (∀ b cs T, Blk w b cs T → (Value.slice ao k cap).ownBlock ≠ some b → Blk w1 b cs T) ∧ (∀ C a, C ≤ B → Below C a w → Below C a w1) := by
  have hs : ∃ ao' cap', v' = .slice ao' (k + 1) cap' := by
    rcases ho.2 with ⟨_, e⟩ | ⟨g, c, cur, e, _⟩
    · omega
    · exact ⟨_, _, e⟩
  obtain ⟨ao', cap', rfl⟩ := hs
  refine ⟨ao', cap', rfl, ⟨by simpa [i64s] using ho, by simp [h.2]⟩, fun b cs T h2 hne => ?_, fun C a hC hb => ?_⟩
  · exact (hg.block b (h2.alloc o).lt (fun e => hne e.symm)).trans (h2.alloc o)
  · refine (hb.alloc (Nat.le_trans hC hB) o).grown hg (by simp; omega) ?_
    intro j hj
    have := (h.1.lt j hj).1
    omega
/-- What came in stays, behind whatever leaves old memory as it was. -/
theorem RowI.kept {w0 w : World} {ao : Option Addr} {k : Nat} {xs : List Int} (h : RowI w0 ao k xs) (hb : Below w0.heap.size w0 w) : RowI w ao k xs := h.below hb
end Go.Proofs.Ytgmnboacehopfaa
namespace Go.Proofs.Ytgmnboacehopfaa
open Go.RowKit
set_option linter.unusedSimpArgs false
set_option linter.unusedVariables false

/-- The slice of k elements of s cells at ao holds these cells. -/
def RowV (w : World) (ao : Option Addr) (k s : Nat) (vs : List Value) : Prop :=
  vs.length = k * s ∧ (0 < k → ∃ g off, ao = some ⟨g, off, none⟩ ∧ g < w.heap.size ∧ ∀ i, i < k * s → w.cell? ⟨g, off + i, none⟩ = vs[i]?)
theorem RowV.nil (w : World) (ao : Option Addr) (s : Nat) : RowV w ao 0 s [] := ⟨by simp, fun h => absurd h (by omega)⟩
theorem RowV.below {w w' : World} {ao : Option Addr} {k s : Nat} {vs : List Value} (h : RowV w ao k s vs) (hb : Below w.heap.size w w') : RowV w' ao k s vs := by
  refine ⟨h.1, fun hk => ?_⟩
  obtain ⟨g, off, e, hg, hc⟩ := h.2 hk
  exact ⟨g, off, e, Nat.lt_of_lt_of_le hg hb.size, fun i hi => (hb.cell (p := ⟨g, off + i, none⟩) hg).trans (hc i hi)⟩
theorem RowV.at {w : World} {ao : Option Addr} {k s : Nat} {vs : List Value} (h : RowV w ao k s vs) {i : Nat} (hi : i < k) :
    ∃ g off, ao = some ⟨g, off, none⟩ ∧ g < w.heap.size ∧ ∀ j, j < s → w.cell? ⟨g, off + i * s + j, none⟩ = vs[i * s + j]? := by
  obtain ⟨g, off, e, hg, hc⟩ := h.2 (by omega)
  refine ⟨g, off, e, hg, fun j hj => ?_⟩
  rw [Nat.add_assoc]
  refine hc _ ?_
  have : i * s + s ≤ k * s := by rw [← Nat.succ_mul]; exact Nat.mul_le_mul_right _ hi
  omega
theorem RowV.take {w : World} {ao : Option Addr} {k s : Nat} {vs : List Value} (h : RowV w ao k s vs) {m : Nat} (hm : m ≤ k) : RowV w ao m s (vs.take (m * s)) := by
  have hms : m * s ≤ k * s := Nat.mul_le_mul_right _ hm
  refine ⟨by rw [List.length_take, h.1]; omega, fun hk => ?_⟩
  obtain ⟨g, off, e, hg, hc⟩ := h.2 (by omega)
  refine ⟨g, off, e, hg, fun i hi => ?_⟩
  rw [List.getElem?_take_of_lt hi]
  exact hc i (by omega)
def OwnW (w : World) (B : Nat) (T : TypeId) (s : Nat) (ao : Option Addr) (k cap : Nat) (vs : List Value) : Prop := w.ownsRow B T s (.slice ao k cap) k vs
theorem OwnW.row {w : World} {B : Nat} {T : TypeId} {s : Nat} {ao : Option Addr} {k cap : Nat} {vs : List Value} (h : OwnW w B T s ao k cap vs) : RowV w ao k s vs := by
  refine ⟨h.1, fun hk => ?_⟩
  rcases h.2 with ⟨e, e2⟩ | ⟨g, c, cur, e, _, hg, hl, hm, hs, ht⟩
  · omega
  · obtain ⟨rfl, -, rfl⟩ : ao = some ⟨g, 0, none⟩ ∧ True ∧ cap = c := by simpa using e
    refine ⟨g, 0, rfl, (Array.getElem?_eq_some_iff.1 hg).1, fun i hi => ?_⟩
    rw [cell_of_row w g _ _ _ _ hg, Nat.zero_add, ← Array.getElem?_toList, ← ht, List.getElem?_take_of_lt hi]
theorem OwnW.shape {w : World} {B : Nat} {T : TypeId} {s : Nat} {ao : Option Addr} {k cap : Nat} {vs : List Value} (h : OwnW w B T s ao k cap vs) : k ≤ cap ∧ cap ≤ maxLen := by
  rcases h.2 with ⟨e, e2⟩ | ⟨g, c, cur, e, _, hg, hl, hm, hs, ht⟩
  · simp at e; omega
  · simp at e; omega
theorem OwnW.nil (w : World) (B : Nat) (T : TypeId) (s : Nat) : OwnW w B T s none 0 0 [] := World.ownsRow_nil _ _ _ _
theorem OwnW.below {w w' : World} {B : Nat} {T : TypeId} {s : Nat} {ao : Option Addr} {k cap : Nat} {vs : List Value} (h : OwnW w B T s ao k cap vs) (hb : Below w.heap.size w w') : OwnW w' B T s ao k cap vs := by
  refine ⟨h.1, ?_⟩
  rcases h.2 with h | ⟨g, c, cur, hv, hg, hh, r⟩
  · exact .inl h
  · exact .inr ⟨g, c, cur, hv, hg, (hb.block g (Array.getElem?_eq_some_iff.1 hh).1).trans hh, r⟩
theorem OwnW.alloc {w : World} {B : Nat} {T : TypeId} {s : Nat} {ao : Option Addr} {k cap : Nat} {vs : List Value} (h : OwnW w B T s ao k cap vs) (o : Obj) : OwnW (w.alloc o) B T s ao k cap vs := World.ownsRow.alloc h _
theorem OwnW.drew {w : World} {B : Nat} {T : TypeId} {s : Nat} {ao : Option Addr} {k cap : Nat} {vs : List Value} (h : OwnW w B T s ao k cap vs) : OwnW w.drew B T s ao k cap vs := World.ownsRow.drew h
theorem OwnW.ge {w : World} {B : Nat} {T : TypeId} {s : Nat} {ao : Option Addr} {k cap : Nat} {vs : List Value} (h : OwnW w B T s ao k cap vs) {g : Nat} (hg : (Value.slice ao k cap).ownBlock = some g) : B ≤ g ∧ g < w.heap.size := World.ownsRow.lt h g hg
theorem OwnW.from {w : World} {B : Nat} {T : TypeId} {s : Nat} {ao : Option Addr} {k cap : Nat} {vs : List Value} (h : OwnW w B T s ao k cap vs) : ∀ g off, ao = some ⟨g, off, none⟩ → B ≤ g := fun g off e => by
  subst e
  exact (h.ge (g := g) (by simp [Value.ownBlock])).1
/-- A block of another type isn't the row's. -/
theorem OwnW.ne {w : World} {B : Nat} {T : TypeId} {s : Nat} {ao : Option Addr} {k cap : Nat} {vs : List Value} (h : OwnW w B T s ao k cap vs) {b : Nat} {cs : Array Value} {T2 : TypeId} (hb : Blk w b cs T2) (hT : T2 ≠ T) : (Value.slice ao k cap).ownBlock ≠ some b := by
  intro e
  rcases h.2 with ⟨hv, _⟩ | ⟨g, c, cur, hv, _, hh, _⟩
  · rw [hv] at e; simp [Value.ownBlock] at e
  · rw [hv] at e
    simp [Value.ownBlock] at e
    subst e
    unfold Blk at hb
    rw [hh] at hb
    simp at hb
    exact hT hb.2.symm
/-- Behind an append of one thing. -/
theorem OwnW.grown {w w1 : World} {B : Nat} {T : TypeId} {s : Nat} {ao : Option Addr} {k cap : Nat} {vs us : List Value} {v' : Value} {o : Obj} (h : OwnW w B T s ao k cap vs)
    (ho : w1.ownsRow B T s v' (k + 1) (vs ++ us)) (hg : (w.alloc o).grownBy w1 (Value.slice ao k cap).ownBlock) (hB : B ≤ w.heap.size) :
    ∃ ao' cap', v' = .slice ao' (k + 1) cap' ∧ OwnW w1 B T s ao' (k + 1) cap' (vs ++ us) ∧ (∀ b cs T2, Blk w b cs T2 → (Value.slice ao k cap).ownBlock ≠ some b → Blk w1 b cs T2) ∧ (∀ C a, C ≤ B → Below C a w → Below C a w1) := by
  have hs : ∃ ao' cap', v' = .slice ao' (k + 1) cap' := by
    rcases ho.2 with ⟨_, e⟩ | ⟨g, c, cur, e, _⟩
    · omega
    · exact ⟨_, _, e⟩
  obtain ⟨ao', cap', rfl⟩ := hs
  refine ⟨ao', cap', rfl, ho, fun b cs T2 h2 hne => ?_, fun C a hC hb => ?_⟩
  · exact (hg.block b (h2.alloc o).lt (fun e => hne e.symm)).trans (h2.alloc o)
  · refine (hb.alloc (Nat.le_trans hC hB) o).grown hg (by simp; omega) ?_
    intro j hj
    have := (h.ge hj).1
    omega
end Go.Proofs.Ytgmnboacehopfaa
