/-
  Blocks of cells by their whole contents; worlds in which one old block alone may have turned.
-/
import Derived.Test.YthffphcgkmjhbaaBase
namespace Go.Proofs.Ythffphcgkmjhbaa
open Go.RowKit
set_option linter.unusedSimpArgs false
set_option linter.unusedVariables false

/-- The block holds these cells. -/
def Blk (w : World) (b : Nat) (cs : Array Value) (T : TypeId) : Prop := w.heap[b]? = some (Obj.cells cs T (0, 0))
theorem Blk.cell {w : World} {b : Nat} {cs : Array Value} {T : TypeId} (h : Blk w b cs T) (i : Nat) (v : Value) (hv : cs[i]? = some v) : w.cell? ⟨b, i, none⟩ = some v := by rw [cell_of_row w b i _ _ _ h]; exact hv
theorem Blk.free {w : World} {b : Nat} {cs : Array Value} {T : TypeId} (h : Blk w b cs T) (i : Nat) : w.frozen? ⟨b, i, none⟩ = false := by simp [World.frozen?, show w.heap[b]? = _ from h]
theorem Blk.lt {w : World} {b : Nat} {cs : Array Value} {T : TypeId} (h : Blk w b cs T) : b < w.heap.size := (Array.getElem?_eq_some_iff.1 h).1
theorem Blk.new (w : World) (cs : Array Value) (T : TypeId) (b : Nat) (hb : b = w.heap.size) : Blk (w.alloc (.cells cs T)) b cs T := by subst hb; exact heap_alloc_new w _
theorem Blk.alloc {w : World} {b : Nat} {cs : Array Value} {T : TypeId} (h : Blk w b cs T) (o : Obj) : Blk (w.alloc o) b cs T := (Below.heap_alloc w o _ h.lt).trans h
theorem Blk.drew {w : World} {b : Nat} {cs : Array Value} {T : TypeId} (h : Blk w b cs T) : Blk w.drew b cs T := h
theorem Blk.drewN {w : World} {b : Nat} {cs : Array Value} {T : TypeId} (h : Blk w b cs T) (n : Nat) : Blk (w.drewN n) b cs T := h
theorem Blk.below {w w' : World} {b : Nat} {cs : Array Value} {T : TypeId} (h : Blk w b cs T) (hb : Below w.heap.size w w') : Blk w' b cs T := (hb.block b h.lt).trans h
theorem Blk.set {w : World} {b : Nat} {cs : Array Value} {T : TypeId} (h : Blk w b cs T) (i : Nat) (u : Value) : Blk (w.setCell ⟨b, i, none⟩ u) b (cs.setIfInBounds i u) T := by
  unfold Blk at *
  simp only [World.setCell, Array.getElem?_modify, if_true, h]
  rfl
theorem Blk.other {w : World} {b c : Nat} {cs : Array Value} {T : TypeId} (h : Blk w b cs T) (hc : b ≠ c) (i : Nat) (u : Value) : Blk (w.setCell ⟨c, i, none⟩ u) b cs T := by
  unfold Blk at *
  rw [Below.heap_setCell _ _ _ _ hc]; exact h
/-- Of what stood, block b alone may have turned. -/
structure But (b : Nat) (w w' : World) : Prop where
  os : w'.os = w.os
  tape : w'.tape = w.tape
  output : w'.output = w.output
  size : w.heap.size ≤ w'.heap.size
  block : ∀ k, k < w.heap.size → k ≠ b → w'.heap[k]? = w.heap[k]?
theorem But.of {b : Nat} {w w' : World} (h : Below w.heap.size w w') : But b w w' := ⟨h.os, h.tape, h.output, h.size, fun k hk _ => h.block k hk⟩
theorem But.trans {b : Nat} {u v w : World} (h : But b u v) (k : But b v w) : But b u w :=
  ⟨k.os.trans h.os, k.tape.trans h.tape, k.output.trans h.output, Nat.le_trans h.size k.size, fun i hi hne => (k.block i (Nat.lt_of_lt_of_le hi h.size) hne).trans (h.block i hi hne)⟩
theorem But.set {b : Nat} (w : World) (i : Nat) (u : Value) : But b w (w.setCell ⟨b, i, none⟩ u) :=
  ⟨rfl, rfl, rfl, by simp [World.setCell], fun k hk hne => Below.heap_setCell _ _ _ _ hne⟩
theorem But.to {b B : Nat} {w0 w w' : World} (h : But b w w') (h0 : Below B w0 w) (hb : B ≤ b) (hB : B ≤ w.heap.size) : Below B w0 w' :=
  h0.trans ⟨h.os, h.tape, h.output, h.size, fun k hk => h.block k (by omega) (by omega)⟩
theorem Blk.but {w w' : World} {b c : Nat} {cs : Array Value} {T : TypeId} (h : Blk w b cs T) (hb : But c w w') (hc : b ≠ c) : Blk w' b cs T := (hb.block b h.lt hc).trans h
/-- What is set behind a But is a But, where the block is new. -/
theorem But.setNew {b g : Nat} {w w' : World} (h : But b w w') (hg : w.heap.size ≤ g) (i : Nat) (u : Value) : But b w (w'.setCell ⟨g, i, none⟩ u) :=
  ⟨h.os, h.tape, h.output, by simp [World.setCell]; exact h.size, fun k hk hne => (Below.heap_setCell _ _ _ _ (show k ≠ g by omega)).trans (h.block k hk hne)⟩
/-- A slice of ints that came in. -/
def SliceI (k : IntKind) (w : World) (g off n cap : Nat) (xs : List Int) : Prop :=
  xs.length = cap ∧ n ≤ cap ∧ cap ≤ maxLen ∧ g < w.heap.size ∧ (∀ i, i < cap → w.cell? ⟨g, off + i, none⟩ = some (.int k (xs.getD i 0))) ∧ ∀ x, x ∈ xs → (Lit.int k x).wf = true
def SlV (k : IntKind) (w : World) (v : Value) : Prop := v = .slice none 0 0 ∨ ∃ (g off n cap : Nat) (xs : List Int), v = .slice (some ⟨g, off, none⟩) n cap ∧ SliceI k w g off n cap xs
/-- Blocks by a list; worlds in which of what stood those of a list alone may have turned. -/
def BlkL (w : World) (L : List (Nat × Array Value × TypeId)) : Prop := ∀ e, e ∈ L → Blk w e.1 e.2.1 e.2.2
structure ButL (l : List Nat) (w w' : World) : Prop where
  os : w'.os = w.os
  tape : w'.tape = w.tape
  output : w'.output = w.output
  size : w.heap.size ≤ w'.heap.size
  block : ∀ k, k < w.heap.size → k ∉ l → w'.heap[k]? = w.heap[k]?
theorem ButL.of {l : List Nat} {w w' : World} (h : Below w.heap.size w w') : ButL l w w' := ⟨h.os, h.tape, h.output, h.size, fun k hk _ => h.block k hk⟩
theorem ButL.trans {l : List Nat} {u v w : World} (h : ButL l u v) (k : ButL l v w) : ButL l u w :=
  ⟨k.os.trans h.os, k.tape.trans h.tape, k.output.trans h.output, Nat.le_trans h.size k.size, fun i hi hne => (k.block i (Nat.lt_of_lt_of_le hi h.size) hne).trans (h.block i hi hne)⟩
theorem ButL.set {l : List Nat} {b : Nat} (w : World) (i : Nat) (u : Value) (hb : b ∈ l) : ButL l w (w.setCell ⟨b, i, none⟩ u) :=
  ⟨rfl, rfl, rfl, by simp [World.setCell], fun k hk hne => Below.heap_setCell _ _ _ _ (fun e => hne (by rw [e]; exact hb))⟩
theorem ButL.to {l : List Nat} {B : Nat} {w0 w w' : World} (h : ButL l w w') (h0 : Below B w0 w) (hb : ∀ b, b ∈ l → B ≤ b) (hB : B ≤ w.heap.size) : Below B w0 w' :=
  h0.trans ⟨h.os, h.tape, h.output, h.size, fun k hk => h.block k (by omega) (fun hm => by have := hb k hm; omega)⟩
theorem Blk.butl {w w' : World} {l : List Nat} {b : Nat} {cs : Array Value} {T : TypeId} (h : Blk w b cs T) (hb : ButL l w w') (hc : b ∉ l) : Blk w' b cs T := (hb.block b h.lt hc).trans h
theorem ButL.setNew {l : List Nat} {g : Nat} {w w' : World} (h : ButL l w w') (hg : w.heap.size ≤ g) (i : Nat) (u : Value) : ButL l w (w'.setCell ⟨g, i, none⟩ u) :=
  ⟨h.os, h.tape, h.output, by simp [World.setCell]; exact h.size, fun k hk hne => (Below.heap_setCell _ _ _ _ (show k ≠ g by omega)).trans (h.block k hk hne)⟩
end Go.Proofs.Ythffphcgkmjhbaa
