/-
  The statements of layer 1 that name no reference: WideOrder.
-/
import Derived.Test.YtmkblfejoniccaaDoorYLawA
import Derived.Deep.DeepCutAuto
namespace Go.Proofs.YtmkblfejoniccaaDoor
open Go.RowKit
set_option linter.unusedSimpArgs false
set_option linter.unusedVariables false

/-- A box of two cells. -/
def Bx (w : World) (b : Nat) (T : TypeId) (x y : Value) : Prop := w.heap[b]? = some (Obj.cells #[x, y] T (0, 0))
theorem Bx.cells {w : World} {b : Nat} {T : TypeId} {x y : Value} (h : Bx w b T x y) : w.cell? ⟨b, 0, none⟩ = some x ∧ w.cell? ⟨b, 1, none⟩ = some y ∧ w.frozen? ⟨b, 0, none⟩ = false ∧ w.frozen? ⟨b, 1, none⟩ = false := by
  refine ⟨by rw [cell_of_row w b 0 _ _ _ h]; rfl, by rw [cell_of_row w b 1 _ _ _ h]; rfl, ?_, ?_⟩ <;> simp [World.frozen?, show w.heap[b]? = _ from h]
theorem Bx.lt {w : World} {b : Nat} {T : TypeId} {x y : Value} (h : Bx w b T x y) : b < w.heap.size := (Array.getElem?_eq_some_iff.1 h).1
theorem Bx.alloc {w : World} {b : Nat} {T : TypeId} {x y : Value} (h : Bx w b T x y) (o : Obj) : Bx (w.alloc o) b T x y := (Below.heap_alloc w o _ h.lt).trans h
theorem Bx.new (w : World) (T : TypeId) (x y : Value) (b : Nat) (hb : b = w.heap.size) : Bx (w.alloc (.cells #[x, y] T)) b T x y := by
  subst hb; exact heap_alloc_new w _
theorem Bx.below {w w' : World} {b : Nat} {T : TypeId} {x y : Value} (h : Bx w b T x y) (hb : Below w.heap.size w w') : Bx w' b T x y := (hb.block b h.lt).trans h
theorem Bx.drew {w : World} {b : Nat} {T : TypeId} {x y : Value} (h : Bx w b T x y) : Bx w.drew b T x y := h

/-- What Add and Neg answer: the number, if it fits. -/
def AnsW (n : Int) (w : World) (e : Ending) (w' : World) : Prop := ∃ vh vl ok, e = .returned (.tuple #[.agg #[.int .i64 vh, .int .u64 vl], .bool ok]) ∧ (ok = true → Wd vh vl n) ∧ Below w.heap.size w w'
theorem AnsW.out {n : Int} {w : World} {e : Ending} {w' : World} (h : AnsW n w e w') : ∃ vh vl ok, e = .returned (.tuple #[.agg #[.int .i64 vh, .int .u64 vl], .bool ok]) ∧ (ok = true → Wd vh vl n) ∧ Below w.heap.size w w' := h
theorem WAns.any {n : Int} {w : World} {e : Ending} {w' : World} (h : WAns n w.heap.size w e w') : AnsW n w e w' := by
  by_cases hf : WFit n
  · exact ⟨_, _, true, h.1 hf, fun _ => Wd.of hf, h.2.2⟩
  · exact ⟨_, _, false, h.2.1 hf, fun e => by simp at e, h.2.2⟩
theorem wide_add_any (a b h1 l1 h2 l2 : Int) (ha : Wd h1 l1 a) (hb : Wd h2 l2 b) (w : World) :
    Calls Tryd.prog 99 #[.agg #[.int .i64 h1, .int .u64 l1], .agg #[.int .i64 h2, .int .u64 l2]] w (AnsW (a + b) w) := (wide_add a b h1 l1 h2 l2 ha hb w).mono fun _ _ h => h.any
theorem Wd.eq1 {h1 l1 h2 l2 x y : Int} (hx : Wd h1 l1 x) (hy : Wd h2 l2 y) (h : h1 = h2) (l : l1 = l2) : x = y := by unfold Wd at *; subst h; subst l; omega
theorem Wd.eq2 {h1 l1 h2 l2 x y : Int} (hx : Wd h1 l1 x) (hy : Wd h2 l2 y) (h : x = y) : h1 = h2 ∧ l1 = l2 := by unfold Wd at *; omega
theorem cmp3_flip (a b : Int) : cmp3 b a = -cmp3 a b := by
  unfold cmp3
  by_cases h : a < b
  · rw [if_pos h, if_neg (by omega), if_pos h]; rfl
  · by_cases h2 : b < a
    · rw [if_pos h2, if_neg h, if_pos h2]
    · rw [if_neg h2, if_neg h, if_neg h, if_neg h2]; rfl
theorem cmp3_shift (a b c : Int) : cmp3 (a + c) (b + c) = cmp3 a b := by
  unfold cmp3
  by_cases h : a < b
  · rw [if_pos h, if_pos (by omega)]
  · by_cases h2 : b < a
    · rw [if_neg h, if_pos h2, if_neg (by omega), if_pos (by omega)]
    · rw [if_neg h, if_neg h2, if_neg (by omega), if_neg (by omega)]
theorem cmp3_negs (a b : Int) : cmp3 (-a) (-b) = -cmp3 a b := by
  rw [← cmp3_flip]
  unfold cmp3
  by_cases h : a < b
  · rw [if_neg (by omega), if_pos (by omega), if_neg (by omega), if_pos h]
  · by_cases h2 : b < a
    · rw [if_pos (by omega), if_pos h2]
    · rw [if_neg (by omega), if_neg (by omega), if_neg h2, if_neg h]
theorem cmp3_cases (a b : Int) : (cmp3 a b = -1 ∧ a < b) ∨ (cmp3 a b = 0 ∧ a = b) ∨ (cmp3 a b = 1 ∧ b < a) := by
  unfold cmp3
  by_cases h : a < b
  · rw [if_pos h]; exact .inl ⟨rfl, h⟩
  · by_cases h2 : b < a
    · rw [if_neg h, if_pos h2]; exact .inr (.inr ⟨rfl, h2⟩)
    · rw [if_neg h, if_neg h2]; exact .inr (.inl ⟨rfl, by omega⟩)
def Boxes3 (w wc : World) (b7 b8 b9 : Nat) (h1 l1 h2 l2 h3 l3 : Int) : Prop :=
  Bx wc b7 156 (.int .i64 h1) (.int .u64 l1) ∧ Bx wc b8 156 (.int .i64 h2) (.int .u64 l2) ∧ Bx wc b9 156 (.int .i64 h3) (.int .u64 l3) ∧ Below w.heap.size w wc
theorem Boxes3.step {w wc wd : World} {b7 b8 b9 : Nat} {h1 l1 h2 l2 h3 l3 : Int} (h : Boxes3 w wc b7 b8 b9 h1 l1 h2 l2 h3 l3) (hb : Below wc.heap.size wc wd) : Boxes3 w wd b7 b8 b9 h1 l1 h2 l2 h3 l3 :=
  ⟨h.1.below hb, h.2.1.below hb, h.2.2.1.below hb, h.2.2.2.trans (hb.mono h.2.2.2.size)⟩
theorem Boxes3.alloc {w wc : World} {b7 b8 b9 : Nat} {h1 l1 h2 l2 h3 l3 : Int} (h : Boxes3 w wc b7 b8 b9 h1 l1 h2 l2 h3 l3) (o : Obj) : Boxes3 w (wc.alloc o) b7 b8 b9 h1 l1 h2 l2 h3 l3 :=
  ⟨h.1.alloc o, h.2.1.alloc o, h.2.2.1.alloc o, h.2.2.2.alloc h.2.2.2.size o⟩
theorem Boxes3.c1 {w wc : World} {b7 b8 b9 : Nat} {h1 l1 h2 l2 h3 l3 : Int} (h : Boxes3 w wc b7 b8 b9 h1 l1 h2 l2 h3 l3) : Bx wc b7 156 (.int .i64 h1) (.int .u64 l1) := h.1
theorem Boxes3.c2 {w wc : World} {b7 b8 b9 : Nat} {h1 l1 h2 l2 h3 l3 : Int} (h : Boxes3 w wc b7 b8 b9 h1 l1 h2 l2 h3 l3) : Bx wc b8 156 (.int .i64 h2) (.int .u64 l2) := h.2.1
theorem Boxes3.c3 {w wc : World} {b7 b8 b9 : Nat} {h1 l1 h2 l2 h3 l3 : Int} (h : Boxes3 w wc b7 b8 b9 h1 l1 h2 l2 h3 l3) : Bx wc b9 156 (.int .i64 h3) (.int .u64 l3) := h.2.2.1
def Cut3 (w : World) (h1 l1 h2 l2 h3 l3 : Int) (s7 s8 s9 : Value) (wc : World) : Prop :=
  ∃ b7 b8 b9, s7 = .pointer (some ⟨b7, 0, none⟩) ∧ s8 = .pointer (some ⟨b8, 0, none⟩) ∧ s9 = .pointer (some ⟨b9, 0, none⟩) ∧ Boxes3 w wc b7 b8 b9 h1 l1 h2 l2 h3 l3

end Go.Proofs.YtmkblfejoniccaaDoor
