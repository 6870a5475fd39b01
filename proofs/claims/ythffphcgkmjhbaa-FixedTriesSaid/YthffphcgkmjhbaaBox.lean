/-
  Boxes of any type that a drawn region makes and fills: claims on them.
-/
import Derived.Test.YthffphcgkmjhbaaEach
import Derived.Test.YthffphcgkmjhbaaBlk
import Derived.Test.YthffphcgkmjhbaaRefG
namespace Go.Proofs.Ythffphcgkmjhbaa
open Go.RowKit
set_option linter.unusedSimpArgs false
set_option linter.unusedVariables false

theorem Blk.same {w : World} {b : Nat} {cs cs' : Array Value} {T T' : TypeId} (h : Blk w b cs T) (h' : Blk w b cs' T') : cs = cs' ∧ T = T' := by
  unfold Blk at h h'
  rw [h] at h'
  simpa using h'
theorem Blk.cellx {w : World} {b : Nat} {cs : Array Value} {T : TypeId} (h : Blk w b cs T) (i : Nat) (hi : i < cs.size) : ∃ y, w.cell? ⟨b, i, none⟩ = some y := ⟨cs[i], h.cell i _ (by simp [hi])⟩
theorem Blk.set1 {w : World} {b : Nat} {cs : Array Value} {T : TypeId} (h : Blk w b cs T) (hs : cs.size = 1) (u : Value) : Blk (w.setCell ⟨b, 0, none⟩ u) b #[u] T := by
  have h1 := h.set 0 u
  have e : cs.setIfInBounds 0 u = #[u] := by
    obtain ⟨l⟩ := cs
    match l, hs with
    | [_], _ => rfl
  rwa [e] at h1
theorem Blk.set2 {w : World} {b : Nat} {cs : Array Value} {T : TypeId} (h : Blk w b cs T) (hs : cs.size = 2) (u v : Value) : Blk ((w.setCell ⟨b, 0, none⟩ u).setCell ⟨b, 1, none⟩ v) b #[u, v] T := by
  have h1 := (h.set 0 u).set 1 v
  have e : (cs.setIfInBounds 0 u).setIfInBounds 1 v = #[u, v] := by
    obtain ⟨l⟩ := cs
    match l, hs with
    | [_, _], _ => rfl
  rwa [e] at h1
theorem Blk.set3 {w : World} {b : Nat} {cs : Array Value} {T : TypeId} (h : Blk w b cs T) (hs : cs.size = 3) (u v x : Value) : Blk (((w.setCell ⟨b, 0, none⟩ u).setCell ⟨b, 1, none⟩ v).setCell ⟨b, 2, none⟩ x) b #[u, v, x] T := by
  have h1 := ((h.set 0 u).set 1 v).set 2 x
  have e : ((cs.setIfInBounds 0 u).setIfInBounds 1 v).setIfInBounds 2 x = #[u, v, x] := by
    obtain ⟨l⟩ := cs
    match l, hs with
    | [_, _, _], _ => rfl
  rwa [e] at h1
theorem But.set2 {b : Nat} (w : World) (u v : Value) : But b w ((w.setCell ⟨b, 0, none⟩ u).setCell ⟨b, 1, none⟩ v) := (But.set _ _ _).trans (But.set _ _ _)
theorem But.set3 {b : Nat} (w : World) (u v x : Value) : But b w (((w.setCell ⟨b, 0, none⟩ u).setCell ⟨b, 1, none⟩ v).setCell ⟨b, 2, none⟩ x) := ((But.set _ _ _).trans (But.set _ _ _)).trans (But.set _ _ _)
/-- A new box, whatever it holds; a new box that holds these cells. -/
def BxV (B : Nat) (T : TypeId) (n : Nat) (v : Value) (w : World) : Prop := ∃ b cs, v = .pointer (some ⟨b, 0, none⟩) ∧ B ≤ b ∧ Blk w b cs T ∧ cs.size = n
def BxC (B : Nat) (T : TypeId) (cs : Array Value) (v : Value) (w : World) : Prop := ∃ b, v = .pointer (some ⟨b, 0, none⟩) ∧ B ≤ b ∧ Blk w b cs T
theorem BxV.below {B n : Nat} {T : TypeId} {v : Value} {w w' : World} (h : BxV B T n v w) (hb : Below w.heap.size w w') : BxV B T n v w' := by
  obtain ⟨b, cs, e, h1, h2, h3⟩ := h; exact ⟨b, cs, e, h1, h2.below hb, h3⟩
theorem BxC.below {B : Nat} {T : TypeId} {cs : Array Value} {v : Value} {w w' : World} (h : BxC B T cs v w) (hb : Below w.heap.size w w') : BxC B T cs v w' := by
  obtain ⟨b, e, h1, h2⟩ := h; exact ⟨b, e, h1, h2.below hb⟩
def bxV (B : Nat) (T : TypeId) (n : Nat) : Cl := .own (BxV B T n) (fun _ _ _ h hb => h.below hb)
def bxC (j B : Nat) (T : TypeId) (cs : Array Value) : Cl := .at j (BxC B T cs) (fun _ _ _ h hb => h.below hb)
section
variable {w w' : World} {b : Nat} {cs0 cs1 : Array Value} {T0 : TypeId}
theorem BxV.but {B n : Nat} {T : TypeId} {v : Value} (h : BxV B T n v w) (hb : But b w w') (t0 : Blk w b cs0 T0) (t1 : Blk w' b cs1 T0) (hs : cs1.size = cs0.size) : BxV B T n v w' := by
  obtain ⟨c, cs, e, h1, h2, h3⟩ := h
  by_cases hc : c = b
  · subst hc
    obtain ⟨rfl, rfl⟩ := h2.same t0
    exact ⟨c, cs1, e, h1, t1, by rw [hs, h3]⟩
  · exact ⟨c, cs, e, h1, h2.but hb hc, h3⟩
theorem BxC.but {B : Nat} {T : TypeId} {cs : Array Value} {v : Value} (h : BxC B T cs v w) (hb : But b w w') (hne : v ≠ .pointer (some ⟨b, 0, none⟩)) : BxC B T cs v w' := by
  obtain ⟨c, e, h1, h2⟩ := h
  exact ⟨c, e, h1, h2.but hb (fun x => hne (by rw [e, x]))⟩
theorem keeps_but (hb : But b w w') (t0 : Blk w b cs0 T0) (hT : T0 ≠ 23) : Keeps w w' := by
  intro g cur hg
  have hne : g ≠ b := by
    rintro rfl
    exact hT (Blk.same (T := 23) (cs := cur) hg t0).2.symm
  exact (hb.block g (Array.getElem?_eq_some_iff.1 hg).1 hne).trans hg
theorem IsBig.but {neg : Bool} {ao : Option Addr} {k cap : Nat} {n : Int} (h : IsBig w neg ao k cap n) (hb : But b w w') (t0 : Blk w b cs0 T0) (hT : T0 ≠ 23) : IsBig w' neg ao k cap n := h.keeps (keeps_but hb t0 hT)
theorem BigV.but {n : Int} {v : Value} (h : BigV n v w) (hb : But b w w') (t0 : Blk w b cs0 T0) (hT : T0 ≠ 23) : BigV n v w' := by
  obtain ⟨a1, a2, a3, a4, e, h⟩ := h; exact ⟨a1, a2, a3, a4, e, h.but hb t0 hT⟩
theorem Big2V.but {n p : Int} {v : Value} (h : Big2V n p v w) (hb : But b w w') (t0 : Blk w b cs0 T0) (hT : T0 ≠ 23) : Big2V n p v w' := by
  obtain ⟨a1, a2, a3, a4, b1, b2, b3, b4, e, h, g⟩ := h; exact ⟨a1, a2, a3, a4, b1, b2, b3, b4, e, h.but hb t0 hT, g.but hb t0 hT⟩
/-- A new box that holds a whole number. -/
theorem BoxBig.but {B : Nat} {n : Int} {v : Value} (h : BoxBig B n v w) (hb : But b w w') (t0 : Blk w b cs0 T0) (hT : T0 ≠ 23) (hne : v ≠ .pointer (some ⟨b, 0, none⟩)) : BoxBig B n v w' := by
  obtain ⟨c, a1, a2, a3, a4, e, h1, h2, h3⟩ := h
  exact ⟨c, a1, a2, a3, a4, e, h1, Blk.but (cs := #[.bool a1, .slice a2 a3 a4]) h2 hb (fun x => hne (by rw [e, x])), h3.but hb t0 hT⟩
end
end Go.Proofs.Ythffphcgkmjhbaa
