/-
  Boxes of ten cells.
-/
import Derived.Test.YthofammjbicogaaZ6
import Derived.Test.YthofammjbicogaaZ7
namespace Go.Proofs.Ythofammjbicogaa
open Go.RowKit
set_option linter.unusedSimpArgs false
set_option linter.unusedVariables false

theorem list10 {α : Type} : ∀ (l : List α), l.length = 10 → ∃ a0 a1 a2 a3 a4 a5 a6 a7 a8 a9, l = [a0, a1, a2, a3, a4, a5, a6, a7, a8, a9]
  | a0 :: a1 :: a2 :: a3 :: a4 :: a5 :: a6 :: a7 :: a8 :: a9 :: [], _ => ⟨a0, a1, a2, a3, a4, a5, a6, a7, a8, a9, rfl⟩
theorem Blk.set10 {w : World} {b : Nat} {cs : Array Value} {T : TypeId} (h : Blk w b cs T) (hs : cs.size = 10) (u0 u1 u2 u3 u4 u5 u6 u7 u8 u9 : Value) : Blk ((((((((((w.setCell ⟨b, 0, none⟩ u0).setCell ⟨b, 1, none⟩ u1).setCell ⟨b, 2, none⟩ u2).setCell ⟨b, 3, none⟩ u3).setCell ⟨b, 4, none⟩ u4).setCell ⟨b, 5, none⟩ u5).setCell ⟨b, 6, none⟩ u6).setCell ⟨b, 7, none⟩ u7).setCell ⟨b, 8, none⟩ u8).setCell ⟨b, 9, none⟩ u9) b #[u0, u1, u2, u3, u4, u5, u6, u7, u8, u9] T := by
  obtain ⟨l⟩ := cs
  obtain ⟨a0, a1, a2, a3, a4, a5, a6, a7, a8, a9, rfl⟩ := list10 l (by simpa using hs)
  clear hs
  have h1 := ((((((((((h.set 0 u0).set 1 u1).set 2 u2).set 3 u3).set 4 u4).set 5 u5).set 6 u6).set 7 u7).set 8 u8).set 9 u9)
  simp only [List.setIfInBounds_toArray, List.set_cons_zero, List.set_cons_succ] at h1
  exact h1
theorem But.set10 {b : Nat} (w : World) (u0 u1 u2 u3 u4 u5 u6 u7 u8 u9 : Value) : But b w ((((((((((w.setCell ⟨b, 0, none⟩ u0).setCell ⟨b, 1, none⟩ u1).setCell ⟨b, 2, none⟩ u2).setCell ⟨b, 3, none⟩ u3).setCell ⟨b, 4, none⟩ u4).setCell ⟨b, 5, none⟩ u5).setCell ⟨b, 6, none⟩ u6).setCell ⟨b, 7, none⟩ u7).setCell ⟨b, 8, none⟩ u8).setCell ⟨b, 9, none⟩ u9) := ((((((((((But.set _ _ _).trans (But.set _ _ _)).trans (But.set _ _ _)).trans (But.set _ _ _)).trans (But.set _ _ _)).trans (But.set _ _ _)).trans (But.set _ _ _)).trans (But.set _ _ _)).trans (But.set _ _ _)).trans (But.set _ _ _))
theorem OwnW.but {w w' : World} {B b : Nat} {T : TypeId} {s : Nat} {ao : Option Addr} {k cap : Nat} {vs : List Value} (h : OwnW w B T s ao k cap vs) (hb : But b w w') (hne : ∀ g, (Value.slice ao k cap).ownBlock = some g → g ≠ b) : OwnW w' B T s ao k cap vs := by
  refine ⟨h.1, ?_⟩
  rcases h.2 with h | ⟨g, c, cur, hv, hg, hh, r⟩
  · exact .inl h
  · exact .inr ⟨g, c, cur, hv, hg, (hb.block g (Array.getElem?_eq_some_iff.1 hh).1 (hne g (by rw [hv]; rfl))).trans hh, r⟩
theorem OwnW.aside {w : World} {B : Nat} {T : TypeId} {s : Nat} {ao : Option Addr} {k cap : Nat} {vs : List Value} (h : OwnW w B T s ao k cap vs) (a : Addr) (u : Value) (ha : (Value.slice ao k cap).ownBlock ≠ some a.block) : OwnW (w.setCell a u) B T s ao k cap vs := by
  refine ⟨h.1, ?_⟩
  rcases h.2 with h | ⟨g, c, cur, hv, hg, hh, r⟩
  · exact .inl h
  · refine .inr ⟨g, c, cur, hv, hg, ?_, r⟩
    rw [Below.heap_setCell _ _ _ _ (fun e => ha (by rw [hv]; simp [Value.ownBlock, e]))]; exact hh
theorem blk_news {w : World} {b : Nat} {cs : List Value} {T : TypeId} (h : Blk w b cs.toArray T) : ∀ j u, cs[j]? = some u → w.cell? ((⟨b, 0, none⟩ : Addr).add j) = some u := by
  intro j u hu
  have e2 : (Addr.add ⟨b, 0, none⟩ j) = ⟨b, j, none⟩ := by unfold Addr.add; split <;> simp_all
  rw [e2]
  exact h.cell j u (by simpa using hu)
theorem run_mx2 {P : Program} (w : World) (ts : Array TypeId) (t : TypeId) (k : IntKind) (x y : Int) :
    (Builtin.max_ ts t #[.int k x, .int k y]).run P w = .ok (.int k (max x y)) w := by
  have e : ∀ a b : Int, max a b = if a < b then b else a := fun a b => by
    rw [Int.max_def]; split <;> split <;> omega
  rw [e]
  simp [Builtin.max_, Builtin.max2]
end Go.Proofs.Ythofammjbicogaa
