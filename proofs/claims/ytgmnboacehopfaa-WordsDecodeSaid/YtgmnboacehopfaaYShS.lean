/-
  The reference of layer 5: Split.
-/
import Derived.Test.YtgmnboacehopfaaYShR
import Derived.Test.YtgmnboacehopfaaYShC
import Derived.Deep.DeepCutAuto
import Derived.Deep.CutRange
import Derived.Deep.CutBlock
import Derived.Maps.AppendAt
import Derived.Deep.AppendLies
namespace Go.Proofs.Ytgmnboacehopfaa
open Go.RowKit
set_option linter.unusedSimpArgs false
set_option linter.unusedVariables false

/-- Behind an append to a row of ints. -/
theorem OwnI.app {w w1 : World} {B : Nat} {ao : Option Addr} {k cap m : Nat} {xs ys : List Int} {v' : Value} (h : OwnI w B ao k cap xs)
    (ho : w1.ownsRow B 2 1 v' (k + m) (i64s xs ++ i64s ys)) (hg : w.grownBy w1 (Value.slice ao k cap).ownBlock) (hm : ys.length = m) (hB : B ≤ w.heap.size) :
    ∃ ao' cap', v' = .slice ao' (k + m) cap' ∧ OwnI w1 B ao' (k + m) cap' (xs ++ ys) ∧ (∀ C a, C ≤ B → Below C a w → Below C a w1) ∧ Keeps w w1 ∧
      (∀ b cs T, Blk w b cs T → T ≠ 2 → Blk w1 b cs T) ∧ (∀ b cs T, Blk w b cs T → (∀ g, (Value.slice ao k cap).ownBlock = some g → g ≠ b) → Blk w1 b cs T) := by
  have hs : ∃ ao' cap', v' = .slice ao' (k + m) cap' := by
    rcases ho.2 with ⟨e, e0⟩ | ⟨g, c, cur, e, _⟩
    · exact ⟨none, 0, by rw [e, e0]⟩
    · exact ⟨_, _, e⟩
  obtain ⟨ao', cap', rfl⟩ := hs
  have hK : ∀ b cs T, Blk w b cs T → T ≠ 2 → Blk w1 b cs T := fun b cs T hb hT => (hg.block b hb.lt (fun e => h.ne hb hT e.symm)).trans hb
  refine ⟨ao', cap', rfl, ⟨by simpa [i64s] using ho, by simp [h.2, hm]⟩, fun C a hC hb => ?_, fun g cur hc => hK g cur 30 hc (by decide), hK, fun b cs T hb hne => (hg.block b hb.lt (fun e => hne b e.symm rfl)).trans hb⟩
  refine hb.grown hg (Nat.le_trans hC hB) ?_
  intro j hj
  have := (h.1.lt j hj).1
  omega
/-- A slice of one new cell; a slice of the call's own that holds these. -/
def SliV (B : Nat) (s : Int) (v : Value) (w : World) : Prop := ∃ b, v = .slice (some ⟨b, 0, none⟩) 1 1 ∧ B ≤ b ∧ Blk w b #[.int .i64 s] 2
def sliC (B : Nat) (s : Int) : Cl := .own (SliV B s) (fun _ _ _ h hb => by obtain ⟨b, e, h1, h2⟩ := h; exact ⟨b, e, h1, h2.below hb⟩)
def OwnV (H n : Nat) (xs : List Int) (v : Value) (w : World) : Prop := ∃ ao cap, v = .slice ao n cap ∧ OwnI w H ao n cap xs
def ownC (H n : Nat) (xs : List Int) : Cl := .own (OwnV H n xs) (fun _ _ _ h hb => by obtain ⟨a, c, e, h⟩ := h; exact ⟨a, c, e, h.below hb⟩)
theorem SliV.app {B : Nat} {s : Int} {v v0 : Value} {W w1 : World} (h : SliV B s v W) (hb2 : ∀ b cs T, Blk W b cs T → (∀ g, v0.ownBlock = some g → g ≠ b) → Blk w1 b cs T) (hg : ∀ g, v0.ownBlock = some g → g < B) : SliV B s v w1 := by
  obtain ⟨b, e, h1, h2⟩ := h
  exact ⟨b, e, h1, hb2 b _ _ h2 (fun g hgg => by have := hg g hgg; omega)⟩
theorem i64s_one (xs : List Int) : ∀ u ∈ i64s xs, u.oneCell' = true := by
  intro u hu
  unfold i64s at hu
  obtain ⟨y, _, rfl⟩ := List.mem_map.1 hu
  rfl
theorem BigV.keeps {n : Int} {v : Value} {w w' : World} (h : BigV n v w) (hk : Keeps w w') : BigV n v w' := by
  obtain ⟨a1, a2, a3, a4, e, h⟩ := h; exact ⟨a1, a2, a3, a4, e, h.keeps hk⟩
/-- Each claim but those behind lasts from one world to another. -/
def KeepA (os : Array Oper) (n i : Nat) (vs : Nat → Value) (w w' : World) : List Cl → Nat → Prop
  | [], _ => True
  | c :: cs, k => (k = i ∨ anc os n k i = true ∨ (c.holds k vs w → c.holds k vs w')) ∧ KeepA os n i vs w w' cs (k + 1)
theorem keep_a {os : Array Oper} {n i : Nat} {vs : Nat → Value} {w w' : World} : ∀ {cls : List Cl} {k : Nat}, KeepA os n i vs w w' cls k → ∀ j, k + j ≠ i → anc os n (k + j) i = false → (cls.getD j .any).holds (k + j) vs w → (cls.getD j .any).holds (k + j) vs w'
  | [], _, _, j, _, _, h => by simp [Cl.holds]
  | c :: cs, k, hk, j, hj, ha, h => by
    cases j with
    | zero =>
      rcases hk.1 with h1 | h1 | h1
      · exact absurd h1 hj
      · rw [Nat.add_zero] at ha; rw [h1] at ha; cases ha
      · exact h1 h
    | succ j =>
      have := keep_a (cls := cs) (k := k + 1) hk.2 j (by omega) (by rw [show k + 1 + j = k + (j + 1) by omega]; exact ha)
      rw [show k + 1 + j = k + (j + 1) by omega] at this
      exact this h
theorem claims_keep_a {os : Array Oper} {n i : Nat} {vs : Nat → Value} {w w' : World} {cls : List Cl} (h : KeepA os n i vs w w' cls 0) : ∀ j, j ≠ i → anc os n j i = false → claim cls j vs w → claim cls j vs w' := fun j hj ha hc => by
  have := keep_a h j (by omega)
  rw [Nat.zero_add] at this
  exact this ha hc
theorem fq_div {a d : Int} (h : 0 ≤ d) : fq a d = a / d := by unfold fq; rw [if_neg (by omega)]
def RSplRel (w : World) (b7 : Nat) (n1 : Bool) (n2 : Option Addr) (n3 n4 : Nat) (t S : Int) (xs : List Int) (k gk : Nat) (s8 s9 : Value) (wr : World) : Prop :=
  ∃ (j : Nat) (aj : Option Addr) (cj : Nat), j ≤ k ∧ gk = k - j ∧ s8 = .slice aj j cj ∧ s9 = .int .i64 ((j : Int)) ∧ OwnI wr w.heap.size aj j cj (partsN t S xs j) ∧ Below w.heap.size w wr ∧ Blk wr b7 #[.bool n1, .slice n2 n3 n4] 100 ∧ IsBig wr n1 n2 n3 n4 S
end Go.Proofs.Ytgmnboacehopfaa
