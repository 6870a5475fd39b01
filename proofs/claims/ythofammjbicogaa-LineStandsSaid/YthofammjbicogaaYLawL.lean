/-
  The statement FixedSums.
-/
import Derived.Test.YthofammjbicogaaZ6
import Derived.Test.YthofammjbicogaaYLawK
import Derived.Test.YthofammjbicogaaZ9
namespace Go.Proofs.Ythofammjbicogaa
open Go.RowKit
set_option linter.unusedSimpArgs false
set_option linter.unusedVariables false

/-- A slice of ints, nil or not, that lies in old memory. -/
def SInts (w : World) (ao : Option Addr) (k cap : Nat) (xs : List Int) : Prop :=
  (ao = none ∧ k = 0 ∧ cap = 0 ∧ xs = []) ∨ ∃ g off, ao = some ⟨g, off, none⟩ ∧ IntsAt w g off k xs ∧ g < w.heap.size ∧ k ≤ cap
theorem IntsAt.below {w w' : World} {g off k : Nat} {xs : List Int} (h : IntsAt w g off k xs) (hg : g < w.heap.size) (hb : Below w.heap.size w w') : IntsAt w' g off k xs :=
  ⟨h.1, h.2.1, fun i hi => (hb.cell (p := ⟨g, off + i, none⟩) hg).trans (h.2.2 i hi)⟩
theorem SInts.below {w w' : World} {ao : Option Addr} {k cap : Nat} {xs : List Int} (h : SInts w ao k cap xs) (hb : Below w.heap.size w w') : SInts w' ao k cap xs := by
  rcases h with h | ⟨g, off, e, h, hg, hc⟩
  · exact .inl h
  · exact .inr ⟨g, off, e, h.below hg hb, Nat.lt_of_lt_of_le hg hb.size, hc⟩
theorem SInts.but {w w' : World} {b : Nat} {ao : Option Addr} {k cap : Nat} {xs : List Int} (h : SInts w ao k cap xs) (hne : ∀ g off, ao = some ⟨g, off, none⟩ → g ≠ b) (hb : But b w w') : SInts w' ao k cap xs := by
  rcases h with h | ⟨g, off, e, h, hg, hc⟩
  · exact .inl h
  · exact .inr ⟨g, off, e, ⟨h.1, h.2.1, fun i hi => (World.cell?_of_block (w := w) (a := ⟨g, off + i, none⟩) (hb.block g hg (hne g off e))).trans (h.2.2 i hi)⟩, Nat.lt_of_lt_of_le hg hb.size, hc⟩
theorem fix_add_s (ao : Option Addr) (k cap : Nat) (xs : List Int) (hk : k ≤ 1000000) (w : World) (hx : SInts w ao k cap xs) : Calls Try.prog 57 #[.slice ao k cap] w (Gives (addN xs) (addE xs) w) := by
  rcases hx with ⟨rfl, rfl, rfl, rfl⟩ | ⟨g, off, rfl, h, _⟩
  · exact fix_add_nil w
  · exact fix_add_any g off k cap xs hk w h
set_option maxRecDepth 100000 in
set_option maxHeartbeats 1600000 in
theorem ref4_add_nil (w : World) : Calls Try.prog 58 #[.slice none 0 0] w fun e w' => e = .returned (.tuple #[.int .i64 (addN []), .int .i64 (addE [])]) ∧ Below w.heap.size w w' := by
  have e1 : addN [] = 0 := rfl
  have e2 : addE [] = 0 := rfl
  rw [e1, e2]
  clear e1 e2
  have TL := fun neg ao k cap W h hk => ref_told neg ao k cap 0 W h hk
  rw [show lenB 0 = true from rfl] at TL
  go_enter Try.func58, Try.ntmps58
  go_wp2_with fail
  refine (big_ofu 0 (by omega) _).mono ?_
  rintro e w1 ⟨a1, a2, a3, a4, rfl, I1, hB⟩
  have hk := I1.le (show BM.Sz 0 3 by unfold BM.Sz; decide)
  have t := Two.new w1 (.bool a1) (.slice a2 a3 a4) _ rfl
  replace I1 := I1.keep (w' := w1.alloc (.cells #[.bool a1, .slice a2 a3 a4] 128)) (by repeat' (first | (with_reducible exact Below.refl _ _) | (with_reducible assumption) | (with_reducible refine below_alloc ?_ _ ?_) | (with_reducible refine below_set _ ?_ ?_) | (with_reducible refine Below.drew ?_) | (with_reducible refine below_dN ?_ _) | (apply below_thenA; assumption) | omega | (simp; done) | (simp; omega) | (simp [*]; done)))
  replace hB := hB.alloc hB.size (.cells #[.bool a1, .slice a2 a3 a4] 128)
  obtain ⟨q1, q2, q3, q4⟩ := t.cells
  go_wp2_with fail
  obtain ⟨W1, eW⟩ : ∃ W1, W1 = w1.alloc (.cells #[.bool a1, .slice a2 a3 a4] 128) := ⟨_, rfl⟩
  rw [← eW] at I1 hB q1 q2 q3 q4 ⊢
  clear eW t
  go_loopg [5] 0 (fun gk s5 wr => s5 = .int .i64 0 ∧ W1 = wr)
  case atStart => exact ⟨rfl, rfl⟩
  obtain ⟨rfl, rfl⟩ := hrel
  go_wp2_with fail
  refine (TL a1 a2 a3 a4 _ I1 (by omega)).mono ?_
  rintro e w2 ⟨rfl, hb2⟩
  replace hB := hB.trans (hb2.mono hB.size)
  go_wp2_with fail
  go_ret2
  exact ⟨rfl, hB⟩
theorem ref4_add_s (ao : Option Addr) (k cap : Nat) (xs : List Int) (hk : k ≤ 1000000) (w : World) (hx : SInts w ao k cap xs) :
    Calls Try.prog 58 #[.slice ao k cap] w fun e w' => e = .returned (.tuple #[.int .i64 (addN xs), .int .i64 (addE xs)]) ∧ Below w.heap.size w w' := by
  rcases hx with ⟨rfl, rfl, rfl, rfl⟩ | ⟨g, off, rfl, h, hg, _⟩
  · exact ref4_add_nil w
  · exact ref4_add g off k cap xs hk w h hg
end Go.Proofs.Ythofammjbicogaa
