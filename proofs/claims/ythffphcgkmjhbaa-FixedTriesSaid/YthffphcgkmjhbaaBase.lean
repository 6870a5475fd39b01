/-
  Small facts for the walks of this seat: worlds, Add64, wide numbers.
-/
import Derived.Test.YthffphcgkmjhbaaRows
import Derived.WalkKit
import Derived.WalkSpells
import Derived.Lib.Hide
import Derived.Laws.Externs
import Derived.Deep.RegionHeld3
import Derived.Deep.QuietTactic
import Derived.BigQuiet
import Derived.Deep.Light
import Derived.Handy
import Derived.Shelf.Bits.Mul64
namespace Go.Proofs.Ythffphcgkmjhbaa
open Go.RowKit

theorem bcell {W w1 : World} (hb : Below W.heap.size W w1) : (∀ b o, b < W.heap.size → w1.cell? ⟨b, o, none⟩ = W.cell? ⟨b, o, none⟩) ∧ (∀ b o, b < W.heap.size → w1.frozen? ⟨b, o, none⟩ = W.frozen? ⟨b, o, none⟩) :=
  ⟨fun b o h => hb.cell (p := ⟨b, o, none⟩) h, fun b o h => hb.frozen (p := ⟨b, o, none⟩) h⟩
theorem bz0 {n : Nat} {W w1 : World} (hb : Below W.heap.size W w1) (h : n + 0 ≤ W.heap.size) :
    n ≤ w1.heap.size ∧ n ≤ w1.heap.size + 1 ∧ n ≤ w1.heap.size + 1 + 1 ∧ n ≤ w1.heap.size + 1 + 1 + 1 ∧ n ≤ w1.heap.size + 1 + 1 + 1 + 1 ∧ n ≤ w1.heap.size + 1 + 1 + 1 + 1 + 1 ∧ n < w1.heap.size + 1 ∧ n < w1.heap.size + 1 + 1 ∧ n < w1.heap.size + 1 + 1 + 1 ∧ n < w1.heap.size + 1 + 1 + 1 + 1 ∧ n < w1.heap.size + 1 + 1 + 1 + 1 + 1 := by
  have := hb.size
  omega
theorem bz1 {n : Nat} {W w1 : World} (hb : Below W.heap.size W w1) (h : n + 1 ≤ W.heap.size) :
    n < w1.heap.size ∧ n ≤ w1.heap.size ∧ n ≤ w1.heap.size + 1 ∧ n ≤ w1.heap.size + 1 + 1 ∧ n ≤ w1.heap.size + 1 + 1 + 1 ∧ n ≤ w1.heap.size + 1 + 1 + 1 + 1 ∧ n ≤ w1.heap.size + 1 + 1 + 1 + 1 + 1 ∧ n < w1.heap.size + 1 ∧ n < w1.heap.size + 1 + 1 ∧ n < w1.heap.size + 1 + 1 + 1 ∧ n < w1.heap.size + 1 + 1 + 1 + 1 ∧ n < w1.heap.size + 1 + 1 + 1 + 1 + 1 := by
  have := hb.size
  omega
theorem bz2 {n : Nat} {W w1 : World} (hb : Below W.heap.size W w1) (h : n + 2 ≤ W.heap.size) :
    n < w1.heap.size ∧ n + 1 < w1.heap.size ∧ n ≤ w1.heap.size ∧ n + 1 ≤ w1.heap.size ∧ n ≤ w1.heap.size + 1 ∧ n ≤ w1.heap.size + 1 + 1 ∧ n ≤ w1.heap.size + 1 + 1 + 1 ∧ n ≤ w1.heap.size + 1 + 1 + 1 + 1 ∧ n ≤ w1.heap.size + 1 + 1 + 1 + 1 + 1 ∧ n < w1.heap.size + 1 ∧ n < w1.heap.size + 1 + 1 ∧ n < w1.heap.size + 1 + 1 + 1 ∧ n < w1.heap.size + 1 + 1 + 1 + 1 ∧ n < w1.heap.size + 1 + 1 + 1 + 1 + 1 := by
  have := hb.size
  omega
theorem bz3 {n : Nat} {W w1 : World} (hb : Below W.heap.size W w1) (h : n + 3 ≤ W.heap.size) :
    n < w1.heap.size ∧ n + 1 < w1.heap.size ∧ n + 1 + 1 < w1.heap.size ∧ n ≤ w1.heap.size ∧ n + 1 ≤ w1.heap.size ∧ n + 1 + 1 ≤ w1.heap.size ∧ n ≤ w1.heap.size + 1 ∧ n ≤ w1.heap.size + 1 + 1 ∧ n ≤ w1.heap.size + 1 + 1 + 1 ∧ n ≤ w1.heap.size + 1 + 1 + 1 + 1 ∧ n ≤ w1.heap.size + 1 + 1 + 1 + 1 + 1 ∧ n < w1.heap.size + 1 ∧ n < w1.heap.size + 1 + 1 ∧ n < w1.heap.size + 1 + 1 + 1 ∧ n < w1.heap.size + 1 + 1 + 1 + 1 ∧ n < w1.heap.size + 1 + 1 + 1 + 1 + 1 := by
  have := hb.size
  omega
theorem bz4 {n : Nat} {W w1 : World} (hb : Below W.heap.size W w1) (h : n + 4 ≤ W.heap.size) :
    n < w1.heap.size ∧ n + 1 < w1.heap.size ∧ n + 1 + 1 < w1.heap.size ∧ n + 1 + 1 + 1 < w1.heap.size ∧ n ≤ w1.heap.size ∧ n + 1 ≤ w1.heap.size ∧ n + 1 + 1 ≤ w1.heap.size ∧ n + 1 + 1 + 1 ≤ w1.heap.size ∧ n ≤ w1.heap.size + 1 ∧ n ≤ w1.heap.size + 1 + 1 ∧ n ≤ w1.heap.size + 1 + 1 + 1 ∧ n ≤ w1.heap.size + 1 + 1 + 1 + 1 ∧ n ≤ w1.heap.size + 1 + 1 + 1 + 1 + 1 ∧ n < w1.heap.size + 1 ∧ n < w1.heap.size + 1 + 1 ∧ n < w1.heap.size + 1 + 1 + 1 ∧ n < w1.heap.size + 1 + 1 + 1 + 1 ∧ n < w1.heap.size + 1 + 1 + 1 + 1 + 1 := by
  have := hb.size
  omega
theorem bz5 {n : Nat} {W w1 : World} (hb : Below W.heap.size W w1) (h : n + 5 ≤ W.heap.size) :
    n < w1.heap.size ∧ n + 1 < w1.heap.size ∧ n + 1 + 1 < w1.heap.size ∧ n + 1 + 1 + 1 < w1.heap.size ∧ n + 1 + 1 + 1 + 1 < w1.heap.size ∧ n ≤ w1.heap.size ∧ n + 1 ≤ w1.heap.size ∧ n + 1 + 1 ≤ w1.heap.size ∧ n + 1 + 1 + 1 ≤ w1.heap.size ∧ n + 1 + 1 + 1 + 1 ≤ w1.heap.size ∧ n ≤ w1.heap.size + 1 ∧ n ≤ w1.heap.size + 1 + 1 ∧ n ≤ w1.heap.size + 1 + 1 + 1 ∧ n ≤ w1.heap.size + 1 + 1 + 1 + 1 ∧ n ≤ w1.heap.size + 1 + 1 + 1 + 1 + 1 ∧ n < w1.heap.size + 1 ∧ n < w1.heap.size + 1 + 1 ∧ n < w1.heap.size + 1 + 1 + 1 ∧ n < w1.heap.size + 1 + 1 + 1 + 1 ∧ n < w1.heap.size + 1 + 1 + 1 + 1 + 1 := by
  have := hb.size
  omega
theorem bz6 {n : Nat} {W w1 : World} (hb : Below W.heap.size W w1) (h : n + 6 ≤ W.heap.size) :
    n < w1.heap.size ∧ n + 1 < w1.heap.size ∧ n + 1 + 1 < w1.heap.size ∧ n + 1 + 1 + 1 < w1.heap.size ∧ n + 1 + 1 + 1 + 1 < w1.heap.size ∧ n + 1 + 1 + 1 + 1 + 1 < w1.heap.size ∧ n ≤ w1.heap.size ∧ n + 1 ≤ w1.heap.size ∧ n + 1 + 1 ≤ w1.heap.size ∧ n + 1 + 1 + 1 ≤ w1.heap.size ∧ n + 1 + 1 + 1 + 1 ≤ w1.heap.size ∧ n + 1 + 1 + 1 + 1 + 1 ≤ w1.heap.size ∧ n ≤ w1.heap.size + 1 ∧ n ≤ w1.heap.size + 1 + 1 ∧ n ≤ w1.heap.size + 1 + 1 + 1 ∧ n ≤ w1.heap.size + 1 + 1 + 1 + 1 ∧ n ≤ w1.heap.size + 1 + 1 + 1 + 1 + 1 ∧ n < w1.heap.size + 1 ∧ n < w1.heap.size + 1 + 1 ∧ n < w1.heap.size + 1 + 1 + 1 ∧ n < w1.heap.size + 1 + 1 + 1 + 1 ∧ n < w1.heap.size + 1 + 1 + 1 + 1 + 1 := by
  have := hb.size
  omega
theorem bz7 {n : Nat} {W w1 : World} (hb : Below W.heap.size W w1) (h : n + 7 ≤ W.heap.size) :
    n < w1.heap.size ∧ n + 1 < w1.heap.size ∧ n + 1 + 1 < w1.heap.size ∧ n + 1 + 1 + 1 < w1.heap.size ∧ n + 1 + 1 + 1 + 1 < w1.heap.size ∧ n + 1 + 1 + 1 + 1 + 1 < w1.heap.size ∧ n + 1 + 1 + 1 + 1 + 1 + 1 < w1.heap.size ∧ n ≤ w1.heap.size ∧ n + 1 ≤ w1.heap.size ∧ n + 1 + 1 ≤ w1.heap.size ∧ n + 1 + 1 + 1 ≤ w1.heap.size ∧ n + 1 + 1 + 1 + 1 ≤ w1.heap.size ∧ n + 1 + 1 + 1 + 1 + 1 ≤ w1.heap.size ∧ n + 1 + 1 + 1 + 1 + 1 + 1 ≤ w1.heap.size ∧ n ≤ w1.heap.size + 1 ∧ n ≤ w1.heap.size + 1 + 1 ∧ n ≤ w1.heap.size + 1 + 1 + 1 ∧ n ≤ w1.heap.size + 1 + 1 + 1 + 1 ∧ n ≤ w1.heap.size + 1 + 1 + 1 + 1 + 1 ∧ n < w1.heap.size + 1 ∧ n < w1.heap.size + 1 + 1 ∧ n < w1.heap.size + 1 + 1 + 1 ∧ n < w1.heap.size + 1 + 1 + 1 + 1 ∧ n < w1.heap.size + 1 + 1 + 1 + 1 + 1 := by
  have := hb.size
  omega
theorem bz8 {n : Nat} {W w1 : World} (hb : Below W.heap.size W w1) (h : n + 8 ≤ W.heap.size) :
    n < w1.heap.size ∧ n + 1 < w1.heap.size ∧ n + 1 + 1 < w1.heap.size ∧ n + 1 + 1 + 1 < w1.heap.size ∧ n + 1 + 1 + 1 + 1 < w1.heap.size ∧ n + 1 + 1 + 1 + 1 + 1 < w1.heap.size ∧ n + 1 + 1 + 1 + 1 + 1 + 1 < w1.heap.size ∧ n + 1 + 1 + 1 + 1 + 1 + 1 + 1 < w1.heap.size ∧ n ≤ w1.heap.size ∧ n + 1 ≤ w1.heap.size ∧ n + 1 + 1 ≤ w1.heap.size ∧ n + 1 + 1 + 1 ≤ w1.heap.size ∧ n + 1 + 1 + 1 + 1 ≤ w1.heap.size ∧ n + 1 + 1 + 1 + 1 + 1 ≤ w1.heap.size ∧ n + 1 + 1 + 1 + 1 + 1 + 1 ≤ w1.heap.size ∧ n + 1 + 1 + 1 + 1 + 1 + 1 + 1 ≤ w1.heap.size ∧ n ≤ w1.heap.size + 1 ∧ n ≤ w1.heap.size + 1 + 1 ∧ n ≤ w1.heap.size + 1 + 1 + 1 ∧ n ≤ w1.heap.size + 1 + 1 + 1 + 1 ∧ n ≤ w1.heap.size + 1 + 1 + 1 + 1 + 1 ∧ n < w1.heap.size + 1 ∧ n < w1.heap.size + 1 + 1 ∧ n < w1.heap.size + 1 + 1 + 1 ∧ n < w1.heap.size + 1 + 1 + 1 + 1 ∧ n < w1.heap.size + 1 + 1 + 1 + 1 + 1 := by
  have := hb.size
  omega
theorem bz9 {n : Nat} {W w1 : World} (hb : Below W.heap.size W w1) (h : n + 9 ≤ W.heap.size) :
    n < w1.heap.size ∧ n + 1 < w1.heap.size ∧ n + 1 + 1 < w1.heap.size ∧ n + 1 + 1 + 1 < w1.heap.size ∧ n + 1 + 1 + 1 + 1 < w1.heap.size ∧ n + 1 + 1 + 1 + 1 + 1 < w1.heap.size ∧ n + 1 + 1 + 1 + 1 + 1 + 1 < w1.heap.size ∧ n + 1 + 1 + 1 + 1 + 1 + 1 + 1 < w1.heap.size ∧ n + 1 + 1 + 1 + 1 + 1 + 1 + 1 + 1 < w1.heap.size ∧ n ≤ w1.heap.size ∧ n + 1 ≤ w1.heap.size ∧ n + 1 + 1 ≤ w1.heap.size ∧ n + 1 + 1 + 1 ≤ w1.heap.size ∧ n + 1 + 1 + 1 + 1 ≤ w1.heap.size ∧ n + 1 + 1 + 1 + 1 + 1 ≤ w1.heap.size ∧ n + 1 + 1 + 1 + 1 + 1 + 1 ≤ w1.heap.size ∧ n + 1 + 1 + 1 + 1 + 1 + 1 + 1 ≤ w1.heap.size ∧ n + 1 + 1 + 1 + 1 + 1 + 1 + 1 + 1 ≤ w1.heap.size ∧ n ≤ w1.heap.size + 1 ∧ n ≤ w1.heap.size + 1 + 1 ∧ n ≤ w1.heap.size + 1 + 1 + 1 ∧ n ≤ w1.heap.size + 1 + 1 + 1 + 1 ∧ n ≤ w1.heap.size + 1 + 1 + 1 + 1 + 1 ∧ n < w1.heap.size + 1 ∧ n < w1.heap.size + 1 + 1 ∧ n < w1.heap.size + 1 + 1 + 1 ∧ n < w1.heap.size + 1 + 1 + 1 + 1 ∧ n < w1.heap.size + 1 + 1 + 1 + 1 + 1 := by
  have := hb.size
  omega
theorem bz10 {n : Nat} {W w1 : World} (hb : Below W.heap.size W w1) (h : n + 10 ≤ W.heap.size) :
    n < w1.heap.size ∧ n + 1 < w1.heap.size ∧ n + 1 + 1 < w1.heap.size ∧ n + 1 + 1 + 1 < w1.heap.size ∧ n + 1 + 1 + 1 + 1 < w1.heap.size ∧ n + 1 + 1 + 1 + 1 + 1 < w1.heap.size ∧ n + 1 + 1 + 1 + 1 + 1 + 1 < w1.heap.size ∧ n + 1 + 1 + 1 + 1 + 1 + 1 + 1 < w1.heap.size ∧ n + 1 + 1 + 1 + 1 + 1 + 1 + 1 + 1 < w1.heap.size ∧ n + 1 + 1 + 1 + 1 + 1 + 1 + 1 + 1 + 1 < w1.heap.size ∧ n ≤ w1.heap.size ∧ n + 1 ≤ w1.heap.size ∧ n + 1 + 1 ≤ w1.heap.size ∧ n + 1 + 1 + 1 ≤ w1.heap.size ∧ n + 1 + 1 + 1 + 1 ≤ w1.heap.size ∧ n + 1 + 1 + 1 + 1 + 1 ≤ w1.heap.size ∧ n + 1 + 1 + 1 + 1 + 1 + 1 ≤ w1.heap.size ∧ n + 1 + 1 + 1 + 1 + 1 + 1 + 1 ≤ w1.heap.size ∧ n + 1 + 1 + 1 + 1 + 1 + 1 + 1 + 1 ≤ w1.heap.size ∧ n + 1 + 1 + 1 + 1 + 1 + 1 + 1 + 1 + 1 ≤ w1.heap.size ∧ n ≤ w1.heap.size + 1 ∧ n ≤ w1.heap.size + 1 + 1 ∧ n ≤ w1.heap.size + 1 + 1 + 1 ∧ n ≤ w1.heap.size + 1 + 1 + 1 + 1 ∧ n ≤ w1.heap.size + 1 + 1 + 1 + 1 + 1 ∧ n < w1.heap.size + 1 ∧ n < w1.heap.size + 1 + 1 ∧ n < w1.heap.size + 1 + 1 + 1 ∧ n < w1.heap.size + 1 + 1 + 1 + 1 ∧ n < w1.heap.size + 1 + 1 + 1 + 1 + 1 := by
  have := hb.size
  omega
theorem bz11 {n : Nat} {W w1 : World} (hb : Below W.heap.size W w1) (h : n + 11 ≤ W.heap.size) :
    n < w1.heap.size ∧ n + 1 < w1.heap.size ∧ n + 1 + 1 < w1.heap.size ∧ n + 1 + 1 + 1 < w1.heap.size ∧ n + 1 + 1 + 1 + 1 < w1.heap.size ∧ n + 1 + 1 + 1 + 1 + 1 < w1.heap.size ∧ n + 1 + 1 + 1 + 1 + 1 + 1 < w1.heap.size ∧ n + 1 + 1 + 1 + 1 + 1 + 1 + 1 < w1.heap.size ∧ n + 1 + 1 + 1 + 1 + 1 + 1 + 1 + 1 < w1.heap.size ∧ n + 1 + 1 + 1 + 1 + 1 + 1 + 1 + 1 + 1 < w1.heap.size ∧ n + 1 + 1 + 1 + 1 + 1 + 1 + 1 + 1 + 1 + 1 < w1.heap.size ∧ n ≤ w1.heap.size ∧ n + 1 ≤ w1.heap.size ∧ n + 1 + 1 ≤ w1.heap.size ∧ n + 1 + 1 + 1 ≤ w1.heap.size ∧ n + 1 + 1 + 1 + 1 ≤ w1.heap.size ∧ n + 1 + 1 + 1 + 1 + 1 ≤ w1.heap.size ∧ n + 1 + 1 + 1 + 1 + 1 + 1 ≤ w1.heap.size ∧ n + 1 + 1 + 1 + 1 + 1 + 1 + 1 ≤ w1.heap.size ∧ n + 1 + 1 + 1 + 1 + 1 + 1 + 1 + 1 ≤ w1.heap.size ∧ n + 1 + 1 + 1 + 1 + 1 + 1 + 1 + 1 + 1 ≤ w1.heap.size ∧ n + 1 + 1 + 1 + 1 + 1 + 1 + 1 + 1 + 1 + 1 ≤ w1.heap.size ∧ n ≤ w1.heap.size + 1 ∧ n ≤ w1.heap.size + 1 + 1 ∧ n ≤ w1.heap.size + 1 + 1 + 1 ∧ n ≤ w1.heap.size + 1 + 1 + 1 + 1 ∧ n ≤ w1.heap.size + 1 + 1 + 1 + 1 + 1 ∧ n < w1.heap.size + 1 ∧ n < w1.heap.size + 1 + 1 ∧ n < w1.heap.size + 1 + 1 + 1 ∧ n < w1.heap.size + 1 + 1 + 1 + 1 ∧ n < w1.heap.size + 1 + 1 + 1 + 1 + 1 := by
  have := hb.size
  omega
theorem bz12 {n : Nat} {W w1 : World} (hb : Below W.heap.size W w1) (h : n + 12 ≤ W.heap.size) :
    n < w1.heap.size ∧ n + 1 < w1.heap.size ∧ n + 1 + 1 < w1.heap.size ∧ n + 1 + 1 + 1 < w1.heap.size ∧ n + 1 + 1 + 1 + 1 < w1.heap.size ∧ n + 1 + 1 + 1 + 1 + 1 < w1.heap.size ∧ n + 1 + 1 + 1 + 1 + 1 + 1 < w1.heap.size ∧ n + 1 + 1 + 1 + 1 + 1 + 1 + 1 < w1.heap.size ∧ n + 1 + 1 + 1 + 1 + 1 + 1 + 1 + 1 < w1.heap.size ∧ n + 1 + 1 + 1 + 1 + 1 + 1 + 1 + 1 + 1 < w1.heap.size ∧ n + 1 + 1 + 1 + 1 + 1 + 1 + 1 + 1 + 1 + 1 < w1.heap.size ∧ n + 1 + 1 + 1 + 1 + 1 + 1 + 1 + 1 + 1 + 1 + 1 < w1.heap.size ∧ n ≤ w1.heap.size ∧ n + 1 ≤ w1.heap.size ∧ n + 1 + 1 ≤ w1.heap.size ∧ n + 1 + 1 + 1 ≤ w1.heap.size ∧ n + 1 + 1 + 1 + 1 ≤ w1.heap.size ∧ n + 1 + 1 + 1 + 1 + 1 ≤ w1.heap.size ∧ n + 1 + 1 + 1 + 1 + 1 + 1 ≤ w1.heap.size ∧ n + 1 + 1 + 1 + 1 + 1 + 1 + 1 ≤ w1.heap.size ∧ n + 1 + 1 + 1 + 1 + 1 + 1 + 1 + 1 ≤ w1.heap.size ∧ n + 1 + 1 + 1 + 1 + 1 + 1 + 1 + 1 + 1 ≤ w1.heap.size ∧ n + 1 + 1 + 1 + 1 + 1 + 1 + 1 + 1 + 1 + 1 ≤ w1.heap.size ∧ n + 1 + 1 + 1 + 1 + 1 + 1 + 1 + 1 + 1 + 1 + 1 ≤ w1.heap.size ∧ n ≤ w1.heap.size + 1 ∧ n ≤ w1.heap.size + 1 + 1 ∧ n ≤ w1.heap.size + 1 + 1 + 1 ∧ n ≤ w1.heap.size + 1 + 1 + 1 + 1 ∧ n ≤ w1.heap.size + 1 + 1 + 1 + 1 + 1 ∧ n < w1.heap.size + 1 ∧ n < w1.heap.size + 1 + 1 ∧ n < w1.heap.size + 1 + 1 + 1 ∧ n < w1.heap.size + 1 + 1 + 1 + 1 ∧ n < w1.heap.size + 1 + 1 + 1 + 1 + 1 := by
  have := hb.size
  omega

theorem bzz {W w1 : World} (hb : Below W.heap.size W w1) :
    ((∀ b, b < W.heap.size → b < w1.heap.size) ∧ (∀ b, b ≤ W.heap.size → b ≤ w1.heap.size) ∧ (∀ b, b ≤ W.heap.size → b ≤ w1.heap.size + 1) ∧ (∀ b, b ≤ W.heap.size → b ≤ w1.heap.size + 1 + 1) ∧ (∀ b, b ≤ W.heap.size → b ≤ w1.heap.size + 1 + 1 + 1) ∧ (∀ b, b ≤ W.heap.size → b ≤ w1.heap.size + 1 + 1 + 1 + 1)) ∧ W.heap.size ≤ w1.heap.size := by
  have := hb.size
  refine ⟨⟨?_, ?_, ?_, ?_, ?_, ?_⟩, this⟩ <;> intro b h <;> omega
theorem below_alloc {B : Nat} {a w : World} (h : Below B a w) (o : Obj) (hB : B ≤ w.heap.size) : Below B a (w.alloc o) := h.alloc hB o
theorem below_dN {B : Nat} {a w : World} (h : Below B a w) (n : Nat) : Below B a (w.drewN n) := ⟨h.os, h.tape, h.output, h.size, h.block⟩
theorem below_set {B : Nat} {a w : World} {p : Addr} (u : Value) (h : Below B a w) (hp : B ≤ p.block) : Below B a (w.setCell p u) := h.setCell hp u
theorem below_thenA {B : Nat} {a w w' : World} (h' : Below w.heap.size w w') (h : Below B a w) (hB : B ≤ w.heap.size) : Below B a w' := h.trans (h'.mono hB)
theorem below_then {B : Nat} {a w w' : World} (h : Below B a w) (h' : Below w.heap.size w w') (hB : B ≤ w.heap.size) : Below B a w' := h.trans (h'.mono hB)
theorem ret_int {k : IntKind} {a b : Int} (h : a = b) : Ending.returned (.int k a) = .returned (.int k b) := by rw [h]
theorem u64n (n : Int) : 0 ≤ IntKind.u64.wrap n := wrap_u64_nonneg n

theorem add64 (x y c : Int) (hx : 0 ≤ x) (hy : 0 ≤ y) (hc0 : 0 ≤ c) (hc : c ≤ 1) (w : World) : (callFunc 102 #[.int .u64 x, .int .u64 y, .int .u64 c]).run Try.prog w =
    .ok (.value (.tuple #[.int .u64 ((x + y + c) % 18446744073709551616), .int .u64 ((x + y + c) / 18446744073709551616)])) w := by
  rw [run_callFunc_extern Try.func102 (by kernel_rfl) (by kernel_rfl) (by kernel_rfl) (e := add64Entry) (by kernel_rfl), run_add64 x y c hx hy hc0 hc]
  rfl
theorem add64_0 (x y : Int) (hx : 0 ≤ x) (hy : 0 ≤ y) (w : World) : (callFunc 102 #[.int .u64 x, .int .u64 y, .int .u64 0]).run Try.prog w =
    .ok (.value (.tuple #[.int .u64 ((x + y) % 18446744073709551616), .int .u64 ((x + y) / 18446744073709551616)])) w := by
  simpa using add64 x y 0 hx hy (Int.le_refl 0) (by decide) w
theorem add64_x0 (x c : Int) (hx : 0 ≤ x) (hc0 : 0 ≤ c) (hc : c ≤ 1) (w : World) : (callFunc 102 #[.int .u64 x, .int .u64 0, .int .u64 c]).run Try.prog w =
    .ok (.value (.tuple #[.int .u64 ((x + c) % 18446744073709551616), .int .u64 ((x + c) / 18446744073709551616)])) w := by
  simpa using add64 x 0 c hx (Int.le_refl 0) hc0 hc w

theorem u64_not (l : Int) (h0 : 0 ≤ l) (h1 : l ≤ 18446744073709551615) : bits .xor .u64 18446744073709551615 l = 18446744073709551615 - l := by
  obtain ⟨a, rfl⟩ := Int.eq_ofNat_of_zero_le h0
  show IntKind.u64.wrap ((BitVec.ofInt 64 18446744073709551615 ^^^ BitVec.ofInt 64 (a : Int)).toNat : Int) = _
  have h1 : BitVec.ofInt 64 18446744073709551615 = BitVec.allOnes 64 := by decide
  rw [h1, BitVec.allOnes_xor, BitVec.toNat_not, ofInt_u64 a (by omega)]
  simp [IntKind.wrap, IntKind.bits, IntKind.signed]
  omega
theorem u64le (n : Int) : IntKind.u64.wrap n ≤ 18446744073709551615 := by rw [IntKind.wrap_u64]; omega
/-- The two parts of a wide number. -/
def Wd (hi lo n : Int) : Prop := -9223372036854775808 ≤ hi ∧ hi ≤ 9223372036854775807 ∧ 0 ≤ lo ∧ lo ≤ 18446744073709551615 ∧ n = hi * 18446744073709551616 + lo
/-- Is it a wide number? -/
def WFit (n : Int) : Prop := -170141183460469231731687303715884105728 ≤ n ∧ n < 170141183460469231731687303715884105728
theorem Wd.fit {hi lo n : Int} (h : Wd hi lo n) : WFit n := by unfold Wd at h; unfold WFit; omega
theorem Wd.of {n : Int} (h : WFit n) : Wd (n / 18446744073709551616) (n % 18446744073709551616) n := by unfold WFit at h; unfold Wd; omega
theorem Wd.eq {hi lo n : Int} (h : Wd hi lo n) : hi = n / 18446744073709551616 ∧ lo = n % 18446744073709551616 := by unfold Wd at h; omega
def wv (n : Int) : Value := .agg #[.int .i64 (n / 18446744073709551616), .int .u64 (n % 18446744073709551616)]
theorem wv_eq {h l n : Int} (e1 : h = n / 18446744073709551616) (e2 : l = n % 18446744073709551616) : Value.agg #[.int .i64 h, .int .u64 l] = wv n := by rw [e1, e2]; rfl
end Go.Proofs.Ythffphcgkmjhbaa
