/-
  Small facts for the walks of this seat: worlds, Add64, wide numbers.
-/
/-
  From a walk that leaves all old memory as it was to the row's own words.
-/
/-
  Blocks of cells by their whole contents; worlds in which one old block alone may have turned.
-/
/-
  From a walk that leaves all old memory as it was to a law's own words, whatever its parameters: each argument reads as it did. And: structs of one-cell fields by value, opened.
-/
/-
  The functions of package wide, each by its contract: what it returns for whatever it is given.
-/
/-
  The functions of package wide, each by its contract: what it returns for whatever it is given. Second part.
-/
/-
  The functions of package wide, each by its contract: what it returns for whatever it is given. Third part.
-/
/-
  Layer 3: a float's fields, and the nearest of so many parts of one, in plain numbers.
-/
/-
  Layer 3: a float's fields by shifts and masks.
-/
/-
  Package real: a float's fields, its kind, its size.
-/
/-
  Plain facts on the division of a number of two words by one of one word, by digits of half a word.
-/
import Derived.Test.YtmkblfejoniccaaDoorRows
import Derived.WalkKit
import Derived.WalkSpells
import Derived.Lib.Hide
import Derived.Laws.Externs
import Derived.Deep.RegionHeld3
import Derived.Deep.QuietTactic
import Derived.BigQuiet
import Derived.Deep.Light
import Derived.Handy
import Derived.Shelf.Bits.Mul64
import Derived.ProofKit
import Derived.OpenShut
import Derived.ReadAgain
import Derived.Lib.SmallJoins
import Derived.Laws.Bits64b
namespace Go.Proofs.YtmkblfejoniccaaDoor
open Go.RowKit

theorem bcell {W w1 : World} (hb : Below W.heap.size W w1) : (∀ b o, b < W.heap.size → w1.cell? ⟨b, o, none⟩ = W.cell? ⟨b, o, none⟩) ∧ (∀ b o, b < W.heap.size → w1.frozen? ⟨b, o, none⟩ = W.frozen? ⟨b, o, none⟩) :=
  ⟨fun b o h => hb.cell (p := ⟨b, o, none⟩) h, fun b o h => hb.frozen (p := ⟨b, o, none⟩) h⟩
theorem bz0 {n : Nat} {W w1 : World} (hb : Below W.heap.size W w1) (h : n + 0 ≤ W.heap.size) :
    n ≤ w1.heap.size ∧ n ≤ w1.heap.size + 1 ∧ n ≤ w1.heap.size + 1 + 1 ∧ n ≤ w1.heap.size + 1 + 1 + 1 ∧ n ≤ w1.heap.size + 1 + 1 + 1 + 1 ∧ n ≤ w1.heap.size + 1 + 1 + 1 + 1 + 1 ∧ n < w1.heap.size + 1 ∧ n < w1.heap.size + 1 + 1 ∧ n < w1.heap.size + 1 + 1 + 1 ∧ n < w1.heap.size + 1 + 1 + 1 + 1 ∧ n < w1.heap.size + 1 + 1 + 1 + 1 + 1 := by
  have := hb.size
  omega
theorem bz1 {n : Nat} {W w1 : World} (hb : Below W.heap.size W w1) (h : n + 1 ≤ W.heap.size) :
    n < w1.heap.size ∧ n ≤ w1.heap.size ∧ n ≤ w1.heap.size + 1 ∧ n ≤ w1.heap.size + 1 + 1 ∧ n ≤ w1.heap.size + 1 + 1 + 1 ∧ n ≤ w1.heap.size + 1 + 1 + 1 + 1 ∧ n ≤ w1.heap.size + 1 + 1 + 1 + 1 + 1 ∧ n < w1.heap.size + 1 ∧ n < w1.heap.size + 1 + 1 ∧ n < w1.heap.size + 1 + 1 + 1 ∧ n < w1.heap.size + 1 + 1 + 1 + 1 ∧ n < w1.heap.size + 1 + 1 + 1 + 1 + 1 := by
  have := hb.size
  omega
theorem bz2 {n : Nat} {W w1 : World} (hb : Below W.heap.size W w1) (h : n + 2 ≤ W.heap.size) :
    n < w1.heap.size ∧ n + 1 < w1.heap.size ∧ n ≤ w1.heap.size ∧ n + 1 ≤ w1.heap.size ∧ n ≤ w1.heap.size + 1 ∧ n ≤ w1.heap.size + 1 + 1 ∧ n ≤ w1.heap.size + 1 + 1 + 1 ∧ n ≤ w1.heap.size + 1 + 1 + 1 + 1 ∧ n ≤ w1.heap.size + 1 + 1 + 1 + 1 + 1 ∧ n < w1.heap.size + 1 ∧ n < w1.heap.size + 1 + 1 ∧ n < w1.heap.size + 1 + 1 + 1 ∧ n < w1.heap.size + 1 + 1 + 1 + 1 ∧ n < w1.heap.size + 1 + 1 + 1 + 1 + 1 := by
  have := hb.size
  omega
theorem bz3 {n : Nat} {W w1 : World} (hb : Below W.heap.size W w1) (h : n + 3 ≤ W.heap.size) :
    n < w1.heap.size ∧ n + 1 < w1.heap.size ∧ n + 1 + 1 < w1.heap.size ∧ n ≤ w1.heap.size ∧ n + 1 ≤ w1.heap.size ∧ n + 1 + 1 ≤ w1.heap.size ∧ n ≤ w1.heap.size + 1 ∧ n ≤ w1.heap.size + 1 + 1 ∧ n ≤ w1.heap.size + 1 + 1 + 1 ∧ n ≤ w1.heap.size + 1 + 1 + 1 + 1 ∧ n ≤ w1.heap.size + 1 + 1 + 1 + 1 + 1 ∧ n < w1.heap.size + 1 ∧ n < w1.heap.size + 1 + 1 ∧ n < w1.heap.size + 1 + 1 + 1 ∧ n < w1.heap.size + 1 + 1 + 1 + 1 ∧ n < w1.heap.size + 1 + 1 + 1 + 1 + 1 := by
  have := hb.size
  omega
theorem bz4 {n : Nat} {W w1 : World} (hb : Below W.heap.size W w1) (h : n + 4 ≤ W.heap.size) :
    n < w1.heap.size ∧ n + 1 < w1.heap.size ∧ n + 1 + 1 < w1.heap.size ∧ n + 1 + 1 + 1 < w1.heap.size ∧ n ≤ w1.heap.size ∧ n + 1 ≤ w1.heap.size ∧ n + 1 + 1 ≤ w1.heap.size ∧ n + 1 + 1 + 1 ≤ w1.heap.size ∧ n ≤ w1.heap.size + 1 ∧ n ≤ w1.heap.size + 1 + 1 ∧ n ≤ w1.heap.size + 1 + 1 + 1 ∧ n ≤ w1.heap.size + 1 + 1 + 1 + 1 ∧ n ≤ w1.heap.size + 1 + 1 + 1 + 1 + 1 ∧ n < w1.heap.size + 1 ∧ n < w1.heap.size + 1 + 1 ∧ n < w1.heap.size + 1 + 1 + 1 ∧ n < w1.heap.size + 1 + 1 + 1 + 1 ∧ n < w1.heap.size + 1 + 1 + 1 + 1 + 1 := by
  have := hb.size
  omega
theorem bz5 {n : Nat} {W w1 : World} (hb : Below W.heap.size W w1) (h : n + 5 ≤ W.heap.size) :
    n < w1.heap.size ∧ n + 1 < w1.heap.size ∧ n + 1 + 1 < w1.heap.size ∧ n + 1 + 1 + 1 < w1.heap.size ∧ n + 1 + 1 + 1 + 1 < w1.heap.size ∧ n ≤ w1.heap.size ∧ n + 1 ≤ w1.heap.size ∧ n + 1 + 1 ≤ w1.heap.size ∧ n + 1 + 1 + 1 ≤ w1.heap.size ∧ n + 1 + 1 + 1 + 1 ≤ w1.heap.size ∧ n ≤ w1.heap.size + 1 ∧ n ≤ w1.heap.size + 1 + 1 ∧ n ≤ w1.heap.size + 1 + 1 + 1 ∧ n ≤ w1.heap.size + 1 + 1 + 1 + 1 ∧ n ≤ w1.heap.size + 1 + 1 + 1 + 1 + 1 ∧ n < w1.heap.size + 1 ∧ n < w1.heap.size + 1 + 1 ∧ n < w1.heap.size + 1 + 1 + 1 ∧ n < w1.heap.size + 1 + 1 + 1 + 1 ∧ n < w1.heap.size + 1 + 1 + 1 + 1 + 1 := by
  have := hb.size
  omega
theorem bz6 {n : Nat} {W w1 : World} (hb : Below W.heap.size W w1) (h : n + 6 ≤ W.heap.size) :
    n < w1.heap.size ∧ n + 1 < w1.heap.size ∧ n + 1 + 1 < w1.heap.size ∧ n + 1 + 1 + 1 < w1.heap.size ∧ n + 1 + 1 + 1 + 1 < w1.heap.size ∧ n + 1 + 1 + 1 + 1 + 1 < w1.heap.size ∧ n ≤ w1.heap.size ∧ n + 1 ≤ w1.heap.size ∧ n + 1 + 1 ≤ w1.heap.size ∧ n + 1 + 1 + 1 ≤ w1.heap.size ∧ n + 1 + 1 + 1 + 1 ≤ w1.heap.size ∧ n + 1 + 1 + 1 + 1 + 1 ≤ w1.heap.size ∧ n ≤ w1.heap.size + 1 ∧ n ≤ w1.heap.size + 1 + 1 ∧ n ≤ w1.heap.size + 1 + 1 + 1 ∧ n ≤ w1.heap.size + 1 + 1 + 1 + 1 ∧ n ≤ w1.heap.size + 1 + 1 + 1 + 1 + 1 ∧ n < w1.heap.size + 1 ∧ n < w1.heap.size + 1 + 1 ∧ n < w1.heap.size + 1 + 1 + 1 ∧ n < w1.heap.size + 1 + 1 + 1 + 1 ∧ n < w1.heap.size + 1 + 1 + 1 + 1 + 1 := by
  have := hb.size
  omega
theorem bz7 {n : Nat} {W w1 : World} (hb : Below W.heap.size W w1) (h : n + 7 ≤ W.heap.size) :
    n < w1.heap.size ∧ n + 1 < w1.heap.size ∧ n + 1 + 1 < w1.heap.size ∧ n + 1 + 1 + 1 < w1.heap.size ∧ n + 1 + 1 + 1 + 1 < w1.heap.size ∧ n + 1 + 1 + 1 + 1 + 1 < w1.heap.size ∧ n + 1 + 1 + 1 + 1 + 1 + 1 < w1.heap.size ∧ n ≤ w1.heap.size ∧ n + 1 ≤ w1.heap.size ∧ n + 1 + 1 ≤ w1.heap.size ∧ n + 1 + 1 + 1 ≤ w1.heap.size ∧ n + 1 + 1 + 1 + 1 ≤ w1.heap.size ∧ n + 1 + 1 + 1 + 1 + 1 ≤ w1.heap.size ∧ n + 1 + 1 + 1 + 1 + 1 + 1 ≤ w1.heap.size ∧ n ≤ w1.heap.size + 1 ∧ n ≤ w1.heap.size + 1 + 1 ∧ n ≤ w1.heap.size + 1 + 1 + 1 ∧ n ≤ w1.heap.size + 1 + 1 + 1 + 1 ∧ n ≤ w1.heap.size + 1 + 1 + 1 + 1 + 1 ∧ n < w1.heap.size + 1 ∧ n < w1.heap.size + 1 + 1 ∧ n < w1.heap.size + 1 + 1 + 1 ∧ n < w1.heap.size + 1 + 1 + 1 + 1 ∧ n < w1.heap.size + 1 + 1 + 1 + 1 + 1 := by
  have := hb.size
  omega
theorem bz8 {n : Nat} {W w1 : World} (hb : Below W.heap.size W w1) (h : n + 8 ≤ W.heap.size) :
    n < w1.heap.size ∧ n + 1 < w1.heap.size ∧ n + 1 + 1 < w1.heap.size ∧ n + 1 + 1 + 1 < w1.heap.size ∧ n + 1 + 1 + 1 + 1 < w1.heap.size ∧ n + 1 + 1 + 1 + 1 + 1 < w1.heap.size ∧ n + 1 + 1 + 1 + 1 + 1 + 1 < w1.heap.size ∧ n + 1 + 1 + 1 + 1 + 1 + 1 + 1 < w1.heap.size ∧ n ≤ w1.heap.size ∧ n + 1 ≤ w1.heap.size ∧ n + 1 + 1 ≤ w1.heap.size ∧ n + 1 + 1 + 1 ≤ w1.heap.size ∧ n + 1 + 1 + 1 + 1 ≤ w1.heap.size ∧ n + 1 + 1 + 1 + 1 + 1 ≤ w1.heap.size ∧ n + 1 + 1 + 1 + 1 + 1 + 1 ≤ w1.heap.size ∧ n + 1 + 1 + 1 + 1 + 1 + 1 + 1 ≤ w1.heap.size ∧ n ≤ w1.heap.size + 1 ∧ n ≤ w1.heap.size + 1 + 1 ∧ n ≤ w1.heap.size + 1 + 1 + 1 ∧ n ≤ w1.heap.size + 1 + 1 + 1 + 1 ∧ n ≤ w1.heap.size + 1 + 1 + 1 + 1 + 1 ∧ n < w1.heap.size + 1 ∧ n < w1.heap.size + 1 + 1 ∧ n < w1.heap.size + 1 + 1 + 1 ∧ n < w1.heap.size + 1 + 1 + 1 + 1 ∧ n < w1.heap.size + 1 + 1 + 1 + 1 + 1 := by
  have := hb.size
  omega
theorem bz9 {n : Nat} {W w1 : World} (hb : Below W.heap.size W w1) (h : n + 9 ≤ W.heap.size) :
    n < w1.heap.size ∧ n + 1 < w1.heap.size ∧ n + 1 + 1 < w1.heap.size ∧ n + 1 + 1 + 1 < w1.heap.size ∧ n + 1 + 1 + 1 + 1 < w1.heap.size ∧ n + 1 + 1 + 1 + 1 + 1 < w1.heap.size ∧ n + 1 + 1 + 1 + 1 + 1 + 1 < w1.heap.size ∧ n + 1 + 1 + 1 + 1 + 1 + 1 + 1 < w1.heap.size ∧ n + 1 + 1 + 1 + 1 + 1 + 1 + 1 + 1 < w1.heap.size ∧ n ≤ w1.heap.size ∧ n + 1 ≤ w1.heap.size ∧ n + 1 + 1 ≤ w1.heap.size ∧ n + 1 + 1 + 1 ≤ w1.heap.size ∧ n + 1 + 1 + 1 + 1 ≤ w1.heap.size ∧ n + 1 + 1 + 1 + 1 + 1 ≤ w1.heap.size ∧ n + 1 + 1 + 1 + 1 + 1 + 1 ≤ w1.heap.size ∧ n + 1 + 1 + 1 + 1 + 1 + 1 + 1 ≤ w1.heap.size ∧ n + 1 + 1 + 1 + 1 + 1 + 1 + 1 + 1 ≤ w1.heap.size ∧ n ≤ w1.heap.size + 1 ∧ n ≤ w1.heap.size + 1 + 1 ∧ n ≤ w1.heap.size + 1 + 1 + 1 ∧ n ≤ w1.heap.size + 1 + 1 + 1 + 1 ∧ n ≤ w1.heap.size + 1 + 1 + 1 + 1 + 1 ∧ n < w1.heap.size + 1 ∧ n < w1.heap.size + 1 + 1 ∧ n < w1.heap.size + 1 + 1 + 1 ∧ n < w1.heap.size + 1 + 1 + 1 + 1 ∧ n < w1.heap.size + 1 + 1 + 1 + 1 + 1 := by
  have := hb.size
  omega
theorem bz10 {n : Nat} {W w1 : World} (hb : Below W.heap.size W w1) (h : n + 10 ≤ W.heap.size) :
    n < w1.heap.size ∧ n + 1 < w1.heap.size ∧ n + 1 + 1 < w1.heap.size ∧ n + 1 + 1 + 1 < w1.heap.size ∧ n + 1 + 1 + 1 + 1 < w1.heap.size ∧ n + 1 + 1 + 1 + 1 + 1 < w1.heap.size ∧ n + 1 + 1 + 1 + 1 + 1 + 1 < w1.heap.size ∧ n + 1 + 1 + 1 + 1 + 1 + 1 + 1 < w1.heap.size ∧ n + 1 + 1 + 1 + 1 + 1 + 1 + 1 + 1 < w1.heap.size ∧ n + 1 + 1 + 1 + 1 + 1 + 1 + 1 + 1 + 1 < w1.heap.size ∧ n ≤ w1.heap.size ∧ n + 1 ≤ w1.heap.size ∧ n + 1 + 1 ≤ w1.heap.size ∧ n + 1 + 1 + 1 ≤ w1.heap.size ∧ n + 1 + 1 + 1 + 1 ≤ w1.heap.size ∧ n + 1 + 1 + 1 + 1 + 1 ≤ w1.heap.size ∧ n + 1 + 1 + 1 + 1 + 1 + 1 ≤ w1.heap.size ∧ n + 1 + 1 + 1 + 1 + 1 + 1 + 1 ≤ w1.heap.size ∧ n + 1 + 1 + 1 + 1 + 1 + 1 + 1 + 1 ≤ w1.heap.size ∧ n + 1 + 1 + 1 + 1 + 1 + 1 + 1 + 1 + 1 ≤ w1.heap.size ∧ n ≤ w1.heap.size + 1 ∧ n ≤ w1.heap.size + 1 + 1 ∧ n ≤ w1.heap.size + 1 + 1 + 1 ∧ n ≤ w1.heap.size + 1 + 1 + 1 + 1 ∧ n ≤ w1.heap.size + 1 + 1 + 1 + 1 + 1 ∧ n < w1.heap.size + 1 ∧ n < w1.heap.size + 1 + 1 ∧ n < w1.heap.size + 1 + 1 + 1 ∧ n < w1.heap.size + 1 + 1 + 1 + 1 ∧ n < w1.heap.size + 1 + 1 + 1 + 1 + 1 := by
  have := hb.size
  omega
theorem bz11 {n : Nat} {W w1 : World} (hb : Below W.heap.size W w1) (h : n + 11 ≤ W.heap.size) :
    n < w1.heap.size ∧ n + 1 < w1.heap.size ∧ n + 1 + 1 < w1.heap.size ∧ n + 1 + 1 + 1 < w1.heap.size ∧ n + 1 + 1 + 1 + 1 < w1.heap.size ∧ n + 1 + 1 + 1 + 1 + 1 < w1.heap.size ∧ n + 1 + 1 + 1 + 1 + 1 + 1 < w1.heap.size ∧ n + 1 + 1 + 1 + 1 + 1 + 1 + 1 < w1.heap.size ∧ n + 1 + 1 + 1 + 1 + 1 + 1 + 1 + 1 < w1.heap.size ∧ n + 1 + 1 + 1 + 1 + 1 + 1 + 1 + 1 + 1 < w1.heap.size ∧ n + 1 + 1 + 1 + 1 + 1 + 1 + 1 + 1 + 1 + 1 < w1.heap.size ∧ n ≤ w1.heap.size ∧ n + 1 ≤ w1.heap.size ∧ n + 1 + 1 ≤ w1.heap.size ∧ n + 1 + 1 + 1 ≤ w1.heap.size ∧ n + 1 + 1 + 1 + 1 ≤ w1.heap.size ∧ n + 1 + 1 + 1 + 1 + 1 ≤ w1.heap.size ∧ n + 1 + 1 + 1 + 1 + 1 + 1 ≤ w1.heap.size ∧ n + 1 + 1 + 1 + 1 + 1 + 1 + 1 ≤ w1.heap.size ∧ n + 1 + 1 + 1 + 1 + 1 + 1 + 1 + 1 ≤ w1.heap.size ∧ n + 1 + 1 + 1 + 1 + 1 + 1 + 1 + 1 + 1 ≤ w1.heap.size ∧ n + 1 + 1 + 1 + 1 + 1 + 1 + 1 + 1 + 1 + 1 ≤ w1.heap.size ∧ n ≤ w1.heap.size + 1 ∧ n ≤ w1.heap.size + 1 + 1 ∧ n ≤ w1.heap.size + 1 + 1 + 1 ∧ n ≤ w1.heap.size + 1 + 1 + 1 + 1 ∧ n ≤ w1.heap.size + 1 + 1 + 1 + 1 + 1 ∧ n < w1.heap.size + 1 ∧ n < w1.heap.size + 1 + 1 ∧ n < w1.heap.size + 1 + 1 + 1 ∧ n < w1.heap.size + 1 + 1 + 1 + 1 ∧ n < w1.heap.size + 1 + 1 + 1 + 1 + 1 := by
  have := hb.size
  omega
theorem bz12 {n : Nat} {W w1 : World} (hb : Below W.heap.size W w1) (h : n + 12 ≤ W.heap.size) :
    n < w1.heap.size ∧ n + 1 < w1.heap.size ∧ n + 1 + 1 < w1.heap.size ∧ n + 1 + 1 + 1 < w1.heap.size ∧ n + 1 + 1 + 1 + 1 < w1.heap.size ∧ n + 1 + 1 + 1 + 1 + 1 < w1.heap.size ∧ n + 1 + 1 + 1 + 1 + 1 + 1 < w1.heap.size ∧ n + 1 + 1 + 1 + 1 + 1 + 1 + 1 < w1.heap.size ∧ n + 1 + 1 + 1 + 1 + 1 + 1 + 1 + 1 < w1.heap.size ∧ n + 1 + 1 + 1 + 1 + 1 + 1 + 1 + 1 + 1 < w1.heap.size ∧ n + 1 + 1 + 1 + 1 + 1 + 1 + 1 + 1 + 1 + 1 < w1.heap.size ∧ n + 1 + 1 + 1 + 1 + 1 + 1 + 1 + 1 + 1 + 1 + 1 < w1.heap.size ∧ n ≤ w1.heap.size ∧ n + 1 ≤ w1.heap.size ∧ n + 1 + 1 ≤ w1.heap.size ∧ n + 1 + 1 + 1 ≤ w1.heap.size ∧ n + 1 + 1 + 1 + 1 ≤ w1.heap.size ∧ n + 1 + 1 + 1 + 1 + 1 ≤ w1.heap.size ∧ n + 1 + 1 + 1 + 1 + 1 + 1 ≤ w1.heap.size ∧ n + 1 + 1 + 1 + 1 + 1 + 1 + 1 ≤ w1.heap.size ∧ n + 1 + 1 + 1 + 1 + 1 + 1 + 1 + 1 ≤ w1.heap.size ∧ n + 1 + 1 + 1 + 1 + 1 + 1 + 1 + 1 + 1 ≤ w1.heap.size ∧ n + 1 + 1 + 1 + 1 + 1 + 1 + 1 + 1 + 1 + 1 ≤ w1.heap.size ∧ n + 1 + 1 + 1 + 1 + 1 + 1 + 1 + 1 + 1 + 1 + 1 ≤ w1.heap.size ∧ n ≤ w1.heap.size + 1 ∧ n ≤ w1.heap.size + 1 + 1 ∧ n ≤ w1.heap.size + 1 + 1 + 1 ∧ n ≤ w1.heap.size + 1 + 1 + 1 + 1 ∧ n ≤ w1.heap.size + 1 + 1 + 1 + 1 + 1 ∧ n < w1.heap.size + 1 ∧ n < w1.heap.size + 1 + 1 ∧ n < w1.heap.size + 1 + 1 + 1 ∧ n < w1.heap.size + 1 + 1 + 1 + 1 ∧ n < w1.heap.size + 1 + 1 + 1 + 1 + 1 := by
  have := hb.size
  omega

theorem bzz {W w1 : World} (hb : Below W.heap.size W w1) :
    ((∀ b, b < W.heap.size → b < w1.heap.size) ∧ (∀ b, b ≤ W.heap.size → b ≤ w1.heap.size) ∧ (∀ b, b ≤ W.heap.size → b ≤ w1.heap.size + 1) ∧ (∀ b, b ≤ W.heap.size → b ≤ w1.heap.size + 1 + 1) ∧ (∀ b, b ≤ W.heap.size → b ≤ w1.heap.size + 1 + 1 + 1) ∧ (∀ b, b ≤ W.heap.size → b ≤ w1.heap.size + 1 + 1 + 1 + 1)) ∧ W.heap.size ≤ w1.heap.size := by
  have := hb.size
  refine ⟨⟨?_, ?_, ?_, ?_, ?_, ?_⟩, this⟩ <;> intro b h <;> omega
theorem below_alloc {B : Nat} {a w : World} (h : Below B a w) (o : Obj) (hB : B ≤ w.heap.size) : Below B a (w.alloc o) := h.alloc hB o
theorem below_dN {B : Nat} {a w : World} (h : Below B a w) (n : Nat) : Below B a (w.drewN n) := ⟨h.os, h.tape, h.output, h.size, h.block⟩
theorem below_set {B : Nat} {a w : World} {p : Addr} (u : Value) (h : Below B a w) (hp : B ≤ p.block) : Below B a (w.setCell p u) := h.setCell hp u
theorem below_thenA {B : Nat} {a w w' : World} (h' : Below w.heap.size w w') (h : Below B a w) (hB : B ≤ w.heap.size) : Below B a w' := h.trans (h'.mono hB)
theorem below_then {B : Nat} {a w w' : World} (h : Below B a w) (h' : Below w.heap.size w w') (hB : B ≤ w.heap.size) : Below B a w' := h.trans (h'.mono hB)
theorem ret_int {k : IntKind} {a b : Int} (h : a = b) : Ending.returned (.int k a) = .returned (.int k b) := by rw [h]
theorem u64n (n : Int) : 0 ≤ IntKind.u64.wrap n := wrap_u64_nonneg n

theorem add64 (x y c : Int) (hx : 0 ≤ x) (hy : 0 ≤ y) (hc0 : 0 ≤ c) (hc : c ≤ 1) (w : World) : (callFunc 114 #[.int .u64 x, .int .u64 y, .int .u64 c]).run Tryd.prog w =
    .ok (.value (.tuple #[.int .u64 ((x + y + c) % 18446744073709551616), .int .u64 ((x + y + c) / 18446744073709551616)])) w := by
  rw [run_callFunc_extern Tryd.func114 (by kernel_rfl) (by kernel_rfl) (by kernel_rfl) (e := add64Entry) (by kernel_rfl), run_add64 x y c hx hy hc0 hc]
  rfl
theorem add64_0 (x y : Int) (hx : 0 ≤ x) (hy : 0 ≤ y) (w : World) : (callFunc 114 #[.int .u64 x, .int .u64 y, .int .u64 0]).run Tryd.prog w =
    .ok (.value (.tuple #[.int .u64 ((x + y) % 18446744073709551616), .int .u64 ((x + y) / 18446744073709551616)])) w := by
  simpa using add64 x y 0 hx hy (Int.le_refl 0) (by decide) w
theorem add64_x0 (x c : Int) (hx : 0 ≤ x) (hc0 : 0 ≤ c) (hc : c ≤ 1) (w : World) : (callFunc 114 #[.int .u64 x, .int .u64 0, .int .u64 c]).run Tryd.prog w =
    .ok (.value (.tuple #[.int .u64 ((x + c) % 18446744073709551616), .int .u64 ((x + c) / 18446744073709551616)])) w := by
  simpa using add64 x 0 c hx (Int.le_refl 0) hc0 hc w

theorem u64_not (l : Int) (h0 : 0 ≤ l) (h1 : l ≤ 18446744073709551615) : bits .xor .u64 18446744073709551615 l = 18446744073709551615 - l := by
  obtain ⟨a, rfl⟩ := Int.eq_ofNat_of_zero_le h0
  show IntKind.u64.wrap ((BitVec.ofInt 64 18446744073709551615 ^^^ BitVec.ofInt 64 (a : Int)).toNat : Int) = _
  have h1 : BitVec.ofInt 64 18446744073709551615 = BitVec.allOnes 64 := by decide
  rw [h1, BitVec.allOnes_xor, BitVec.toNat_not, ofInt_u64 a (by omega)]
  simp [IntKind.wrap, IntKind.bits, IntKind.signed]
  omega
theorem u64le (n : Int) : IntKind.u64.wrap n ≤ 18446744073709551615 := by rw [IntKind.wrap_u64]; omega
/-- The two parts of a wide number. -/
def Wd (hi lo n : Int) : Prop := -9223372036854775808 ≤ hi ∧ hi ≤ 9223372036854775807 ∧ 0 ≤ lo ∧ lo ≤ 18446744073709551615 ∧ n = hi * 18446744073709551616 + lo
/-- Is it a wide number? -/
def WFit (n : Int) : Prop := -170141183460469231731687303715884105728 ≤ n ∧ n < 170141183460469231731687303715884105728
theorem Wd.fit {hi lo n : Int} (h : Wd hi lo n) : WFit n := by unfold Wd at h; unfold WFit; omega
theorem Wd.of {n : Int} (h : WFit n) : Wd (n / 18446744073709551616) (n % 18446744073709551616) n := by unfold WFit at h; unfold Wd; omega
theorem Wd.eq {hi lo n : Int} (h : Wd hi lo n) : hi = n / 18446744073709551616 ∧ lo = n % 18446744073709551616 := by unfold Wd at h; omega
def wv (n : Int) : Value := .agg #[.int .i64 (n / 18446744073709551616), .int .u64 (n % 18446744073709551616)]
theorem wv_eq {h l n : Int} (e1 : h = n / 18446744073709551616) (e2 : l = n % 18446744073709551616) : Value.agg #[.int .i64 h, .int .u64 l] = wv n := by rw [e1, e2]; rfl
end Go.Proofs.YtmkblfejoniccaaDoor
namespace Go.Proofs.YtmkblfejoniccaaDoor
open Go.ChangeShapes Go.WideShapes Go.ChangeAt Go.RowKit
section
variable {H : Type} {enc : TypeId × Value → H} {P : Program}
theorem post_below {f : Func} {s : ChangeSpec} {apart fresh handsOn : Bool} {W W' : World} {args : Array Value} {v : Value} {ds gs : List (DataW H)} {before pa pv : List MemPlace}
    (hW : DataW.Whole enc P f.params.toList s.vars apart W args.toList ds gs before)
    (hres : ∀ (b : Nat) (sp : Nat → Bool) (hd : Bool), DataW.TrodAll enc P W' b sp hd f.resultTypes.toList (v.resultList f.resultTypes.size) (s.fn H (ds ++ gs)).results [])
    (hargs : ∀ sp : Nat → Bool, (∀ p ∈ before, sp p.block = true) → DataW.TrodAll enc P W' 0 sp true f.params.toList args.toList (s.fn H (ds ++ gs)).args pa)
    (hvars : ∀ sp : Nat → Bool, (∀ p ∈ before, sp p.block = true) → DataW.TrodVars enc P W' sp s.vars (s.fn H (ds ++ gs)).vars pv)
    (hps : before = pa ++ pv) (hb : Below W.heap.size W W') :
    s.post enc P f apart fresh handsOn false W args v W' := by
  have hold : ∀ p ∈ before, (fun b => decide (b < W.heap.size)) p.block = true := fun p hp => by simpa using hW.lt p hp
  refine ⟨ds, gs, before, [], pa, pv, hW, hres _ _ _, hargs _ hold, hvars _ hold, World.keptBut_mono (fun p hp => ⟨hp, ?_⟩) (hb.frame _), fun h => by cases h⟩
  rw [hps, List.mem_append] at hp
  exact Or.inr hp
end
theorem fit_of_wf {x : Int} (h : (Lit.int .i64 x).wf = true) : -9223372036854775808 ≤ x ∧ x ≤ 9223372036854775807 := by
  simp [Lit.wf, IntKind.min, IntKind.max, IntKind.signed, IntKind.bits] at h
  exact ⟨by omega, by omega⟩
theorem fitu_of_wf {x : Int} (h : (Lit.int .u64 x).wf = true) : 0 ≤ x ∧ x ≤ 18446744073709551615 := by
  simp [Lit.wf, IntKind.min, IntKind.max, IntKind.signed, IntKind.bits] at h
  exact ⟨by omega, by omega⟩
theorem wd_of_wf {h l : Int} (w0 : (Lit.int .i64 h).wf = true) (w1 : (Lit.int .u64 l).wf = true) : Wd h l (h * 18446744073709551616 + l) := by
  have a := fit_of_wf w0
  have b := fitu_of_wf w1
  exact ⟨a.1, a.2, b.1, b.2, rfl⟩
end Go.Proofs.YtmkblfejoniccaaDoor
namespace Go.Proofs.YtmkblfejoniccaaDoor
open Go.RowKit
set_option linter.unusedSimpArgs false
set_option linter.unusedVariables false

/-- The block holds these cells. -/
def Blk (w : World) (b : Nat) (cs : Array Value) (T : TypeId) : Prop := w.heap[b]? = some (Obj.cells cs T (0, 0))
theorem Blk.cell {w : World} {b : Nat} {cs : Array Value} {T : TypeId} (h : Blk w b cs T) (i : Nat) (v : Value) (hv : cs[i]? = some v) : w.cell? ⟨b, i, none⟩ = some v := by rw [cell_of_row w b i _ _ _ h]; exact hv
theorem Blk.free {w : World} {b : Nat} {cs : Array Value} {T : TypeId} (h : Blk w b cs T) (i : Nat) : w.frozen? ⟨b, i, none⟩ = false := by simp [World.frozen?, show w.heap[b]? = _ from h]
theorem Blk.lt {w : World} {b : Nat} {cs : Array Value} {T : TypeId} (h : Blk w b cs T) : b < w.heap.size := (Array.getElem?_eq_some_iff.1 h).1
theorem Blk.new (w : World) (cs : Array Value) (T : TypeId) (b : Nat) (hb : b = w.heap.size) : Blk (w.alloc (.cells cs T)) b cs T := by subst hb; exact heap_alloc_new w _
theorem Blk.alloc {w : World} {b : Nat} {cs : Array Value} {T : TypeId} (h : Blk w b cs T) (o : Obj) : Blk (w.alloc o) b cs T := (Below.heap_alloc w o _ h.lt).trans h
theorem Blk.drew {w : World} {b : Nat} {cs : Array Value} {T : TypeId} (h : Blk w b cs T) : Blk w.drew b cs T := h
theorem Blk.drewN {w : World} {b : Nat} {cs : Array Value} {T : TypeId} (h : Blk w b cs T) (n : Nat) : Blk (w.drewN n) b cs T := h
theorem Blk.below {w w' : World} {b : Nat} {cs : Array Value} {T : TypeId} (h : Blk w b cs T) (hb : Below w.heap.size w w') : Blk w' b cs T := (hb.block b h.lt).trans h
theorem Blk.set {w : World} {b : Nat} {cs : Array Value} {T : TypeId} (h : Blk w b cs T) (i : Nat) (u : Value) : Blk (w.setCell ⟨b, i, none⟩ u) b (cs.setIfInBounds i u) T := by
  unfold Blk at *
  simp only [World.setCell, Array.getElem?_modify, if_true, h]
  rfl
theorem Blk.other {w : World} {b c : Nat} {cs : Array Value} {T : TypeId} (h : Blk w b cs T) (hc : b ≠ c) (i : Nat) (u : Value) : Blk (w.setCell ⟨c, i, none⟩ u) b cs T := by
  unfold Blk at *
  rw [Below.heap_setCell _ _ _ _ hc]; exact h
/-- Of what stood, block b alone may have turned. -/
structure But (b : Nat) (w w' : World) : Prop where
  os : w'.os = w.os
  tape : w'.tape = w.tape
  output : w'.output = w.output
  size : w.heap.size ≤ w'.heap.size
  block : ∀ k, k < w.heap.size → k ≠ b → w'.heap[k]? = w.heap[k]?
theorem But.of {b : Nat} {w w' : World} (h : Below w.heap.size w w') : But b w w' := ⟨h.os, h.tape, h.output, h.size, fun k hk _ => h.block k hk⟩
theorem But.trans {b : Nat} {u v w : World} (h : But b u v) (k : But b v w) : But b u w :=
  ⟨k.os.trans h.os, k.tape.trans h.tape, k.output.trans h.output, Nat.le_trans h.size k.size, fun i hi hne => (k.block i (Nat.lt_of_lt_of_le hi h.size) hne).trans (h.block i hi hne)⟩
theorem But.set {b : Nat} (w : World) (i : Nat) (u : Value) : But b w (w.setCell ⟨b, i, none⟩ u) :=
  ⟨rfl, rfl, rfl, by simp [World.setCell], fun k hk hne => Below.heap_setCell _ _ _ _ hne⟩
theorem But.to {b B : Nat} {w0 w w' : World} (h : But b w w') (h0 : Below B w0 w) (hb : B ≤ b) (hB : B ≤ w.heap.size) : Below B w0 w' :=
  h0.trans ⟨h.os, h.tape, h.output, h.size, fun k hk => h.block k (by omega) (by omega)⟩
theorem Blk.but {w w' : World} {b c : Nat} {cs : Array Value} {T : TypeId} (h : Blk w b cs T) (hb : But c w w') (hc : b ≠ c) : Blk w' b cs T := (hb.block b h.lt hc).trans h
/-- What is set behind a But is a But, where the block is new. -/
theorem But.setNew {b g : Nat} {w w' : World} (h : But b w w') (hg : w.heap.size ≤ g) (i : Nat) (u : Value) : But b w (w'.setCell ⟨g, i, none⟩ u) :=
  ⟨h.os, h.tape, h.output, by simp [World.setCell]; exact h.size, fun k hk hne => (Below.heap_setCell _ _ _ _ (show k ≠ g by omega)).trans (h.block k hk hne)⟩
/-- A slice of ints that came in. -/
def SliceI (k : IntKind) (w : World) (g off n cap : Nat) (xs : List Int) : Prop :=
  xs.length = cap ∧ n ≤ cap ∧ cap ≤ maxLen ∧ g < w.heap.size ∧ (∀ i, i < cap → w.cell? ⟨g, off + i, none⟩ = some (.int k (xs.getD i 0))) ∧ ∀ x, x ∈ xs → (Lit.int k x).wf = true
def SlV (k : IntKind) (w : World) (v : Value) : Prop := v = .slice none 0 0 ∨ ∃ (g off n cap : Nat) (xs : List Int), v = .slice (some ⟨g, off, none⟩) n cap ∧ SliceI k w g off n cap xs
/-- Blocks by a list; worlds in which of what stood those of a list alone may have turned. -/
def BlkL (w : World) (L : List (Nat × Array Value × TypeId)) : Prop := ∀ e, e ∈ L → Blk w e.1 e.2.1 e.2.2
structure ButL (l : List Nat) (w w' : World) : Prop where
  os : w'.os = w.os
  tape : w'.tape = w.tape
  output : w'.output = w.output
  size : w.heap.size ≤ w'.heap.size
  block : ∀ k, k < w.heap.size → k ∉ l → w'.heap[k]? = w.heap[k]?
theorem ButL.of {l : List Nat} {w w' : World} (h : Below w.heap.size w w') : ButL l w w' := ⟨h.os, h.tape, h.output, h.size, fun k hk _ => h.block k hk⟩
theorem ButL.trans {l : List Nat} {u v w : World} (h : ButL l u v) (k : ButL l v w) : ButL l u w :=
  ⟨k.os.trans h.os, k.tape.trans h.tape, k.output.trans h.output, Nat.le_trans h.size k.size, fun i hi hne => (k.block i (Nat.lt_of_lt_of_le hi h.size) hne).trans (h.block i hi hne)⟩
theorem ButL.set {l : List Nat} {b : Nat} (w : World) (i : Nat) (u : Value) (hb : b ∈ l) : ButL l w (w.setCell ⟨b, i, none⟩ u) :=
  ⟨rfl, rfl, rfl, by simp [World.setCell], fun k hk hne => Below.heap_setCell _ _ _ _ (fun e => hne (by rw [e]; exact hb))⟩
theorem ButL.to {l : List Nat} {B : Nat} {w0 w w' : World} (h : ButL l w w') (h0 : Below B w0 w) (hb : ∀ b, b ∈ l → B ≤ b) (hB : B ≤ w.heap.size) : Below B w0 w' :=
  h0.trans ⟨h.os, h.tape, h.output, h.size, fun k hk => h.block k (by omega) (fun hm => by have := hb k hm; omega)⟩
theorem Blk.butl {w w' : World} {l : List Nat} {b : Nat} {cs : Array Value} {T : TypeId} (h : Blk w b cs T) (hb : ButL l w w') (hc : b ∉ l) : Blk w' b cs T := (hb.block b h.lt hc).trans h
theorem ButL.setNew {l : List Nat} {g : Nat} {w w' : World} (h : ButL l w w') (hg : w.heap.size ≤ g) (i : Nat) (u : Value) : ButL l w (w'.setCell ⟨g, i, none⟩ u) :=
  ⟨h.os, h.tape, h.output, by simp [World.setCell]; exact h.size, fun k hk hne => (Below.heap_setCell _ _ _ _ (show k ≠ g by omega)).trans (h.block k hk hne)⟩
end Go.Proofs.YtmkblfejoniccaaDoor
namespace Go.Proofs.YtmkblfejoniccaaDoor
open Go.ChangeShapes Go.WideShapes Go.ChangeAt Go.RowKit Go.Joins Go.Deep
set_option linter.unusedVariables false
section
variable {H : Type} {enc : TypeId × Value → H} {P : Program}
theorem trodAll_carry {w w' : World} {base : Nat} {spare : Nat → Bool} {held : Bool} : ∀ {ts : List TypeId} {vs : List Value} {ds : List (DataW H)} {ps : List MemPlace},
    DataW.TrodAll enc P w base spare held ts vs ds ps → (∀ p ∈ ps, w.sameAt w' p) → DataW.TrodAll enc P w' base spare held ts vs ds ps
  | [], [], [], _, h, _ => h
  | _ :: _, _ :: _, _ :: _, _, ⟨p, q, ⟨n, h1⟩, h2, e⟩, hs =>
    ⟨p, q, ⟨n, DataW.trod_carry n _ _ _ h1 fun x hx => hs x (by rw [e]; exact List.mem_append_left _ hx)⟩, trodAll_carry h2 fun x hx => hs x (by rw [e]; exact List.mem_append_right _ hx), e⟩
/-- Behind a walk of a law: true; the arguments read as they did. -/
theorem post_law (hl : laidOutB P = true) (hm : mapsRowed P = true) (hz : ∀ t e, t < P.types.size → P.underlying t = some (.slice e) → 0 < P.cellsOf e)
    {f : Func} {s : ChangeSpec} {tb : TypeId} {W W' : World} {args : Array Value} {ds : List (DataW H)} {before : List MemPlace}
    (hW : DataW.Whole enc P f.params.toList s.vars false W args.toList ds [] before) (hv : s.vars = []) (ht : ∀ t ∈ f.params.toList, t < P.types.size)
    (hr : f.resultTypes = #[tb]) (hb : P.underlying tb = some .bool) (hf : s.fn H (ds ++ []) = { results := [.lit (.bool true)], args := ds }) (hB : Below W.heap.size W W') :
    s.post enc P f false true false false W args (.bool true) W' := by
  have hlt := hW.lt
  obtain ⟨p, q, hA, hV, rfl, hfz, hnd⟩ := hW
  rw [hv] at hV
  obtain ⟨_, rfl⟩ := trodVars_none hV
  rw [List.append_nil] at hlt hfz
  refine post_below (ds := ds) (gs := []) (pa := p) (pv := []) ⟨p, [], hA, by rw [hv]; rfl, rfl, by rw [List.append_nil]; exact hfz, hnd⟩ ?_ ?_ ?_ rfl hB
  · intro b sp hd
    rw [hf, hr]
    exact trodAll_cons_mk (shut_bool hb _) trodAll_mk0
  · intro sp hsp
    rw [hf]
    refine trodAll_carry (DataW.TrodAll.respare (kids_rows hl hm) hz ht hA fun x hx => hsp x (by rw [List.append_nil]; exact hx)) fun x hx => ?_
    exact hB.same (hlt x hx)
  · intro sp _
    rw [hf, hv]
    rfl
end
section
variable {H : Type} {enc : TypeId × Value → H} {P : Program} {w : World} {base : Nat} {spare : Nat → Bool} {held : Bool}
/-- A struct of one-cell fields, by value: each field by its own reading. -/
theorem open_flat {r : Reach} {b0 : Nat} {t : TypeId} {fs : Array Field} {v : Value} {d : DataW H} {p : List MemPlace} (hs : P.underlying t = some (.struct fs)) (hone : oneCellFields P fs = true) (hC : P.cellsOf t = fs.size)
    (hv : Value.okWide P w r b0 t v) (h : DataW.Trod enc P w base spare held t v d p) :
    ∃ l : List Value, v = .agg l.toArray ∧ l.length = fs.size ∧ ∀ (i : Nat) (f : Field), fs[i]? = some f → ∃ u y n, l[i]? = some u ∧ DataW.trod enc P w base spare held n f.type [u] = some y := by
  obtain ⟨⟨l⟩, rfl, hsz⟩ := okWide_struct hs hv
  obtain ⟨fuel, hf⟩ := h
  obtain ⟨xs, n, _, _, _, hlen, hg⟩ := DataW.trod_struct hs hf
  refine ⟨l, rfl, by rw [← hC, ← hsz]; rfl, fun i f hi => ?_⟩
  obtain ⟨ho, hk⟩ := hone_of hone i f hi
  have h1 := hg i f hi
  have hil : i < fs.size := (Array.getElem?_eq_some_iff.1 hi).1
  have hll : i < l.length := by rw [hC] at hsz; simp at hsz; omega
  have hxl : i < xs.length := by omega
  rw [ho, hk] at h1
  have e : (l.drop i).take 1 = [l[i]] := by rw [List.drop_eq_getElem_cons hll]; rfl
  rw [show (Value.agg { toList := l }).cells.toList = l from rfl, e, List.getElem?_eq_getElem hxl] at h1
  exact ⟨l[i], xs[i], n, List.getElem?_eq_getElem hll, h1⟩
/-- An array of structs of one-cell fields, by value: each field by its own reading. -/
theorem open_arr_flat {r : Reach} {b0 n : Nat} {t e : TypeId} {fs : Array Field} {v : Value} {d : DataW H} {p : List MemPlace} (hs : P.underlying t = some (.array n e)) (he : P.underlying e = some (.struct fs)) (hone : oneCellFields P fs = true) (hE : P.cellsOf e = fs.size) (hC : P.cellsOf t = n * fs.size)
    (hv : Value.okWide P w r b0 t v) (h : DataW.Trod enc P w base spare held t v d p) :
    ∃ l : List Value, v = .agg l.toArray ∧ l.length = n * fs.size ∧ ∀ (i j : Nat) (f : Field), i < n → fs[j]? = some f → ∃ u y m, l[i * fs.size + j]? = some u ∧ DataW.trod enc P w base spare held m f.type [u] = some y := by
  simp only [Value.okWide, hs] at hv
  obtain ⟨⟨l⟩, rfl, hsz, _⟩ := hv
  obtain ⟨fuel, hf⟩ := h
  obtain ⟨xs, m, _, _, _, hxl, hg⟩ := DataW.trod_array hs hf
  have hl : l.length = n * fs.size := by rw [← hC, ← hsz]; rfl
  refine ⟨l, rfl, hl, fun i j f hi hj => ?_⟩
  have hjl : j < fs.size := (Array.getElem?_eq_some_iff.1 hj).1
  have h1 := hg i hi
  rw [List.getElem?_eq_getElem (by omega), show (Value.agg { toList := l }).cells.toList = l from rfl, hE] at h1
  obtain ⟨ys, m', _, _, _, hyl, hg2⟩ := DataW.trod_struct he h1
  have h2 := hg2 j f hj
  obtain ⟨ho, hk⟩ := hone_of hone j f hj
  have hin : i * fs.size + j < l.length := by
    rw [hl]
    have : (i + 1) * fs.size ≤ n * fs.size := Nat.mul_le_mul_right _ hi
    rw [Nat.add_mul] at this
    omega
  rw [ho, hk, List.getElem?_eq_getElem (show j < ys.length by omega)] at h2
  have e : (((l.drop (i * fs.size)).take fs.size).drop j).take 1 = [l[i * fs.size + j]] := by
    rw [List.drop_take, List.take_take, List.drop_drop, show min 1 (fs.size - j) = 1 by omega, List.drop_eq_getElem_cons hin]
    rfl
  rw [e] at h2
  exact ⟨_, _, m', List.getElem?_eq_getElem hin, h2⟩
theorem flat_int {t : TypeId} {k : IntKind} (ht : P.underlying t = some (.int k)) {l : List Value} {i : Nat} (h : ∃ u y n, l[i]? = some u ∧ DataW.trod enc P w base spare held n t [u] = some y) :
    ∃ a : Int, l[i]? = some (.int k a) ∧ (Lit.int k a).wf = true := by
  obtain ⟨u, y, n, h1, h2⟩ := h
  obtain ⟨a, e, _, hw⟩ := DataW.trod_int ht h2
  obtain rfl : u = .int k a := by simpa using e
  exact ⟨a, h1, hw⟩
theorem flat_bool {t : TypeId} (ht : P.underlying t = some .bool) {l : List Value} {i : Nat} (h : ∃ u y n, l[i]? = some u ∧ DataW.trod enc P w base spare held n t [u] = some y) :
    ∃ a : Bool, l[i]? = some (.bool a) := by
  obtain ⟨u, y, n, h1, h2⟩ := h
  obtain ⟨a, e, _⟩ := DataW.trod_bool ht h2
  obtain rfl : u = .bool a := by simpa using e
  exact ⟨a, h1⟩
theorem flat_string {t : TypeId} (ht : P.underlying t = some .string) {l : List Value} {i : Nat} (h : ∃ u y n, l[i]? = some u ∧ DataW.trod enc P w base spare held n t [u] = some y) :
    ∃ a : ByteArray, l[i]? = some (.string a) ∧ a.size ≤ maxLen := by
  obtain ⟨u, y, n, h1, h2⟩ := h
  obtain ⟨a, e, _, hm⟩ := DataW.trod_string ht h2
  obtain rfl : u = .string a := by simpa using e
  exact ⟨a, h1, hm⟩
end
theorem open_sl {H : Type} {enc : TypeId × Value → H} {P : Program} {w : World} {r : Reach} {b0 base : Nat} {spare : Nat → Bool} {held : Bool} {t e : TypeId} {k : IntKind} {v : Value} {d : DataW H} {p : List MemPlace} (ht : P.underlying t = some (.slice e)) (he : P.underlying e = some (.int k)) (hc : P.cellsOf e = 1)
    (hsp : spare = fun _ => true) (hv : Value.okWide P w r b0 t v) (h : DataW.Trod enc P w base spare held t v d p) : SlV k w v := by
  obtain ⟨fuel, hf⟩ := h
  have hv' := hv
  simp only [Value.okWide, ht] at hv'
  obtain ⟨a, l, c, rfl⟩ := okWide_slice ht hv
  rcases open_ints ht he hc hf with ⟨hcs, _⟩ | ⟨a', len, cap, zs, hcs, _, hl, hm, hz, _, hcell, hwz⟩
  · left
    have : (Value.slice a l c).cells.toList = [.slice a l c] := rfl
    rw [this] at hcs
    simpa using hcs
  · have : (Value.slice a l c).cells.toList = [.slice a l c] := rfl
    rw [this] at hcs
    obtain ⟨rfl, rfl, rfl⟩ : a = some a' ∧ l = len ∧ c = cap := by simpa using hcs
    simp only [Cell.okWide, Cell.ok, ht] at hv'
    obtain ⟨_, _, _, hspot, row, cells, hshape, _⟩ := hv'
    obtain ⟨g, off, spot⟩ := a'
    simp only at hspot hshape
    subst hspot
    have hg : g < w.heap.size := by
      rcases Nat.lt_or_ge g w.heap.size with h | h
      · exact h
      · unfold World.shape? at hshape
        rw [Array.getElem?_eq_none h] at hshape
        cases hshape
    right
    rw [hsp] at hz
    simp only [if_true] at hz
    refine ⟨g, off, l, c, zs, rfl, hz, hl, hm, hg, fun i hi => ?_, hwz⟩
    have := hcell i (by omega)
    have hadd : (⟨g, off, none⟩ : Addr).add i = ⟨g, off + i, none⟩ := by unfold Addr.add; split <;> simp_all
    rwa [hadd] at this
def listAt (l : List Value) : Nat → List Value → Prop
  | _, [] => True
  | k, x :: xs => l[k]? = some x ∧ listAt l (k + 1) xs
theorem list_end {l : List Value} {k : Nat} : listAt l k [] := trivial
theorem list_step {l : List Value} {k : Nat} {x : Value} {xs : List Value} (h : l[k]? = some x) (hs : listAt l (k + 1) xs) : listAt l k (x :: xs) := ⟨h, hs⟩
theorem listAt.get {l : List Value} : ∀ {xs : List Value} {k : Nat}, listAt l k xs → ∀ i, i < xs.length → l[k + i]? = xs[i]?
  | x :: xs, k, h, i, hi => by
    cases i with
    | zero => simpa using h.1
    | succ i =>
      have := listAt.get h.2 i (by simpa using hi)
      rw [List.getElem?_cons_succ, ← this]; congr 1; omega
theorem list_by {l xs : List Value} {n : Nat} (hl : l.length = n) (h : listAt l 0 xs) (hn : xs.length = n := by rfl) : l = xs := by
  apply List.ext_getElem?
  intro i
  by_cases hi : i < xs.length
  · have := h.get i hi; rwa [Nat.zero_add] at this
  · rw [List.getElem?_eq_none (by omega), List.getElem?_eq_none (by omega)]
theorem u32_of_wf {x : Int} (h : (Lit.int .u32 x).wf = true) : 0 ≤ x ∧ x ≤ 4294967295 := by
  simp [Lit.wf, IntKind.min, IntKind.max, IntKind.signed, IntKind.bits] at h
  exact ⟨by omega, by omega⟩
theorem u16_of_wf {x : Int} (h : (Lit.int .u16 x).wf = true) : 0 ≤ x ∧ x ≤ 65535 := by
  simp [Lit.wf, IntKind.min, IntKind.max, IntKind.signed, IntKind.bits] at h
  exact ⟨by omega, by omega⟩
theorem u8_of_wf {x : Int} (h : (Lit.int .u8 x).wf = true) : 0 ≤ x ∧ x ≤ 255 := by
  simp [Lit.wf, IntKind.min, IntKind.max, IntKind.signed, IntKind.bits] at h
  exact ⟨by omega, by omega⟩
theorem i32_of_wf {x : Int} (h : (Lit.int .i32 x).wf = true) : -2147483648 ≤ x ∧ x ≤ 2147483647 := by
  simp [Lit.wf, IntKind.min, IntKind.max, IntKind.signed, IntKind.bits] at h
  exact ⟨by omega, by omega⟩
theorem slices_full : ∀ t e, t < Tryd.prog.types.size → Tryd.prog.underlying t = some (.slice e) → 0 < Tryd.prog.cellsOf e := slices_full_of Tryd.prog (by kernel_rfl)
end Go.Proofs.YtmkblfejoniccaaDoor
namespace Go.Proofs.YtmkblfejoniccaaDoor
open Go.RowKit

set_option maxHeartbeats 400000 in
theorem mul64_any (x y : Nat) (hx : x < 18446744073709551616) (hy : y < 18446744073709551616) (w : World) :
    Calls Tryd.prog 112 #[.int .u64 x, .int .u64 y] w fun e w' => e = .returned (.tuple #[.int .u64 ((x * y / 18446744073709551616 : Nat) : Int), .int .u64 ((x * y % 18446744073709551616 : Nat) : Int)]) ∧ w = w' := by
  obtain ⟨bd, bt, bw, hhi⟩ := Lib.mul64_hi x y hx hy
  have ba := Lib.half_mul_le (a := x / 4294967296) (b := y / 4294967296) (by omega) (by omega)
  have bb := Lib.half_mul_le (a := x / 4294967296) (b := y % 4294967296) (by omega) (by omega)
  have bc := Lib.half_mul_le (a := x % 4294967296) (b := y / 4294967296) (by omega) (by omega)
  have ba' : x / 4294967296 * (y / 4294967296) < 18446744073709551616 := by omega
  have bb' : x / 4294967296 * (y % 4294967296) < 18446744073709551616 := by omega
  have bc' : x % 4294967296 * (y / 4294967296) < 18446744073709551616 := by omega
  have bh1 : x / 4294967296 * (y / 4294967296) + (x / 4294967296 * (y % 4294967296) + x % 4294967296 * (y % 4294967296) / 4294967296) / 4294967296 < 18446744073709551616 := by omega
  have bh : x / 4294967296 * (y / 4294967296) + (x / 4294967296 * (y % 4294967296) + x % 4294967296 * (y % 4294967296) / 4294967296) / 4294967296 + ((x / 4294967296 * (y % 4294967296) + x % 4294967296 * (y % 4294967296) / 4294967296) % 4294967296 + x % 4294967296 * (y / 4294967296)) / 4294967296 < 18446744073709551616 := by omega
  go_enter Tryd.func112, Tryd.ntmps112
  go_wp2
  simp only [Mul64.maskN x hx, Mul64.maskN y hy, Mul64.divN, Mul64.mulN, Mul64.addN, Mul64.wrapN _ bd, Mul64.wrapN _ bb', Mul64.wrapN _ bt, Mul64.maskN _ bt, Mul64.wrapN _ bc', Mul64.wrapN _ bw, Mul64.wrapN _ ba', Mul64.wrapN _ bh1, Mul64.wrapN _ bh, Mul64.wrapM (x * y)]
  rw [hhi]
  go_ret2
  exact ⟨rfl, rfl⟩

theorem wide_of (n : Int) (h1 : -9223372036854775808 ≤ n) (h2 : n ≤ 9223372036854775807) (w : World) :
    Calls Tryd.prog 100 #[.int .i64 n] w fun e w' => e = .returned (.agg #[.int .i64 (n / 18446744073709551616), .int .u64 (n % 18446744073709551616)]) ∧ Below w.heap.size w w' := by
  go_enter Tryd.func100, Tryd.ntmps100
  go_wp2
  simp [bodyPost, results, Tryd.results100, go_sem]
  exact ⟨⟨by omega, by rw [IntKind.wrap_u64]⟩, (by repeat' (first | (with_reducible exact Below.refl _ _) | (with_reducible assumption) | (with_reducible refine below_alloc ?_ _ ?_) | (with_reducible refine below_set _ ?_ ?_) | (with_reducible refine Below.drew ?_) | (with_reducible refine below_dN ?_ _) | (apply below_thenA; assumption) | omega | (simp; done) | (simp; omega) | (simp [*]; done)))⟩

/-- What Add and Neg answer. -/
def WAns (n : Int) (B : Nat) (w : World) (e : Ending) (w' : World) : Prop :=
  (WFit n → e = .returned (.tuple #[.agg #[.int .i64 (n / 18446744073709551616), .int .u64 (n % 18446744073709551616)], .bool true])) ∧ (¬ WFit n → e = .returned (.tuple #[.agg #[.int .i64 0, .int .u64 0], .bool false])) ∧ Below B w w'
def cmp3 (a b : Int) : Int := if a < b then -1 else if b < a then 1 else 0
theorem ret_wb {h l h' l' : Int} {b : Bool} (e1 : h = h') (e2 : l = l') : Ending.returned (.tuple #[.agg #[.int .i64 h, .int .u64 l], .bool b]) = .returned (.tuple #[.agg #[.int .i64 (h'), .int .u64 (l')], .bool b]) := by rw [e1, e2]
theorem not_dec {p q : Prop} [Decidable p] [Decidable q] : ((!decide p == decide q) = true) ↔ (¬ p ↔ q) := by
  by_cases p <;> by_cases q <;> simp [*]
theorem not_dec' {p q : Prop} [Decidable p] [Decidable q] : ((!decide p == decide q) = false) ↔ ¬ (¬ p ↔ q) := by
  by_cases p <;> by_cases q <;> simp [*]

set_option maxRecDepth 100000 in
set_option maxHeartbeats 400000 in
theorem wide_add (a b h1 l1 h2 l2 : Int) (ha : Wd h1 l1 a) (hb : Wd h2 l2 b) (w : World) :
    Calls Tryd.prog 99 #[.agg #[.int .i64 h1, .int .u64 l1], .agg #[.int .i64 h2, .int .u64 l2]] w (WAns (a + b) w.heap.size w) := by
  obtain ⟨a1, a2, a3, a4, a5⟩ := ha
  obtain ⟨b1, b2, b3, b4, b5⟩ := hb
  have A1 := add64_0 l1 l2 a3 b3
  have A2 := add64 (IntKind.u64.wrap h1) (IntKind.u64.wrap h2) ((l1 + l2) / 18446744073709551616) (u64n _) (u64n _) (by omega) (by omega)
  have A5 := Lib.hid a5
  have B5 := Lib.hid b5
  clear a5 b5
  go_enter Tryd.func99, Tryd.ntmps99
  go_wp2
  all_goals
    simp [bodyPost, results, Tryd.results99, go_sem]
    go_light
    clear A1 A2
    have a5 := A5.out; have b5 := B5.out
    clear A5 B5
    simp only [IntKind.wrap_u64, wrap64, not_dec, not_dec'] at *
    refine ⟨fun h => ?_, fun h => ?_, (by repeat' (first | (with_reducible exact Below.refl _ _) | (with_reducible assumption) | (with_reducible refine below_alloc ?_ _ ?_) | (with_reducible refine below_set _ ?_ ?_) | (with_reducible refine Below.drew ?_) | (with_reducible refine below_dN ?_ _) | (apply below_thenA; assumption) | omega | (simp; done) | (simp; omega) | (simp [*]; done)))⟩
    all_goals unfold WFit at h
    all_goals first
      | (exfalso; omega)
      | (refine ret_wb ?_ ?_ <;> omega)

theorem mul64_int (x y : Int) (hx0 : 0 ≤ x) (hx : x < 18446744073709551616) (hy0 : 0 ≤ y) (hy : y < 18446744073709551616) (w : World) :
    Calls Tryd.prog 112 #[.int .u64 x, .int .u64 y] w fun e w' => e = .returned (.tuple #[.int .u64 (x * y / 18446744073709551616), .int .u64 (x * y % 18446744073709551616)]) ∧ w = w' := by
  obtain ⟨x, rfl⟩ := Int.eq_ofNat_of_zero_le hx0
  obtain ⟨y, rfl⟩ := Int.eq_ofNat_of_zero_le hy0
  simpa using mul64_any x y (by omega) (by omega) w
theorem mul_bound (a b : Int) (a1 : -9223372036854775808 ≤ a) (a2 : a ≤ 9223372036854775807) (b1 : -9223372036854775808 ≤ b) (b2 : b ≤ 9223372036854775807) :
    -85070591730234615865843651857942052864 ≤ a * b ∧ a * b ≤ 85070591730234615865843651857942052864 := by
  have h := Nat.mul_le_mul (show a.natAbs ≤ 9223372036854775808 by omega) (show b.natAbs ≤ 9223372036854775808 by omega)
  rw [← Int.natAbs_mul] at h
  omega
theorem wrap_pos {n : Int} (h : 0 ≤ n) (h2 : n ≤ 9223372036854775807) : IntKind.u64.wrap n = n := by rw [IntKind.wrap_u64]; omega
theorem wrap_neg {n : Int} (h : n < 0) (h2 : -9223372036854775808 ≤ n) : IntKind.u64.wrap n = n + 18446744073709551616 := by rw [IntKind.wrap_u64]; omega
theorem u64lt (n : Int) : IntKind.u64.wrap n < 18446744073709551616 := by rw [IntKind.wrap_u64]; omega

set_option maxRecDepth 100000 in
set_option maxHeartbeats 400000 in
theorem wide_mul (a b : Int) (a1 : -9223372036854775808 ≤ a) (a2 : a ≤ 9223372036854775807) (b1 : -9223372036854775808 ≤ b) (b2 : b ≤ 9223372036854775807) (w : World) :
    Calls Tryd.prog 96 #[.int .i64 a, .int .i64 b] w fun e w' => e = .returned (.agg #[.int .i64 ((a * b) / 18446744073709551616), .int .u64 ((a * b) % 18446744073709551616)]) ∧ Below w.heap.size w w' := by
  by_cases ha : a < 0 <;> by_cases hb : b < 0
  all_goals
    go_enter Tryd.func96, Tryd.ntmps96
    go_wp2_with (go_at_call 112; refine (mul64_int _ _ (by first | omega | exact u64n _) (by first | omega | exact u64lt _) (by first | omega | exact u64n _) (by first | omega | exact u64lt _) _).mono ?_; rintro e w' ⟨rfl, rfl⟩)
    simp [bodyPost, results, Tryd.results96, go_sem]
    go_light
    have hm := mul_bound a b a1 a2 b1 b2
    refine ⟨?_, (by repeat' (first | (with_reducible exact Below.refl _ _) | (with_reducible assumption) | (with_reducible refine below_alloc ?_ _ ?_) | (with_reducible refine below_set _ ?_ ?_) | (with_reducible refine Below.drew ?_) | (with_reducible refine below_dN ?_ _) | (apply below_thenA; assumption) | omega | (simp; done) | (simp; omega) | (simp [*]; done)))⟩
    try rw [wrap_neg ha a1]
    try rw [wrap_neg hb b1]
    simp only [IntKind.wrap_u64, wrap64, Int.add_mul, Int.mul_add]
    generalize a * b = p at *
    omega
end Go.Proofs.YtmkblfejoniccaaDoor
namespace Go.Proofs.YtmkblfejoniccaaDoor
open Go.RowKit
set_option linter.unusedSimpArgs false
set_option linter.unusedVariables false

/-- What turned answers. -/
def WTurn (n : Int) (B : Nat) (w : World) (e : Ending) (w' : World) : Prop :=
  (WFit (-n) → e = .returned (.agg #[.int .i64 ((-n) / 18446744073709551616), .int .u64 ((-n) % 18446744073709551616)])) ∧ (¬ WFit (-n) → e = .returned (.agg #[.int .i64 (-9223372036854775808), .int .u64 0])) ∧ Below B w w'
theorem ret_w {h l h' l' : Int} (e1 : h = h') (e2 : l = l') : Ending.returned (.agg #[.int .i64 h, .int .u64 l]) = .returned (.agg #[.int .i64 (h'), .int .u64 (l')]) := by rw [e1, e2]
set_option maxRecDepth 100000 in
set_option maxHeartbeats 400000 in
theorem wide_turned (a hi lo : Int) (ha : Wd hi lo a) (w : World) :
    Calls Tryd.prog 119 #[.agg #[.int .i64 hi, .int .u64 lo]] w (WTurn a w.heap.size w) := by
  obtain ⟨a1, a2, a3, a4, a5⟩ := ha
  have A5 := Lib.hid a5
  clear a5
  have hs : IntKind.u64.signed = false := rfl
  have hm : IntKind.u64.max = 18446744073709551615 := rfl
  have N1 := u64_not lo a3 a4
  have N2 := u64_not (IntKind.u64.wrap hi) (u64n _) (u64le _)
  have A1 := add64_x0 (18446744073709551615 - lo) 1 (by omega) (by decide) (by decide)
  have A2 := add64_x0 (18446744073709551615 - IntKind.u64.wrap hi) ((18446744073709551615 - lo + 1) / 18446744073709551616) (by have := u64le hi; omega) (by omega) (by omega)
  go_enter Tryd.func119, Tryd.ntmps119
  go_wp2
  simp [bodyPost, results, Tryd.results119, go_sem]
  go_light
  clear N1 N2 A1 A2 hs hm
  have a5 := A5.out
  simp only [IntKind.wrap_u64, wrap64] at *
  refine ⟨fun h => ?_, fun h => ?_, (by repeat' (first | (with_reducible exact Below.refl _ _) | (with_reducible assumption) | (with_reducible refine below_alloc ?_ _ ?_) | (with_reducible refine below_set _ ?_ ?_) | (with_reducible refine Below.drew ?_) | (with_reducible refine below_dN ?_ _) | (apply below_thenA; assumption) | omega | (simp; done) | (simp; omega) | (simp [*]; done)))⟩
  all_goals unfold WFit at h
  all_goals (refine ret_w ?_ ?_ <;> omega)

theorem wide_turned_fit (a hi lo : Int) (ha : Wd hi lo a) (hf : WFit (-a)) (w : World) :
    Calls Tryd.prog 119 #[.agg #[.int .i64 hi, .int .u64 lo]] w fun e w' => e = .returned (.agg #[.int .i64 ((-a) / 18446744073709551616), .int .u64 ((-a) % 18446744073709551616)]) ∧ Below w.heap.size w w' :=
  (wide_turned a hi lo ha w).mono fun _ _ h => ⟨h.1 hf, h.2.2⟩
theorem wide_turned_min (a hi lo : Int) (ha : Wd hi lo a) (hf : ¬ WFit (-a)) (w : World) :
    Calls Tryd.prog 119 #[.agg #[.int .i64 hi, .int .u64 lo]] w fun e w' => e = .returned (.agg #[.int .i64 (-9223372036854775808), .int .u64 0]) ∧ Below w.heap.size w w' :=
  (wide_turned a hi lo ha w).mono fun _ _ h => ⟨h.2.1 hf, h.2.2⟩

set_option maxRecDepth 100000 in
set_option maxHeartbeats 400000 in
theorem compare_u64 (a b : Int) (w : World) :
    Calls Tryd.prog 89 #[.int .u64 a, .int .u64 b] w fun e w' => e = .returned (.int .i64 (cmp3 a b)) ∧ w = w' := by
  go_enter Tryd.func89, Tryd.ntmps89
  go_wp2
  all_goals
    go_ret
    go_light
    exact ⟨ret_int (by unfold cmp3; split <;> (try split) <;> omega), rfl⟩

def orI (x y : Int) : Int := if x = 0 then y else x
theorem cmp3_or {a b h1 l1 h2 l2 : Int} (ha : Wd h1 l1 a) (hb : Wd h2 l2 b) : orI (cmp3 h1 h2) (cmp3 l1 l2) = cmp3 a b := by
  unfold orI
  obtain ⟨a1, a2, a3, a4, a5⟩ := ha
  obtain ⟨b1, b2, b3, b4, b5⟩ := hb
  unfold cmp3
  by_cases x1 : h1 < h2
  · rw [if_pos x1, if_neg (by decide), if_pos (by omega)]
  · by_cases x2 : h2 < h1
    · rw [if_neg x1, if_pos x2, if_neg (by decide), if_neg (by omega), if_pos (by omega)]
    · rw [if_neg x1, if_neg x2, if_pos rfl]
      by_cases x3 : l1 < l2
      · rw [if_pos x3, if_pos (by omega)]
      · by_cases x4 : l2 < l1
        · rw [if_neg x3, if_pos x4, if_neg (by omega), if_pos (by omega)]
        · rw [if_neg x3, if_neg x4, if_neg (by omega), if_neg (by omega)]

end Go.Proofs.YtmkblfejoniccaaDoor
namespace Go.Proofs.YtmkblfejoniccaaDoor
open Go.RowKit
set_option linter.unusedSimpArgs false
set_option linter.unusedVariables false

/-- Is it an int? -/
def IFit (n : Int) : Prop := -9223372036854775808 ≤ n ∧ n ≤ 9223372036854775807
def IAns (n : Int) (B : Nat) (w : World) (e : Ending) (w' : World) : Prop :=
  (IFit n → e = .returned (.tuple #[.int .i64 n, .bool true])) ∧ (¬ IFit n → e = .returned (.tuple #[.int .i64 0, .bool false])) ∧ Below B w w'
theorem ret_ib {h h' : Int} {b : Bool} (e1 : h = h') : Ending.returned (.tuple #[.int .i64 h, .bool b]) = .returned (.tuple #[.int .i64 (h'), .bool b]) := by rw [e1]
theorem bne_t {a b : Int} : ((a != b) = true) ↔ ¬ a = b := by simp
theorem bne_f {a b : Int} : ((a != b) = false) ↔ a = b := by simp

set_option maxRecDepth 100000 in
set_option maxHeartbeats 400000 in
theorem wide_int (a hi lo : Int) (ha : Wd hi lo a) (w : World) :
    Calls Tryd.prog 97 #[.agg #[.int .i64 hi, .int .u64 lo]] w (IAns a w.heap.size w) := by
  obtain ⟨a1, a2, a3, a4, a5⟩ := ha
  have A5 := Lib.hid a5
  clear a5
  go_enter Tryd.func97, Tryd.ntmps97
  go_wp2
  all_goals
    simp [bodyPost, results, Tryd.results97, go_sem]
    go_light
    have a5 := A5.out
    simp only [wrap64, bne_t, bne_f] at *
    refine ⟨fun h => ?_, fun h => ?_, (by repeat' (first | (with_reducible exact Below.refl _ _) | (with_reducible assumption) | (with_reducible refine below_alloc ?_ _ ?_) | (with_reducible refine below_set _ ?_ ?_) | (with_reducible refine Below.drew ?_) | (with_reducible refine below_dN ?_ _) | (apply below_thenA; assumption) | omega | (simp; done) | (simp; omega) | (simp [*]; done)))⟩
    all_goals unfold IFit at *
    all_goals first
      | (exfalso; omega)
      | (refine ret_ib ?_; omega)
theorem wide_int_fit (a hi lo : Int) (ha : Wd hi lo a) (hf : IFit a) (w : World) :
    Calls Tryd.prog 97 #[.agg #[.int .i64 hi, .int .u64 lo]] w fun e w' => e = .returned (.tuple #[.int .i64 a, .bool true]) ∧ Below w.heap.size w w' :=
  (wide_int a hi lo ha w).mono fun _ _ h => ⟨h.1 hf, h.2.2⟩
theorem wide_int_no (a hi lo : Int) (ha : Wd hi lo a) (hf : ¬ IFit a) (w : World) :
    Calls Tryd.prog 97 #[.agg #[.int .i64 hi, .int .u64 lo]] w fun e w' => e = .returned (.tuple #[.int .i64 0, .bool false]) ∧ Below w.heap.size w w' :=
  (wide_int a hi lo ha w).mono fun _ _ h => ⟨h.2.1 hf, h.2.2⟩

def absI (n : Int) : Int := n.natAbs
theorem ret_uu {h l h' l' : Int} (e1 : h = h') (e2 : l = l') : Ending.returned (.tuple #[.int .u64 h, .int .u64 l]) = .returned (.tuple #[.int .u64 (h'), .int .u64 (l')]) := by rw [e1, e2]
set_option maxRecDepth 100000 in
set_option maxHeartbeats 400000 in
theorem wide_size (a hi lo : Int) (ha : Wd hi lo a) (w : World) :
    Calls Tryd.prog 118 #[.agg #[.int .i64 hi, .int .u64 lo]] w fun e w' => e = .returned (.tuple #[.int .u64 (absI a / 18446744073709551616), .int .u64 (absI a % 18446744073709551616)]) ∧ Below w.heap.size w w' := by
  have hA := ha
  obtain ⟨a1, a2, a3, a4, a5⟩ := ha
  have A5 := Lib.hid a5
  clear a5
  by_cases h0 : hi < 0
  · by_cases hf : WFit (-a)
    all_goals
      go_enter Tryd.func118, Tryd.ntmps118
      go_wp2_with (first | (go_at_call 119; (with_reducible refine (wide_turned_fit a hi lo hA hf _).mono ?_); rintro e w' ⟨rfl, hb'⟩; obtain ⟨hc', hf'⟩ := bcell hb'; have hz' := bz1 (n := w.heap.size) hb' (by (try simp) <;> omega); have hs' := hb'.size; (try simp at hs'); (try (have hs2' := Nat.lt_of_succ_le hs'))) | (go_at_call 119; (with_reducible refine (wide_turned_min a hi lo hA hf _).mono ?_); rintro e w' ⟨rfl, hb'⟩; obtain ⟨hc', hf'⟩ := bcell hb'; have hz' := bz1 (n := w.heap.size) hb' (by (try simp) <;> omega); have hs' := hb'.size; (try simp at hs'); (try (have hs2' := Nat.lt_of_succ_le hs'))))
      go_quiet (fail)
      go_wp2
      go_ret2
      go_light
      have a5 := A5.out
      unfold WFit at hf
      exact ⟨ret_uu (by unfold absI; (try rw [IntKind.wrap_u64]); omega) (by unfold absI; omega), (by repeat' (first | (with_reducible exact Below.refl _ _) | (with_reducible assumption) | (with_reducible refine below_alloc ?_ _ ?_) | (with_reducible refine below_set _ ?_ ?_) | (with_reducible refine Below.drew ?_) | (with_reducible refine below_dN ?_ _) | (apply below_thenA; assumption) | omega | (simp; done) | (simp; omega) | (simp [*]; done)))⟩
  · go_enter Tryd.func118, Tryd.ntmps118
    go_wp2
    go_quiet (fail)
    go_wp2
    go_ret2
    go_light
    have a5 := A5.out
    exact ⟨ret_uu (by unfold absI; (try rw [IntKind.wrap_u64]); omega) (by unfold absI; omega), (by repeat' (first | (with_reducible exact Below.refl _ _) | (with_reducible assumption) | (with_reducible refine below_alloc ?_ _ ?_) | (with_reducible refine below_set _ ?_ ?_) | (with_reducible refine Below.drew ?_) | (with_reducible refine below_dN ?_ _) | (apply below_thenA; assumption) | omega | (simp; done) | (simp; omega) | (simp [*]; done)))⟩
end Go.Proofs.YtmkblfejoniccaaDoor
namespace Go.Proofs.YtmkblfejoniccaaDoor
open Go.RowKit
set_option linter.unusedSimpArgs false
set_option linter.unusedVariables false

/-- The sign, the exponent's bits, the mantissa's bits. -/
def fSg (b : Nat) : Bool := decide (b / 9223372036854775808 = 1)
def fEx (b : Nat) : Nat := b / 4503599627370496 % 2048
def fMa (b : Nat) : Nat := b % 4503599627370496
/-- The kinds: 1 NaN, 2 Infinite, 3 Nought, 4 Small, 5 Normal. -/
def fKi (b : Nat) : Nat := if fEx b = 2047 then (if fMa b = 0 then 2 else 1) else if fEx b = 0 then (if fMa b = 0 then 3 else 4) else 5
def fDn (b : Nat) : Bool := if fKi b = 1 then false else fSg b
/-- A size as a whole number times a power of two. -/
def fWh (b : Nat) : Nat := if fEx b = 0 then fMa b else fMa b + 4503599627370496
def fPo (b : Nat) : Int := if fEx b = 0 then -1074 else (fEx b : Int) - 1075
def fNu (b : Nat) : Int := if fSg b then -(fWh b : Int) else (fWh b : Int)
theorem fEx_lt (b : Nat) : fEx b < 2048 := Nat.mod_lt _ (by omega)
theorem fMa_lt (b : Nat) : fMa b < 4503599627370496 := Nat.mod_lt _ (by omega)
theorem fWh_lt (b : Nat) : fWh b < 9007199254740992 := by
  have := fMa_lt b
  unfold fWh; split <;> omega
theorem fNu_bnd (b : Nat) : -9007199254740991 ≤ fNu b ∧ fNu b ≤ 9007199254740991 := by
  have := fWh_lt b
  unfold fNu; split <;> omega
/-- Up and down: the power of two's two parts. -/
def fUp (b : Nat) : Nat := 2 ^ (fPo b).toNat
def fLo (b : Nat) : Nat := 2 ^ (-fPo b).toNat
/-- The nearest place of the grid. -/
def gN (b : Nat) (den : Int) : Int := (2 * (fNu b * (fUp b : Int) * den) + (fLo b : Int)) / (2 * (fLo b : Int))
def clampI (n low high : Int) : Int := if n < low then low else if high < n then high else n
/-- What Grid answers: the error's number. -/
def gridR (b : Nat) (den low high : Int) : Int × Int :=
  if den < 1 ∨ 1048576 < den ∨ high < low then (0, 1)
  else if fKi b = 1 then (0, 4)
  else if fKi b = 2 then (if fSg b then low else high, 0)
  else (clampI (gN b den) low high, 0)
theorem gN_up {b : Nat} (h : 0 ≤ fPo b) (den : Int) : gN b den = fNu b * (fUp b : Int) * den := by
  have e : fLo b = 1 := by
    unfold fLo
    rw [show (-fPo b).toNat = 0 by omega]
  unfold gN
  rw [e]
  omega
theorem gN_down {b : Nat} {k : Nat} (h : fPo b = -((k : Int) + 1)) (den : Int) : gN b den = (fNu b * den / ((2 ^ k : Nat) : Int) + 1) / 2 := by
  have e1 : fUp b = 1 := by
    unfold fUp
    rw [h, show (-((k : Int) + 1)).toNat = 0 by omega]
  have e2 : (fLo b : Int) = 2 * ((2 ^ k : Nat) : Int) := by
    unfold fLo
    rw [h, show (-(-((k : Int) + 1))).toNat = k + 1 by omega, Nat.pow_succ]
    omega
  have hp : (0 : Int) < ((2 ^ k : Nat) : Int) := by
    have := Nat.pow_pos (n := k) (show 0 < 2 by omega)
    omega
  unfold gN
  rw [e1, e2]
  obtain ⟨p, ep⟩ : ∃ p : Int, ((2 ^ k : Nat) : Int) = p := ⟨_, rfl⟩
  rw [ep] at hp ⊢
  obtain ⟨x, ex⟩ : ∃ x, fNu b * den = x := ⟨_, rfl⟩
  rw [show fNu b * ((1 : Nat) : Int) * den = x by rw [← ex]; simp, ex]
  rw [show 2 * x + 2 * p = 2 * (x + p) by omega, show 2 * (2 * p) = 2 * (p * 2) by omega, Int.mul_ediv_mul_of_pos _ _ (by omega), ← Int.ediv_ediv_of_nonneg (by omega), Int.add_ediv_of_dvd_right (Int.dvd_refl p), Int.ediv_self (by omega)]
theorem gN_small {b : Nat} (h : fPo b < -74) {den : Int} (h1 : 1 ≤ den) (h2 : den ≤ 1048576) : gN b den = 0 := by
  obtain ⟨k, hk⟩ : ∃ k : Nat, fPo b = -((k : Int) + 1) := ⟨(-fPo b - 1).toNat, by omega⟩
  rw [gN_down hk]
  have hk74 : 74 ≤ k := by omega
  have hp : (18889465931478580854784 : Int) ≤ ((2 ^ k : Nat) : Int) := by
    have : 2 ^ 74 ≤ 2 ^ k := Nat.pow_le_pow_right (by omega) hk74
    have e : (2 : Nat) ^ 74 = 18889465931478580854784 := by decide
    omega
  obtain ⟨p, ep⟩ : ∃ p : Int, ((2 ^ k : Nat) : Int) = p := ⟨_, rfl⟩
  rw [ep] at hp ⊢
  have hb := fNu_bnd b
  have hm1 : fNu b * den ≤ 9007199254740991 * 1048576 := by
    by_cases h0 : 0 ≤ fNu b
    · exact Int.mul_le_mul hb.2 h2 (by omega) (by omega)
    · have := Int.mul_nonpos_of_nonpos_of_nonneg (show fNu b ≤ 0 by omega) (show 0 ≤ den by omega)
      omega
  have hm2 : -(9007199254740991 * 1048576) ≤ fNu b * den := by
    by_cases h0 : 0 ≤ fNu b
    · have := Int.mul_nonneg h0 (show 0 ≤ den by omega)
      omega
    · have := Int.mul_le_mul (show -fNu b ≤ 9007199254740991 by omega) h2 (by omega) (by omega)
      rw [Int.neg_mul] at this
      omega
  obtain ⟨x, ex⟩ : ∃ x, fNu b * den = x := ⟨_, rfl⟩
  rw [ex] at hm1 hm2 ⊢
  have q1 : x / p = 0 ∨ x / p = -1 := by
    by_cases h0 : 0 ≤ x
    · exact .inl (Int.ediv_eq_zero_of_lt h0 (by omega))
    · right
      have e : x = (x + p) + (-1) * p := by omega
      rw [e, Int.add_mul_ediv_right _ _ (by omega), Int.ediv_eq_zero_of_lt (by omega) (by omega)]
      rfl
  rcases q1 with e | e <;> rw [e] <;> rfl
/-- Beyond all ints: where the power is above eleven. -/
theorem gN_far {b : Nat} (h : 11 < fPo b) {den : Int} (h1 : 1 ≤ den) : if fSg b then gN b den < -9223372036854775808 else 9223372036854775807 < gN b den := by
  rw [gN_up (by omega)]
  have hE : fEx b ≠ 0 := fun e => by unfold fPo at h; rw [if_pos e] at h; omega
  have hw : 4503599627370496 ≤ fWh b := by unfold fWh; rw [if_neg hE]; omega
  have hu : (4096 : Int) ≤ (fUp b : Int) := by
    have : 2 ^ 12 ≤ 2 ^ (fPo b).toNat := Nat.pow_le_pow_right (by omega) (by omega)
    unfold fUp
    omega
  have hm : (4503599627370496 * 4096 : Int) ≤ (fWh b : Int) * (fUp b : Int) := Int.mul_le_mul (by omega) hu (by omega) (by omega)
  have hd : (fWh b : Int) * (fUp b : Int) * 1 ≤ (fWh b : Int) * (fUp b : Int) * den := Int.mul_le_mul_of_nonneg_left h1 (by omega)
  unfold fNu
  split
  · rw [Int.neg_mul, Int.neg_mul]; omega
  · omega
theorem gN_sign {b : Nat} (h : 0 ≤ fPo b) {den : Int} (h1 : 1 ≤ den) : if fSg b then gN b den ≤ 0 else 0 ≤ gN b den := by
  rw [gN_up h]
  have hm : (0 : Int) ≤ (fWh b : Int) * (fUp b : Int) * den := Int.mul_nonneg (Int.mul_nonneg (by omega) (by omega)) (by omega)
  unfold fNu
  split
  · rw [Int.neg_mul, Int.neg_mul]; omega
  · exact hm
theorem gN_zero {b : Nat} (h : fKi b = 3) (den : Int) : gN b den = 0 := by
  have hm : fMa b = 0 ∧ fEx b = 0 := by
    unfold fKi at h
    split at h
    · split at h <;> omega
    · split at h
      · rename_i h2
        split at h
        · rename_i h3; exact ⟨h3, h2⟩
        · omega
      · omega
  have hw : fWh b = 0 := by unfold fWh; rw [if_pos hm.2]; exact hm.1
  have hn : fNu b = 0 := by unfold fNu; rw [hw]; simp
  obtain ⟨k, hk⟩ : ∃ k : Nat, fPo b = -((k : Int) + 1) := ⟨1073, by unfold fPo; rw [if_pos hm.2]; rfl⟩
  rw [gN_down hk, hn, Int.zero_mul, Int.zero_ediv]
  rfl
end Go.Proofs.YtmkblfejoniccaaDoor
namespace Go.Proofs.YtmkblfejoniccaaDoor
open Go.RowKit
set_option linter.unusedSimpArgs false
set_option linter.unusedVariables false

theorem and_low (X n m : Nat) (hX : X < 18446744073709551616) (hm : m = 2 ^ n - 1) (hm2 : m < 18446744073709551616) : bits .and .u64 (X : Int) (m : Int) = ((X % 2 ^ n : Nat) : Int) := by
  rw [bits_and_u64_nat X m hX hm2, hm, Nat.and_two_pow_sub_one_eq_mod]
theorem or_high (m : Nat) (hm : m < 4503599627370496) : bits .or .u64 (m : Int) 4503599627370496 = ((m + 4503599627370496 : Nat) : Int) := by
  have h := bits_or_u64_nat m 4503599627370496 (by omega) (by omega)
  have e : m ||| 4503599627370496 = m + 4503599627370496 := by
    have := Nat.two_pow_add_eq_or_of_lt (i := 52) (b := m) hm 1
    rw [show (2 : Nat) ^ 52 * 1 = 4503599627370496 by decide] at this
    rw [Nat.or_comm, ← this]
    omega
  rw [e] at h
  exact h
theorem bits_ex (b : Nat) (hb : b < 18446744073709551616) : bits .and .u64 ((b : Int) / 4503599627370496) 2047 = ((fEx b : Nat) : Int) := by
  have h := and_low (b / 4503599627370496) 11 2047 (by omega) (by decide) (by omega)
  rw [show (2 : Nat) ^ 11 = 2048 by decide] at h
  unfold fEx
  rw [← h]
  rfl
theorem bits_ma (b : Nat) (hb : b < 18446744073709551616) : bits .and .u64 (b : Int) 4503599627370495 = ((fMa b : Nat) : Int) := by
  have h := and_low b 52 4503599627370495 hb (by decide) (by omega)
  rw [show (2 : Nat) ^ 52 = 4503599627370496 by decide] at h
  exact h
theorem sg_eq (b : Nat) : ((b : Int) / 9223372036854775808 == 1) = fSg b := by
  unfold fSg
  by_cases h : b / 9223372036854775808 = 1
  · rw [decide_eq_true h]; simp; omega
  · rw [decide_eq_false h]; simp; omega
end Go.Proofs.YtmkblfejoniccaaDoor
namespace Go.Proofs.YtmkblfejoniccaaDoor
open Go.RowKit
set_option linter.unusedSimpArgs false
set_option linter.unusedVariables false

theorem flo_bits (b : Nat) (w : World) : (callFunc 21 #[.float .f64 b]).run Tryd.prog w = .ok (.value (.int .u64 (b : Int))) w := by
  rw [run_callFunc_extern Tryd.func21 (by kernel_rfl) (by kernel_rfl) (by kernel_rfl) (e := Extern.MathFloatBits.float64bits) (by kernel_rfl)]
  rfl
set_option maxRecDepth 100000 in
set_option maxHeartbeats 1600000 in
theorem real_fields (b : Nat) (hb : b < 18446744073709551616) (w : World) : Calls Tryd.prog 88 #[.float .f64 b] w fun e w' => e = .returned (.tuple #[.bool (fSg b), .int .i64 ((fEx b : Int)), .int .u64 (fMa b : Int)]) ∧ w' = w := by
  have FB := flo_bits
  have e1 := sg_eq b
  have e2 := bits_ex b hb
  have e3 := bits_ma b hb
  have e4 := fEx_lt b
  have hb1 : (0 : Int) ≤ (b : Int) := by omega
  have hb2 : (b : Int) < 18446744073709551616 := by omega
  obtain ⟨x, ex⟩ : ∃ x, fEx b = x := ⟨_, rfl⟩
  rw [ex] at e2 e4
  rw [ex]
  clear ex
  go_enter Tryd.func88, Tryd.ntmps88
  go_wp2_with fail
  (go_light; simp [bodyPost, results, Tryd.results88, go_sem, *])
theorem fKi_all (b : Nat) : (fEx b = 2047 ∧ fMa b ≠ 0 ∧ fKi b = 1) ∨ (fEx b = 2047 ∧ fMa b = 0 ∧ fKi b = 2) ∨ (fEx b = 0 ∧ fMa b = 0 ∧ fKi b = 3) ∨ (fEx b = 0 ∧ fMa b ≠ 0 ∧ fKi b = 4) ∨ (fEx b ≠ 0 ∧ fEx b ≠ 2047 ∧ fKi b = 5) := by
  unfold fKi
  by_cases h1 : fEx b = 2047
  · rw [if_pos h1]
    by_cases h2 : fMa b = 0
    · rw [if_pos h2]; exact .inr (.inl ⟨h1, h2, rfl⟩)
    · rw [if_neg h2]; exact .inl ⟨h1, h2, rfl⟩
  · rw [if_neg h1]
    by_cases h2 : fEx b = 0
    · rw [if_pos h2]
      by_cases h3 : fMa b = 0
      · rw [if_pos h3]; exact .inr (.inr (.inl ⟨h2, h3, rfl⟩))
      · rw [if_neg h3]; exact .inr (.inr (.inr (.inl ⟨h2, h3, rfl⟩)))
    · rw [if_neg h2]; exact .inr (.inr (.inr (.inr ⟨h2, h1, rfl⟩)))
set_option maxRecDepth 100000 in
set_option maxHeartbeats 1600000 in
theorem real_kind (b : Nat) (hb : b < 18446744073709551616) (w : World) : Calls Tryd.prog 39 #[.float .f64 b] w fun e w' => e = .returned (.tuple #[.int .i64 ((fKi b : Int)), .bool (fDn b)]) ∧ w' = w := by
  have FI := real_fields b hb
  have hk := fKi_all b
  have hd : fDn b = if fKi b = 1 then false else fSg b := rfl
  obtain ⟨x, ex⟩ : ∃ x, fEx b = x := ⟨_, rfl⟩
  obtain ⟨m, em⟩ : ∃ x, fMa b = x := ⟨_, rfl⟩
  obtain ⟨s, es⟩ : ∃ x, fSg b = x := ⟨_, rfl⟩
  obtain ⟨k, ek⟩ : ∃ x, fKi b = x := ⟨_, rfl⟩
  rw [ex, em, es] at FI
  rw [ex, em, ek] at hk
  rw [ek, es] at hd
  rw [ek, hd]
  clear ex em es ek hd
  rcases hk with ⟨rfl, h2, rfl⟩ | ⟨rfl, rfl, rfl⟩ | ⟨rfl, rfl, rfl⟩ | ⟨rfl, h2, rfl⟩ | ⟨h1, h2, rfl⟩
  · have q1 : ((m : Int) != 0) = true := by simp; omega
    go_enter Tryd.func39, Tryd.ntmps39
    go_wp2_with (go_at_call 88; with_reducible refine (FI _).mono ?_; rintro e w1 ⟨rfl, rfl⟩)
    (go_light; simp [bodyPost, results, Tryd.results39, go_sem, *])
  · go_enter Tryd.func39, Tryd.ntmps39
    go_wp2_with (go_at_call 88; with_reducible refine (FI _).mono ?_; rintro e w1 ⟨rfl, rfl⟩)
    (go_light; simp [bodyPost, results, Tryd.results39, go_sem, *])
  · go_enter Tryd.func39, Tryd.ntmps39
    go_wp2_with (go_at_call 88; with_reducible refine (FI _).mono ?_; rintro e w1 ⟨rfl, rfl⟩)
    (go_light; simp [bodyPost, results, Tryd.results39, go_sem, *])
  · have q1 : ((m : Int) == 0) = false := by simp; omega
    go_enter Tryd.func39, Tryd.ntmps39
    go_wp2_with (go_at_call 88; with_reducible refine (FI _).mono ?_; rintro e w1 ⟨rfl, rfl⟩)
    (go_light; simp [bodyPost, results, Tryd.results39, go_sem, *])
  · have q1 : ((x : Int) == 0) = false := by simp; omega
    have q2 : ((x : Int) == 2047) = false := by simp; omega
    go_enter Tryd.func39, Tryd.ntmps39
    go_wp2_with (go_at_call 88; with_reducible refine (FI _).mono ?_; rintro e w1 ⟨rfl, rfl⟩)
    (go_light; simp [bodyPost, results, Tryd.results39, go_sem, *])
set_option maxRecDepth 100000 in
set_option maxHeartbeats 1600000 in
theorem real_whole (b : Nat) (hb : b < 18446744073709551616) (w : World) : Calls Tryd.prog 45 #[.float .f64 b] w fun e w' => e = .returned (.tuple #[.int .u64 (fWh b : Int), .int .i64 (fPo b)]) ∧ w' = w := by
  have FI := real_fields b hb
  have hw : fWh b = if fEx b = 0 then fMa b else fMa b + 4503599627370496 := rfl
  have hp : fPo b = if fEx b = 0 then -1074 else (fEx b : Int) - 1075 := rfl
  have h1 := or_high (fMa b) (fMa_lt b)
  have h2 := fMa_lt b
  have h3 := fEx_lt b
  obtain ⟨x, ex⟩ : ∃ x, fEx b = x := ⟨_, rfl⟩
  obtain ⟨m, em⟩ : ∃ x, fMa b = x := ⟨_, rfl⟩
  rw [ex, em] at FI
  rw [em] at h1 h2
  rw [ex, em] at hw
  rw [ex] at hp h3
  rw [hw, hp]
  clear ex em hw hp
  by_cases h0 : x = 0
  · subst h0
    rw [if_pos rfl, if_pos rfl]
    clear h1
    go_enter Tryd.func45, Tryd.ntmps45
    go_wp2_with (go_at_call 88; with_reducible refine (FI _).mono ?_; rintro e w1 ⟨rfl, rfl⟩)
    (go_light; simp [bodyPost, results, Tryd.results45, go_sem, *])
  · rw [if_neg h0, if_neg h0]
    have q1 : ((x : Int) == 0) = false := by simp; omega
    go_enter Tryd.func45, Tryd.ntmps45
    go_wp2_with (go_at_call 88; with_reducible refine (FI _).mono ?_; rintro e w1 ⟨rfl, rfl⟩)
    (go_light; simp [bodyPost, results, Tryd.results45, go_sem, *])
theorem sg_neg (b : Nat) (hb : b < 18446744073709551616) : decide (wrap64 (b : Int) < 0) = fSg b := by
  unfold fSg
  rw [decide_eq_decide]
  unfold wrap64
  omega
set_option maxRecDepth 100000 in
set_option maxHeartbeats 1600000 in
theorem math_signbit (b : Nat) (hb : b < 18446744073709551616) (w : World) : Calls Tryd.prog 47 #[.float .f64 b] w fun e w' => e = .returned (.bool (fSg b)) ∧ w' = w := by
  have FB := flo_bits
  have e1 := sg_neg b hb
  have hb1 : (0 : Int) ≤ (b : Int) := by omega
  have hb2 : (b : Int) < 18446744073709551616 := by omega
  go_enter Tryd.func47, Tryd.ntmps47
  go_wp2_with fail
  go_ret
  exact ⟨by first | rfl | (rw [e1]), rfl⟩
set_option maxRecDepth 100000 in
set_option maxHeartbeats 1600000 in
theorem real_signed (n : Int) (d : Bool) (h1 : -9223372036854775808 < n) (h2 : n ≤ 9223372036854775807) (w : World) : Calls Tryd.prog 48 #[.int .i64 n, .bool d] w fun e w' => e = .returned (.int .i64 (if d then -n else n)) ∧ w' = w := by
  cases d
  · go_enter Tryd.func48, Tryd.ntmps48
    go_wp2_with fail
    go_ret
    exact ⟨rfl, rfl⟩
  · go_enter Tryd.func48, Tryd.ntmps48
    go_wp2_with fail
    go_ret
    exact ⟨rfl, rfl⟩
end Go.Proofs.YtmkblfejoniccaaDoor
set_option linter.unusedVariables false
namespace Go.Proofs.YtmkblfejoniccaaDoor.KD
/-- Where a guessed digit stands: too great just where the test says so. -/
theorem test_iff {q r U d y1 y0 : Int} (hi : q * y1 + r = U) :
    q * (y1 * 4294967296 + y0) ≤ U * 4294967296 + d ↔ q * y0 ≤ r * 4294967296 + d := by
  subst hi
  rw [Int.mul_add, ← Int.mul_assoc, Int.add_mul]
  omega
theorem dl (U y k : Int) (hy : 0 < y) (h : U < k * y) : U / y < k := Int.ediv_lt_of_lt_mul hy h
theorem guess_le {U y1 y0 : Int} (h1 : 2147483648 ≤ y1) (h0 : y0 < 4294967296) (hU : U < y1 * 4294967296 + y0) : U / y1 ≤ 4294967297 := by
  have h0 : U < 4294967298 * y1 := by omega
  have h := dl U y1 4294967298 (by omega) h0
  exact Int.le_of_lt_add_one h
theorem guess_ge {U d y1 y0 : Int} (h1 : 0 < y1) (h0 : 0 ≤ y0) (hU : 0 ≤ U) (hd0 : 0 ≤ d) (hd : d < 4294967296) : (U * 4294967296 + d) / (y1 * 4294967296 + y0) ≤ U / y1 := by
  have hQ := Int.ediv_mul_le (U * 4294967296 + d) (b := y1 * 4294967296 + y0) (by omega)
  have hQ0 : 0 ≤ (U * 4294967296 + d) / (y1 * 4294967296 + y0) := Int.ediv_nonneg (by omega) (by omega)
  generalize (U * 4294967296 + d) / (y1 * 4294967296 + y0) = Q at *
  rw [Int.mul_add, ← Int.mul_assoc] at hQ
  have := Int.mul_nonneg hQ0 h0
  exact (Int.le_ediv_iff_mul_le h1).2 (by omega)
theorem digit_lt {U d Y : Int} (hY : 0 < Y) (hU : U < Y) (hd : d < 4294967296) : (U * 4294967296 + d) / Y < 4294967296 :=
  dl _ _ _ hY (by omega)
theorem digit_of {q r U d y1 y0 : Int} (hY : 0 < y1 * 4294967296 + y0) (hi : q * y1 + r = U) (hge : (U * 4294967296 + d) / (y1 * 4294967296 + y0) ≤ q) (ht : q * y0 ≤ r * 4294967296 + d) :
    q = (U * 4294967296 + d) / (y1 * 4294967296 + y0) :=
  Int.le_antisymm ((Int.le_ediv_iff_mul_le hY).2 ((test_iff (d := d) (y0 := y0) hi).2 ht)) hge
theorem digit_step {q r U d y1 y0 : Int} (hY : 0 < y1 * 4294967296 + y0) (hi : q * y1 + r = U) (ht : r * 4294967296 + d < q * y0) :
    (U * 4294967296 + d) / (y1 * 4294967296 + y0) ≤ q - 1 := by
  have h : ¬ q * (y1 * 4294967296 + y0) ≤ U * 4294967296 + d := fun h => by
    have := (test_iff (d := d) (y0 := y0) hi).1 h
    omega
  exact Int.le_sub_one_of_lt (Int.ediv_lt_of_lt_mul hY (Int.lt_of_not_ge h))
theorem digit_big {q r U d y1 y0 : Int} (hY : 0 < y1 * 4294967296 + y0) (h00 : 0 ≤ y0) (h0 : y0 < 4294967296) (hi : q * y1 + r = U) (hd : 0 ≤ d) (hq : q ≤ 4294967296) (hr : 4294967296 ≤ r) (hge : (U * 4294967296 + d) / (y1 * 4294967296 + y0) ≤ q) :
    q = (U * 4294967296 + d) / (y1 * 4294967296 + y0) := by
  refine digit_of hY hi hge ?_
  have h1 : q * y0 ≤ 4294967296 * y0 := Int.mul_le_mul_of_nonneg_right hq h00
  omega
theorem step_inv {q r U y1 : Int} (hi : q * y1 + r = U) : (q - 1) * y1 + (r + y1) = U := by
  rw [Int.sub_mul]; omega
/-- The words put together. -/
theorem whole_aux {U a b Y Q R : Int} (hY : 0 < Y) (h : Y * Q + R = U * 4294967296 + a) :
    (U * 18446744073709551616 + (a * 4294967296 + b)) / Y = Q * 4294967296 + (R * 4294967296 + b) / Y ∧
    (U * 18446744073709551616 + (a * 4294967296 + b)) % Y = (R * 4294967296 + b) % Y := by
  have e : U * 18446744073709551616 + (a * 4294967296 + b) = R * 4294967296 + b + Y * (Q * 4294967296) := by
    have : Y * (Q * 4294967296) = (Y * Q) * 4294967296 := (Int.mul_assoc _ _ _).symm
    omega
  rw [e, Int.add_mul_ediv_left _ _ (by omega), Int.add_mul_emod_self_left]
  exact ⟨Int.add_comm _ _, rfl⟩
theorem whole {U a b Y : Int} (hY : 0 < Y) :
    (U * 18446744073709551616 + (a * 4294967296 + b)) / Y = (U * 4294967296 + a) / Y * 4294967296 + ((U * 4294967296 + a) % Y * 4294967296 + b) / Y ∧
    (U * 18446744073709551616 + (a * 4294967296 + b)) % Y = ((U * 4294967296 + a) % Y * 4294967296 + b) % Y :=
  whole_aux hY (Int.mul_ediv_add_emod _ Y)
/-- Both shifted alike. -/
theorem unshift (x y : Int) (p : Int) (hp : 0 < p) : x * p / (y * p) = x / y ∧ x * p % (y * p) / p = x % y := by
  refine ⟨Int.mul_ediv_mul_of_pos_left _ _ hp, ?_⟩
  rw [Int.mul_comm x, Int.mul_comm y, Int.mul_emod_mul_of_pos _ _ hp, Int.mul_comm, Int.mul_ediv_cancel _ (by omega)]
/-- A guess on its way down to the digit. -/
def KInv (Y y1 U d q r : Int) : Prop := q * y1 + r = U ∧ 0 ≤ q ∧ 0 ≤ r ∧ r < 4294967296 ∧ q ≤ 4294967297 ∧ (U * 4294967296 + d) / Y ≤ q
theorem KInv.start {Y y1 y0 U d : Int} (hY : y1 * 4294967296 + y0 = Y) (h1 : 2147483648 ≤ y1) (h1b : y1 < 4294967296) (h00 : 0 ≤ y0) (h0 : y0 < 4294967296) (hU0 : 0 ≤ U) (hU : U < Y) (hd0 : 0 ≤ d) (hd : d < 4294967296) : KInv Y y1 U d (U / y1) (U - U / y1 * y1) := by
  subst hY
  have e := Int.mul_ediv_add_emod U y1
  have l := Int.emod_lt_of_pos U (show 0 < y1 by omega)
  have l0 := Int.emod_nonneg U (show y1 ≠ 0 by omega)
  rw [Int.mul_comm] at e
  exact ⟨by omega, Int.ediv_nonneg hU0 (by omega), by omega, by omega, guess_le h1 h0 hU, guess_ge (by omega) h00 hU0 hd0 hd⟩
theorem KInv.pos {Y y1 U d q r : Int} (h : KInv Y y1 U d q r) (hq : 4294967296 ≤ q) (hY : 0 < Y) (hU : U < Y) (hd : d < 4294967296) : (U * 4294967296 + d) / Y ≤ q - 1 := by
  have := digit_lt hY hU hd
  omega
theorem KInv.test {Y y1 y0 U d q r : Int} (h : KInv Y y1 U d q r) (hY : y1 * 4294967296 + y0 = Y) (h1 : 0 < y1) (h0 : 0 ≤ y0) (hd : 0 ≤ d) (ht : 4294967296 * r + d < q * y0) : (U * 4294967296 + d) / Y ≤ q - 1 ∧ 1 ≤ q := by
  subst hY
  refine ⟨digit_step (by omega) h.1 (by omega), ?_⟩
  obtain ⟨_, hq0, hr0, _, _, _⟩ := h
  rcases Int.lt_or_le 0 q with hp | hp
  · exact hp
  · have : q = 0 := by omega
    subst this
    simp at ht
    omega
theorem KInv.done {Y y1 y0 U d q r : Int} (h : KInv Y y1 U d q r) (hY : y1 * 4294967296 + y0 = Y) (h1 : 0 < y1) (h0 : 0 ≤ y0) (ht : ¬ 4294967296 * r + d < q * y0) : q = (U * 4294967296 + d) / Y := by
  subst hY
  exact digit_of (by omega) h.1 h.2.2.2.2.2 (by omega)
theorem KInv.next {Y y1 U d q r : Int} (h : KInv Y y1 U d q r) (h1 : 0 ≤ y1) (hp : 1 ≤ q) (hq : (U * 4294967296 + d) / Y ≤ q - 1) (hr : r + y1 < 4294967296) : KInv Y y1 U d (q - 1) (r + y1) := by
  obtain ⟨hi, hq0, hr0, _, hq1, _⟩ := h
  exact ⟨step_inv hi, by omega, by omega, hr, by omega, hq⟩
theorem KInv.big {Y y1 y0 U d q r : Int} (h : KInv Y y1 U d q r) (hY : y1 * 4294967296 + y0 = Y) (h1 : 0 < y1) (h00 : 0 ≤ y0) (h0 : y0 < 4294967296) (hd : 0 ≤ d) (hp : 1 ≤ q) (hq : (U * 4294967296 + d) / Y ≤ q - 1) (hr : 4294967296 ≤ r + y1) : q - 1 = (U * 4294967296 + d) / Y := by
  subst hY
  obtain ⟨hi, hq0, hr0, _, hq1, _⟩ := h
  exact digit_big (by omega) h00 h0 (step_inv hi) hd (by omega) hr hq
theorem mul_lt {q y : Int} (hq0 : 0 ≤ q) (hq : q < 4294967296) (hy0 : 0 ≤ y) (hy : y < 4294967296) : q * y ≤ 18446744065119617025 :=
  Int.mul_le_mul (show q ≤ 4294967295 by omega) (show y ≤ 4294967295 by omega) hy0 (by decide)
end Go.Proofs.YtmkblfejoniccaaDoor.KD
