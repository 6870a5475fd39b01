/-
  Small facts for the walks of this seat: worlds, Add64, wide numbers.
-/
/-
  From a walk that leaves all old memory as it was to the row's own words.
-/
/-
  Blocks of cells by their whole contents; worlds in which one old block alone may have turned.
-/
/-
  From a walk that leaves all old memory as it was to a law's own words, whatever its parameters: each argument reads as it did. And: structs of one-cell fields by value, opened.
-/
/-
  A walker by reckoning: recursion that the kernel reckons fast.
-/
/-
  A walker by reckoning: stores by numbers, values with names in place of addresses and numbers, what they stand for.
-/
import Derived.Test.YtigjjddblijpbaaGreatDoorRows
import Derived.WalkKit
import Derived.WalkSpells
import Derived.Lib.Hide
import Derived.Laws.Externs
import Derived.Deep.RegionHeld3
import Derived.Deep.QuietTactic
import Derived.BigQuiet
import Derived.Deep.Light
import Derived.Handy
import Derived.Shelf.Bits.Mul64
import Derived.ProofKit
import Derived.OpenShut
import Derived.ReadAgain
import Derived.Lib.SmallJoins
import Derived.OrdersHeld
import Derived.Below
import Derived.Tactics
namespace Go.Proofs.YtigjjddblijpbaaGreatDoor
open Go.RowKit

theorem bcell {W w1 : World} (hb : Below W.heap.size W w1) : (∀ b o, b < W.heap.size → w1.cell? ⟨b, o, none⟩ = W.cell? ⟨b, o, none⟩) ∧ (∀ b o, b < W.heap.size → w1.frozen? ⟨b, o, none⟩ = W.frozen? ⟨b, o, none⟩) :=
  ⟨fun b o h => hb.cell (p := ⟨b, o, none⟩) h, fun b o h => hb.frozen (p := ⟨b, o, none⟩) h⟩
theorem bz0 {n : Nat} {W w1 : World} (hb : Below W.heap.size W w1) (h : n + 0 ≤ W.heap.size) :
    n ≤ w1.heap.size ∧ n ≤ w1.heap.size + 1 ∧ n ≤ w1.heap.size + 1 + 1 ∧ n ≤ w1.heap.size + 1 + 1 + 1 ∧ n ≤ w1.heap.size + 1 + 1 + 1 + 1 ∧ n ≤ w1.heap.size + 1 + 1 + 1 + 1 + 1 ∧ n < w1.heap.size + 1 ∧ n < w1.heap.size + 1 + 1 ∧ n < w1.heap.size + 1 + 1 + 1 ∧ n < w1.heap.size + 1 + 1 + 1 + 1 ∧ n < w1.heap.size + 1 + 1 + 1 + 1 + 1 := by
  have := hb.size
  omega
theorem bz1 {n : Nat} {W w1 : World} (hb : Below W.heap.size W w1) (h : n + 1 ≤ W.heap.size) :
    n < w1.heap.size ∧ n ≤ w1.heap.size ∧ n ≤ w1.heap.size + 1 ∧ n ≤ w1.heap.size + 1 + 1 ∧ n ≤ w1.heap.size + 1 + 1 + 1 ∧ n ≤ w1.heap.size + 1 + 1 + 1 + 1 ∧ n ≤ w1.heap.size + 1 + 1 + 1 + 1 + 1 ∧ n < w1.heap.size + 1 ∧ n < w1.heap.size + 1 + 1 ∧ n < w1.heap.size + 1 + 1 + 1 ∧ n < w1.heap.size + 1 + 1 + 1 + 1 ∧ n < w1.heap.size + 1 + 1 + 1 + 1 + 1 := by
  have := hb.size
  omega
theorem bz2 {n : Nat} {W w1 : World} (hb : Below W.heap.size W w1) (h : n + 2 ≤ W.heap.size) :
    n < w1.heap.size ∧ n + 1 < w1.heap.size ∧ n ≤ w1.heap.size ∧ n + 1 ≤ w1.heap.size ∧ n ≤ w1.heap.size + 1 ∧ n ≤ w1.heap.size + 1 + 1 ∧ n ≤ w1.heap.size + 1 + 1 + 1 ∧ n ≤ w1.heap.size + 1 + 1 + 1 + 1 ∧ n ≤ w1.heap.size + 1 + 1 + 1 + 1 + 1 ∧ n < w1.heap.size + 1 ∧ n < w1.heap.size + 1 + 1 ∧ n < w1.heap.size + 1 + 1 + 1 ∧ n < w1.heap.size + 1 + 1 + 1 + 1 ∧ n < w1.heap.size + 1 + 1 + 1 + 1 + 1 := by
  have := hb.size
  omega
theorem bz3 {n : Nat} {W w1 : World} (hb : Below W.heap.size W w1) (h : n + 3 ≤ W.heap.size) :
    n < w1.heap.size ∧ n + 1 < w1.heap.size ∧ n + 1 + 1 < w1.heap.size ∧ n ≤ w1.heap.size ∧ n + 1 ≤ w1.heap.size ∧ n + 1 + 1 ≤ w1.heap.size ∧ n ≤ w1.heap.size + 1 ∧ n ≤ w1.heap.size + 1 + 1 ∧ n ≤ w1.heap.size + 1 + 1 + 1 ∧ n ≤ w1.heap.size + 1 + 1 + 1 + 1 ∧ n ≤ w1.heap.size + 1 + 1 + 1 + 1 + 1 ∧ n < w1.heap.size + 1 ∧ n < w1.heap.size + 1 + 1 ∧ n < w1.heap.size + 1 + 1 + 1 ∧ n < w1.heap.size + 1 + 1 + 1 + 1 ∧ n < w1.heap.size + 1 + 1 + 1 + 1 + 1 := by
  have := hb.size
  omega
theorem bz4 {n : Nat} {W w1 : World} (hb : Below W.heap.size W w1) (h : n + 4 ≤ W.heap.size) :
    n < w1.heap.size ∧ n + 1 < w1.heap.size ∧ n + 1 + 1 < w1.heap.size ∧ n + 1 + 1 + 1 < w1.heap.size ∧ n ≤ w1.heap.size ∧ n + 1 ≤ w1.heap.size ∧ n + 1 + 1 ≤ w1.heap.size ∧ n + 1 + 1 + 1 ≤ w1.heap.size ∧ n ≤ w1.heap.size + 1 ∧ n ≤ w1.heap.size + 1 + 1 ∧ n ≤ w1.heap.size + 1 + 1 + 1 ∧ n ≤ w1.heap.size + 1 + 1 + 1 + 1 ∧ n ≤ w1.heap.size + 1 + 1 + 1 + 1 + 1 ∧ n < w1.heap.size + 1 ∧ n < w1.heap.size + 1 + 1 ∧ n < w1.heap.size + 1 + 1 + 1 ∧ n < w1.heap.size + 1 + 1 + 1 + 1 ∧ n < w1.heap.size + 1 + 1 + 1 + 1 + 1 := by
  have := hb.size
  omega
theorem bz5 {n : Nat} {W w1 : World} (hb : Below W.heap.size W w1) (h : n + 5 ≤ W.heap.size) :
    n < w1.heap.size ∧ n + 1 < w1.heap.size ∧ n + 1 + 1 < w1.heap.size ∧ n + 1 + 1 + 1 < w1.heap.size ∧ n + 1 + 1 + 1 + 1 < w1.heap.size ∧ n ≤ w1.heap.size ∧ n + 1 ≤ w1.heap.size ∧ n + 1 + 1 ≤ w1.heap.size ∧ n + 1 + 1 + 1 ≤ w1.heap.size ∧ n + 1 + 1 + 1 + 1 ≤ w1.heap.size ∧ n ≤ w1.heap.size + 1 ∧ n ≤ w1.heap.size + 1 + 1 ∧ n ≤ w1.heap.size + 1 + 1 + 1 ∧ n ≤ w1.heap.size + 1 + 1 + 1 + 1 ∧ n ≤ w1.heap.size + 1 + 1 + 1 + 1 + 1 ∧ n < w1.heap.size + 1 ∧ n < w1.heap.size + 1 + 1 ∧ n < w1.heap.size + 1 + 1 + 1 ∧ n < w1.heap.size + 1 + 1 + 1 + 1 ∧ n < w1.heap.size + 1 + 1 + 1 + 1 + 1 := by
  have := hb.size
  omega
theorem bz6 {n : Nat} {W w1 : World} (hb : Below W.heap.size W w1) (h : n + 6 ≤ W.heap.size) :
    n < w1.heap.size ∧ n + 1 < w1.heap.size ∧ n + 1 + 1 < w1.heap.size ∧ n + 1 + 1 + 1 < w1.heap.size ∧ n + 1 + 1 + 1 + 1 < w1.heap.size ∧ n + 1 + 1 + 1 + 1 + 1 < w1.heap.size ∧ n ≤ w1.heap.size ∧ n + 1 ≤ w1.heap.size ∧ n + 1 + 1 ≤ w1.heap.size ∧ n + 1 + 1 + 1 ≤ w1.heap.size ∧ n + 1 + 1 + 1 + 1 ≤ w1.heap.size ∧ n + 1 + 1 + 1 + 1 + 1 ≤ w1.heap.size ∧ n ≤ w1.heap.size + 1 ∧ n ≤ w1.heap.size + 1 + 1 ∧ n ≤ w1.heap.size + 1 + 1 + 1 ∧ n ≤ w1.heap.size + 1 + 1 + 1 + 1 ∧ n ≤ w1.heap.size + 1 + 1 + 1 + 1 + 1 ∧ n < w1.heap.size + 1 ∧ n < w1.heap.size + 1 + 1 ∧ n < w1.heap.size + 1 + 1 + 1 ∧ n < w1.heap.size + 1 + 1 + 1 + 1 ∧ n < w1.heap.size + 1 + 1 + 1 + 1 + 1 := by
  have := hb.size
  omega
theorem bz7 {n : Nat} {W w1 : World} (hb : Below W.heap.size W w1) (h : n + 7 ≤ W.heap.size) :
    n < w1.heap.size ∧ n + 1 < w1.heap.size ∧ n + 1 + 1 < w1.heap.size ∧ n + 1 + 1 + 1 < w1.heap.size ∧ n + 1 + 1 + 1 + 1 < w1.heap.size ∧ n + 1 + 1 + 1 + 1 + 1 < w1.heap.size ∧ n + 1 + 1 + 1 + 1 + 1 + 1 < w1.heap.size ∧ n ≤ w1.heap.size ∧ n + 1 ≤ w1.heap.size ∧ n + 1 + 1 ≤ w1.heap.size ∧ n + 1 + 1 + 1 ≤ w1.heap.size ∧ n + 1 + 1 + 1 + 1 ≤ w1.heap.size ∧ n + 1 + 1 + 1 + 1 + 1 ≤ w1.heap.size ∧ n + 1 + 1 + 1 + 1 + 1 + 1 ≤ w1.heap.size ∧ n ≤ w1.heap.size + 1 ∧ n ≤ w1.heap.size + 1 + 1 ∧ n ≤ w1.heap.size + 1 + 1 + 1 ∧ n ≤ w1.heap.size + 1 + 1 + 1 + 1 ∧ n ≤ w1.heap.size + 1 + 1 + 1 + 1 + 1 ∧ n < w1.heap.size + 1 ∧ n < w1.heap.size + 1 + 1 ∧ n < w1.heap.size + 1 + 1 + 1 ∧ n < w1.heap.size + 1 + 1 + 1 + 1 ∧ n < w1.heap.size + 1 + 1 + 1 + 1 + 1 := by
  have := hb.size
  omega
theorem bz8 {n : Nat} {W w1 : World} (hb : Below W.heap.size W w1) (h : n + 8 ≤ W.heap.size) :
    n < w1.heap.size ∧ n + 1 < w1.heap.size ∧ n + 1 + 1 < w1.heap.size ∧ n + 1 + 1 + 1 < w1.heap.size ∧ n + 1 + 1 + 1 + 1 < w1.heap.size ∧ n + 1 + 1 + 1 + 1 + 1 < w1.heap.size ∧ n + 1 + 1 + 1 + 1 + 1 + 1 < w1.heap.size ∧ n + 1 + 1 + 1 + 1 + 1 + 1 + 1 < w1.heap.size ∧ n ≤ w1.heap.size ∧ n + 1 ≤ w1.heap.size ∧ n + 1 + 1 ≤ w1.heap.size ∧ n + 1 + 1 + 1 ≤ w1.heap.size ∧ n + 1 + 1 + 1 + 1 ≤ w1.heap.size ∧ n + 1 + 1 + 1 + 1 + 1 ≤ w1.heap.size ∧ n + 1 + 1 + 1 + 1 + 1 + 1 ≤ w1.heap.size ∧ n + 1 + 1 + 1 + 1 + 1 + 1 + 1 ≤ w1.heap.size ∧ n ≤ w1.heap.size + 1 ∧ n ≤ w1.heap.size + 1 + 1 ∧ n ≤ w1.heap.size + 1 + 1 + 1 ∧ n ≤ w1.heap.size + 1 + 1 + 1 + 1 ∧ n ≤ w1.heap.size + 1 + 1 + 1 + 1 + 1 ∧ n < w1.heap.size + 1 ∧ n < w1.heap.size + 1 + 1 ∧ n < w1.heap.size + 1 + 1 + 1 ∧ n < w1.heap.size + 1 + 1 + 1 + 1 ∧ n < w1.heap.size + 1 + 1 + 1 + 1 + 1 := by
  have := hb.size
  omega
theorem bz9 {n : Nat} {W w1 : World} (hb : Below W.heap.size W w1) (h : n + 9 ≤ W.heap.size) :
    n < w1.heap.size ∧ n + 1 < w1.heap.size ∧ n + 1 + 1 < w1.heap.size ∧ n + 1 + 1 + 1 < w1.heap.size ∧ n + 1 + 1 + 1 + 1 < w1.heap.size ∧ n + 1 + 1 + 1 + 1 + 1 < w1.heap.size ∧ n + 1 + 1 + 1 + 1 + 1 + 1 < w1.heap.size ∧ n + 1 + 1 + 1 + 1 + 1 + 1 + 1 < w1.heap.size ∧ n + 1 + 1 + 1 + 1 + 1 + 1 + 1 + 1 < w1.heap.size ∧ n ≤ w1.heap.size ∧ n + 1 ≤ w1.heap.size ∧ n + 1 + 1 ≤ w1.heap.size ∧ n + 1 + 1 + 1 ≤ w1.heap.size ∧ n + 1 + 1 + 1 + 1 ≤ w1.heap.size ∧ n + 1 + 1 + 1 + 1 + 1 ≤ w1.heap.size ∧ n + 1 + 1 + 1 + 1 + 1 + 1 ≤ w1.heap.size ∧ n + 1 + 1 + 1 + 1 + 1 + 1 + 1 ≤ w1.heap.size ∧ n + 1 + 1 + 1 + 1 + 1 + 1 + 1 + 1 ≤ w1.heap.size ∧ n ≤ w1.heap.size + 1 ∧ n ≤ w1.heap.size + 1 + 1 ∧ n ≤ w1.heap.size + 1 + 1 + 1 ∧ n ≤ w1.heap.size + 1 + 1 + 1 + 1 ∧ n ≤ w1.heap.size + 1 + 1 + 1 + 1 + 1 ∧ n < w1.heap.size + 1 ∧ n < w1.heap.size + 1 + 1 ∧ n < w1.heap.size + 1 + 1 + 1 ∧ n < w1.heap.size + 1 + 1 + 1 + 1 ∧ n < w1.heap.size + 1 + 1 + 1 + 1 + 1 := by
  have := hb.size
  omega
theorem bz10 {n : Nat} {W w1 : World} (hb : Below W.heap.size W w1) (h : n + 10 ≤ W.heap.size) :
    n < w1.heap.size ∧ n + 1 < w1.heap.size ∧ n + 1 + 1 < w1.heap.size ∧ n + 1 + 1 + 1 < w1.heap.size ∧ n + 1 + 1 + 1 + 1 < w1.heap.size ∧ n + 1 + 1 + 1 + 1 + 1 < w1.heap.size ∧ n + 1 + 1 + 1 + 1 + 1 + 1 < w1.heap.size ∧ n + 1 + 1 + 1 + 1 + 1 + 1 + 1 < w1.heap.size ∧ n + 1 + 1 + 1 + 1 + 1 + 1 + 1 + 1 < w1.heap.size ∧ n + 1 + 1 + 1 + 1 + 1 + 1 + 1 + 1 + 1 < w1.heap.size ∧ n ≤ w1.heap.size ∧ n + 1 ≤ w1.heap.size ∧ n + 1 + 1 ≤ w1.heap.size ∧ n + 1 + 1 + 1 ≤ w1.heap.size ∧ n + 1 + 1 + 1 + 1 ≤ w1.heap.size ∧ n + 1 + 1 + 1 + 1 + 1 ≤ w1.heap.size ∧ n + 1 + 1 + 1 + 1 + 1 + 1 ≤ w1.heap.size ∧ n + 1 + 1 + 1 + 1 + 1 + 1 + 1 ≤ w1.heap.size ∧ n + 1 + 1 + 1 + 1 + 1 + 1 + 1 + 1 ≤ w1.heap.size ∧ n + 1 + 1 + 1 + 1 + 1 + 1 + 1 + 1 + 1 ≤ w1.heap.size ∧ n ≤ w1.heap.size + 1 ∧ n ≤ w1.heap.size + 1 + 1 ∧ n ≤ w1.heap.size + 1 + 1 + 1 ∧ n ≤ w1.heap.size + 1 + 1 + 1 + 1 ∧ n ≤ w1.heap.size + 1 + 1 + 1 + 1 + 1 ∧ n < w1.heap.size + 1 ∧ n < w1.heap.size + 1 + 1 ∧ n < w1.heap.size + 1 + 1 + 1 ∧ n < w1.heap.size + 1 + 1 + 1 + 1 ∧ n < w1.heap.size + 1 + 1 + 1 + 1 + 1 := by
  have := hb.size
  omega
theorem bz11 {n : Nat} {W w1 : World} (hb : Below W.heap.size W w1) (h : n + 11 ≤ W.heap.size) :
    n < w1.heap.size ∧ n + 1 < w1.heap.size ∧ n + 1 + 1 < w1.heap.size ∧ n + 1 + 1 + 1 < w1.heap.size ∧ n + 1 + 1 + 1 + 1 < w1.heap.size ∧ n + 1 + 1 + 1 + 1 + 1 < w1.heap.size ∧ n + 1 + 1 + 1 + 1 + 1 + 1 < w1.heap.size ∧ n + 1 + 1 + 1 + 1 + 1 + 1 + 1 < w1.heap.size ∧ n + 1 + 1 + 1 + 1 + 1 + 1 + 1 + 1 < w1.heap.size ∧ n + 1 + 1 + 1 + 1 + 1 + 1 + 1 + 1 + 1 < w1.heap.size ∧ n + 1 + 1 + 1 + 1 + 1 + 1 + 1 + 1 + 1 + 1 < w1.heap.size ∧ n ≤ w1.heap.size ∧ n + 1 ≤ w1.heap.size ∧ n + 1 + 1 ≤ w1.heap.size ∧ n + 1 + 1 + 1 ≤ w1.heap.size ∧ n + 1 + 1 + 1 + 1 ≤ w1.heap.size ∧ n + 1 + 1 + 1 + 1 + 1 ≤ w1.heap.size ∧ n + 1 + 1 + 1 + 1 + 1 + 1 ≤ w1.heap.size ∧ n + 1 + 1 + 1 + 1 + 1 + 1 + 1 ≤ w1.heap.size ∧ n + 1 + 1 + 1 + 1 + 1 + 1 + 1 + 1 ≤ w1.heap.size ∧ n + 1 + 1 + 1 + 1 + 1 + 1 + 1 + 1 + 1 ≤ w1.heap.size ∧ n + 1 + 1 + 1 + 1 + 1 + 1 + 1 + 1 + 1 + 1 ≤ w1.heap.size ∧ n ≤ w1.heap.size + 1 ∧ n ≤ w1.heap.size + 1 + 1 ∧ n ≤ w1.heap.size + 1 + 1 + 1 ∧ n ≤ w1.heap.size + 1 + 1 + 1 + 1 ∧ n ≤ w1.heap.size + 1 + 1 + 1 + 1 + 1 ∧ n < w1.heap.size + 1 ∧ n < w1.heap.size + 1 + 1 ∧ n < w1.heap.size + 1 + 1 + 1 ∧ n < w1.heap.size + 1 + 1 + 1 + 1 ∧ n < w1.heap.size + 1 + 1 + 1 + 1 + 1 := by
  have := hb.size
  omega
theorem bz12 {n : Nat} {W w1 : World} (hb : Below W.heap.size W w1) (h : n + 12 ≤ W.heap.size) :
    n < w1.heap.size ∧ n + 1 < w1.heap.size ∧ n + 1 + 1 < w1.heap.size ∧ n + 1 + 1 + 1 < w1.heap.size ∧ n + 1 + 1 + 1 + 1 < w1.heap.size ∧ n + 1 + 1 + 1 + 1 + 1 < w1.heap.size ∧ n + 1 + 1 + 1 + 1 + 1 + 1 < w1.heap.size ∧ n + 1 + 1 + 1 + 1 + 1 + 1 + 1 < w1.heap.size ∧ n + 1 + 1 + 1 + 1 + 1 + 1 + 1 + 1 < w1.heap.size ∧ n + 1 + 1 + 1 + 1 + 1 + 1 + 1 + 1 + 1 < w1.heap.size ∧ n + 1 + 1 + 1 + 1 + 1 + 1 + 1 + 1 + 1 + 1 < w1.heap.size ∧ n + 1 + 1 + 1 + 1 + 1 + 1 + 1 + 1 + 1 + 1 + 1 < w1.heap.size ∧ n ≤ w1.heap.size ∧ n + 1 ≤ w1.heap.size ∧ n + 1 + 1 ≤ w1.heap.size ∧ n + 1 + 1 + 1 ≤ w1.heap.size ∧ n + 1 + 1 + 1 + 1 ≤ w1.heap.size ∧ n + 1 + 1 + 1 + 1 + 1 ≤ w1.heap.size ∧ n + 1 + 1 + 1 + 1 + 1 + 1 ≤ w1.heap.size ∧ n + 1 + 1 + 1 + 1 + 1 + 1 + 1 ≤ w1.heap.size ∧ n + 1 + 1 + 1 + 1 + 1 + 1 + 1 + 1 ≤ w1.heap.size ∧ n + 1 + 1 + 1 + 1 + 1 + 1 + 1 + 1 + 1 ≤ w1.heap.size ∧ n + 1 + 1 + 1 + 1 + 1 + 1 + 1 + 1 + 1 + 1 ≤ w1.heap.size ∧ n + 1 + 1 + 1 + 1 + 1 + 1 + 1 + 1 + 1 + 1 + 1 ≤ w1.heap.size ∧ n ≤ w1.heap.size + 1 ∧ n ≤ w1.heap.size + 1 + 1 ∧ n ≤ w1.heap.size + 1 + 1 + 1 ∧ n ≤ w1.heap.size + 1 + 1 + 1 + 1 ∧ n ≤ w1.heap.size + 1 + 1 + 1 + 1 + 1 ∧ n < w1.heap.size + 1 ∧ n < w1.heap.size + 1 + 1 ∧ n < w1.heap.size + 1 + 1 + 1 ∧ n < w1.heap.size + 1 + 1 + 1 + 1 ∧ n < w1.heap.size + 1 + 1 + 1 + 1 + 1 := by
  have := hb.size
  omega

theorem bzz {W w1 : World} (hb : Below W.heap.size W w1) :
    ((∀ b, b < W.heap.size → b < w1.heap.size) ∧ (∀ b, b ≤ W.heap.size → b ≤ w1.heap.size) ∧ (∀ b, b ≤ W.heap.size → b ≤ w1.heap.size + 1) ∧ (∀ b, b ≤ W.heap.size → b ≤ w1.heap.size + 1 + 1) ∧ (∀ b, b ≤ W.heap.size → b ≤ w1.heap.size + 1 + 1 + 1) ∧ (∀ b, b ≤ W.heap.size → b ≤ w1.heap.size + 1 + 1 + 1 + 1)) ∧ W.heap.size ≤ w1.heap.size := by
  have := hb.size
  refine ⟨⟨?_, ?_, ?_, ?_, ?_, ?_⟩, this⟩ <;> intro b h <;> omega
theorem below_alloc {B : Nat} {a w : World} (h : Below B a w) (o : Obj) (hB : B ≤ w.heap.size) : Below B a (w.alloc o) := h.alloc hB o
theorem below_dN {B : Nat} {a w : World} (h : Below B a w) (n : Nat) : Below B a (w.drewN n) := ⟨h.os, h.tape, h.output, h.size, h.block⟩
theorem below_set {B : Nat} {a w : World} {p : Addr} (u : Value) (h : Below B a w) (hp : B ≤ p.block) : Below B a (w.setCell p u) := h.setCell hp u
theorem below_thenA {B : Nat} {a w w' : World} (h' : Below w.heap.size w w') (h : Below B a w) (hB : B ≤ w.heap.size) : Below B a w' := h.trans (h'.mono hB)
theorem below_then {B : Nat} {a w w' : World} (h : Below B a w) (h' : Below w.heap.size w w') (hB : B ≤ w.heap.size) : Below B a w' := h.trans (h'.mono hB)
theorem ret_int {k : IntKind} {a b : Int} (h : a = b) : Ending.returned (.int k a) = .returned (.int k b) := by rw [h]
theorem u64n (n : Int) : 0 ≤ IntKind.u64.wrap n := wrap_u64_nonneg n

theorem add64 (x y c : Int) (hx : 0 ≤ x) (hy : 0 ≤ y) (hc0 : 0 ≤ c) (hc : c ≤ 1) (w : World) : (callFunc 152 #[.int .u64 x, .int .u64 y, .int .u64 c]).run Tryz.prog w =
    .ok (.value (.tuple #[.int .u64 ((x + y + c) % 18446744073709551616), .int .u64 ((x + y + c) / 18446744073709551616)])) w := by
  rw [run_callFunc_extern Tryz.func152 (by kernel_rfl) (by kernel_rfl) (by kernel_rfl) (e := add64Entry) (by kernel_rfl), run_add64 x y c hx hy hc0 hc]
  rfl
theorem add64_0 (x y : Int) (hx : 0 ≤ x) (hy : 0 ≤ y) (w : World) : (callFunc 152 #[.int .u64 x, .int .u64 y, .int .u64 0]).run Tryz.prog w =
    .ok (.value (.tuple #[.int .u64 ((x + y) % 18446744073709551616), .int .u64 ((x + y) / 18446744073709551616)])) w := by
  simpa using add64 x y 0 hx hy (Int.le_refl 0) (by decide) w
theorem add64_x0 (x c : Int) (hx : 0 ≤ x) (hc0 : 0 ≤ c) (hc : c ≤ 1) (w : World) : (callFunc 152 #[.int .u64 x, .int .u64 0, .int .u64 c]).run Tryz.prog w =
    .ok (.value (.tuple #[.int .u64 ((x + c) % 18446744073709551616), .int .u64 ((x + c) / 18446744073709551616)])) w := by
  simpa using add64 x 0 c hx (Int.le_refl 0) hc0 hc w

theorem u64_not (l : Int) (h0 : 0 ≤ l) (h1 : l ≤ 18446744073709551615) : bits .xor .u64 18446744073709551615 l = 18446744073709551615 - l := by
  obtain ⟨a, rfl⟩ := Int.eq_ofNat_of_zero_le h0
  show IntKind.u64.wrap ((BitVec.ofInt 64 18446744073709551615 ^^^ BitVec.ofInt 64 (a : Int)).toNat : Int) = _
  have h1 : BitVec.ofInt 64 18446744073709551615 = BitVec.allOnes 64 := by decide
  rw [h1, BitVec.allOnes_xor, BitVec.toNat_not, ofInt_u64 a (by omega)]
  simp [IntKind.wrap, IntKind.bits, IntKind.signed]
  omega
theorem u64le (n : Int) : IntKind.u64.wrap n ≤ 18446744073709551615 := by rw [IntKind.wrap_u64]; omega
/-- The two parts of a wide number. -/
def Wd (hi lo n : Int) : Prop := -9223372036854775808 ≤ hi ∧ hi ≤ 9223372036854775807 ∧ 0 ≤ lo ∧ lo ≤ 18446744073709551615 ∧ n = hi * 18446744073709551616 + lo
/-- Is it a wide number? -/
def WFit (n : Int) : Prop := -170141183460469231731687303715884105728 ≤ n ∧ n < 170141183460469231731687303715884105728
theorem Wd.fit {hi lo n : Int} (h : Wd hi lo n) : WFit n := by unfold Wd at h; unfold WFit; omega
theorem Wd.of {n : Int} (h : WFit n) : Wd (n / 18446744073709551616) (n % 18446744073709551616) n := by unfold WFit at h; unfold Wd; omega
theorem Wd.eq {hi lo n : Int} (h : Wd hi lo n) : hi = n / 18446744073709551616 ∧ lo = n % 18446744073709551616 := by unfold Wd at h; omega
def wv (n : Int) : Value := .agg #[.int .i64 (n / 18446744073709551616), .int .u64 (n % 18446744073709551616)]
theorem wv_eq {h l n : Int} (e1 : h = n / 18446744073709551616) (e2 : l = n % 18446744073709551616) : Value.agg #[.int .i64 h, .int .u64 l] = wv n := by rw [e1, e2]; rfl
end Go.Proofs.YtigjjddblijpbaaGreatDoor
namespace Go.Proofs.YtigjjddblijpbaaGreatDoor
open Go.ChangeShapes Go.WideShapes Go.ChangeAt Go.RowKit
section
variable {H : Type} {enc : TypeId × Value → H} {P : Program}
theorem post_below {f : Func} {s : ChangeSpec} {apart fresh handsOn : Bool} {W W' : World} {args : Array Value} {v : Value} {ds gs : List (DataW H)} {before pa pv : List MemPlace}
    (hW : DataW.Whole enc P f.params.toList s.vars apart W args.toList ds gs before)
    (hres : ∀ (b : Nat) (sp : Nat → Bool) (hd : Bool), DataW.TrodAll enc P W' b sp hd f.resultTypes.toList (v.resultList f.resultTypes.size) (s.fn H (ds ++ gs)).results [])
    (hargs : ∀ sp : Nat → Bool, (∀ p ∈ before, sp p.block = true) → DataW.TrodAll enc P W' 0 sp true f.params.toList args.toList (s.fn H (ds ++ gs)).args pa)
    (hvars : ∀ sp : Nat → Bool, (∀ p ∈ before, sp p.block = true) → DataW.TrodVars enc P W' sp s.vars (s.fn H (ds ++ gs)).vars pv)
    (hps : before = pa ++ pv) (hb : Below W.heap.size W W') :
    s.post enc P f apart fresh handsOn false W args v W' := by
  have hold : ∀ p ∈ before, (fun b => decide (b < W.heap.size)) p.block = true := fun p hp => by simpa using hW.lt p hp
  refine ⟨ds, gs, before, [], pa, pv, hW, hres _ _ _, hargs _ hold, hvars _ hold, World.keptBut_mono (fun p hp => ⟨hp, ?_⟩) (hb.frame _), fun h => by cases h⟩
  rw [hps, List.mem_append] at hp
  exact Or.inr hp
end
theorem fit_of_wf {x : Int} (h : (Lit.int .i64 x).wf = true) : -9223372036854775808 ≤ x ∧ x ≤ 9223372036854775807 := by
  simp [Lit.wf, IntKind.min, IntKind.max, IntKind.signed, IntKind.bits] at h
  exact ⟨by omega, by omega⟩
theorem fitu_of_wf {x : Int} (h : (Lit.int .u64 x).wf = true) : 0 ≤ x ∧ x ≤ 18446744073709551615 := by
  simp [Lit.wf, IntKind.min, IntKind.max, IntKind.signed, IntKind.bits] at h
  exact ⟨by omega, by omega⟩
theorem wd_of_wf {h l : Int} (w0 : (Lit.int .i64 h).wf = true) (w1 : (Lit.int .u64 l).wf = true) : Wd h l (h * 18446744073709551616 + l) := by
  have a := fit_of_wf w0
  have b := fitu_of_wf w1
  exact ⟨a.1, a.2, b.1, b.2, rfl⟩
end Go.Proofs.YtigjjddblijpbaaGreatDoor
namespace Go.Proofs.YtigjjddblijpbaaGreatDoor
open Go.RowKit
set_option linter.unusedSimpArgs false
set_option linter.unusedVariables false

/-- The block holds these cells. -/
def Blk (w : World) (b : Nat) (cs : Array Value) (T : TypeId) : Prop := w.heap[b]? = some (Obj.cells cs T (0, 0))
theorem Blk.cell {w : World} {b : Nat} {cs : Array Value} {T : TypeId} (h : Blk w b cs T) (i : Nat) (v : Value) (hv : cs[i]? = some v) : w.cell? ⟨b, i, none⟩ = some v := by rw [cell_of_row w b i _ _ _ h]; exact hv
theorem Blk.free {w : World} {b : Nat} {cs : Array Value} {T : TypeId} (h : Blk w b cs T) (i : Nat) : w.frozen? ⟨b, i, none⟩ = false := by simp [World.frozen?, show w.heap[b]? = _ from h]
theorem Blk.lt {w : World} {b : Nat} {cs : Array Value} {T : TypeId} (h : Blk w b cs T) : b < w.heap.size := (Array.getElem?_eq_some_iff.1 h).1
theorem Blk.new (w : World) (cs : Array Value) (T : TypeId) (b : Nat) (hb : b = w.heap.size) : Blk (w.alloc (.cells cs T)) b cs T := by subst hb; exact heap_alloc_new w _
theorem Blk.alloc {w : World} {b : Nat} {cs : Array Value} {T : TypeId} (h : Blk w b cs T) (o : Obj) : Blk (w.alloc o) b cs T := (Below.heap_alloc w o _ h.lt).trans h
theorem Blk.drew {w : World} {b : Nat} {cs : Array Value} {T : TypeId} (h : Blk w b cs T) : Blk w.drew b cs T := h
theorem Blk.drewN {w : World} {b : Nat} {cs : Array Value} {T : TypeId} (h : Blk w b cs T) (n : Nat) : Blk (w.drewN n) b cs T := h
theorem Blk.below {w w' : World} {b : Nat} {cs : Array Value} {T : TypeId} (h : Blk w b cs T) (hb : Below w.heap.size w w') : Blk w' b cs T := (hb.block b h.lt).trans h
theorem Blk.set {w : World} {b : Nat} {cs : Array Value} {T : TypeId} (h : Blk w b cs T) (i : Nat) (u : Value) : Blk (w.setCell ⟨b, i, none⟩ u) b (cs.setIfInBounds i u) T := by
  unfold Blk at *
  simp only [World.setCell, Array.getElem?_modify, if_true, h]
  rfl
theorem Blk.other {w : World} {b c : Nat} {cs : Array Value} {T : TypeId} (h : Blk w b cs T) (hc : b ≠ c) (i : Nat) (u : Value) : Blk (w.setCell ⟨c, i, none⟩ u) b cs T := by
  unfold Blk at *
  rw [Below.heap_setCell _ _ _ _ hc]; exact h
/-- Of what stood, block b alone may have turned. -/
structure But (b : Nat) (w w' : World) : Prop where
  os : w'.os = w.os
  tape : w'.tape = w.tape
  output : w'.output = w.output
  size : w.heap.size ≤ w'.heap.size
  block : ∀ k, k < w.heap.size → k ≠ b → w'.heap[k]? = w.heap[k]?
theorem But.of {b : Nat} {w w' : World} (h : Below w.heap.size w w') : But b w w' := ⟨h.os, h.tape, h.output, h.size, fun k hk _ => h.block k hk⟩
theorem But.trans {b : Nat} {u v w : World} (h : But b u v) (k : But b v w) : But b u w :=
  ⟨k.os.trans h.os, k.tape.trans h.tape, k.output.trans h.output, Nat.le_trans h.size k.size, fun i hi hne => (k.block i (Nat.lt_of_lt_of_le hi h.size) hne).trans (h.block i hi hne)⟩
theorem But.set {b : Nat} (w : World) (i : Nat) (u : Value) : But b w (w.setCell ⟨b, i, none⟩ u) :=
  ⟨rfl, rfl, rfl, by simp [World.setCell], fun k hk hne => Below.heap_setCell _ _ _ _ hne⟩
theorem But.to {b B : Nat} {w0 w w' : World} (h : But b w w') (h0 : Below B w0 w) (hb : B ≤ b) (hB : B ≤ w.heap.size) : Below B w0 w' :=
  h0.trans ⟨h.os, h.tape, h.output, h.size, fun k hk => h.block k (by omega) (by omega)⟩
theorem Blk.but {w w' : World} {b c : Nat} {cs : Array Value} {T : TypeId} (h : Blk w b cs T) (hb : But c w w') (hc : b ≠ c) : Blk w' b cs T := (hb.block b h.lt hc).trans h
/-- What is set behind a But is a But, where the block is new. -/
theorem But.setNew {b g : Nat} {w w' : World} (h : But b w w') (hg : w.heap.size ≤ g) (i : Nat) (u : Value) : But b w (w'.setCell ⟨g, i, none⟩ u) :=
  ⟨h.os, h.tape, h.output, by simp [World.setCell]; exact h.size, fun k hk hne => (Below.heap_setCell _ _ _ _ (show k ≠ g by omega)).trans (h.block k hk hne)⟩
/-- A slice of ints that came in. -/
def SliceI (k : IntKind) (w : World) (g off n cap : Nat) (xs : List Int) : Prop :=
  xs.length = cap ∧ n ≤ cap ∧ cap ≤ maxLen ∧ g < w.heap.size ∧ (∀ i, i < cap → w.cell? ⟨g, off + i, none⟩ = some (.int k (xs.getD i 0))) ∧ ∀ x, x ∈ xs → (Lit.int k x).wf = true
def SlV (k : IntKind) (w : World) (v : Value) : Prop := v = .slice none 0 0 ∨ ∃ (g off n cap : Nat) (xs : List Int), v = .slice (some ⟨g, off, none⟩) n cap ∧ SliceI k w g off n cap xs
/-- Blocks by a list; worlds in which of what stood those of a list alone may have turned. -/
def BlkL (w : World) (L : List (Nat × Array Value × TypeId)) : Prop := ∀ e, e ∈ L → Blk w e.1 e.2.1 e.2.2
structure ButL (l : List Nat) (w w' : World) : Prop where
  os : w'.os = w.os
  tape : w'.tape = w.tape
  output : w'.output = w.output
  size : w.heap.size ≤ w'.heap.size
  block : ∀ k, k < w.heap.size → k ∉ l → w'.heap[k]? = w.heap[k]?
theorem ButL.of {l : List Nat} {w w' : World} (h : Below w.heap.size w w') : ButL l w w' := ⟨h.os, h.tape, h.output, h.size, fun k hk _ => h.block k hk⟩
theorem ButL.trans {l : List Nat} {u v w : World} (h : ButL l u v) (k : ButL l v w) : ButL l u w :=
  ⟨k.os.trans h.os, k.tape.trans h.tape, k.output.trans h.output, Nat.le_trans h.size k.size, fun i hi hne => (k.block i (Nat.lt_of_lt_of_le hi h.size) hne).trans (h.block i hi hne)⟩
theorem ButL.set {l : List Nat} {b : Nat} (w : World) (i : Nat) (u : Value) (hb : b ∈ l) : ButL l w (w.setCell ⟨b, i, none⟩ u) :=
  ⟨rfl, rfl, rfl, by simp [World.setCell], fun k hk hne => Below.heap_setCell _ _ _ _ (fun e => hne (by rw [e]; exact hb))⟩
theorem ButL.to {l : List Nat} {B : Nat} {w0 w w' : World} (h : ButL l w w') (h0 : Below B w0 w) (hb : ∀ b, b ∈ l → B ≤ b) (hB : B ≤ w.heap.size) : Below B w0 w' :=
  h0.trans ⟨h.os, h.tape, h.output, h.size, fun k hk => h.block k (by omega) (fun hm => by have := hb k hm; omega)⟩
theorem Blk.butl {w w' : World} {l : List Nat} {b : Nat} {cs : Array Value} {T : TypeId} (h : Blk w b cs T) (hb : ButL l w w') (hc : b ∉ l) : Blk w' b cs T := (hb.block b h.lt hc).trans h
theorem ButL.setNew {l : List Nat} {g : Nat} {w w' : World} (h : ButL l w w') (hg : w.heap.size ≤ g) (i : Nat) (u : Value) : ButL l w (w'.setCell ⟨g, i, none⟩ u) :=
  ⟨h.os, h.tape, h.output, by simp [World.setCell]; exact h.size, fun k hk hne => (Below.heap_setCell _ _ _ _ (show k ≠ g by omega)).trans (h.block k hk hne)⟩
end Go.Proofs.YtigjjddblijpbaaGreatDoor
namespace Go.Proofs.YtigjjddblijpbaaGreatDoor
open Go.ChangeShapes Go.WideShapes Go.ChangeAt Go.RowKit Go.Joins Go.Deep
set_option linter.unusedVariables false
section
variable {H : Type} {enc : TypeId × Value → H} {P : Program}
theorem trodAll_carry {w w' : World} {base : Nat} {spare : Nat → Bool} {held : Bool} : ∀ {ts : List TypeId} {vs : List Value} {ds : List (DataW H)} {ps : List MemPlace},
    DataW.TrodAll enc P w base spare held ts vs ds ps → (∀ p ∈ ps, w.sameAt w' p) → DataW.TrodAll enc P w' base spare held ts vs ds ps
  | [], [], [], _, h, _ => h
  | _ :: _, _ :: _, _ :: _, _, ⟨p, q, ⟨n, h1⟩, h2, e⟩, hs =>
    ⟨p, q, ⟨n, DataW.trod_carry n _ _ _ h1 fun x hx => hs x (by rw [e]; exact List.mem_append_left _ hx)⟩, trodAll_carry h2 fun x hx => hs x (by rw [e]; exact List.mem_append_right _ hx), e⟩
/-- Behind a walk of a law: true; the arguments read as they did. -/
theorem post_law (hl : laidOutB P = true) (hm : mapsRowed P = true) (hz : ∀ t e, t < P.types.size → P.underlying t = some (.slice e) → 0 < P.cellsOf e)
    {f : Func} {s : ChangeSpec} {tb : TypeId} {W W' : World} {args : Array Value} {ds : List (DataW H)} {before : List MemPlace}
    (hW : DataW.Whole enc P f.params.toList s.vars false W args.toList ds [] before) (hv : s.vars = []) (ht : ∀ t ∈ f.params.toList, t < P.types.size)
    (hr : f.resultTypes = #[tb]) (hb : P.underlying tb = some .bool) (hf : s.fn H (ds ++ []) = { results := [.lit (.bool true)], args := ds }) (hB : Below W.heap.size W W') :
    s.post enc P f false true false false W args (.bool true) W' := by
  have hlt := hW.lt
  obtain ⟨p, q, hA, hV, rfl, hfz, hnd⟩ := hW
  rw [hv] at hV
  obtain ⟨_, rfl⟩ := trodVars_none hV
  rw [List.append_nil] at hlt hfz
  refine post_below (ds := ds) (gs := []) (pa := p) (pv := []) ⟨p, [], hA, by rw [hv]; rfl, rfl, by rw [List.append_nil]; exact hfz, hnd⟩ ?_ ?_ ?_ rfl hB
  · intro b sp hd
    rw [hf, hr]
    exact trodAll_cons_mk (shut_bool hb _) trodAll_mk0
  · intro sp hsp
    rw [hf]
    refine trodAll_carry (DataW.TrodAll.respare (kids_rows hl hm) hz ht hA fun x hx => hsp x (by rw [List.append_nil]; exact hx)) fun x hx => ?_
    exact hB.same (hlt x hx)
  · intro sp _
    rw [hf, hv]
    rfl
end
section
variable {H : Type} {enc : TypeId × Value → H} {P : Program} {w : World} {base : Nat} {spare : Nat → Bool} {held : Bool}
/-- A struct of one-cell fields, by value: each field by its own reading. -/
theorem open_flat {r : Reach} {b0 : Nat} {t : TypeId} {fs : Array Field} {v : Value} {d : DataW H} {p : List MemPlace} (hs : P.underlying t = some (.struct fs)) (hone : oneCellFields P fs = true) (hC : P.cellsOf t = fs.size)
    (hv : Value.okWide P w r b0 t v) (h : DataW.Trod enc P w base spare held t v d p) :
    ∃ l : List Value, v = .agg l.toArray ∧ l.length = fs.size ∧ ∀ (i : Nat) (f : Field), fs[i]? = some f → ∃ u y n, l[i]? = some u ∧ DataW.trod enc P w base spare held n f.type [u] = some y := by
  obtain ⟨⟨l⟩, rfl, hsz⟩ := okWide_struct hs hv
  obtain ⟨fuel, hf⟩ := h
  obtain ⟨xs, n, _, _, _, hlen, hg⟩ := DataW.trod_struct hs hf
  refine ⟨l, rfl, by rw [← hC, ← hsz]; rfl, fun i f hi => ?_⟩
  obtain ⟨ho, hk⟩ := hone_of hone i f hi
  have h1 := hg i f hi
  have hil : i < fs.size := (Array.getElem?_eq_some_iff.1 hi).1
  have hll : i < l.length := by rw [hC] at hsz; simp at hsz; omega
  have hxl : i < xs.length := by omega
  rw [ho, hk] at h1
  have e : (l.drop i).take 1 = [l[i]] := by rw [List.drop_eq_getElem_cons hll]; rfl
  rw [show (Value.agg { toList := l }).cells.toList = l from rfl, e, List.getElem?_eq_getElem hxl] at h1
  exact ⟨l[i], xs[i], n, List.getElem?_eq_getElem hll, h1⟩
/-- An array of structs of one-cell fields, by value: each field by its own reading. -/
theorem open_arr_flat {r : Reach} {b0 n : Nat} {t e : TypeId} {fs : Array Field} {v : Value} {d : DataW H} {p : List MemPlace} (hs : P.underlying t = some (.array n e)) (he : P.underlying e = some (.struct fs)) (hone : oneCellFields P fs = true) (hE : P.cellsOf e = fs.size) (hC : P.cellsOf t = n * fs.size)
    (hv : Value.okWide P w r b0 t v) (h : DataW.Trod enc P w base spare held t v d p) :
    ∃ l : List Value, v = .agg l.toArray ∧ l.length = n * fs.size ∧ ∀ (i j : Nat) (f : Field), i < n → fs[j]? = some f → ∃ u y m, l[i * fs.size + j]? = some u ∧ DataW.trod enc P w base spare held m f.type [u] = some y := by
  simp only [Value.okWide, hs] at hv
  obtain ⟨⟨l⟩, rfl, hsz, _⟩ := hv
  obtain ⟨fuel, hf⟩ := h
  obtain ⟨xs, m, _, _, _, hxl, hg⟩ := DataW.trod_array hs hf
  have hl : l.length = n * fs.size := by rw [← hC, ← hsz]; rfl
  refine ⟨l, rfl, hl, fun i j f hi hj => ?_⟩
  have hjl : j < fs.size := (Array.getElem?_eq_some_iff.1 hj).1
  have h1 := hg i hi
  rw [List.getElem?_eq_getElem (by omega), show (Value.agg { toList := l }).cells.toList = l from rfl, hE] at h1
  obtain ⟨ys, m', _, _, _, hyl, hg2⟩ := DataW.trod_struct he h1
  have h2 := hg2 j f hj
  obtain ⟨ho, hk⟩ := hone_of hone j f hj
  have hin : i * fs.size + j < l.length := by
    rw [hl]
    have : (i + 1) * fs.size ≤ n * fs.size := Nat.mul_le_mul_right _ hi
    rw [Nat.add_mul] at this
    omega
  rw [ho, hk, List.getElem?_eq_getElem (show j < ys.length by omega)] at h2
  have e : (((l.drop (i * fs.size)).take fs.size).drop j).take 1 = [l[i * fs.size + j]] := by
    rw [List.drop_take, List.take_take, List.drop_drop, show min 1 (fs.size - j) = 1 by omega, List.drop_eq_getElem_cons hin]
    rfl
  rw [e] at h2
  exact ⟨_, _, m', List.getElem?_eq_getElem hin, h2⟩
theorem flat_int {t : TypeId} {k : IntKind} (ht : P.underlying t = some (.int k)) {l : List Value} {i : Nat} (h : ∃ u y n, l[i]? = some u ∧ DataW.trod enc P w base spare held n t [u] = some y) :
    ∃ a : Int, l[i]? = some (.int k a) ∧ (Lit.int k a).wf = true := by
  obtain ⟨u, y, n, h1, h2⟩ := h
  obtain ⟨a, e, _, hw⟩ := DataW.trod_int ht h2
  obtain rfl : u = .int k a := by simpa using e
  exact ⟨a, h1, hw⟩
theorem flat_bool {t : TypeId} (ht : P.underlying t = some .bool) {l : List Value} {i : Nat} (h : ∃ u y n, l[i]? = some u ∧ DataW.trod enc P w base spare held n t [u] = some y) :
    ∃ a : Bool, l[i]? = some (.bool a) := by
  obtain ⟨u, y, n, h1, h2⟩ := h
  obtain ⟨a, e, _⟩ := DataW.trod_bool ht h2
  obtain rfl : u = .bool a := by simpa using e
  exact ⟨a, h1⟩
theorem flat_string {t : TypeId} (ht : P.underlying t = some .string) {l : List Value} {i : Nat} (h : ∃ u y n, l[i]? = some u ∧ DataW.trod enc P w base spare held n t [u] = some y) :
    ∃ a : ByteArray, l[i]? = some (.string a) ∧ a.size ≤ maxLen := by
  obtain ⟨u, y, n, h1, h2⟩ := h
  obtain ⟨a, e, _, hm⟩ := DataW.trod_string ht h2
  obtain rfl : u = .string a := by simpa using e
  exact ⟨a, h1, hm⟩
end
theorem open_sl {H : Type} {enc : TypeId × Value → H} {P : Program} {w : World} {r : Reach} {b0 base : Nat} {spare : Nat → Bool} {held : Bool} {t e : TypeId} {k : IntKind} {v : Value} {d : DataW H} {p : List MemPlace} (ht : P.underlying t = some (.slice e)) (he : P.underlying e = some (.int k)) (hc : P.cellsOf e = 1)
    (hsp : spare = fun _ => true) (hv : Value.okWide P w r b0 t v) (h : DataW.Trod enc P w base spare held t v d p) : SlV k w v := by
  obtain ⟨fuel, hf⟩ := h
  have hv' := hv
  simp only [Value.okWide, ht] at hv'
  obtain ⟨a, l, c, rfl⟩ := okWide_slice ht hv
  rcases open_ints ht he hc hf with ⟨hcs, _⟩ | ⟨a', len, cap, zs, hcs, _, hl, hm, hz, _, hcell, hwz⟩
  · left
    have : (Value.slice a l c).cells.toList = [.slice a l c] := rfl
    rw [this] at hcs
    simpa using hcs
  · have : (Value.slice a l c).cells.toList = [.slice a l c] := rfl
    rw [this] at hcs
    obtain ⟨rfl, rfl, rfl⟩ : a = some a' ∧ l = len ∧ c = cap := by simpa using hcs
    simp only [Cell.okWide, Cell.ok, ht] at hv'
    obtain ⟨_, _, _, hspot, row, cells, hshape, _⟩ := hv'
    obtain ⟨g, off, spot⟩ := a'
    simp only at hspot hshape
    subst hspot
    have hg : g < w.heap.size := by
      rcases Nat.lt_or_ge g w.heap.size with h | h
      · exact h
      · unfold World.shape? at hshape
        rw [Array.getElem?_eq_none h] at hshape
        cases hshape
    right
    rw [hsp] at hz
    simp only [if_true] at hz
    refine ⟨g, off, l, c, zs, rfl, hz, hl, hm, hg, fun i hi => ?_, hwz⟩
    have := hcell i (by omega)
    have hadd : (⟨g, off, none⟩ : Addr).add i = ⟨g, off + i, none⟩ := by unfold Addr.add; split <;> simp_all
    rwa [hadd] at this
def listAt (l : List Value) : Nat → List Value → Prop
  | _, [] => True
  | k, x :: xs => l[k]? = some x ∧ listAt l (k + 1) xs
theorem list_end {l : List Value} {k : Nat} : listAt l k [] := trivial
theorem list_step {l : List Value} {k : Nat} {x : Value} {xs : List Value} (h : l[k]? = some x) (hs : listAt l (k + 1) xs) : listAt l k (x :: xs) := ⟨h, hs⟩
theorem listAt.get {l : List Value} : ∀ {xs : List Value} {k : Nat}, listAt l k xs → ∀ i, i < xs.length → l[k + i]? = xs[i]?
  | x :: xs, k, h, i, hi => by
    cases i with
    | zero => simpa using h.1
    | succ i =>
      have := listAt.get h.2 i (by simpa using hi)
      rw [List.getElem?_cons_succ, ← this]; congr 1; omega
theorem list_by {l xs : List Value} {n : Nat} (hl : l.length = n) (h : listAt l 0 xs) (hn : xs.length = n := by rfl) : l = xs := by
  apply List.ext_getElem?
  intro i
  by_cases hi : i < xs.length
  · have := h.get i hi; rwa [Nat.zero_add] at this
  · rw [List.getElem?_eq_none (by omega), List.getElem?_eq_none (by omega)]
theorem u32_of_wf {x : Int} (h : (Lit.int .u32 x).wf = true) : 0 ≤ x ∧ x ≤ 4294967295 := by
  simp [Lit.wf, IntKind.min, IntKind.max, IntKind.signed, IntKind.bits] at h
  exact ⟨by omega, by omega⟩
theorem u16_of_wf {x : Int} (h : (Lit.int .u16 x).wf = true) : 0 ≤ x ∧ x ≤ 65535 := by
  simp [Lit.wf, IntKind.min, IntKind.max, IntKind.signed, IntKind.bits] at h
  exact ⟨by omega, by omega⟩
theorem u8_of_wf {x : Int} (h : (Lit.int .u8 x).wf = true) : 0 ≤ x ∧ x ≤ 255 := by
  simp [Lit.wf, IntKind.min, IntKind.max, IntKind.signed, IntKind.bits] at h
  exact ⟨by omega, by omega⟩
theorem i32_of_wf {x : Int} (h : (Lit.int .i32 x).wf = true) : -2147483648 ≤ x ∧ x ≤ 2147483647 := by
  simp [Lit.wf, IntKind.min, IntKind.max, IntKind.signed, IntKind.bits] at h
  exact ⟨by omega, by omega⟩
theorem slices_full : ∀ t e, t < Tryz.prog.types.size → Tryz.prog.underlying t = some (.slice e) → 0 < Tryz.prog.cellsOf e := slices_full_of Tryz.prog (by kernel_rfl)
end Go.Proofs.YtigjjddblijpbaaGreatDoor
namespace Go.Proofs.YtigjjddblijpbaaGreatDoor.Ex
open Go

/-- A store by numbers. -/
inductive Tr (α : Type) where
  | e
  | n (v : Option α) (l r : Tr α)
noncomputable def Tr.get {α : Type} (t : Tr α) : Nat → Option α :=
  Tr.rec (motive := fun _ => Nat → Option α) (fun _ => none)
    (fun v _ _ gl gr k => Nat.rec (motive := fun _ => Option α) v (fun k _ => Nat.rec (motive := fun _ => Option α) (gl (k / 2)) (fun _ _ => gr (k / 2)) (k % 2)) k) t
noncomputable def Tr.set {α : Type} (f : Nat) : Tr α → Nat → Option α → Tr α :=
  Nat.rec (motive := fun _ => Tr α → Nat → Option α → Tr α) (fun _ _ _ => .e)
    (fun _ ih t k x => Nat.rec (motive := fun _ => Tr α)
      (Tr.rec (motive := fun _ => Tr α) (.n x .e .e) (fun _ l r _ _ => .n x l r) t)
      (fun k _ => Nat.rec (motive := fun _ => Tr α)
        (Tr.rec (motive := fun _ => Tr α) (.n none (ih .e (k / 2) x) .e) (fun v l r _ _ => .n v (ih l (k / 2) x) r) t)
        (fun _ _ => Tr.rec (motive := fun _ => Tr α) (.n none .e (ih .e (k / 2) x)) (fun v l r _ _ => .n v l (ih r (k / 2) x)) t) (k % 2)) k) f
noncomputable def listRec {α β : Type} (z : β) (c : α → List α → β → β) (l : List α) : β := List.rec (motive := fun _ => β) z c l
noncomputable def natRec {β : Type} (z : β) (s : Nat → β → β) (n : Nat) : β := Nat.rec (motive := fun _ => β) z s n
noncomputable def listCase {α β : Type} (z : β) (c : α → List α → β) (l : List α) : β := List.rec (motive := fun _ => β) z (fun a l _ => c a l) l
noncomputable def natCase {β : Type} (z : β) (s : Nat → β) (n : Nat) : β := Nat.rec (motive := fun _ => β) z (fun n _ => s n) n
noncomputable def codeRec {β : Type} (skip : β) (region : Nat → Array Oper → Bool → β) (seq : β → β → β) (cond : Operand → β → β → β) (block : Nat → β → β) (loop : Code → β → β) (exit : Nat → β) (ret other : β) (c : Code) : β :=
  Code.rec (motive := fun _ => β) skip region (fun _ _ => seq) (fun c _ _ => cond c) (fun id _ => block id) (fun b => loop b) (fun _ _ _ _ _ _ => other) exit (fun _ _ => other) (fun _ => skip) (fun _ => other) ret (fun _ => other) c
end Go.Proofs.YtigjjddblijpbaaGreatDoor.Ex
namespace Go.Proofs.YtigjjddblijpbaaGreatDoor.Ex
open Go

section
variable {α : Type}
theorem Tr.get_e (k : Nat) : (Tr.e : Tr α).get k = none := rfl
theorem Tr.get_0 (v : Option α) (l r : Tr α) : (Tr.n v l r).get 0 = v := rfl
theorem Tr.get_s (v : Option α) (l r : Tr α) (k : Nat) : (Tr.n v l r).get (k + 1) = if k % 2 = 0 then l.get (k / 2) else r.get (k / 2) := by
  show Nat.rec (motive := fun _ => Option α) (l.get (k / 2)) (fun _ _ => r.get (k / 2)) (k % 2) = _
  rcases Nat.mod_two_eq_zero_or_one k with h | h <;> rw [h] <;> rfl
theorem Tr.set_s (f : Nat) (t : Tr α) (k : Nat) (x : Option α) : Tr.set (f + 1) t (k + 1) x =
    if k % 2 = 0 then (match t with | .e => .n none (Tr.set f .e (k / 2) x) .e | .n v l r => .n v (Tr.set f l (k / 2) x) r)
    else (match t with | .e => .n none .e (Tr.set f .e (k / 2) x) | .n v l r => .n v l (Tr.set f r (k / 2) x)) := by
  show Nat.rec (motive := fun _ => Tr α) _ _ (k % 2) = _
  rcases Nat.mod_two_eq_zero_or_one k with h | h <;> rw [h] <;> cases t <;> rfl
theorem Tr.get_set (f : Nat) : ∀ (t : Tr α) (k : Nat) (x : Option α) (j : Nat) (y : α), (Tr.set f t k x).get j = some y → (j = k ∧ x = some y) ∨ (j ≠ k ∧ t.get j = some y) := by
  induction f with
  | zero =>
    intro t k x j y h
    have h : (Tr.e : Tr α).get j = some y := h
    cases h
  | succ f ih =>
    intro t k x j y h
    cases k with
    | zero =>
      cases t with
      | e =>
        cases j with
        | zero => exact .inl ⟨rfl, h⟩
        | succ j =>
          have h : (Tr.n x .e .e).get (j + 1) = some y := h
          rw [Tr.get_s] at h
          split at h <;> simp [Tr.get_e] at h
      | n v l r =>
        cases j with
        | zero => exact .inl ⟨rfl, h⟩
        | succ j => exact .inr ⟨by omega, h⟩
    | succ k =>
      rw [Tr.set_s] at h
      cases j with
      | zero =>
        refine .inr ⟨by omega, ?_⟩
        split at h <;> cases t <;> exact h
      | succ j =>
        have hdiv : ∀ a b : Nat, a % 2 = b % 2 → a / 2 = b / 2 → a = b := fun a b h1 h2 => by omega
        split at h
        · rename_i hk
          cases t with
          | e =>
            simp only [Tr.get_s] at h
            split at h
            · rename_i hj
              rcases ih _ _ _ _ _ h with ⟨h1, h2⟩ | ⟨h1, h2⟩
              · exact .inl ⟨by rw [hdiv j k (by omega) h1], h2⟩
              · simp [Tr.get_e] at h2
            · simp [Tr.get_e] at h
          | n v l r =>
            simp only [Tr.get_s] at h
            split at h
            · rename_i hj
              rcases ih _ _ _ _ _ h with ⟨h1, h2⟩ | ⟨h1, h2⟩
              · exact .inl ⟨by rw [hdiv j k (by omega) h1], h2⟩
              · exact .inr ⟨fun e => h1 (by have : j = k := by omega
                                            rw [this]), by rw [Tr.get_s, if_pos hj]; exact h2⟩
            · rename_i hj
              exact .inr ⟨fun e => hj (by have : j = k := by omega
                                          rw [this]; exact hk), by rw [Tr.get_s, if_neg hj]; exact h⟩
        · rename_i hk
          cases t with
          | e =>
            simp only [Tr.get_s] at h
            split at h
            · simp [Tr.get_e] at h
            · rename_i hj
              rcases ih _ _ _ _ _ h with ⟨h1, h2⟩ | ⟨h1, h2⟩
              · exact .inl ⟨by rw [hdiv j k (by omega) h1], h2⟩
              · simp [Tr.get_e] at h2
          | n v l r =>
            simp only [Tr.get_s] at h
            split at h
            · rename_i hj
              exact .inr ⟨fun e => hk (by have : j = k := by omega
                                          rw [← this]; exact hj), by rw [Tr.get_s, if_pos hj]; exact h⟩
            · rename_i hj
              rcases ih _ _ _ _ _ h with ⟨h1, h2⟩ | ⟨h1, h2⟩
              · exact .inl ⟨by rw [hdiv j k (by omega) h1], h2⟩
              · exact .inr ⟨fun e => h1 (by have : j = k := by omega
                                            rw [this]), by rw [Tr.get_s, if_neg hj]; exact h2⟩
end
/-- What the names of numbers stand for. -/
structure Sy where
  i : Nat → Int
  f : Nat → Nat
/-- What the names of blocks stand for: a block, and how much a row there has room for. -/
abbrev Lb := Nat → Option (Nat × Nat)
mutual
/-- The value that a value with names stands for. -/
def conc (Y : Sy) (E : Lb) : Value → Option Value
  | .bool b => some (.bool b)
  | .int k n => some (.int k n)
  | .float k n => some (.float k n)
  | .complex k j m => match k, m with
    | .f32, 0 => some (.int .i64 (Y.i j))
    | .f32, 2 => some (.int .u8 (Y.i j))
    | .f32, 3 => some (.int .u32 (Y.i j))
    | .f64, 0 => some (.float .f64 (Y.f j))
    | .f64, 1 => (E j).map fun p => .int .i64 p.2
    | _, _ => none
  | .string s => some (.string s)
  | .pointer a => match a with
    | none => some (.pointer none)
    | some ⟨l, o, none⟩ => (E l).map fun p => .pointer (some ⟨p.1, o, none⟩)
    | some ⟨_, _, some _⟩ => none
  | .slice a n c => match a with
    | none => some (.slice none n c)
    | some ⟨l, o, none⟩ => (E l).map fun p => .slice (some ⟨p.1, o, none⟩) n c
    | some ⟨l, o, some _⟩ => (E l).map fun p => .slice (some ⟨p.1, o, none⟩) n p.2
  | .map a => match a with
    | none => some (.map none)
    | some l => (E l).map fun p => .map (some p.1)
  | .chan _ => none
  | .func fn fst cap => match fn, fst with
    | .func f, ⟨[]⟩ => (concA Y E cap).map fun l => .func (.func f) ⟨[]⟩ l
    | _, _ => none
  | .nilFunc => some .nilFunc
  | .iface t v => (conc Y E v).map fun v => .iface t v
  | .nilIface => some .nilIface
  | .agg a => (concA Y E a).map fun l => .agg l
  | .tuple a => (concA Y E a).map fun l => .tuple l
def concA (Y : Sy) (E : Lb) : Array Value → Option (Array Value)
  | ⟨l⟩ => (concL Y E l).map fun l => ⟨l⟩
def concL (Y : Sy) (E : Lb) : List Value → Option (List Value)
  | [] => some []
  | v :: l => match conc Y E v with
    | none => none
    | some v' => match concL Y E l with
      | none => none
      | some l' => some (v' :: l')
end
end Go.Proofs.YtigjjddblijpbaaGreatDoor.Ex
namespace Go.Proofs.YtigjjddblijpbaaGreatDoor.Ex
open Go
section
variable {Y : Sy} {E E' : Lb}
def Ext (E E' : Lb) : Prop := ∀ l p, E l = some p → E' l = some p
theorem Ext.refl (E : Lb) : Ext E E := fun _ _ h => h
theorem Ext.trans {E E1 E2 : Lb} (h : Ext E E1) (h' : Ext E1 E2) : Ext E E2 := fun l p x => h' l p (h l p x)
theorem concL_cons {v : Value} {l l' : List Value} (h : concL Y E (v :: l) = some l') : ∃ v' t, conc Y E v = some v' ∧ concL Y E l = some t ∧ l' = v' :: t := by
  unfold concL at h
  split at h
  · cases h
  · rename_i v' hv
    split at h
    · cases h
    · rename_i t ht
      cases h
      exact ⟨v', t, hv, ht, rfl⟩
theorem concL_cons' {v v' : Value} {l t : List Value} (h : conc Y E v = some v') (h' : concL Y E l = some t) : concL Y E (v :: l) = some (v' :: t) := by
  unfold concL; rw [h, h']
theorem concL_nil : concL Y E [] = some [] := rfl
theorem conc_agg {l l' : List Value} (h : concL Y E l = some l') : conc Y E (.agg ⟨l⟩) = some (.agg ⟨l'⟩) := by
  unfold conc concA; rw [h]; rfl
theorem conc_tuple {l l' : List Value} (h : concL Y E l = some l') : conc Y E (.tuple ⟨l⟩) = some (.tuple ⟨l'⟩) := by
  unfold conc concA; rw [h]; rfl
theorem conc_agg_inv {l : List Value} {v : Value} (h : conc Y E (.agg ⟨l⟩) = some v) : ∃ l', concL Y E l = some l' ∧ v = .agg ⟨l'⟩ := by
  unfold conc concA at h
  cases hl : concL Y E l with
  | none => rw [hl] at h; cases h
  | some l' => rw [hl] at h; cases h; exact ⟨l', rfl, rfl⟩
theorem conc_tuple_inv {l : List Value} {v : Value} (h : conc Y E (.tuple ⟨l⟩) = some v) : ∃ l', concL Y E l = some l' ∧ v = .tuple ⟨l'⟩ := by
  unfold conc concA at h
  cases hl : concL Y E l with
  | none => rw [hl] at h; cases h
  | some l' => rw [hl] at h; cases h; exact ⟨l', rfl, rfl⟩
theorem conc_func_inv {f : Nat} {l : List Value} {v : Value} (h : conc Y E (.func (.func f) ⟨[]⟩ ⟨l⟩) = some v) : ∃ l', concL Y E l = some l' ∧ v = .func (.func f) ⟨[]⟩ ⟨l'⟩ := by
  unfold conc concA at h
  cases hl : concL Y E l with
  | none => rw [hl] at h; cases h
  | some l' => rw [hl] at h; cases h; exact ⟨l', rfl, rfl⟩
theorem conc_func {f : Nat} {l l' : List Value} (h : concL Y E l = some l') : conc Y E (.func (.func f) ⟨[]⟩ ⟨l⟩) = some (.func (.func f) ⟨[]⟩ ⟨l'⟩) := by
  unfold conc concA; rw [h]; rfl
theorem conc_ptr_inv {l o : Nat} {v : Value} (h : conc Y E (.pointer (some ⟨l, o, none⟩)) = some v) : ∃ p, E l = some p ∧ v = .pointer (some ⟨p.1, o, none⟩) := by
  unfold conc at h
  cases hl : E l with
  | none => simp [hl] at h
  | some p => simp [hl] at h; exact ⟨p, rfl, h.symm⟩
theorem conc_ptr {l o : Nat} {p : Nat × Nat} (h : E l = some p) : conc Y E (.pointer (some ⟨l, o, none⟩)) = some (.pointer (some ⟨p.1, o, none⟩)) := by
  unfold conc; simp [h]
theorem conc_map_inv {l : Nat} {v : Value} (h : conc Y E (.map (some l)) = some v) : ∃ p, E l = some p ∧ v = .map (some p.1) := by
  unfold conc at h
  cases hl : E l with
  | none => simp [hl] at h
  | some p => simp [hl] at h; exact ⟨p, rfl, h.symm⟩
theorem conc_map {l : Nat} {p : Nat × Nat} (h : E l = some p) : conc Y E (.map (some l)) = some (.map (some p.1)) := by
  unfold conc; simp [h]
theorem conc_sl_inv {l o n c : Nat} {v : Value} (h : conc Y E (.slice (some ⟨l, o, none⟩) n c) = some v) : ∃ p, E l = some p ∧ v = .slice (some ⟨p.1, o, none⟩) n c := by
  unfold conc at h
  cases hl : E l with
  | none => simp [hl] at h
  | some p => simp [hl] at h; exact ⟨p, rfl, h.symm⟩
theorem conc_sl {l o n c : Nat} {p : Nat × Nat} (h : E l = some p) : conc Y E (.slice (some ⟨l, o, none⟩) n c) = some (.slice (some ⟨p.1, o, none⟩) n c) := by
  unfold conc; simp [h]
theorem conc_sr_inv {l o n c s : Nat} {v : Value} (h : conc Y E (.slice (some ⟨l, o, some s⟩) n c) = some v) : ∃ p, E l = some p ∧ v = .slice (some ⟨p.1, o, none⟩) n p.2 := by
  unfold conc at h
  cases hl : E l with
  | none => simp [hl] at h
  | some p => simp [hl] at h; exact ⟨p, rfl, h.symm⟩
theorem conc_sr {l o n c s : Nat} {p : Nat × Nat} (h : E l = some p) : conc Y E (.slice (some ⟨l, o, some s⟩) n c) = some (.slice (some ⟨p.1, o, none⟩) n p.2) := by
  unfold conc; simp [h]
mutual
theorem conc_ext (h : Ext E E') : ∀ (v v' : Value), conc Y E v = some v' → conc Y E' v = some v'
  | .bool b, v', hv => hv
  | .int k n, v', hv => hv
  | .float k n, v', hv => hv
  | .complex k j m, v', hv => by
    unfold conc at hv ⊢
    split at hv <;> first
      | exact hv
      | (cases hj : E j with
         | none => rw [hj] at hv; cases hv
         | some p => rw [hj] at hv; rw [h _ _ hj]; exact hv)
  | .string s, v', hv => hv
  | .pointer none, v', hv => hv
  | .pointer (some ⟨l, o, none⟩), v', hv => by
    obtain ⟨p, hp, rfl⟩ := conc_ptr_inv hv
    exact conc_ptr (h _ _ hp)
  | .pointer (some ⟨_, _, some _⟩), v', hv => by unfold conc at hv; cases hv
  | .slice none n c, v', hv => hv
  | .slice (some ⟨l, o, none⟩) n c, v', hv => by
    obtain ⟨p, hp, rfl⟩ := conc_sl_inv hv
    exact conc_sl (h _ _ hp)
  | .slice (some ⟨l, o, some s⟩) n c, v', hv => by
    obtain ⟨p, hp, rfl⟩ := conc_sr_inv hv
    exact conc_sr (h _ _ hp)
  | .map none, v', hv => hv
  | .map (some l), v', hv => by
    obtain ⟨p, hp, rfl⟩ := conc_map_inv hv
    exact conc_map (h _ _ hp)
  | .chan _, v', hv => by unfold conc at hv; cases hv
  | .func fn fst cap, v', hv => by
    unfold conc at hv ⊢
    split at hv
    · cases hc : concA Y E cap with
      | none => rw [hc] at hv; cases hv
      | some c =>
        rw [hc] at hv
        rw [concA_ext h cap c hc]
        exact hv
    · cases hv
  | .nilFunc, v', hv => hv
  | .iface t v, v', hv => by
    unfold conc at hv ⊢
    cases hc : conc Y E v with
    | none => rw [hc] at hv; cases hv
    | some c => rw [hc] at hv; rw [conc_ext h v c hc]; exact hv
  | .nilIface, v', hv => hv
  | .agg a, v', hv => by
    unfold conc at hv ⊢
    cases hc : concA Y E a with
    | none => rw [hc] at hv; cases hv
    | some c => rw [hc] at hv; rw [concA_ext h a c hc]; exact hv
  | .tuple a, v', hv => by
    unfold conc at hv ⊢
    cases hc : concA Y E a with
    | none => rw [hc] at hv; cases hv
    | some c => rw [hc] at hv; rw [concA_ext h a c hc]; exact hv
theorem concA_ext (h : Ext E E') : ∀ (v v' : Array Value), concA Y E v = some v' → concA Y E' v = some v'
  | ⟨l⟩, v', hv => by
    unfold concA at hv ⊢
    cases hc : concL Y E l with
    | none => rw [hc] at hv; cases hv
    | some c => rw [hc] at hv; rw [concL_ext h l c hc]; exact hv
theorem concL_ext (h : Ext E E') : ∀ (v v' : List Value), concL Y E v = some v' → concL Y E' v = some v'
  | [], v', hv => hv
  | v :: l, v', hv => by
    obtain ⟨a, t, h1, h2, rfl⟩ := concL_cons hv
    exact concL_cons' (conc_ext h v a h1) (concL_ext h l t h2)
end
theorem concL_len : ∀ {l l' : List Value}, concL Y E l = some l' → l'.length = l.length
  | [], l', h => by cases h; rfl
  | v :: l, l', h => by
    obtain ⟨a, t, _, h2, rfl⟩ := concL_cons h
    simp [concL_len h2]
theorem concL_get : ∀ {l l' : List Value}, concL Y E l = some l' → ∀ (i : Nat) (v : Value), l[i]? = some v → ∃ v', l'[i]? = some v' ∧ conc Y E v = some v'
  | [], l', h, i, v, hv => by simp at hv
  | x :: l, l', h, i, v, hv => by
    obtain ⟨a, t, h1, h2, rfl⟩ := concL_cons h
    cases i with
    | zero => simp at hv; subst hv; exact ⟨a, rfl, h1⟩
    | succ i => simp at hv; simpa using concL_get h2 i v hv
theorem concL_app : ∀ {l l' k k' : List Value}, concL Y E l = some l' → concL Y E k = some k' → concL Y E (l ++ k) = some (l' ++ k')
  | [], l', k, k', h, h' => by cases h; exact h'
  | v :: l, l', k, k', h, h' => by
    obtain ⟨a, t, h1, h2, rfl⟩ := concL_cons h
    exact concL_cons' h1 (concL_app h2 h')
theorem concL_take : ∀ {l l' : List Value} (n : Nat), concL Y E l = some l' → concL Y E (l.take n) = some (l'.take n)
  | l, l', 0, h => by simp [concL_nil]
  | [], l', n + 1, h => by cases h; rfl
  | v :: l, l', n + 1, h => by
    obtain ⟨a, t, h1, h2, rfl⟩ := concL_cons h
    exact concL_cons' h1 (concL_take n h2)
theorem concL_drop : ∀ {l l' : List Value} (n : Nat), concL Y E l = some l' → concL Y E (l.drop n) = some (l'.drop n)
  | l, l', 0, h => by simpa using h
  | [], l', n + 1, h => by cases h; rfl
  | v :: l, l', n + 1, h => by
    obtain ⟨a, t, h1, h2, rfl⟩ := concL_cons h
    simpa using concL_drop n h2
theorem concL_rep {v v' : Value} (h : conc Y E v = some v') : ∀ n, concL Y E (List.replicate n v) = some (List.replicate n v')
  | 0 => rfl
  | n + 1 => by rw [List.replicate_succ, List.replicate_succ]; exact concL_cons' h (concL_rep h n)
theorem concL_one {v v' : Value} (h : conc Y E v = some v') : concL Y E [v] = some [v'] := concL_cons' h concL_nil
end
/-- Values that hold no name. -/
def lit1 : Value → Bool
  | .bool _ | .int _ _ | .float _ _ | .string _ | .pointer none | .slice none _ _ | .map none | .nilFunc | .nilIface => true
  | _ => false
def litL : List Value → Bool
  | [] => true
  | v :: l => match lit1 v with
    | true => litL l
    | false => false
def lit : Value → Bool
  | .agg ⟨l⟩ => litL l
  | .tuple ⟨l⟩ => litL l
  | .func (.func _) ⟨[]⟩ ⟨[]⟩ => true
  | v => lit1 v
section
variable {Y : Sy} {E : Lb}
theorem lit1_conc {v : Value} (h : lit1 v = true) : conc Y E v = some v := by
  unfold lit1 at h
  split at h <;> first | rfl | cases h
theorem litL_conc : ∀ {l : List Value}, litL l = true → concL Y E l = some l
  | [], _ => rfl
  | v :: l, h => by
    unfold litL at h
    split at h
    · rename_i hv; exact concL_cons' (lit1_conc hv) (litL_conc h)
    · cases h
theorem lit_conc {v : Value} (h : lit v = true) : conc Y E v = some v := by
  unfold lit at h
  split at h
  · exact conc_agg (litL_conc h)
  · exact conc_tuple (litL_conc h)
  · rfl
  · exact lit1_conc h
end
/-- The cells of a value. -/
def cellsL : Value → List Value
  | .agg ⟨l⟩ => l
  | v => [v]
/-- A value of one cell. -/
def one1 : Value → Bool
  | .agg _ | .tuple _ => false
  | _ => true
def oneL : List Value → Bool
  | [] => true
  | v :: l => match one1 v with
    | true => oneL l
    | false => false
section
variable {Y : Sy} {E : Lb}
theorem conc_kind {v v' : Value} (h : conc Y E v = some v') : (∃ l l', v = .agg ⟨l⟩ ∧ v' = .agg ⟨l'⟩ ∧ concL Y E l = some l') ∨ (∃ l l', v = .tuple ⟨l⟩ ∧ v' = .tuple ⟨l'⟩ ∧ concL Y E l = some l') ∨ (one1 v = true ∧ one1 v' = true) := by
  cases v with
  | agg a => obtain ⟨l⟩ := a; obtain ⟨l', h1, rfl⟩ := conc_agg_inv h; exact .inl ⟨l, l', rfl, rfl, h1⟩
  | tuple a => obtain ⟨l⟩ := a; obtain ⟨l', h1, rfl⟩ := conc_tuple_inv h; exact .inr (.inl ⟨l, l', rfl, rfl, h1⟩)
  | complex k a b =>
    refine .inr (.inr ⟨rfl, ?_⟩)
    unfold conc at h
    split at h <;> first
      | (cases hj : E a with
         | none => rw [hj] at h; cases h
         | some p => rw [hj] at h; cases h; rfl)
      | (cases h; rfl)
      | cases h
  | pointer a =>
    refine .inr (.inr ⟨rfl, ?_⟩)
    obtain _ | ⟨l, o, _ | s⟩ := a
    · cases h; rfl
    · obtain ⟨p, _, rfl⟩ := conc_ptr_inv h; rfl
    · unfold conc at h; cases h
  | slice a n c =>
    refine .inr (.inr ⟨rfl, ?_⟩)
    obtain _ | ⟨l, o, _ | s⟩ := a
    · cases h; rfl
    · obtain ⟨p, _, rfl⟩ := conc_sl_inv h; rfl
    · obtain ⟨p, _, rfl⟩ := conc_sr_inv h; rfl
  | map a =>
    refine .inr (.inr ⟨rfl, ?_⟩)
    obtain _ | l := a
    · cases h; rfl
    · obtain ⟨p, _, rfl⟩ := conc_map_inv h; rfl
  | chan a => unfold conc at h; cases h
  | func fn f c =>
    refine .inr (.inr ⟨rfl, ?_⟩)
    unfold conc at h
    split at h
    · cases hc : concA Y E c with
      | none => rw [hc] at h; cases h
      | some c => rw [hc] at h; cases h; rfl
    · cases h
  | iface t v =>
    refine .inr (.inr ⟨rfl, ?_⟩)
    unfold conc at h
    cases hc : conc Y E v with
    | none => rw [hc] at h; cases h
    | some c => rw [hc] at h; cases h; rfl
  | _ => cases h; exact .inr (.inr ⟨rfl, rfl⟩)
theorem cellsL_conc {v v' : Value} (h : conc Y E v = some v') : ∃ l', concL Y E (cellsL v) = some l' ∧ v'.cells = ⟨l'⟩ := by
  rcases conc_kind h with ⟨l, l', rfl, rfl, hl⟩ | ⟨l, l', rfl, rfl, hl⟩ | ⟨h1, h2⟩
  · exact ⟨l', hl, rfl⟩
  · exact ⟨[.tuple ⟨l'⟩], concL_one h, rfl⟩
  · refine ⟨[v'], ?_, ?_⟩
    · cases v <;> first | exact concL_one h | cases h1
    · cases v' <;> first | rfl | cases h2
theorem one1_conc {v v' : Value} (h : conc Y E v = some v') (h1 : one1 v = true) : v'.oneCell' = true := by
  rcases conc_kind h with ⟨l, l', rfl, rfl, hl⟩ | ⟨l, l', rfl, rfl, hl⟩ | ⟨_, h2⟩
  · cases h1
  · cases h1
  · cases v' <;> first | rfl | cases h2
theorem oneL_conc : ∀ {l l' : List Value}, concL Y E l = some l' → oneL l = true → ∀ v ∈ l', v.oneCell' = true
  | [], l', h, _, v, hv => by cases h; cases hv
  | x :: l, l', h, h1, v, hv => by
    obtain ⟨a, t, ha, ht, rfl⟩ := concL_cons h
    unfold oneL at h1
    split at h1
    · rename_i hx
      cases hv with
      | head => exact one1_conc ha hx
      | tail _ hv => exact oneL_conc ht h1 v hv
    · cases h1
end
end Go.Proofs.YtigjjddblijpbaaGreatDoor.Ex
