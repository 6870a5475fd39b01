/-
  The reference's whole numbers, each function by its contract. First part: how they lie in memory; trim.
-/
/-
  The reference's whole numbers, each function by its contract. Second part: sizes, Minus, OfU.
-/
/-
  The reference's whole numbers, each function by its contract. Third part: Minus, OfU.
-/
/-
  The reference's whole numbers, each function by its contract. Fourth part: Plus.
-/
/-
  The reference's whole numbers, each function by its contract. Fifth part: Plus of two signs.
-/
/-
  The reference's whole numbers, each function by its contract. Sixth part: Plus, all cases.
-/
/-
  The reference's whole numbers, each function by its contract. Seventh part: Times.
-/
/-
  The reference's whole numbers, each function by its contract. Eighth part: Of, Cmp.
-/
/-
  The reference's whole numbers, each function by its contract. Ninth part: Cmp.
-/
/-
  The reference's whole numbers, each function by its contract. Tenth part: Power.
-/
/-
  The reference's whole numbers, each function by its contract. Eleventh part: OfWide, Fits.
-/
/-
  The reference's whole numbers, each function by its contract. Twelfth part: Fits.
-/
/-
  The reference's whole numbers, each function by its contract. Thirteenth part: Int.
-/
/-
  The reference of layer 4, each function by its contract: Length, Told.
-/
/-
  The functions of package ratio, each by its contract. First part: size, common, signed.
-/
/-
  The functions of package ratio, each by its contract. Second part: Of.
-/
/-
  The functions of package ratio, each by its contract. Third part: Good, Down.
-/
/-
  Plain facts on a long division bit by bit, and on quotients that are rounded down.
-/
/-
  The reference's whole numbers, each function by its contract. Fourteenth part: divided, a quotient of sizes.
-/
/-
  The reference's whole numbers, each function by its contract. Fifteenth part: Down, a quotient rounded down and its rest.
-/
/-
  The functions of package fixed, each by its contract. Third part: Part and Scale whatever they are given; Try over a closure that stores a number; the reference's Part.
-/
/-
  The reference of layer 2, each function by its contract. First part: Common, the greatest common divisor.
-/
/-
  The reference of layer 2, each function by its contract. Second part: size, Ints; boxes by a list.
-/
/-
  The reference of layer 2, each function by its contract. Third part: Lowest (begun).
-/
/-
  The reference of layer 2, each function by its contract. Fourth part: Good.
-/
import Derived.Test.YtigjjddblijpbaaGreatDoorZ1
import Derived.Test.YtigjjddblijpbaaGreatDoorZ9
import Derived.Deep.LoopGhost
import Derived.Deep.DeepCutAuto
import Derived.Deep.CutBlock
import Derived.Deep.CutRange
import Derived.BigQuiet
import Derived.Deep.OwnRows
import Derived.Deep.RegionWith
import Derived.Deep.RegionHeld3
import Derived.Test.YtigjjddblijpbaaGreatDoorZ8
namespace Go.Proofs.YtigjjddblijpbaaGreatDoor
open Go.RowKit
set_option linter.unusedSimpArgs false
set_option linter.unusedVariables false

/-- The pieces as values. -/
def u64s (ds : List Nat) : List Value := ds.map fun (d : Nat) => Value.int .u64 (d : Int)
/-- With its sign. -/
def sgn (neg : Bool) (n : Nat) : Int := if neg then -(n : Int) else n
/-- The slice has these pieces. -/
def Pcs (w : World) (ao : Option Addr) (k cap : Nat) (ds : List Nat) : Prop :=
  w.ownsRow 0 158 1 (.slice ao k cap) k (u64s ds) ∧ ds.length = k ∧ BM.Dig ds
theorem Pcs.len {w : World} {ao : Option Addr} {k cap : Nat} {ds : List Nat} (h : Pcs w ao k cap ds) : ds.length = k := h.2.1
theorem Pcs.dig {w : World} {ao : Option Addr} {k cap : Nat} {ds : List Nat} (h : Pcs w ao k cap ds) : BM.Dig ds := h.2.2
theorem Pcs.shape {w : World} {ao : Option Addr} {k cap : Nat} {ds : List Nat} (h : Pcs w ao k cap ds) : k ≤ cap ∧ cap ≤ maxLen := by
  rcases h.1.2 with ⟨e, rfl⟩ | ⟨g, c, cur, e, _, _, h1, h2, _⟩
  · simp at e; omega
  · simp at e; omega
theorem Pcs.nil (w : World) : Pcs w none 0 0 [] := ⟨World.ownsRow_nil _ _ _ _, rfl, BM.Dig.nil⟩
theorem Pcs.cell {w : World} {ao : Option Addr} {k cap : Nat} {ds : List Nat} (h : Pcs w ao k cap ds) (i : Nat) (hi : i < k) :
    ∃ g, ao = some ⟨g, 0, none⟩ ∧ w.cell? ⟨g, i, none⟩ = some (.int .u64 (((ds.getD i 0 : Nat) : Int))) ∧ g < w.heap.size := by
  obtain ⟨h1, h2, h3⟩ := h
  rcases h1.2 with ⟨e, e2⟩ | ⟨g, c, cur, e, _, hg, hl, hm, hs, ht⟩
  · omega
  · obtain ⟨rfl, _⟩ : ao = some ⟨g, 0, none⟩ ∧ cap = c := by simpa using e
    have hc := h1.cells (g := g) rfl i (.int .u64 (((ds.getD i 0 : Nat) : Int))) (by
      unfold u64s
      rw [List.getElem?_map, List.getElem?_eq_getElem (by omega)]
      simp [List.getD, List.getElem?_eq_getElem (show i < ds.length by omega)])
    have hadd : (⟨g, 0, none⟩ : Addr).add i = ⟨g, i, none⟩ := by unfold Addr.add; split <;> simp_all
    rw [hadd] at hc
    refine ⟨g, rfl, hc, ?_⟩
    exact (Array.getElem?_eq_some_iff.1 hg).1
theorem ownsRow_below {w w' : World} {e : TypeId} {size : Nat} {v : Value} {n : Nat} {xs : List Value} (h : w.ownsRow 0 e size v n xs) (hb : Below w.heap.size w w') : w'.ownsRow 0 e size v n xs := by
  refine ⟨h.1, ?_⟩
  rcases h.2 with h | ⟨g, cap, cur, hv, hg, hh, r⟩
  · exact .inl h
  · refine .inr ⟨g, cap, cur, hv, hg, ?_, r⟩
    rw [hb.block g (Array.getElem?_eq_some_iff.1 hh).1]
    exact hh
theorem Pcs.keep {w w' : World} {ao : Option Addr} {k cap : Nat} {ds : List Nat} (h : Pcs w ao k cap ds) (hb : Below w.heap.size w w') : Pcs w' ao k cap ds :=
  ⟨ownsRow_below h.1 hb, h.2⟩
theorem Pcs.take {w : World} {ao : Option Addr} {k cap : Nat} {ds : List Nat} (h : Pcs w ao k cap ds) (j : Nat) (hj : j ≤ k) : Pcs w ao j cap (ds.take j) := by
  obtain ⟨h1, h2, h3⟩ := h
  refine ⟨⟨by simp [u64s, h2]; omega, ?_⟩, by simp [h2]; omega, h3.take j⟩
  rcases h1.2 with ⟨e, e2⟩ | ⟨g, c, cur, e, hb, hg, hl, hm, hs, ht⟩
  · simp at e
    exact .inl ⟨by simp [e]; omega, by omega⟩
  · simp at e
    refine .inr ⟨g, c, cur, by simp [e], hb, hg, by omega, hm, hs, ?_⟩
    have : cur.toList.take (j * 1) = (cur.toList.take (k * 1)).take j := by rw [List.take_take]; congr 1; omega
    rw [this, ht]
    simp [u64s, List.map_take]

/-- All blocks of pieces are as they were. -/
def Keeps (w w' : World) : Prop := ∀ (g : Nat) (cur : Array Value), w.heap[g]? = some (Obj.cells cur 158 (0, 0)) → w'.heap[g]? = some (Obj.cells cur 158 (0, 0))
/-- The block's cells are of this type. -/
def TyAt (w : World) (b : Nat) (T : TypeId) : Prop := ∃ (c : Array Value) (fr : Nat × Nat), w.heap[b]? = some (Obj.cells c T fr)
theorem TyAt.new (w : World) (c : Array Value) (T : TypeId) (b : Nat) (hb : b = w.heap.size) : TyAt (w.alloc (.cells c T)) b T := by
  subst hb
  exact ⟨c, (0, 0), heap_alloc_new w _⟩
theorem TyAt.lt {w : World} {b : Nat} {T : TypeId} (h : TyAt w b T) : b < w.heap.size := by
  obtain ⟨c, fr, h⟩ := h
  exact (Array.getElem?_eq_some_iff.1 h).1
theorem TyAt.alloc {w : World} {b : Nat} {T : TypeId} (h : TyAt w b T) (o : Obj) : TyAt (w.alloc o) b T := by
  have hl := h.lt
  obtain ⟨c, fr, h⟩ := h
  exact ⟨c, fr, by exact (Below.heap_alloc w o _ hl).trans h⟩
theorem TyAt.below {w w' : World} {b : Nat} {T : TypeId} (h : TyAt w b T) (hb : Below w.heap.size w w') : TyAt w' b T := by
  have hl := h.lt
  obtain ⟨c, fr, h⟩ := h
  exact ⟨c, fr, by rw [hb.block b hl]; exact h⟩
theorem TyAt.set {w : World} {b : Nat} {T : TypeId} (h : TyAt w b T) (a : Addr) (u : Value) : TyAt (w.setCell a u) b T := by
  obtain ⟨c, fr, h⟩ := h
  simp only [TyAt, World.setCell, Array.getElem?_modify]
  by_cases e : a.block = b
  · rw [if_pos e, h]
    exact ⟨_, _, rfl⟩
  · rw [if_neg e]
    exact ⟨c, fr, h⟩
theorem TyAt.drew {w : World} {b : Nat} {T : TypeId} (h : TyAt w b T) : TyAt w.drew b T := h
theorem TyAt.drewN {w : World} {b : Nat} {T : TypeId} (h : TyAt w b T) (n : Nat) : TyAt (w.drewN n) b T := h
theorem Keeps.refl (w : World) : Keeps w w := fun _ _ h => h
theorem Keeps.alloc {w w' : World} (h : Keeps w w') (o : Obj) : Keeps w (w'.alloc o) := fun g cur hg => by
  have := h g cur hg
  exact (Below.heap_alloc w' o _ (Array.getElem?_eq_some_iff.1 this).1).trans this
theorem Keeps.drew {w w' : World} (h : Keeps w w') : Keeps w w'.drew := h
theorem Keeps.drewN {w w' : World} (h : Keeps w w') (n : Nat) : Keeps w (w'.drewN n) := h
theorem Keeps.below {w w' w'' : World} (hb : Below w'.heap.size w' w'') (h : Keeps w w') : Keeps w w'' := fun g cur hg => by
  have := h g cur hg
  rw [hb.block g (Array.getElem?_eq_some_iff.1 this).1]; exact this
theorem Keeps.set {w w' : World} (h : Keeps w w') (a : Addr) (u : Value) {T : TypeId} (ht : TyAt w' a.block T) (hT : T ≠ 158) : Keeps w (w'.setCell a u) := fun g cur hg => by
  have h1 := h g cur hg
  obtain ⟨c, fr, h2⟩ := ht
  have hne : g ≠ a.block := by
    intro e
    subst e
    rw [h1] at h2
    simp at h2
    exact hT h2.2.1.symm
  rw [Below.heap_setCell _ _ _ _ hne]; exact h1
theorem Pcs.keeps {w w' : World} {ao : Option Addr} {k cap : Nat} {ds : List Nat} (h : Pcs w ao k cap ds) (hb : Keeps w w') : Pcs w' ao k cap ds := by
  refine ⟨⟨h.1.1, ?_⟩, h.2⟩
  rcases h.1.2 with h | ⟨g, c, cur, hv, hg, hh, r⟩
  · exact .inl h
  · exact .inr ⟨g, c, cur, hv, hg, hb g cur hh, r⟩

/-- How a whole number lies in memory. -/
def IsBig (w : World) (neg : Bool) (ao : Option Addr) (k cap : Nat) (n : Int) : Prop :=
  ∃ ds, Pcs w ao k cap ds ∧ BM.Trim ds ∧ (neg = true → ds ≠ []) ∧ n = sgn neg (BM.bval ds)
theorem IsBig.keep {w w' : World} {neg : Bool} {ao : Option Addr} {k cap : Nat} {n : Int} (h : IsBig w neg ao k cap n) (hb : Below w.heap.size w w') : IsBig w' neg ao k cap n := by
  obtain ⟨ds, h1, h2⟩ := h
  exact ⟨ds, h1.keep hb, h2⟩
theorem IsBig.keeps {w w' : World} {neg : Bool} {ao : Option Addr} {k cap : Nat} {n : Int} (h : IsBig w neg ao k cap n) (hb : Keeps w w') : IsBig w' neg ao k cap n := by
  obtain ⟨ds, h1, h2⟩ := h
  exact ⟨ds, h1.keeps hb, h2⟩
/-- What a function answers that gives back a whole number. -/
def BigRet (n : Int) (w : World) (e : Ending) (w' : World) : Prop :=
  ∃ neg ao k cap, e = .returned (.agg #[.bool neg, .slice ao k cap]) ∧ IsBig w' neg ao k cap n ∧ Below w.heap.size w w'

end Go.Proofs.YtigjjddblijpbaaGreatDoor
namespace Go.Proofs.YtigjjddblijpbaaGreatDoor
open Go.RowKit
set_option linter.unusedSimpArgs false
set_option linter.unusedVariables false

def cmpN (a b : Nat) : Int := if a < b then -1 else if b < a then 1 else 0
theorem cmpN_lt {a b : Nat} (h : a < b) : cmpN a b = -1 := if_pos h
theorem cmpN_gt {a b : Nat} (h : b < a) : cmpN a b = 1 := by unfold cmpN; rw [if_neg (by omega), if_pos h]
theorem cmpN_eq {a b : Nat} (h : a = b) : cmpN a b = 0 := by unfold cmpN; rw [if_neg (by omega), if_neg (by omega)]

end Go.Proofs.YtigjjddblijpbaaGreatDoor
namespace Go.Proofs.YtigjjddblijpbaaGreatDoor
open Go.RowKit
set_option linter.unusedSimpArgs false
set_option linter.unusedVariables false

theorem IsBig.shape {w : World} {neg : Bool} {ao : Option Addr} {k cap : Nat} {n : Int} (h : IsBig w neg ao k cap n) : k ≤ cap ∧ cap ≤ maxLen := by
  obtain ⟨ds, h, _⟩ := h
  exact h.shape
theorem IsBig.len {w : World} {neg : Bool} {ao : Option Addr} {k cap : Nat} {n : Int} (h : IsBig w neg ao k cap n) {j : Nat} (hs : BM.Sz n j) : k ≤ j := by
  obtain ⟨ds, h1, h2, _, rfl⟩ := h
  rw [← h1.len]
  refine h2.len ?_
  have : (sgn neg (BM.bval ds)).natAbs = BM.bval ds := by cases neg <;> simp [sgn]
  unfold BM.Sz at hs
  omega
theorem sgn_not (neg : Bool) (n : Nat) : sgn (!neg) n = -sgn neg n := by cases neg <;> simp [sgn]

/-- The pieces of a slice of the call's own. -/
def Own (w : World) (B : Nat) (ao : Option Addr) (k cap : Nat) (ds : List Nat) : Prop :=
  w.ownsRow B 158 1 (.slice ao k cap) k (u64s ds) ∧ ds.length = k ∧ BM.Dig ds
theorem Own.pcs {w : World} {B : Nat} {ao : Option Addr} {k cap : Nat} {ds : List Nat} (h : Own w B ao k cap ds) : Pcs w ao k cap ds := by
  refine ⟨⟨h.1.1, ?_⟩, h.2⟩
  rcases h.1.2 with h | ⟨g, c, cur, hv, hg, r⟩
  · exact .inl h
  · exact .inr ⟨g, c, cur, hv, Nat.zero_le _, r⟩
theorem Own.nil (w : World) (B : Nat) : Own w B none 0 0 [] := ⟨World.ownsRow_nil _ _ _ _, rfl, BM.Dig.nil⟩
theorem trim_snoc {ds : List Nat} {d : Nat} (h : d ≠ 0) : BM.Trim (ds ++ [d]) := by
  intro hne
  simpa using h
theorem pow_lt_four {k m n : Nat} (h : 65536 ^ k * m ≤ n) (hm : 0 < m) (hn : n < 18446744073709551616) : k < 4 := by
  rcases Nat.lt_or_ge k 4 with h1 | h1
  · exact h1
  · have a : 65536 ^ 4 ≤ 65536 ^ k := Nat.pow_le_pow_right (by decide) h1
    have b : 65536 ^ k * 1 ≤ 65536 ^ k * m := Nat.mul_le_mul_left _ hm
    have c : (65536 : Nat) ^ 4 = 18446744073709551616 := by decide
    omega

end Go.Proofs.YtigjjddblijpbaaGreatDoor
namespace Go.Proofs.YtigjjddblijpbaaGreatDoor
open Go.RowKit
set_option linter.unusedSimpArgs false
set_option linter.unusedVariables false

theorem one_cell (w : World) (x : Value) (T : TypeId) : ∀ (j : Nat) (u : Value), [x][j]? = some u → (w.alloc (.cells #[x] T)).cell? ((⟨w.heap.size, 0, none⟩ : Addr).add j) = some u := by
  intro j u hj
  match j, hj with
  | 0, hj => simp at hj; subst hj; simp [Addr.add]
theorem one_one (n : Int) : ∀ u ∈ [Value.int .u64 n], u.oneCell' = true := by
  intro u hu; simp at hu; subst hu; rfl
theorem bval_take_getD (xs : List Nat) (j : Nat) : BM.bval (xs.take (j + 1)) = BM.bval (xs.take j) + 65536 ^ j * xs.getD j 0 := by
  by_cases h : j < xs.length
  · rw [BM.bval_take_succ xs j h]
    simp [List.getD, h]
  · rw [List.take_of_length_le (by omega), List.take_of_length_le (by omega)]
    simp [List.getD, List.getElem?_eq_none (show xs.length ≤ j by omega)]
theorem getD_past {xs : List Nat} {j : Nat} (h : xs.length ≤ j) : xs.getD j 0 = 0 := by
  simp [List.getD, List.getElem?_eq_none h]
/-- One step of adding. -/
theorem plus_step {xs ys ds : List Nat} {j c s : Nat} (hl : ds.length = j) (h : BM.bval ds + 65536 ^ j * c = BM.bval (xs.take j) + BM.bval (ys.take j)) (hs : s = c + xs.getD j 0 + ys.getD j 0) :
    BM.bval (ds ++ [s % 65536]) + 65536 ^ (j + 1) * (s / 65536) = BM.bval (xs.take (j + 1)) + BM.bval (ys.take (j + 1)) := by
  rw [BM.bval_snoc, hl, Nat.pow_succ, Nat.mul_assoc, Nat.add_assoc, ← Nat.mul_add, Nat.mod_add_div, bval_take_getD, bval_take_getD, hs, Nat.mul_add, Nat.mul_add]
  omega

theorem sgn_add (neg : Bool) (a b : Nat) : sgn neg (a + b) = sgn neg a + sgn neg b := by cases neg <;> simp [sgn] <;> omega

end Go.Proofs.YtigjjddblijpbaaGreatDoor
namespace Go.Proofs.YtigjjddblijpbaaGreatDoor
open Go.RowKit
set_option linter.unusedSimpArgs false
set_option linter.unusedVariables false

/-- One step of taking away. -/
theorem sub_step {xs ys ds : List Nat} {j c d c' : Nat} (hl : ds.length = j) (h : BM.bval ds + BM.bval (ys.take j) = BM.bval (xs.take j) + 65536 ^ j * c) (hs : c + d + ys.getD j 0 = xs.getD j 0 + 65536 * c') :
    BM.bval (ds ++ [d]) + BM.bval (ys.take (j + 1)) = BM.bval (xs.take (j + 1)) + 65536 ^ (j + 1) * c' := by
  rw [BM.bval_snoc, hl, Nat.pow_succ, Nat.mul_assoc, bval_take_getD, bval_take_getD]
  have e : 65536 ^ j * (c + d + ys.getD j 0) = 65536 ^ j * (xs.getD j 0 + 65536 * c') := by rw [hs]
  rw [Nat.mul_add, Nat.mul_add, Nat.mul_add] at e
  omega
theorem sgn_sub (neg : Bool) {a b d : Nat} (h : d + b = a) : sgn neg d = sgn neg a + sgn (!neg) b := by cases neg <;> simp [sgn] <;> omega

end Go.Proofs.YtigjjddblijpbaaGreatDoor
namespace Go.Proofs.YtigjjddblijpbaaGreatDoor
open Go.RowKit
set_option linter.unusedSimpArgs false
set_option linter.unusedVariables false

end Go.Proofs.YtigjjddblijpbaaGreatDoor
namespace Go.Proofs.YtigjjddblijpbaaGreatDoor
open Go.RowKit
set_option linter.unusedSimpArgs false
set_option linter.unusedVariables false

/-- A block of pieces. -/
def Row (w : World) (g n : Nat) (os : List Nat) : Prop := w.heap[g]? = some (Obj.cells (u64s os).toArray 158 (0, 0)) ∧ os.length = n ∧ BM.Dig os
theorem Row.lt {w : World} {g n : Nat} {os : List Nat} (h : Row w g n os) : g < w.heap.size := (Array.getElem?_eq_some_iff.1 h.1).1
theorem Row.cell {w : World} {g n : Nat} {os : List Nat} (h : Row w g n os) (j : Nat) (hj : j < n) : w.cell? ⟨g, j, none⟩ = some (.int .u64 (((os.getD j 0 : Nat) : Int))) := by
  have hl := h.2.1
  rw [cell_of_row w g j _ _ _ h.1]
  simp [u64s, List.getD, List.getElem?_eq_getElem (show j < os.length by omega)]
theorem Row.frozen {w : World} {g n : Nat} {os : List Nat} (h : Row w g n os) (j : Nat) : w.frozen? ⟨g, j, none⟩ = false := by
  simp [World.frozen?, h.1]
theorem Row.set {w : World} {g n : Nat} {os : List Nat} (h : Row w g n os) (j d : Nat) (hd : d < 65536) : Row (w.setCell ⟨g, j, none⟩ (.int .u64 ((d : Int)))) g n (os.set j d) := by
  refine ⟨?_, by rw [List.length_set]; exact h.2.1, h.2.2.set j d hd⟩
  simp only [World.setCell, Array.getElem?_modify, if_true, h.1]
  simp [u64s, List.map_set]
theorem Row.drew {w : World} {g n : Nat} {os : List Nat} (h : Row w g n os) : Row w.drew g n os := h
theorem Row.drewN {w : World} {g n : Nat} {os : List Nat} (h : Row w g n os) (k : Nat) : Row (w.drewN k) g n os := h
theorem Row.pcs {w : World} {g n : Nat} {os : List Nat} (h : Row w g n os) (hn : n ≤ maxLen) : Pcs w (some ⟨g, 0, none⟩) n n os :=
  ⟨⟨by simp [u64s, h.2.1], .inr ⟨g, n, _, rfl, Nat.zero_le _, h.1, Nat.le_refl _, hn, by simp [u64s, h.2.1], by simp [u64s]; rw [List.take_of_length_le (by simp [h.2.1])]⟩⟩, h.2⟩
theorem Row.made (w : World) (n g : Nat) (hg : g = w.heap.size) : Row (w.alloc (.cells (madeCells #[.int .u64 0] n) 158)) g n (List.replicate n 0) := by
  subst hg
  refine ⟨?_, by simp, BM.Dig.replicate n⟩
  have e : madeCells #[Value.int .u64 0] n = (u64s (List.replicate n 0)).toArray := by
    apply Array.ext'
    rw [toList_madeCells_one]
    simp [u64s]
  rw [e]
  exact heap_alloc_new w _

theorem times_step {xs ys os : List Nat} {i j c x o y t : Nat} (hl : i + j < os.length) (ho : o = os.getD (i + j) 0) (hy : y = ys.getD j 0)
    (h : BM.bval os + 65536 ^ (i + j) * c = BM.bval (xs.take i) * BM.bval ys + 65536 ^ i * (x * BM.bval (ys.take j))) (ht : t = o + x * y + c) :
    BM.bval (os.set (i + j) (t % 65536)) + 65536 ^ (i + (j + 1)) * (t / 65536) = BM.bval (xs.take i) * BM.bval ys + 65536 ^ i * (x * BM.bval (ys.take (j + 1))) := by
  have h1 := BM.bval_set os (i + j) (t % 65536) hl
  have e1 : os[i + j] = o := by rw [ho]; simp [List.getD, hl]
  rw [e1] at h1
  rw [bval_take_getD, ← hy, Nat.mul_add x, Nat.mul_add (65536 ^ i), ← Nat.add_assoc i j 1, Nat.pow_succ, Nat.mul_assoc]
  have e2 : 65536 ^ (i + j) * (t % 65536) + 65536 ^ (i + j) * (65536 * (t / 65536)) = 65536 ^ (i + j) * (o + x * y + c) := by
    rw [← Nat.mul_add, Nat.mod_add_div, ht]
  have e3 : 65536 ^ i * (x * (65536 ^ j * y)) = 65536 ^ (i + j) * (x * y) := by
    rw [Nat.pow_add, Nat.mul_assoc, Nat.mul_left_comm x]
  rw [Nat.mul_add, Nat.mul_add] at e2
  rw [e3]
  omega
theorem times_end {xs ys os : List Nat} {i c : Nat} (dx : BM.Dig xs) (dy : BM.Dig ys) (hl : i + ys.length < os.length)
    (h : BM.bval os + 65536 ^ (i + ys.length) * c = BM.bval (xs.take i) * BM.bval ys + 65536 ^ i * (xs.getD i 0 * BM.bval (ys.take ys.length))) :
    os.getD (i + ys.length) 0 + c < 65536 ∧ BM.bval (os.set (i + ys.length) (os.getD (i + ys.length) 0 + c)) = BM.bval (xs.take (i + 1)) * BM.bval ys := by
  have h1 := BM.bval_set os (i + ys.length) (os.getD (i + ys.length) 0 + c) hl
  have e1 : os[i + ys.length] = os.getD (i + ys.length) 0 := by simp [List.getD, hl]
  rw [e1] at h1
  have e2 : BM.bval os + 65536 ^ (i + ys.length) * c = BM.bval (xs.take (i + 1)) * BM.bval ys := by
    rw [h, bval_take_getD, List.take_of_length_le (Nat.le_refl _), Nat.add_mul, Nat.mul_assoc]
  rw [Nat.mul_add] at h1
  refine ⟨?_, by omega⟩
  have h2 : BM.bval (xs.take (i + 1)) < 65536 ^ (i + 1) := BM.bval_take_lt dx (i + 1)
  have h3 := BM.bval_lt dy
  have h4 : BM.bval (xs.take (i + 1)) * BM.bval ys < 65536 ^ (i + 1) * 65536 ^ ys.length := by
    rcases Nat.eq_zero_or_pos (BM.bval ys) with e | hp
    · rw [e, Nat.mul_zero]; exact Nat.mul_pos (Nat.pow_pos (by decide)) (Nat.pow_pos (by decide))
    · exact Nat.lt_of_lt_of_le ((Nat.mul_lt_mul_right hp).2 h2) (Nat.mul_le_mul_left _ (Nat.le_of_lt h3))
  have h5 : 65536 ^ (i + 1) * 65536 ^ ys.length = 65536 ^ (i + ys.length) * 65536 := by
    rw [Nat.pow_succ, Nat.pow_add, Nat.mul_right_comm]
  have h6 : 65536 ^ (i + ys.length) * os.getD (i + ys.length) 0 ≤ BM.bval os := by
    have := BM.bval_take_succ os (i + ys.length) hl
    rw [e1] at this
    have h7 := BM.bval_split os (i + ys.length + 1) (by omega)
    omega
  rw [h5] at h4
  have h8 : 65536 ^ (i + ys.length) * (os.getD (i + ys.length) 0 + c) < 65536 ^ (i + ys.length) * 65536 := by rw [Nat.mul_add]; omega
  exact Nat.lt_of_mul_lt_mul_left h8
theorem sgn_mul (na nb : Bool) (a b : Nat) : sgn (na != nb) (a * b) = sgn na a * sgn nb b := by
  cases na <;> cases nb <;> simp [sgn, Int.neg_mul, Int.mul_neg]

end Go.Proofs.YtigjjddblijpbaaGreatDoor
namespace Go.Proofs.YtigjjddblijpbaaGreatDoor
open Go.RowKit
set_option linter.unusedSimpArgs false
set_option linter.unusedVariables false

theorem IsBig.le {w : World} {neg : Bool} {ao : Option Addr} {k cap : Nat} {n : Int} (h : IsBig w neg ao k cap n) {K : Nat} (hs : BM.Sz n K) : k ≤ K := by
  obtain ⟨ds, h1, h2, h3, rfl⟩ := h
  rw [← h1.len]
  refine h2.len ?_
  have : (sgn neg (BM.bval ds)).natAbs = BM.bval ds := by cases neg <;> simp [sgn]
  unfold BM.Sz at hs
  omega
theorem IsBig.flip {w : World} {neg : Bool} {ao : Option Addr} {k cap : Nat} {n : Int} (h : IsBig w neg ao k cap n) (hn : 0 < n) : IsBig w true ao k cap (-n) := by
  obtain ⟨ds, h1, h2, h3, rfl⟩ := h
  refine ⟨ds, h1, h2, fun _ e => ?_, ?_⟩
  · subst e; cases neg <;> simp [sgn, BM.bval] at hn
  · cases neg <;> simp [sgn] at hn ⊢
    omega

end Go.Proofs.YtigjjddblijpbaaGreatDoor
namespace Go.Proofs.YtigjjddblijpbaaGreatDoor
open Go.RowKit
set_option linter.unusedSimpArgs false
set_option linter.unusedVariables false

def cmpI (a b : Int) : Int := if a < b then -1 else if b < a then 1 else 0
theorem cmpI_pos (x y : Nat) : cmpI (sgn false x) (sgn false y) = cmpN x y := by
  simp only [cmpI, cmpN, sgn, Bool.false_eq_true, if_false]
  by_cases h : x < y
  · rw [if_pos h, if_pos (by omega)]
  · rw [if_neg h, if_neg (by omega)]
    by_cases h2 : y < x
    · rw [if_pos h2, if_pos (by omega)]
    · rw [if_neg h2, if_neg (by omega)]
theorem cmpI_neg (x y : Nat) : cmpI (sgn true x) (sgn true y) = cmpN y x := by
  simp only [cmpI, cmpN, sgn, if_true]
  by_cases h : y < x
  · rw [if_pos h, if_pos (by omega)]
  · rw [if_neg h, if_neg (by omega)]
    by_cases h2 : x < y
    · rw [if_pos h2, if_pos (by omega)]
    · rw [if_neg h2, if_neg (by omega)]
theorem cmpI_np {x : Nat} (y : Nat) (hx : x ≠ 0) : cmpI (sgn true x) (sgn false y) = -1 := by
  simp only [cmpI, sgn, if_true, Bool.false_eq_true, if_false]
  rw [if_pos (by omega)]
theorem cmpI_pn (x : Nat) {y : Nat} (hy : y ≠ 0) : cmpI (sgn false x) (sgn true y) = 1 := by
  simp only [cmpI, sgn, if_true, Bool.false_eq_true, if_false]
  rw [if_neg (by omega), if_pos (by omega)]

end Go.Proofs.YtigjjddblijpbaaGreatDoor
namespace Go.Proofs.YtigjjddblijpbaaGreatDoor
open Go.RowKit
set_option linter.unusedSimpArgs false
set_option linter.unusedVariables false

theorem pow_sz (i : Nat) : BM.Sz (((2 ^ i : Nat) : Int)) (i + 1) := by
  unfold BM.Sz
  rw [Int.natAbs_natCast]
  exact Nat.lt_of_le_of_lt (Nat.pow_le_pow_left (by decide) i) (Nat.pow_lt_pow_right (by decide) (by omega))
theorem pow_dbl (i : Nat) : ((2 ^ i : Nat) : Int) * 2 = ((2 ^ (i + 1) : Nat) : Int) := by
  rw [Nat.pow_succ]; simp
theorem BigRet.out {n : Int} {w : World} {e : Ending} {w' : World} (h : BigRet n w e w') : ∃ neg ao k cap, e = .returned (.agg #[.bool neg, .slice ao k cap]) ∧ IsBig w' neg ao k cap n ∧ Below w.heap.size w w' := h
theorem below_undrew {w w' : World} (h : Below w.drew.heap.size w.drew w') : Below w.heap.size w w' := (Below.drew (Below.refl _ _)).trans h
/-- A whole number is laid into a box. -/
def put (w : World) (b : Nat) (x y : Value) : World := (w.setCell ⟨b, 0, none⟩ x).setCell ⟨b, 1, none⟩ y
theorem Below.put {w w' : World} {B b : Nat} (h : Below B w w') (hb : B ≤ b) (u v : Value) : Below B w ((w'.setCell ⟨b, 0, none⟩ u).setCell ⟨b, 1, none⟩ v) :=
  (h.setCell (p := ⟨b, 0, none⟩) hb u).setCell (p := ⟨b, 1, none⟩) hb v
end Go.Proofs.YtigjjddblijpbaaGreatDoor
namespace Go.Proofs.YtigjjddblijpbaaGreatDoor
open Go.RowKit
set_option linter.unusedSimpArgs false
set_option linter.unusedVariables false

end Go.Proofs.YtigjjddblijpbaaGreatDoor
namespace Go.Proofs.YtigjjddblijpbaaGreatDoor
open Go.RowKit
set_option linter.unusedSimpArgs false
set_option linter.unusedVariables false

theorem below_step {a w w' : World} (h : Below a.heap.size a w) (h' : Below w.heap.size w w') : Below a.heap.size a w' := h.trans (h'.mono h.size)
def fitsB (X : Int) : Bool := decide (-170141183460469231731687303715884105728 ≤ X) && decide (X < 170141183460469231731687303715884105728)
theorem fitsB_lo {X : Int} (h : cmpI X (-170141183460469231731687303715884105728) < 0) : fitsB X = false := by
  unfold cmpI at h
  unfold fitsB
  have : X < -170141183460469231731687303715884105728 := by
    by_cases h1 : X < -170141183460469231731687303715884105728
    · exact h1
    · rw [if_neg h1] at h; split at h <;> omega
  simp; omega
theorem fitsB_hi {X : Int} (h : 0 ≤ cmpI X (-170141183460469231731687303715884105728)) : fitsB X = decide (cmpI X 170141183460469231731687303715884105728 < 0) := by
  unfold cmpI at *
  unfold fitsB
  have : -170141183460469231731687303715884105728 ≤ X := by
    by_cases h1 : X < -170141183460469231731687303715884105728
    · rw [if_pos h1] at h; omega
    · omega
  by_cases h2 : X < 170141183460469231731687303715884105728
  · simp [h2, this]
  · simp [h2]; split <;> simp

end Go.Proofs.YtigjjddblijpbaaGreatDoor
namespace Go.Proofs.YtigjjddblijpbaaGreatDoor
open Go.RowKit
set_option linter.unusedSimpArgs false
set_option linter.unusedVariables false

def intB (X : Int) : Bool := decide (-9223372036854775808 ≤ X) && decide (X < 9223372036854775808)
/-- The int, or 0. -/
def intV (X : Int) : Int := if intB X then X else 0
theorem intB_lo {X : Int} (h : cmpI X (-9223372036854775808) < 0) : intB X = false := by
  unfold cmpI at h
  unfold intB
  have : X < -9223372036854775808 := by
    by_cases h1 : X < -9223372036854775808
    · exact h1
    · rw [if_neg h1] at h; split at h <;> omega
  simp; omega
theorem intB_hi {X : Int} (h : 0 ≤ cmpI X (-9223372036854775808)) : intB X = decide (cmpI X 9223372036854775808 < 0) := by
  unfold cmpI at *
  unfold intB
  have : -9223372036854775808 ≤ X := by
    by_cases h1 : X < -9223372036854775808
    · rw [if_pos h1] at h; omega
    · omega
  by_cases h2 : X < 9223372036854775808
  · simp [h2, this]
  · simp [h2]; split <;> simp
theorem intB_fit {X : Int} (h : intB X = true) : -9223372036854775808 ≤ X ∧ X ≤ 9223372036854775807 := by
  unfold intB at h; simp at h; omega
theorem bval_drop_le (ds : List Nat) (j : Nat) (hj : j ≤ ds.length) : BM.bval (ds.drop j) ≤ BM.bval ds := by
  rw [BM.bval_split ds j hj]
  have : 1 * BM.bval (ds.drop j) ≤ 65536 ^ j * BM.bval (ds.drop j) := Nat.mul_le_mul_right _ (Nat.pow_pos (by decide))
  omega
end Go.Proofs.YtigjjddblijpbaaGreatDoor
namespace Go.Proofs.YtigjjddblijpbaaGreatDoor
open Go.RowKit
set_option linter.unusedSimpArgs false
set_option linter.unusedVariables false

/-- Is a whole number a length? -/
def lenB (X : Int) : Bool := decide (-17592186044416 ≤ X) && decide (X ≤ 17592186044416)
theorem lenB_hi {X : Int} (h : ¬ cmpI X 17592186044416 ≤ 0) : lenB X = false := by
  unfold cmpI at h
  unfold lenB
  have : 17592186044416 < X := by
    by_cases h1 : X < 17592186044416
    · rw [if_pos h1] at h; omega
    · rw [if_neg h1] at h
      by_cases h2 : 17592186044416 < X
      · exact h2
      · rw [if_neg h2] at h; omega
  simp; omega
theorem lenB_lo {X : Int} (h : cmpI X 17592186044416 ≤ 0) : lenB X = decide (0 ≤ cmpI X (-17592186044416)) := by
  unfold cmpI at *
  unfold lenB
  have : X ≤ 17592186044416 := by
    by_cases h1 : X < 17592186044416
    · omega
    · rw [if_neg h1] at h
      by_cases h2 : 17592186044416 < X
      · rw [if_pos h2] at h; omega
      · omega
  by_cases h3 : X < -17592186044416
  · simp [h3]; omega
  · simp only [if_neg h3]
    split <;> simp <;> omega

end Go.Proofs.YtigjjddblijpbaaGreatDoor
namespace Go.Proofs.YtigjjddblijpbaaGreatDoor
open Go.RowKit
set_option linter.unusedSimpArgs false
set_option linter.unusedVariables false

set_option maxRecDepth 100000 in
set_option maxHeartbeats 1600000 in
theorem rat_size (n : Int) (hn : IFit n) (w : World) : Calls Tryz.prog 62 #[.int .i64 n] w fun e w' => e = .returned (.int .u64 (((n.natAbs : Nat) : Int))) ∧ w' = w := by
  obtain ⟨h1, h2⟩ := hn
  have hm : IntKind.u64.max = 18446744073709551615 := rfl
  by_cases h : n < 0
  · have E : Hid (IntKind.u64.wrap (-IntKind.u64.wrap n) = ((n.natAbs : Nat) : Int)) := Lib.hid (by simp only [IntKind.wrap_u64]; omega)
    go_enter Tryz.func62, Tryz.ntmps62
    go_wp2_with fail
    go_ret
    exact ⟨by rw [← E.out]; rfl, rfl⟩
  · have E : Hid (n = ((n.natAbs : Nat) : Int)) := Lib.hid (by omega)
    go_enter Tryz.func62, Tryz.ntmps62
    go_wp2_with fail
    go_ret
    exact ⟨by rw [← E.out]; rfl, rfl⟩
set_option maxRecDepth 100000 in
set_option maxHeartbeats 1600000 in
theorem rat_common (a b : Nat) (ha : a < 18446744073709551616) (hb : b < 18446744073709551616) (w : World) :
    Calls Tryz.prog 63 #[.int .u64 ((a : Int)), .int .u64 ((b : Int))] w fun e w' => e = .returned (.int .u64 (((Nat.gcd a b : Nat) : Int))) ∧ Below w.heap.size w w' := by
  obtain ⟨G, eG⟩ : ∃ G, Nat.gcd a b = G := ⟨_, rfl⟩
  rw [eG]
  have EG := Lib.hid eG
  clear eG
  go_enter Tryz.func63, Tryz.ntmps63
  go_wp2_with fail
  go_loopg [0, 1] b (fun g s0 s1 wr => ∃ (x y : Nat), x < 18446744073709551616 ∧ y < 18446744073709551616 ∧ g = y ∧ s0 = .int .u64 ((x : Int)) ∧ s1 = .int .u64 ((y : Int)) ∧ Nat.gcd x y = G ∧ Below w.heap.size w wr)
  case atStart => exact ⟨a, b, ha, hb, rfl, rfl, rfl, EG.out, Below.refl _ _⟩
  case round =>
    obtain ⟨x, y, hx, hy, rfl, rfl, rfl, hg, hB⟩ := hrel
    have HG := Lib.hid hg
    clear hg
    by_cases h0 : gk = 0
    · subst h0
      have e := HG.out
      rw [Nat.gcd_zero_right] at e
      subst e
      go_wp2_with fail
      go_ret
      exact ⟨rfl, hB⟩
    · have hp : (0 : Int) < (gk : Int) := by omega
      have hne : (gk : Int) ≠ 0 := by omega
      go_wp2_with fail
      go_region
      all_goals
        go_wp2_with fail
        go_roundg (x % gk)
        case measure => exact Nat.mod_lt _ (by omega)
        case rel => exact ⟨gk, x % gk, hy, by have := Nat.mod_lt x (show gk > 0 by omega); omega, rfl, rfl, by go_num, by rw [← HG.out, Nat.gcd_comm x]; exact (Nat.gcd_comm _ _).trans (Nat.gcd_rec _ _).symm, (by repeat' (first | (with_reducible exact Below.refl _ _) | (with_reducible assumption) | (with_reducible refine below_alloc ?_ _ ?_) | (with_reducible refine below_set _ ?_ ?_) | (with_reducible refine Below.drew ?_) | (with_reducible refine below_dN ?_ _) | (apply below_thenA; assumption) | omega | (simp; done) | (simp; omega) | (simp [*]; done)))⟩
theorem wrap_i64_neg (n : Nat) (h : n ≤ 9223372036854775808) : wrap64 (-wrap64 (n : Int)) = -(n : Int) := by
  simp only [wrap64]; omega
theorem wrap_i64_pos (n : Nat) (h : n ≤ 9223372036854775807) : wrap64 (n : Int) = (n : Int) := by
  simp only [wrap64]; omega
set_option maxRecDepth 100000 in
set_option maxHeartbeats 1600000 in
theorem rat_signed_neg (n : Nat) (hn : n < 18446744073709551616) (w : World) :
    Calls Tryz.prog 64 #[.int .u64 ((n : Int)), .bool true] w fun e w' => (∃ v, e = .returned (.tuple #[.int .i64 v, .bool (decide ((n : Int) ≤ 9223372036854775808))]) ∧ (n ≤ 9223372036854775808 → v = -(n : Int))) ∧ w' = w := by
  have E : Hid (n ≤ 9223372036854775808 → wrap64 (-wrap64 (n : Int)) = -(n : Int)) := Lib.hid (wrap_i64_neg n)
  go_enter Tryz.func64, Tryz.ntmps64
  go_wp2_with fail
  go_ret2
  exact ⟨⟨_, rfl, E.out⟩, rfl⟩
set_option maxRecDepth 100000 in
set_option maxHeartbeats 1600000 in
theorem rat_signed_pos (n : Nat) (hn : n < 18446744073709551616) (w : World) :
    Calls Tryz.prog 64 #[.int .u64 ((n : Int)), .bool false] w fun e w' => (∃ v, e = .returned (.tuple #[.int .i64 v, .bool (decide ((n : Int) ≤ 9223372036854775807))]) ∧ (n ≤ 9223372036854775807 → v = (n : Int))) ∧ w' = w := by
  have E : Hid (n ≤ 9223372036854775807 → wrap64 (n : Int) = (n : Int)) := Lib.hid (wrap_i64_pos n)
  go_enter Tryz.func64, Tryz.ntmps64
  go_wp2_with fail
  go_ret2
  exact ⟨⟨_, rfl, E.out⟩, rfl⟩
end Go.Proofs.YtigjjddblijpbaaGreatDoor
namespace Go.Proofs.YtigjjddblijpbaaGreatDoor
open Go.RowKit
set_option linter.unusedSimpArgs false
set_option linter.unusedVariables false

/-- A block of two cells. -/
def Rx (w : World) (b : Nat) (x y : Value) : Prop := w.heap[b]? = some (Obj.cells #[x, y] 81 (0, 0))
theorem Rx.cells {w : World} {b : Nat} {x y : Value} (h : Rx w b x y) : w.cell? ⟨b, 0, none⟩ = some x ∧ w.cell? ⟨b, 1, none⟩ = some y ∧ w.frozen? ⟨b, 0, none⟩ = false ∧ w.frozen? ⟨b, 1, none⟩ = false := by
  refine ⟨by rw [cell_of_row w b 0 _ _ _ h]; rfl, by rw [cell_of_row w b 1 _ _ _ h]; rfl, ?_, ?_⟩ <;> simp [World.frozen?, show w.heap[b]? = _ from h]
theorem Rx.lt {w : World} {b : Nat} {x y : Value} (h : Rx w b x y) : b < w.heap.size := (Array.getElem?_eq_some_iff.1 h).1
theorem Rx.new (w : World) (x y : Value) (b : Nat) (hb : b = w.heap.size) : Rx (w.alloc (.cells #[x, y] 81)) b x y := by subst hb; exact heap_alloc_new w _
theorem Rx.below {w w' : World} {b : Nat} {x y : Value} (h : Rx w b x y) (hb : Below w.heap.size w w') : Rx w' b x y := (hb.block b h.lt).trans h
theorem Rx.drew {w : World} {b : Nat} {x y : Value} (h : Rx w b x y) : Rx w.drew b x y := h
theorem quo_u64 (a g A : Nat) (ha : a < 18446744073709551616) (h : a / g = A) : IntKind.u64.wrap ((a : Int) / (g : Int)) = (A : Int) := by
  have h1 : a / g ≤ a := Nat.div_le_self _ _
  rw [h] at h1
  rw [← Int.natCast_ediv, h, IntKind.wrap_u64, Int.emod_eq_of_lt (by omega) (by omega)]
def limR (neg : Bool) : Int := if neg then 9223372036854775808 else 9223372036854775807
/-- What Of answers: the ratio in lowest terms, or that it is no pair of ints. -/
def OfAns (neg : Bool) (A B : Nat) (w : World) (e : Ending) (w' : World) : Prop :=
  (((A : Int) ≤ limR neg ∧ (B : Int) ≤ 9223372036854775807) → e = .returned (.tuple #[.agg #[.int .i64 (if neg then -(A : Int) else (A : Int)), .int .i64 ((B : Int))], .int .i64 0])) ∧
  (¬ ((A : Int) ≤ limR neg ∧ (B : Int) ≤ 9223372036854775807) → e = .returned (.tuple #[.agg #[.int .i64 0, .int .i64 0], .int .i64 2])) ∧ Below w.heap.size w w'
theorem OfAns.both {neg : Bool} {A B : Nat} {w : World} {v u : Int} {w' : World} (h : (A : Int) ≤ limR neg) (h' : (B : Int) ≤ 9223372036854775807) (hv : v = if neg then -(A : Int) else (A : Int)) (hu : u = (B : Int)) (hb : Below w.heap.size w w') :
    OfAns neg A B w (.returned (.tuple #[.agg #[.int .i64 v, .int .i64 u], .int .i64 0])) w' := ⟨fun _ => by rw [hv, hu], fun x => absurd ⟨h, h'⟩ x, hb⟩
theorem OfAns.none {neg : Bool} {A B : Nat} {w : World} {w' : World} (h : ¬ ((A : Int) ≤ limR neg ∧ (B : Int) ≤ 9223372036854775807)) (hb : Below w.heap.size w w') :
    OfAns neg A B w (.returned (.tuple #[.agg #[.int .i64 0, .int .i64 0], .int .i64 2])) w' := ⟨fun x => absurd x h, fun _ => rfl, hb⟩
theorem BP2 {w w' : World} {B b : Nat} {u v : Value} (h : Below B w w') (hb : B ≤ b := by omega) : Below B w ((w'.setCell ⟨b, 0, none⟩ u).setCell ⟨b, 1, none⟩ v) :=
  (h.setCell (p := ⟨b, 0, none⟩) hb u).setCell (p := ⟨b, 1, none⟩) hb v

set_option maxRecDepth 100000 in
set_option maxHeartbeats 3200000 in
theorem rat_of_neg (n d : Int) (hn : IFit n) (hd : IFit d) (h0 : d ≠ 0) (hz : n ≠ 0) (hs : (n < 0 ∧ 0 < d) ∨ (0 < n ∧ d < 0)) (A B : Nat) (hA : n.natAbs / Nat.gcd n.natAbs d.natAbs = A) (hB : d.natAbs / Nat.gcd n.natAbs d.natAbs = B) (w : World) :
    Calls Tryz.prog 31 #[.int .i64 n, .int .i64 d] w (OfAns true A B w) := by
  have S1 := rat_size n hn
  have S2 := rat_size d hd
  have hda : 0 < d.natAbs := by omega
  obtain ⟨x1, x2⟩ := hn
  obtain ⟨y1, y2⟩ := hd
  have ha : n.natAbs < 18446744073709551616 := by omega
  have hb : d.natAbs < 18446744073709551616 := by omega
  have hg0 : 0 < Nat.gcd n.natAbs d.natAbs := Nat.gcd_pos_of_pos_right _ hda
  have CM := rat_common n.natAbs d.natAbs ha hb
  obtain ⟨a, ea⟩ : ∃ a, n.natAbs = a := ⟨_, rfl⟩
  obtain ⟨b, eb⟩ : ∃ b, d.natAbs = b := ⟨_, rfl⟩
  rw [ea] at S1 CM hA hB hg0 ha
  rw [eb] at S2 CM hA hB hg0 hb
  obtain ⟨g, eg⟩ : ∃ g, Nat.gcd a b = g := ⟨_, rfl⟩
  rw [eg] at CM hA hB hg0
  have hAl : A ≤ a := by rw [← hA]; exact Nat.div_le_self _ _
  have hBl : B ≤ b := by rw [← hB]; exact Nat.div_le_self _ _
  have Q1 := quo_u64 a g A ha hA
  have Q2 := quo_u64 b g B hb hB
  have hgi : (0 : Int) < (g : Int) := by omega
  have SG := rat_signed_neg A (by omega)
  have SH := rat_signed_pos B (by omega)
  have hne : (d == 0) = false := by simp [h0]
  obtain ⟨o1, eo1⟩ : ∃ o, decide ((A : Int) ≤ 9223372036854775808) = o := ⟨_, rfl⟩
  obtain ⟨o2, eo2⟩ : ∃ o, decide ((B : Int) ≤ 9223372036854775807) = o := ⟨_, rfl⟩
  have EO1 := Lib.hid eo1
  have EO2 := Lib.hid eo2
  have t1 := Rx.new w (.int .i64 0) (.int .i64 0) _ rfl
  have hB1 : Below w.heap.size w (w.alloc (.cells #[.int .i64 0, .int .i64 0] 81)) := (by repeat' (first | (with_reducible exact Below.refl _ _) | (with_reducible assumption) | (with_reducible refine below_alloc ?_ _ ?_) | (with_reducible refine below_set _ ?_ ?_) | (with_reducible refine Below.drew ?_) | (with_reducible refine below_dN ?_ _) | (apply below_thenA; assumption) | omega | (simp; done) | (simp; omega) | (simp [*]; done)))
  clear ea eb eg hA hB eo1 eo2 hda hg0
  have hzb : (n != 0) = true := by simp [hz]
  rcases hs with ⟨s1, s2⟩ | ⟨s1, s2⟩
  · have f1 : decide (n < 0) = true := by simp [s1]
    have f2 : decide (d < 0) = false := by simp; omega
    go_enter Tryz.func31, Tryz.ntmps31
    go_wp2_with fail
    refine (S1 _).mono ?_
    rintro e w1 ⟨rfl, rfl⟩
    go_wp2_with fail
    refine (S2 _).mono ?_
    rintro e w1 ⟨rfl, rfl⟩
    go_wp2_with fail
    refine (CM _).mono ?_
    rintro e w2 ⟨rfl, hb2⟩
    have t2 := t1.below hb2
    have hB2 := hB1.trans (hb2.mono hB1.size)
    go_wp2_with fail
    refine (SG _).mono ?_
    rintro e w3 ⟨⟨v, rfl, hv⟩, rfl⟩
    have HV := Lib.hid hv
    clear hv
    rw [EO1.out]
    go_wp2_with fail
    refine (SH _).mono ?_
    rintro e w4 ⟨⟨u, rfl, hu⟩, rfl⟩
    have HU := Lib.hid hu
    clear hu
    rw [EO2.out]
    obtain ⟨p1, p2, p3, p4⟩ := t2.cells
    have l2 := t2.lt
    cases o1
    · go_wp2_with fail
      (go_light; simp [bodyPost, results, Tryz.results31, go_sem, *])
      exact OfAns.none (fun x => absurd x.1 (by have := EO1.out; simpa [limR] using this)) (BP2 hB2)
    · cases o2
      · go_wp2_with fail
        (go_light; simp [bodyPost, results, Tryz.results31, go_sem, *])
        exact OfAns.none (fun x => absurd x.2 (by have := EO2.out; simpa using this)) (BP2 hB2)
      · go_wp2_with fail
        (go_light; simp [bodyPost, results, Tryz.results31, go_sem, *])
        have k1 := of_decide_eq_true EO1.out
        have k2 := of_decide_eq_true EO2.out
        exact OfAns.both (by simpa [limR] using k1) k2 (by rw [HV.out (by omega)]; rfl) (HU.out (by omega)) (BP2 hB2)
  · have f1 : decide (n < 0) = false := by simp; omega
    have f2 : decide (d < 0) = true := by simp [s2]
    go_enter Tryz.func31, Tryz.ntmps31
    go_wp2_with fail
    refine (S1 _).mono ?_
    rintro e w1 ⟨rfl, rfl⟩
    go_wp2_with fail
    refine (S2 _).mono ?_
    rintro e w1 ⟨rfl, rfl⟩
    go_wp2_with fail
    refine (CM _).mono ?_
    rintro e w2 ⟨rfl, hb2⟩
    have t2 := t1.below hb2
    have hB2 := hB1.trans (hb2.mono hB1.size)
    go_wp2_with fail
    refine (SG _).mono ?_
    rintro e w3 ⟨⟨v, rfl, hv⟩, rfl⟩
    have HV := Lib.hid hv
    clear hv
    rw [EO1.out]
    go_wp2_with fail
    refine (SH _).mono ?_
    rintro e w4 ⟨⟨u, rfl, hu⟩, rfl⟩
    have HU := Lib.hid hu
    clear hu
    rw [EO2.out]
    obtain ⟨p1, p2, p3, p4⟩ := t2.cells
    have l2 := t2.lt
    cases o1
    · go_wp2_with fail
      (go_light; simp [bodyPost, results, Tryz.results31, go_sem, *])
      exact OfAns.none (fun x => absurd x.1 (by have := EO1.out; simpa [limR] using this)) (BP2 hB2)
    · cases o2
      · go_wp2_with fail
        (go_light; simp [bodyPost, results, Tryz.results31, go_sem, *])
        exact OfAns.none (fun x => absurd x.2 (by have := EO2.out; simpa using this)) (BP2 hB2)
      · go_wp2_with fail
        (go_light; simp [bodyPost, results, Tryz.results31, go_sem, *])
        have k1 := of_decide_eq_true EO1.out
        have k2 := of_decide_eq_true EO2.out
        exact OfAns.both (by simpa [limR] using k1) k2 (by rw [HV.out (by omega)]; rfl) (HU.out (by omega)) (BP2 hB2)

set_option maxRecDepth 100000 in
set_option maxHeartbeats 3200000 in
theorem rat_of_pos (n d : Int) (hn : IFit n) (hd : IFit d) (h0 : d ≠ 0) (hs : n = 0 ∨ (n < 0 ∧ d < 0) ∨ (0 < n ∧ 0 < d)) (A B : Nat) (hA : n.natAbs / Nat.gcd n.natAbs d.natAbs = A) (hB : d.natAbs / Nat.gcd n.natAbs d.natAbs = B) (w : World) :
    Calls Tryz.prog 31 #[.int .i64 n, .int .i64 d] w (OfAns false A B w) := by
  have S1 := rat_size n hn
  have S2 := rat_size d hd
  have hda : 0 < d.natAbs := by omega
  obtain ⟨x1, x2⟩ := hn
  obtain ⟨y1, y2⟩ := hd
  have ha : n.natAbs < 18446744073709551616 := by omega
  have hb : d.natAbs < 18446744073709551616 := by omega
  have hg0 : 0 < Nat.gcd n.natAbs d.natAbs := Nat.gcd_pos_of_pos_right _ hda
  have CM := rat_common n.natAbs d.natAbs ha hb
  obtain ⟨a, ea⟩ : ∃ a, n.natAbs = a := ⟨_, rfl⟩
  obtain ⟨b, eb⟩ : ∃ b, d.natAbs = b := ⟨_, rfl⟩
  rw [ea] at S1 CM hA hB hg0 ha
  rw [eb] at S2 CM hA hB hg0 hb
  obtain ⟨g, eg⟩ : ∃ g, Nat.gcd a b = g := ⟨_, rfl⟩
  rw [eg] at CM hA hB hg0
  have hAl : A ≤ a := by rw [← hA]; exact Nat.div_le_self _ _
  have hBl : B ≤ b := by rw [← hB]; exact Nat.div_le_self _ _
  have Q1 := quo_u64 a g A ha hA
  have Q2 := quo_u64 b g B hb hB
  have hgi : (0 : Int) < (g : Int) := by omega
  have SG := rat_signed_pos A (by omega)
  have SH := rat_signed_pos B (by omega)
  have hne : (d == 0) = false := by simp [h0]
  obtain ⟨o1, eo1⟩ : ∃ o, decide ((A : Int) ≤ 9223372036854775807) = o := ⟨_, rfl⟩
  obtain ⟨o2, eo2⟩ : ∃ o, decide ((B : Int) ≤ 9223372036854775807) = o := ⟨_, rfl⟩
  have EO1 := Lib.hid eo1
  have EO2 := Lib.hid eo2
  have t1 := Rx.new w (.int .i64 0) (.int .i64 0) _ rfl
  have hB1 : Below w.heap.size w (w.alloc (.cells #[.int .i64 0, .int .i64 0] 81)) := (by repeat' (first | (with_reducible exact Below.refl _ _) | (with_reducible assumption) | (with_reducible refine below_alloc ?_ _ ?_) | (with_reducible refine below_set _ ?_ ?_) | (with_reducible refine Below.drew ?_) | (with_reducible refine below_dN ?_ _) | (apply below_thenA; assumption) | omega | (simp; done) | (simp; omega) | (simp [*]; done)))
  clear ea eb eg hA hB eo1 eo2 hda hg0
  rcases hs with rfl | ⟨s1, s2⟩ | ⟨s1, s2⟩
  · clear x1 x2
    go_enter Tryz.func31, Tryz.ntmps31
    go_wp2_with fail
    refine (S1 _).mono ?_
    rintro e w1 ⟨rfl, rfl⟩
    go_wp2_with fail
    refine (S2 _).mono ?_
    rintro e w1 ⟨rfl, rfl⟩
    go_wp2_with fail
    refine (CM _).mono ?_
    rintro e w2 ⟨rfl, hb2⟩
    have t2 := t1.below hb2
    have hB2 := hB1.trans (hb2.mono hB1.size)
    go_wp2_with fail
    refine (SG _).mono ?_
    rintro e w3 ⟨⟨v, rfl, hv⟩, rfl⟩
    have HV := Lib.hid hv
    clear hv
    rw [EO1.out]
    go_wp2_with fail
    refine (SH _).mono ?_
    rintro e w4 ⟨⟨u, rfl, hu⟩, rfl⟩
    have HU := Lib.hid hu
    clear hu
    rw [EO2.out]
    obtain ⟨p1, p2, p3, p4⟩ := t2.cells
    have l2 := t2.lt
    cases o1
    · go_wp2_with fail
      (go_light; simp [bodyPost, results, Tryz.results31, go_sem, *])
      exact OfAns.none (fun x => absurd x.1 (by have := EO1.out; simpa [limR] using this)) (BP2 hB2)
    · cases o2
      · go_wp2_with fail
        (go_light; simp [bodyPost, results, Tryz.results31, go_sem, *])
        exact OfAns.none (fun x => absurd x.2 (by have := EO2.out; simpa using this)) (BP2 hB2)
      · go_wp2_with fail
        (go_light; simp [bodyPost, results, Tryz.results31, go_sem, *])
        have k1 := of_decide_eq_true EO1.out
        have k2 := of_decide_eq_true EO2.out
        exact OfAns.both (by simpa [limR] using k1) k2 (by rw [HV.out (by omega)]; rfl) (HU.out (by omega)) (BP2 hB2)
  · have hzb : (n != 0) = true := by simp; omega
    have f1 : decide (n < 0) = true := by simp [s1]
    have f2 : decide (d < 0) = true := by simp [s2]
    go_enter Tryz.func31, Tryz.ntmps31
    go_wp2_with fail
    refine (S1 _).mono ?_
    rintro e w1 ⟨rfl, rfl⟩
    go_wp2_with fail
    refine (S2 _).mono ?_
    rintro e w1 ⟨rfl, rfl⟩
    go_wp2_with fail
    refine (CM _).mono ?_
    rintro e w2 ⟨rfl, hb2⟩
    have t2 := t1.below hb2
    have hB2 := hB1.trans (hb2.mono hB1.size)
    go_wp2_with fail
    refine (SG _).mono ?_
    rintro e w3 ⟨⟨v, rfl, hv⟩, rfl⟩
    have HV := Lib.hid hv
    clear hv
    rw [EO1.out]
    go_wp2_with fail
    refine (SH _).mono ?_
    rintro e w4 ⟨⟨u, rfl, hu⟩, rfl⟩
    have HU := Lib.hid hu
    clear hu
    rw [EO2.out]
    obtain ⟨p1, p2, p3, p4⟩ := t2.cells
    have l2 := t2.lt
    cases o1
    · go_wp2_with fail
      (go_light; simp [bodyPost, results, Tryz.results31, go_sem, *])
      exact OfAns.none (fun x => absurd x.1 (by have := EO1.out; simpa [limR] using this)) (BP2 hB2)
    · cases o2
      · go_wp2_with fail
        (go_light; simp [bodyPost, results, Tryz.results31, go_sem, *])
        exact OfAns.none (fun x => absurd x.2 (by have := EO2.out; simpa using this)) (BP2 hB2)
      · go_wp2_with fail
        (go_light; simp [bodyPost, results, Tryz.results31, go_sem, *])
        have k1 := of_decide_eq_true EO1.out
        have k2 := of_decide_eq_true EO2.out
        exact OfAns.both (by simpa [limR] using k1) k2 (by rw [HV.out (by omega)]; rfl) (HU.out (by omega)) (BP2 hB2)
  · have hzb : (n != 0) = true := by simp; omega
    have f1 : decide (n < 0) = false := by simp; omega
    have f2 : decide (d < 0) = false := by simp; omega
    go_enter Tryz.func31, Tryz.ntmps31
    go_wp2_with fail
    refine (S1 _).mono ?_
    rintro e w1 ⟨rfl, rfl⟩
    go_wp2_with fail
    refine (S2 _).mono ?_
    rintro e w1 ⟨rfl, rfl⟩
    go_wp2_with fail
    refine (CM _).mono ?_
    rintro e w2 ⟨rfl, hb2⟩
    have t2 := t1.below hb2
    have hB2 := hB1.trans (hb2.mono hB1.size)
    go_wp2_with fail
    refine (SG _).mono ?_
    rintro e w3 ⟨⟨v, rfl, hv⟩, rfl⟩
    have HV := Lib.hid hv
    clear hv
    rw [EO1.out]
    go_wp2_with fail
    refine (SH _).mono ?_
    rintro e w4 ⟨⟨u, rfl, hu⟩, rfl⟩
    have HU := Lib.hid hu
    clear hu
    rw [EO2.out]
    obtain ⟨p1, p2, p3, p4⟩ := t2.cells
    have l2 := t2.lt
    cases o1
    · go_wp2_with fail
      (go_light; simp [bodyPost, results, Tryz.results31, go_sem, *])
      exact OfAns.none (fun x => absurd x.1 (by have := EO1.out; simpa [limR] using this)) (BP2 hB2)
    · cases o2
      · go_wp2_with fail
        (go_light; simp [bodyPost, results, Tryz.results31, go_sem, *])
        exact OfAns.none (fun x => absurd x.2 (by have := EO2.out; simpa using this)) (BP2 hB2)
      · go_wp2_with fail
        (go_light; simp [bodyPost, results, Tryz.results31, go_sem, *])
        have k1 := of_decide_eq_true EO1.out
        have k2 := of_decide_eq_true EO2.out
        exact OfAns.both (by simpa [limR] using k1) k2 (by rw [HV.out (by omega)]; rfl) (HU.out (by omega)) (BP2 hB2)
end Go.Proofs.YtigjjddblijpbaaGreatDoor
namespace Go.Proofs.YtigjjddblijpbaaGreatDoor
open Go.RowKit
set_option linter.unusedSimpArgs false
set_option linter.unusedVariables false

/-- May a ratio be? -/
def goodB (N D : Int) : Bool := decide (1 ≤ D) && ((Nat.gcd N.natAbs D.natAbs : Int) == 1)
theorem below_undrew' {w w' : World} (h : Below w.drew.heap.size w.drew w') : Below w.heap.size w w' := (Below.drew (Below.refl _ _)).trans h
set_option maxRecDepth 100000 in
set_option maxHeartbeats 1600000 in
theorem rat_good (N D : Int) (hN : IFit N) (hD : IFit D) (w : World) :
    Calls Tryz.prog 86 #[.agg #[.int .i64 N, .int .i64 D]] w fun e w' => e = .returned (.bool (goodB N D)) ∧ Below w.heap.size w w' := by
  have S1 := rat_size N hN
  have S2 := rat_size D hD
  have ha : N.natAbs < 18446744073709551616 := by unfold IFit at hN; omega
  have hb : D.natAbs < 18446744073709551616 := by unfold IFit at hD; omega
  have CM := rat_common N.natAbs D.natAbs ha hb
  have hG : goodB N D = (decide (1 ≤ D) && ((Nat.gcd N.natAbs D.natAbs : Int) == 1)) := rfl
  obtain ⟨G, eG⟩ : ∃ G, goodB N D = G := ⟨_, rfl⟩
  rw [eG] at hG ⊢
  obtain ⟨a, ea⟩ : ∃ a, N.natAbs = a := ⟨_, rfl⟩
  obtain ⟨b, eb⟩ : ∃ b, D.natAbs = b := ⟨_, rfl⟩
  rw [ea] at S1 CM ha hG
  rw [eb] at S2 CM hb hG
  obtain ⟨g, eg⟩ : ∃ g, Nat.gcd a b = g := ⟨_, rfl⟩
  rw [eg] at CM hG
  have HG := Lib.hid hG
  have t := Rx.new w (.int .i64 N) (.int .i64 D) _ rfl
  have hB : Below w.heap.size w (w.alloc (.cells #[.int .i64 N, .int .i64 D] 81)) := (by repeat' (first | (with_reducible exact Below.refl _ _) | (with_reducible assumption) | (with_reducible refine below_alloc ?_ _ ?_) | (with_reducible refine below_set _ ?_ ?_) | (with_reducible refine Below.drew ?_) | (with_reducible refine below_dN ?_ _) | (apply below_thenA; assumption) | omega | (simp; done) | (simp; omega) | (simp [*]; done)))
  obtain ⟨p1, p2, p3, p4⟩ := t.cells
  clear eG ea eb eg hG hN hD ha hb
  by_cases hd : 1 ≤ D
  · have d1 : decide (1 ≤ D) = true := by simp [hd]
    go_enter Tryz.func86, Tryz.ntmps86
    go_wp2_with fail
    go_region_held3 (fun w' => w'.cell? ⟨w.heap.size, 0, none⟩ = some (.int .i64 N) ∧ w'.cell? ⟨w.heap.size, 1, none⟩ = some (.int .i64 D))
      (first | exact ⟨p1, p2⟩ | go_keep)
      (first
      | (go_at_call 62; with_reducible refine (S1 _).mono ?_; rintro e w1 ⟨rfl, rfl⟩)
      | (go_at_call 62; with_reducible refine (S2 _).mono ?_; rintro e w1 ⟨rfl, rfl⟩)
      | (go_at_call 63; with_reducible refine (CM _).mono ?_; rintro e w2 ⟨rfl, hb2⟩; replace hb2 := below_undrew' hb2; replace t := t.below hb2; replace hB := hB.trans (hb2.mono hB.size); obtain ⟨p1, p2, p3, p4⟩ := t.cells))
    go_wp2_with fail
    go_ret
    exact ⟨by rw [HG.out, d1]; rfl, hB⟩
  · have d1 : decide (1 ≤ D) = false := by simp; omega
    go_enter Tryz.func86, Tryz.ntmps86
    go_wp2_with fail
    go_quiet (fail)
    go_wp2_with fail
    go_ret
    exact ⟨by rw [HG.out, d1]; rfl, (by repeat' (first | (with_reducible exact Below.refl _ _) | (with_reducible assumption) | (with_reducible refine below_alloc ?_ _ ?_) | (with_reducible refine below_set _ ?_ ?_) | (with_reducible refine Below.drew ?_) | (with_reducible refine below_dN ?_ _) | (apply below_thenA; assumption) | omega | (simp; done) | (simp; omega) | (simp [*]; done)))⟩
/-- What Down answers. -/
def DownAns (x N D : Int) (w : World) (e : Ending) (w' : World) : Prop :=
  (goodB N D = false → e = .returned (.tuple #[.int .i64 0, .int .i64 1])) ∧ (goodB N D = true → IFit (fq (x * N) D) → e = .returned (.tuple #[.int .i64 (fq (x * N) D), .int .i64 0])) ∧
  (goodB N D = true → ¬ IFit (fq (x * N) D) → e = .returned (.tuple #[.int .i64 0, .int .i64 2])) ∧ Below w.heap.size w w'
set_option maxRecDepth 100000 in
set_option maxHeartbeats 1600000 in
theorem rat_down (x N D : Int) (hx : IFit x) (hN : IFit N) (hD : IFit D) (w : World) :
    Calls Tryz.prog 250 #[.agg #[.int .i64 N, .int .i64 D], .int .i64 x] w (DownAns x N D w) := by
  have GD := rat_good N D hN hD
  have hDN : goodB N D = true → D ≠ 0 := fun h => by unfold goodB at h; simp at h; omega
  have t := Rx.new w (.int .i64 N) (.int .i64 D) _ rfl
  have hB : Below w.heap.size w (w.alloc (.cells #[.int .i64 N, .int .i64 D] 81)) := (by repeat' (first | (with_reducible exact Below.refl _ _) | (with_reducible assumption) | (with_reducible refine below_alloc ?_ _ ?_) | (with_reducible refine below_set _ ?_ ?_) | (with_reducible refine Below.drew ?_) | (with_reducible refine below_dN ?_ _) | (apply below_thenA; assumption) | omega | (simp; done) | (simp; omega) | (simp [*]; done)))
  have MF := wide_muldiv_fit x N D hx hN hD
  have MN := wide_muldiv_no x N D hx hN hD
  have hans : ∀ e w', (goodB N D = false → e = .returned (.tuple #[.int .i64 0, .int .i64 1])) → (goodB N D = true → IFit (fq (x * N) D) → e = .returned (.tuple #[.int .i64 (fq (x * N) D), .int .i64 0])) → (goodB N D = true → ¬ IFit (fq (x * N) D) → e = .returned (.tuple #[.int .i64 0, .int .i64 2])) → Below w.heap.size w w' → DownAns x N D w e w' := fun e w' a b c d => ⟨a, b, c, d⟩
  obtain ⟨p1, p2, p3, p4⟩ := t.cells
  by_cases hg : goodB N D = true
  · have h0 := hDN hg
    by_cases hf : IFit (fq (x * N) D)
    · have MM := MF ⟨h0, hf⟩
      rw [hg] at GD
      have HA := Lib.hid hans
      have HGG := Lib.hid hg
      obtain ⟨F, eF⟩ : ∃ F, fq (x * N) D = F := ⟨_, rfl⟩
      rw [eF] at MM
      have EF := Lib.hid eF
      have HF := Lib.hid hf
      clear hans hg h0 hDN MF MN eF hf
      go_enter Tryz.func250, Tryz.ntmps250
      go_wp2_with fail
      refine (GD _).mono ?_
      rintro e w1 ⟨rfl, hb1⟩
      replace t := t.below hb1
      replace hB := hB.trans (hb1.mono hB.size)
      clear p1 p2 p3 p4
      obtain ⟨p1, p2, p3, p4⟩ := t.cells
      go_wp2_with fail
      refine (MM _).mono ?_
      rintro e w2 ⟨rfl, hb2⟩
      replace hB := hB.trans (hb2.mono hB.size)
      go_wp2_with fail
      go_ret2
      exact HA.out _ _ (fun h => by rw [HGG.out] at h; cases h) (fun _ _ => by rw [EF.out]; rfl) (fun _ h => absurd HF.out h) hB
    · have MM := MN (fun h => hf h.2)
      rw [hg] at GD
      have HA := Lib.hid hans
      have HGG := Lib.hid hg
      have HF := Lib.hid hf
      clear hans hg h0 hDN MF MN hf
      go_enter Tryz.func250, Tryz.ntmps250
      go_wp2_with fail
      refine (GD _).mono ?_
      rintro e w1 ⟨rfl, hb1⟩
      replace t := t.below hb1
      replace hB := hB.trans (hb1.mono hB.size)
      clear p1 p2 p3 p4
      obtain ⟨p1, p2, p3, p4⟩ := t.cells
      go_wp2_with fail
      refine (MM _).mono ?_
      rintro e w2 ⟨rfl, hb2⟩
      replace hB := hB.trans (hb2.mono hB.size)
      go_wp2_with fail
      go_ret2
      exact HA.out _ _ (fun h => by rw [HGG.out] at h; cases h) (fun _ h => absurd h HF.out) (fun _ _ => rfl) hB
  · have hg' : goodB N D = false := by simpa using hg
    rw [hg'] at GD
    have HA := Lib.hid hans
    have HGG := Lib.hid hg'
    clear hans hg hg' hDN MF MN
    go_enter Tryz.func250, Tryz.ntmps250
    go_wp2_with fail
    refine (GD _).mono ?_
    rintro e w1 ⟨rfl, hb1⟩
    replace hB := hB.trans (hb1.mono hB.size)
    go_wp2_with fail
    go_ret2
    exact HA.out _ _ (fun _ => rfl) (fun h => by rw [HGG.out] at h; cases h) (fun h => by rw [HGG.out] at h; cases h) hB
end Go.Proofs.YtigjjddblijpbaaGreatDoor
namespace Go.Proofs.YtigjjddblijpbaaGreatDoor.BM
/-- One bit more: the divisor goes in once more, or not. -/
theorem div_step {N q r B b : Nat} (h : q * B + r = N) (hr : r < B) (hb : b < 2) :
    (B ≤ 2 * r + b → (2 * q + 1) * B + (2 * r + b - B) = 2 * N + b ∧ 2 * r + b - B < B) ∧ (2 * r + b < B → (2 * q) * B + (2 * r + b) = 2 * N + b) := by
  have e1 : (2 * q + 1) * B = 2 * (q * B) + B := by rw [Nat.add_mul, Nat.mul_assoc]; omega
  have e2 : (2 * q) * B = 2 * (q * B) := Nat.mul_assoc 2 q B
  rw [e1, e2]
  omega
theorem bit_lt (d m : Nat) : d / m % 2 < 2 := Nat.mod_lt _ (by decide)
theorem bit_split (d s : Nat) : d / 2 ^ s = 2 * (d / 2 ^ (s + 1)) + d / 2 ^ s % 2 := by
  rw [Nat.pow_succ, ← Nat.div_div_eq_div_mul]
  omega
/-- What has been taken of the number, with so many bits of its next piece to come. -/
def seen (H d s : Nat) : Nat := H * 2 ^ (16 - s) + d / 2 ^ s
theorem seen_top (H d : Nat) (hd : d < 65536) : seen H d 16 = H := by
  unfold seen
  rw [Nat.div_eq_of_lt (by simpa using hd)]; simp
theorem seen_end (H d : Nat) : seen H d 0 = d + 65536 * H := by
  unfold seen; simp; omega
theorem seen_step (H d s : Nat) (hs : s < 16) : seen H d s = 2 * seen H d (s + 1) + d / 2 ^ s % 2 := by
  unfold seen
  have e : 16 - s = 16 - (s + 1) + 1 := by omega
  rw [e, Nat.pow_succ, ← Nat.mul_assoc]
  have := bit_split d s
  omega
theorem half_pow (s : Nat) : 2 ^ (s + 1) / 2 = 2 ^ s := by rw [Nat.pow_succ]; omega
theorem div_end {q r A B : Nat} (h : q * B + r = A) (hr : r < B) : q = A / B ∧ r = A % B := by
  have hB : 0 < B := by omega
  constructor
  · rw [← h, Nat.mul_comm, Nat.mul_add_div hB, Nat.div_eq_of_lt hr]; rfl
  · rw [← h, Nat.mul_comm, Nat.mul_add_mod, Nat.mod_eq_of_lt hr]
end Go.Proofs.YtigjjddblijpbaaGreatDoor.BM
namespace Go.Proofs.YtigjjddblijpbaaGreatDoor
theorem absI_sgn (neg : Bool) (n : Nat) : absI (sgn neg n) = (n : Int) := by unfold absI; cases neg <;> simp [sgn] <;> omega
theorem sgn_lt {neg : Bool} {n : Nat} (h : neg = true → n ≠ 0) : sgn neg n < 0 ↔ neg = true := by
  cases neg
  · simp [sgn]
  · have := h rfl; simp [sgn]; omega
/-- Down by the quotient of sizes. -/
theorem down_q {na nb : Bool} {x y : Nat} (ha : na = true → x ≠ 0) (hb : nb = true → y ≠ 0) (hy : 0 < y) :
    (na = nb → fq (sgn na x) (sgn nb y) = ((x / y : Nat) : Int)) ∧
    (na ≠ nb → x % y = 0 → fq (sgn na x) (sgn nb y) = -((x / y : Nat) : Int)) ∧
    (na ≠ nb → 0 < x % y → fq (sgn na x) (sgn nb y) = -((x / y : Nat) : Int) + -1) := by
  have hd : sgn nb y ≠ 0 := by cases nb <;> simp [sgn] <;> omega
  obtain ⟨f1, f2, f3⟩ := fq_size (a := sgn na x) hd
  rw [absI_sgn, absI_sgn] at f1 f2 f3
  have s1 := sgn_lt ha
  have s2 := sgn_lt hb
  refine ⟨fun e => ?_, fun e hz => ?_, fun e hz => ?_⟩
  · rw [(f1 (by rw [s1, s2, e])).1]; rfl
  · rw [(f2 (by rw [s1, s2]; intro h; exact e (Bool.eq_iff_iff.2 h)) (by rw [← Int.natCast_emod, hz]; rfl)).1]; rfl
  · rw [(f3 (by rw [s1, s2]; intro h; exact e (Bool.eq_iff_iff.2 h)) (by rw [← Int.natCast_emod]; omega)).1, ← Int.natCast_ediv]; omega
end Go.Proofs.YtigjjddblijpbaaGreatDoor
namespace Go.Proofs.YtigjjddblijpbaaGreatDoor
open Go.RowKit
set_option linter.unusedSimpArgs false
set_option linter.unusedVariables false

theorem IsBig.nat {w : World} {neg : Bool} {ao : Option Addr} {k cap n : Nat} (h : IsBig w neg ao k cap ((n : Nat) : Int)) : neg = false ∧ ∃ ds, Pcs w ao k cap ds ∧ BM.Trim ds ∧ BM.bval ds = n := by
  obtain ⟨ds, h1, h2, h3, h4⟩ := h
  cases neg
  · exact ⟨rfl, ds, h1, h2, by simp [sgn] at h4; omega⟩
  · exfalso
    have := h3 rfl
    apply this
    apply h2.eq_nil
    simp [sgn] at h4
    omega
theorem bval_lt' {w : World} {ao : Option Addr} {k cap : Nat} {ds : List Nat} (h : Pcs w ao k cap ds) : BM.bval ds < 65536 ^ k := by
  have := BM.bval_lt h.dig; rwa [h.len] at this
theorem sz_nat {n k : Nat} (h : n < 65536 ^ k) : BM.Sz (n : Int) k := by unfold BM.Sz; simpa using h
theorem sz_two {n m k : Nat} (h : n < 65536 ^ k) (hm : m ≤ 2 * n + 1) : BM.Sz (m : Int) (k + 1) := by
  unfold BM.Sz; rw [Nat.pow_succ]; simp; omega
theorem seen_le {H d s : Nat} (hd : d < 65536) (hs : s ≤ 16) : BM.seen H d s ≤ d + 65536 * H := by
  induction s with
  | zero => rw [BM.seen_end]; omega
  | succ s ih =>
    have := ih (by omega)
    have := BM.seen_step H d s (by omega)
    omega
section
variable {ax bx : Option Addr} {k m ca cb : Nat} {w wr w' : World} {q1 q2 r1 r2 : Value}
theorem BP {w w' : World} {B b : Nat} (h : Below B w w') (hb : B ≤ b) (u v : Value) : Below B w ((w'.setCell ⟨b, 0, none⟩ u).setCell ⟨b, 1, none⟩ v) :=
  (h.setCell (p := ⟨b, 0, none⟩) hb u).setCell (p := ⟨b, 1, none⟩) hb v
end
end Go.Proofs.YtigjjddblijpbaaGreatDoor
namespace Go.Proofs.YtigjjddblijpbaaGreatDoor
open Go.RowKit
set_option linter.unusedSimpArgs false
set_option linter.unusedVariables false

theorem IsBig.sz {w : World} {neg : Bool} {ao : Option Addr} {k cap : Nat} {n : Int} (h : IsBig w neg ao k cap n) : BM.Sz n k := by
  obtain ⟨ds, h1, h2, h3, rfl⟩ := h
  have := bval_lt' h1
  unfold BM.Sz
  cases neg <;> simpa [sgn] using this
theorem one_new (w : World) : IsBig (w.alloc (.cells #[.int .u64 1] 158)) true (some ⟨w.heap.size, 0, none⟩) 1 1 (-1) := by
  refine ⟨[1], Row.pcs (n := 1) ⟨heap_alloc_new w _, rfl, ?_⟩ (by decide), ?_, (fun _ => by simp), rfl⟩
  · intro d hd; simp at hd; omega
  · intro h; simp
theorem one_at (w : World) (g : Nat) (hg : g = w.heap.size) : IsBig (w.alloc (.cells #[.int .u64 1] 158)) true (some ⟨g, 0, none⟩) 1 1 (-1) := by subst hg; exact one_new w
theorem sgn_ne {w : World} {neg : Bool} {ao : Option Addr} {k cap : Nat} {ds : List Nat} (ht : BM.Trim ds) (h : neg = true → ds ≠ []) : neg = true → BM.bval ds ≠ 0 := fun h1 h2 => h h1 (ht.eq_nil h2)
section
variable {na nb : Bool} {ax bx : Option Addr} {k m ca cb : Nat} {w wr w' : World} {bq br : Nat} {q1 q2 r1 r2 : Value}
end
section
variable {na nb : Bool} {ax bx : Option Addr} {k m ca cb : Nat} {w wr w' : World} {bq : Nat} {q1 q2 z1 z2 : Value}
end

end Go.Proofs.YtigjjddblijpbaaGreatDoor
namespace Go.Proofs.YtigjjddblijpbaaGreatDoor
open Go.RowKit
set_option linter.unusedSimpArgs false
set_option linter.unusedVariables false

/-- A number, or a giving up. -/
def Gives (n c : Int) (w : World) (e : Ending) (w' : World) : Prop := (c = 0 → e = .returned (.int .i64 n)) ∧ (c ≠ 0 → e = .panicked (gave c)) ∧ Below w.heap.size w w'
def partE (a n d : Int) : Int := if d = 0 then 3 else if lenB (fq (a * n) d) then 0 else 2
def partN (a n d : Int) : Int := if d = 0 then 0 else if lenB (fq (a * n) d) then fq (a * n) d else 0
theorem lenB_iff (X : Int) : lenB X = true ↔ LenB X := by unfold lenB LenB; simp
theorem fix_part_any (a n d : Int) (ha : IFit a) (hn : IFit n) (hd : IFit d) (w : World) :
    Calls Tryz.prog 215 #[.int .i64 a, .int .i64 n, .int .i64 d] w (Gives (partN a n d) (partE a n d) w) := by
  unfold Gives partN partE
  by_cases h0 : d = 0
  · subst h0
    refine (fix_part_zero a n w).mono fun e w' h => ?_
    obtain ⟨rfl, rfl⟩ := h
    exact ⟨fun h => by simp at h, fun _ => by simp, Below.refl _ _⟩
  · simp only [if_neg h0]
    cases hl : lenB (fq (a * n) d)
    · exact (fix_part_no a n d ha hn hd h0 (fun h => by rw [(lenB_iff _).2 h] at hl; cases hl) w).mono fun e w' h => ⟨fun h => by simp at h, fun _ => h.1, h.2⟩
    · exact (fix_part a n d ha hn hd h0 ((lenB_iff _).1 hl) w).mono fun e w' h => ⟨fun _ => h.1, fun h => by simp at h, h.2⟩
def scaleE (n p q : Int) : Int := if goodB p q then partE n p q else 1
def scaleN (n p q : Int) : Int := if goodB p q then partN n p q else 0
theorem goodB_pos {p q : Int} (h : goodB p q = true) : 1 ≤ q := by unfold goodB at h; simp at h; omega
set_option maxRecDepth 100000 in
set_option maxHeartbeats 1600000 in
theorem fix_scale (n p q : Int) (hn : IFit n) (hp : IFit p) (hq : IFit q) (w : World) :
    Calls Tryz.prog 226 #[.int .i64 n, .agg #[.int .i64 p, .int .i64 q]] w (Gives (scaleN n p q) (scaleE n p q) w) := by
  have DN := fun W => rat_down n p q hn hp hq W
  have t := Rx.new w (.int .i64 p) (.int .i64 q) _ rfl
  have hB : Below w.heap.size w (w.alloc (.cells #[.int .i64 p, .int .i64 q] 81)) := (by repeat' (first | (with_reducible exact Below.refl _ _) | (with_reducible assumption) | (with_reducible refine below_alloc ?_ _ ?_) | (with_reducible refine below_set _ ?_ ?_) | (with_reducible refine Below.drew ?_) | (with_reducible refine below_dN ?_ _) | (apply below_thenA; assumption) | omega | (simp; done) | (simp; omega) | (simp [*]; done)))
  obtain ⟨p1, p2, p3, p4⟩ := t.cells
  unfold scaleN scaleE partN partE
  cases hg : goodB p q
  · have D1 := fun W => (DN W).mono fun _ _ h => (⟨h.1 hg, h.2.2.2⟩ : _ ∧ _)
    clear DN hg hn hp hq
    go_enter Tryz.func226, Tryz.ntmps226
    go_wp2_with fail
    refine (D1 _).mono ?_
    rintro e w1 ⟨rfl, hb1⟩
    replace hB := hB.trans (hb1.mono hB.size)
    go_wp2_with (go_at_call 174; with_reducible refine (fix_fail 1 (by decide) _).mono ?_; rintro e w2 ⟨rfl, rfl⟩)
    simp [bodyPost, Gives]
    exact hB
  · have hq1 := goodB_pos hg
    have h0 : ¬ q = 0 := by omega
    simp only [if_neg h0]
    by_cases hf : IFit (fq (n * p) q)
    · have D1 := fun W => (DN W).mono fun _ _ h => (⟨h.2.1 hg hf, h.2.2.2⟩ : _ ∧ _)
      cases hl : lenB (fq (n * p) q)
      · have OF := fun W => fix_of_no (fq (n * p) q) hf (fun h => by rw [(lenB_iff _).2 h] at hl; cases hl) W
        obtain ⟨F, eF⟩ : ∃ F, fq (n * p) q = F := ⟨_, rfl⟩
        rw [eF] at D1 OF
        clear DN hg hn hp hq eF hl hf hq1 h0
        go_enter Tryz.func226, Tryz.ntmps226
        go_wp2_with fail
        refine (D1 _).mono ?_
        rintro e w1 ⟨rfl, hb1⟩
        replace hB := hB.trans (hb1.mono hB.size)
        go_wp2_with (first
          | (go_at_call 174; with_reducible refine (fix_fail0 _).mono ?_; rintro e w2 ⟨rfl, rfl⟩)
          | (go_at_call 130; with_reducible refine (OF _).mono ?_; rintro e w2 ⟨rfl, rfl⟩))
        simp [bodyPost, Gives]
        exact hB
      · have OF := fun W => fix_of (fq (n * p) q) hf ((lenB_iff _).1 hl) W
        obtain ⟨F, eF⟩ : ∃ F, fq (n * p) q = F := ⟨_, rfl⟩
        rw [eF] at D1 OF ⊢
        clear DN hg hn hp hq eF hl hf hq1 h0
        go_enter Tryz.func226, Tryz.ntmps226
        go_wp2_with fail
        refine (D1 _).mono ?_
        rintro e w1 ⟨rfl, hb1⟩
        replace hB := hB.trans (hb1.mono hB.size)
        go_wp2_with (first
          | (go_at_call 174; with_reducible refine (fix_fail0 _).mono ?_; rintro e w2 ⟨rfl, rfl⟩)
          | (go_at_call 130; with_reducible refine (OF _).mono ?_; rintro e w2 ⟨rfl, rfl⟩))
        go_ret
        exact ⟨fun _ => rfl, fun h => absurd rfl h, hB⟩
    · have D1 := fun W => (DN W).mono fun _ _ h => (⟨h.2.2.1 hg hf, h.2.2.2⟩ : _ ∧ _)
      have hl : lenB (fq (n * p) q) = false := by
        rw [Bool.eq_false_iff]; intro h; exact hf ((lenB_iff _).1 h).fit
      rw [hl]
      clear DN hg hn hp hq hl hf hq1 h0
      go_enter Tryz.func226, Tryz.ntmps226
      go_wp2_with fail
      refine (D1 _).mono ?_
      rintro e w1 ⟨rfl, hb1⟩
      replace hB := hB.trans (hb1.mono hB.size)
      go_wp2_with (go_at_call 174; with_reducible refine (fix_fail2 _).mono ?_; rintro e w2 ⟨rfl, rfl⟩)
      simp [bodyPost, Gives]
      exact hB
theorem fix_px_any (a : Int) (ha : IFit a) (w : World) : Calls Tryz.prog 179 #[.int .i64 a] w (Gives (partN a 64 1) (partE a 64 1) w) := by
  have PT := fun W => fix_part_any a 64 1 ha (by unfold IFit; omega) (by unfold IFit; omega) W
  unfold partN partE at PT ⊢
  obtain ⟨F, eF⟩ : ∃ F, fq (a * 64) 1 = F := ⟨_, rfl⟩
  rw [eF] at PT ⊢
  simp only [if_neg (show ¬ (1 : Int) = 0 by decide)] at PT ⊢
  clear eF
  cases hl : lenB F
  · rw [hl] at PT
    clear hl
    go_enter Tryz.func179, Tryz.ntmps179
    go_wp2_with fail
    refine (PT _).mono ?_
    rintro e w1 ⟨_, h, hb1⟩
    obtain rfl := h (by decide)
    simp [bodyPost, Gives]
    exact hb1
  · rw [hl] at PT
    clear hl
    go_enter Tryz.func179, Tryz.ntmps179
    go_wp2_with fail
    refine (PT _).mono ?_
    rintro e w1 ⟨h, _, hb1⟩
    obtain rfl := h rfl
    go_wp2_with fail
    go_ret
    exact ⟨fun _ => rfl, fun h => absurd rfl h, hb1⟩
/-- A closure that puts a number into a block's cell, or gives up. -/
def Puts (b off : Nat) (n c : Int) (w : World) (e : Ending) (w' : World) : Prop :=
  (c = 0 → e = .returned (.tuple #[]) ∧ ∃ w3, Below w.heap.size w w3 ∧ w' = w3.setCell ⟨b, off, none⟩ (.int .i64 n)) ∧ (c ≠ 0 → e = .panicked (gave c) ∧ Below w.heap.size w w')
theorem try_puts (F : Nat) (cap : Array Value) (b off : Nat) (n c : Int) (w : World) (cs : Array Value) (T : TypeId) (hb : Blk w b cs T) (hen : ∀ w, (callFunc F cap).run Tryz.prog w = .ok (.enter F cap) w)
    (h : ∀ W, Below w.heap.size w W → Calls Tryz.prog F cap W (Puts b off n c W)) :
    Calls Tryz.prog 88 #[.func (.func F) #[] cap] w fun e w' => e = .returned (.int .i64 c) ∧ But b w w' ∧ Blk w' b (if c = 0 then cs.setIfInBounds off (.int .i64 n) else cs) T := by
  have hlt := hb.lt
  have o1 : Blk (w.alloc (.cells #[.int .i64 0] 31)) w.heap.size #[.int .i64 0] 31 := Blk.new w _ _ _ rfl
  have b1 := hb.alloc (.cells #[.int .i64 0] 31)
  refine (fix_try F cap w (fun c' w1 => c' = c ∧ But b (w.alloc (.cells #[.int .i64 0] 31)) w1 ∧ Blk w1 b (if c = 0 then cs.setIfInBounds off (.int .i64 n) else cs) T) hen ((h _ (by repeat' (first | (with_reducible exact Below.refl _ _) | (with_reducible assumption) | (with_reducible refine below_alloc ?_ _ ?_) | (with_reducible refine below_set _ ?_ ?_) | (with_reducible refine Below.drew ?_) | (with_reducible refine below_dN ?_ _) | (apply below_thenA; assumption) | omega | (simp; done) | (simp; omega) | (simp [*]; done)))).mono fun e w1 x => ?_)).mono fun e w' x => ?_
  · by_cases hc : c = 0
    · obtain ⟨rfl, w3, hb3, rfl⟩ := x.1 hc
      have o3 := (o1.below hb3).other (c := b) (by omega) off (.int .i64 n)
      refine ⟨o3.cell 0 _ rfl, o3.free 0, .inl ⟨rfl, hc.symm, (But.of hb3).trans (But.set _ _ _), ?_⟩⟩
      rw [if_pos hc]
      exact (b1.below hb3).set _ _
    · obtain ⟨rfl, hb3⟩ := x.2 hc
      have o3 := o1.below hb3
      refine ⟨o3.cell 0 _ rfl, o3.free 0, .inr ⟨c, rfl, rfl, But.of hb3, ?_⟩⟩
      rw [if_neg hc]
      exact b1.below hb3
  · obtain ⟨c', w1, ⟨rfl, hbut, hblk⟩, rfl, rfl⟩ := x
    refine ⟨rfl, ((But.of (b := b) (show Below w.heap.size w (w.alloc (.cells #[.int .i64 0] 31)) from (by repeat' (first | (with_reducible exact Below.refl _ _) | (with_reducible assumption) | (with_reducible refine below_alloc ?_ _ ?_) | (with_reducible refine below_set _ ?_ ?_) | (with_reducible refine Below.drew ?_) | (with_reducible refine below_dN ?_ _) | (apply below_thenA; assumption) | omega | (simp; done) | (simp; omega) | (simp [*]; done))))).trans hbut).setNew (Nat.le_refl _) _ _, hblk.other (by omega) _ _⟩
/-- Try over a closure that turns some old blocks. -/
theorem try_blks (F : Nat) (cap : Array Value) (c : Int) (L : List (Nat × Array Value × TypeId)) (w : World) (hl : ∀ e, e ∈ L → e.1 < w.heap.size) (hen : ∀ w, (callFunc F cap).run Tryz.prog w = .ok (.enter F cap) w)
    (h : ∀ W, Below w.heap.size w W → Calls Tryz.prog F cap W fun e W' => (c = 0 → e = .returned (.tuple #[])) ∧ (c ≠ 0 → e = .panicked (gave c)) ∧ BlkL W' L ∧ ButL (L.map (·.1)) W W') :
    Calls Tryz.prog 88 #[.func (.func F) #[] cap] w fun e w' => e = .returned (.int .i64 c) ∧ BlkL w' L ∧ ButL (L.map (·.1)) w w' := by
  have o1 : Blk (w.alloc (.cells #[.int .i64 0] 31)) w.heap.size #[.int .i64 0] 31 := Blk.new w _ _ _ rfl
  have hnew : w.heap.size ∉ L.map (·.1) := fun hm => by
    obtain ⟨e, he, e2⟩ := List.mem_map.1 hm
    have := hl e he
    omega
  refine (fix_try F cap w (fun c' w1 => c' = c ∧ BlkL w1 L ∧ ButL (L.map (·.1)) (w.alloc (.cells #[.int .i64 0] 31)) w1) hen ((h _ (by repeat' (first | (with_reducible exact Below.refl _ _) | (with_reducible assumption) | (with_reducible refine below_alloc ?_ _ ?_) | (with_reducible refine below_set _ ?_ ?_) | (with_reducible refine Below.drew ?_) | (with_reducible refine below_dN ?_ _) | (apply below_thenA; assumption) | omega | (simp; done) | (simp; omega) | (simp [*]; done)))).mono fun e w1 x => ?_)).mono fun e w' x => ?_
  · obtain ⟨x1, x2, x3, x4⟩ := x
    have o3 := o1.butl x4 hnew
    refine ⟨o3.cell 0 _ rfl, o3.free 0, ?_⟩
    by_cases hc : c = 0
    · exact .inl ⟨x1 hc, hc.symm, x3, x4⟩
    · exact .inr ⟨c, x2 hc, rfl, x3, x4⟩
  · obtain ⟨c', w1, ⟨rfl, hblk, hbut⟩, rfl, rfl⟩ := x
    refine ⟨rfl, fun e he => (hblk e he).other (Nat.ne_of_lt (hl e he)) _ _, ((ButL.of (l := L.map (·.1)) (show Below w.heap.size w (w.alloc (.cells #[.int .i64 0] 31)) from (by repeat' (first | (with_reducible exact Below.refl _ _) | (with_reducible assumption) | (with_reducible refine below_alloc ?_ _ ?_) | (with_reducible refine below_set _ ?_ ?_) | (with_reducible refine Below.drew ?_) | (with_reducible refine below_dN ?_ _) | (apply below_thenA; assumption) | omega | (simp; done) | (simp; omega) | (simp [*]; done))))).trans hbut).setNew (Nat.le_refl _) _ _⟩
end Go.Proofs.YtigjjddblijpbaaGreatDoor
namespace Go.Proofs.YtigjjddblijpbaaGreatDoor
open Go.RowKit
set_option linter.unusedSimpArgs false
set_option linter.unusedVariables false

theorem IsBig.lenpos {w : World} {neg : Bool} {ao : Option Addr} {k cap y : Nat} (h : IsBig w neg ao k cap ((y : Nat) : Int)) : (y = 0 → k = 0) ∧ (0 < y → 0 < k) := by
  obtain ⟨_, ds, h1, h2, h3⟩ := h.nat
  have hl := h1.len
  refine ⟨fun e => ?_, fun e => ?_⟩
  · have := h2.eq_nil (by omega); rw [this] at hl; simp at hl; omega
  · rcases Nat.eq_zero_or_pos k with h0 | h0
    · rw [h0] at hl; have : ds = [] := List.eq_nil_of_length_eq_zero hl; rw [this] at h3; simp [BM.bval] at h3; omega
    · exact h0
theorem fr_nat (x y : Nat) (hy : 0 < y) : fr (x : Int) (y : Int) = ((x % y : Nat) : Int) := by
  rw [fr_pos (by omega)]; simp
section
variable {w wr w' : World} {a1 a2 b1 b2 : Value}
end
end Go.Proofs.YtigjjddblijpbaaGreatDoor
namespace Go.Proofs.YtigjjddblijpbaaGreatDoor
open Go.RowKit
set_option linter.unusedSimpArgs false
set_option linter.unusedVariables false

theorem IsBig.abs {w : World} {neg : Bool} {ao : Option Addr} {k cap : Nat} {n : Int} (h : IsBig w neg ao k cap n) : IsBig w false ao k cap ((n.natAbs : Nat) : Int) := by
  obtain ⟨ds, h1, h2, h3, rfl⟩ := h
  exact ⟨ds, h1, h2, (fun e => by cases e), by cases neg <;> simp [sgn]⟩
section
variable {w wX w' : World} {l : List (Nat × Value × Value)}
end
end Go.Proofs.YtigjjddblijpbaaGreatDoor
namespace Go.Proofs.YtigjjddblijpbaaGreatDoor
open Go.RowKit
set_option linter.unusedSimpArgs false
set_option linter.unusedVariables false

theorem IsBig.allocd {w : World} {neg : Bool} {ao : Option Addr} {k cap : Nat} {n : Int} (h : IsBig w neg ao k cap n) (o : Obj) : IsBig (w.alloc o) neg ao k cap n := h.keeps (Keeps.alloc (Keeps.refl w) o)
theorem IsBig.drewd {w : World} {neg : Bool} {ao : Option Addr} {k cap : Nat} {n : Int} (h : IsBig w neg ao k cap n) : IsBig w.drew neg ao k cap n := h.keeps (Keeps.drew (Keeps.refl w))
theorem IsBig.belowX {w w' : World} (hb : Below w.heap.size w w') {neg : Bool} {ao : Option Addr} {k cap : Nat} {n : Int} (h : IsBig w neg ao k cap n) : IsBig w' neg ao k cap n := h.keep hb
theorem fq_nat (a g : Nat) (hg : 0 < g) : fq (a : Int) (g : Int) = ((a / g : Nat) : Int) := by unfold fq; rw [if_neg (by omega)]; simp
end Go.Proofs.YtigjjddblijpbaaGreatDoor
namespace Go.Proofs.YtigjjddblijpbaaGreatDoor
open Go.RowKit
set_option linter.unusedSimpArgs false
set_option linter.unusedVariables false

theorem low_good (n d : Int) (hn : IFit n) (hd : IFit d) (h1 : 1 ≤ d) (A B : Int) (hA : A = if n < 0 then -((n.natAbs / Nat.gcd n.natAbs d.natAbs : Nat) : Int) else ((n.natAbs / Nat.gcd n.natAbs d.natAbs : Nat) : Int)) (hB : B = ((d.natAbs / Nat.gcd n.natAbs d.natAbs : Nat) : Int)) :
    (A = n ∧ B = d) ↔ Nat.gcd n.natAbs d.natAbs = 1 := by
  have hg : 0 < Nat.gcd n.natAbs d.natAbs := Nat.gcd_pos_of_pos_right _ (by omega)
  constructor
  · rintro ⟨_, h2⟩
    rw [hB] at h2
    have h3 : d.natAbs / Nat.gcd n.natAbs d.natAbs = d.natAbs := by omega
    rcases Nat.lt_or_ge 1 (Nat.gcd n.natAbs d.natAbs) with h | h
    · have := Nat.div_lt_self (show 0 < d.natAbs by omega) h
      omega
    · omega
  · intro h
    rw [h] at hA hB
    rw [Nat.div_one] at hA hB
    refine ⟨?_, by omega⟩
    rw [hA]; split <;> omega
theorem intB_iff' (p : Int) : intB p = true ↔ IFit p := by unfold intB IFit; simp; omega
theorem IsBig.sign {w : World} {neg : Bool} {ao : Option Addr} {k cap : Nat} {n : Int} (h : IsBig w neg ao k cap n) : neg = decide (n < 0) := by
  obtain ⟨ds, h1, h2, h3, rfl⟩ := h
  cases neg
  · simp [sgn]
  · have : BM.bval ds ≠ 0 := fun e => h3 rfl (h2.eq_nil e)
    simp [sgn]; omega
theorem goodB_iff (n d : Int) (h1 : 1 ≤ d) : goodB n d = true ↔ Nat.gcd n.natAbs d.natAbs = 1 := by
  unfold goodB
  obtain ⟨g, eg⟩ : ∃ g, Nat.gcd n.natAbs d.natAbs = g := ⟨_, rfl⟩
  rw [eg]
  simp [h1]; omega
end Go.Proofs.YtigjjddblijpbaaGreatDoor
