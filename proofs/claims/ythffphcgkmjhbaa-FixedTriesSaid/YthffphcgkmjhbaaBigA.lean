/-
  The reference's whole numbers, each function by its contract. First part: how they lie in memory; trim.
-/
import Derived.Test.YthffphcgkmjhbaaBase
import Derived.Test.YthffphcgkmjhbaaBigMath
import Derived.Deep.LoopGhost
import Derived.Deep.DeepCutAuto
import Derived.Deep.CutBlock
import Derived.Deep.CutRange
namespace Go.Proofs.Ythffphcgkmjhbaa
open Go.RowKit
set_option linter.unusedSimpArgs false
set_option linter.unusedVariables false

/-- The pieces as values. -/
def u64s (ds : List Nat) : List Value := ds.map fun (d : Nat) => Value.int .u64 (d : Int)
/-- With its sign. -/
def sgn (neg : Bool) (n : Nat) : Int := if neg then -(n : Int) else n
/-- The slice has these pieces. -/
def Pcs (w : World) (ao : Option Addr) (k cap : Nat) (ds : List Nat) : Prop :=
  w.ownsRow 0 23 1 (.slice ao k cap) k (u64s ds) ∧ ds.length = k ∧ BM.Dig ds
theorem Pcs.len {w : World} {ao : Option Addr} {k cap : Nat} {ds : List Nat} (h : Pcs w ao k cap ds) : ds.length = k := h.2.1
theorem Pcs.dig {w : World} {ao : Option Addr} {k cap : Nat} {ds : List Nat} (h : Pcs w ao k cap ds) : BM.Dig ds := h.2.2
theorem Pcs.shape {w : World} {ao : Option Addr} {k cap : Nat} {ds : List Nat} (h : Pcs w ao k cap ds) : k ≤ cap ∧ cap ≤ maxLen := by
  rcases h.1.2 with ⟨e, rfl⟩ | ⟨g, c, cur, e, _, _, h1, h2, _⟩
  · simp at e; omega
  · simp at e; omega
theorem Pcs.nil (w : World) : Pcs w none 0 0 [] := ⟨World.ownsRow_nil _ _ _ _, rfl, BM.Dig.nil⟩
theorem Pcs.cell {w : World} {ao : Option Addr} {k cap : Nat} {ds : List Nat} (h : Pcs w ao k cap ds) (i : Nat) (hi : i < k) :
    ∃ g, ao = some ⟨g, 0, none⟩ ∧ w.cell? ⟨g, i, none⟩ = some (.int .u64 (((ds.getD i 0 : Nat) : Int))) ∧ g < w.heap.size := by
  obtain ⟨h1, h2, h3⟩ := h
  rcases h1.2 with ⟨e, e2⟩ | ⟨g, c, cur, e, _, hg, hl, hm, hs, ht⟩
  · omega
  · obtain ⟨rfl, _⟩ : ao = some ⟨g, 0, none⟩ ∧ cap = c := by simpa using e
    have hc := h1.cells (g := g) rfl i (.int .u64 (((ds.getD i 0 : Nat) : Int))) (by
      unfold u64s
      rw [List.getElem?_map, List.getElem?_eq_getElem (by omega)]
      simp [List.getD, List.getElem?_eq_getElem (show i < ds.length by omega)])
    have hadd : (⟨g, 0, none⟩ : Addr).add i = ⟨g, i, none⟩ := by unfold Addr.add; split <;> simp_all
    rw [hadd] at hc
    refine ⟨g, rfl, hc, ?_⟩
    exact (Array.getElem?_eq_some_iff.1 hg).1
theorem ownsRow_below {w w' : World} {e : TypeId} {size : Nat} {v : Value} {n : Nat} {xs : List Value} (h : w.ownsRow 0 e size v n xs) (hb : Below w.heap.size w w') : w'.ownsRow 0 e size v n xs := by
  refine ⟨h.1, ?_⟩
  rcases h.2 with h | ⟨g, cap, cur, hv, hg, hh, r⟩
  · exact .inl h
  · refine .inr ⟨g, cap, cur, hv, hg, ?_, r⟩
    rw [hb.block g (Array.getElem?_eq_some_iff.1 hh).1]
    exact hh
theorem Pcs.keep {w w' : World} {ao : Option Addr} {k cap : Nat} {ds : List Nat} (h : Pcs w ao k cap ds) (hb : Below w.heap.size w w') : Pcs w' ao k cap ds :=
  ⟨ownsRow_below h.1 hb, h.2⟩
theorem Pcs.take {w : World} {ao : Option Addr} {k cap : Nat} {ds : List Nat} (h : Pcs w ao k cap ds) (j : Nat) (hj : j ≤ k) : Pcs w ao j cap (ds.take j) := by
  obtain ⟨h1, h2, h3⟩ := h
  refine ⟨⟨by simp [u64s, h2]; omega, ?_⟩, by simp [h2]; omega, h3.take j⟩
  rcases h1.2 with ⟨e, e2⟩ | ⟨g, c, cur, e, hb, hg, hl, hm, hs, ht⟩
  · simp at e
    exact .inl ⟨by simp [e]; omega, by omega⟩
  · simp at e
    refine .inr ⟨g, c, cur, by simp [e], hb, hg, by omega, hm, hs, ?_⟩
    have : cur.toList.take (j * 1) = (cur.toList.take (k * 1)).take j := by rw [List.take_take]; congr 1; omega
    rw [this, ht]
    simp [u64s, List.map_take]

/-- All blocks of pieces are as they were. -/
def Keeps (w w' : World) : Prop := ∀ (g : Nat) (cur : Array Value), w.heap[g]? = some (Obj.cells cur 23 (0, 0)) → w'.heap[g]? = some (Obj.cells cur 23 (0, 0))
/-- The block's cells are of this type. -/
def TyAt (w : World) (b : Nat) (T : TypeId) : Prop := ∃ (c : Array Value) (fr : Nat × Nat), w.heap[b]? = some (Obj.cells c T fr)
theorem TyAt.new (w : World) (c : Array Value) (T : TypeId) (b : Nat) (hb : b = w.heap.size) : TyAt (w.alloc (.cells c T)) b T := by
  subst hb
  exact ⟨c, (0, 0), heap_alloc_new w _⟩
theorem TyAt.lt {w : World} {b : Nat} {T : TypeId} (h : TyAt w b T) : b < w.heap.size := by
  obtain ⟨c, fr, h⟩ := h
  exact (Array.getElem?_eq_some_iff.1 h).1
theorem TyAt.alloc {w : World} {b : Nat} {T : TypeId} (h : TyAt w b T) (o : Obj) : TyAt (w.alloc o) b T := by
  have hl := h.lt
  obtain ⟨c, fr, h⟩ := h
  exact ⟨c, fr, by exact (Below.heap_alloc w o _ hl).trans h⟩
theorem TyAt.below {w w' : World} {b : Nat} {T : TypeId} (h : TyAt w b T) (hb : Below w.heap.size w w') : TyAt w' b T := by
  have hl := h.lt
  obtain ⟨c, fr, h⟩ := h
  exact ⟨c, fr, by rw [hb.block b hl]; exact h⟩
theorem TyAt.set {w : World} {b : Nat} {T : TypeId} (h : TyAt w b T) (a : Addr) (u : Value) : TyAt (w.setCell a u) b T := by
  obtain ⟨c, fr, h⟩ := h
  simp only [TyAt, World.setCell, Array.getElem?_modify]
  by_cases e : a.block = b
  · rw [if_pos e, h]
    exact ⟨_, _, rfl⟩
  · rw [if_neg e]
    exact ⟨c, fr, h⟩
theorem TyAt.drew {w : World} {b : Nat} {T : TypeId} (h : TyAt w b T) : TyAt w.drew b T := h
theorem TyAt.drewN {w : World} {b : Nat} {T : TypeId} (h : TyAt w b T) (n : Nat) : TyAt (w.drewN n) b T := h
theorem Keeps.refl (w : World) : Keeps w w := fun _ _ h => h
theorem Keeps.alloc {w w' : World} (h : Keeps w w') (o : Obj) : Keeps w (w'.alloc o) := fun g cur hg => by
  have := h g cur hg
  exact (Below.heap_alloc w' o _ (Array.getElem?_eq_some_iff.1 this).1).trans this
theorem Keeps.drew {w w' : World} (h : Keeps w w') : Keeps w w'.drew := h
theorem Keeps.drewN {w w' : World} (h : Keeps w w') (n : Nat) : Keeps w (w'.drewN n) := h
theorem Keeps.below {w w' w'' : World} (hb : Below w'.heap.size w' w'') (h : Keeps w w') : Keeps w w'' := fun g cur hg => by
  have := h g cur hg
  rw [hb.block g (Array.getElem?_eq_some_iff.1 this).1]; exact this
theorem Keeps.set {w w' : World} (h : Keeps w w') (a : Addr) (u : Value) {T : TypeId} (ht : TyAt w' a.block T) (hT : T ≠ 23) : Keeps w (w'.setCell a u) := fun g cur hg => by
  have h1 := h g cur hg
  obtain ⟨c, fr, h2⟩ := ht
  have hne : g ≠ a.block := by
    intro e
    subst e
    rw [h1] at h2
    simp at h2
    exact hT h2.2.1.symm
  rw [Below.heap_setCell _ _ _ _ hne]; exact h1
theorem Pcs.keeps {w w' : World} {ao : Option Addr} {k cap : Nat} {ds : List Nat} (h : Pcs w ao k cap ds) (hb : Keeps w w') : Pcs w' ao k cap ds := by
  refine ⟨⟨h.1.1, ?_⟩, h.2⟩
  rcases h.1.2 with h | ⟨g, c, cur, hv, hg, hh, r⟩
  · exact .inl h
  · exact .inr ⟨g, c, cur, hv, hg, hb g cur hh, r⟩

/-- How a whole number lies in memory. -/
def IsBig (w : World) (neg : Bool) (ao : Option Addr) (k cap : Nat) (n : Int) : Prop :=
  ∃ ds, Pcs w ao k cap ds ∧ BM.Trim ds ∧ (neg = true → ds ≠ []) ∧ n = sgn neg (BM.bval ds)
theorem IsBig.keep {w w' : World} {neg : Bool} {ao : Option Addr} {k cap : Nat} {n : Int} (h : IsBig w neg ao k cap n) (hb : Below w.heap.size w w') : IsBig w' neg ao k cap n := by
  obtain ⟨ds, h1, h2⟩ := h
  exact ⟨ds, h1.keep hb, h2⟩
theorem IsBig.keeps {w w' : World} {neg : Bool} {ao : Option Addr} {k cap : Nat} {n : Int} (h : IsBig w neg ao k cap n) (hb : Keeps w w') : IsBig w' neg ao k cap n := by
  obtain ⟨ds, h1, h2⟩ := h
  exact ⟨ds, h1.keeps hb, h2⟩
/-- What a function answers that gives back a whole number. -/
def BigRet (n : Int) (w : World) (e : Ending) (w' : World) : Prop :=
  ∃ neg ao k cap, e = .returned (.agg #[.bool neg, .slice ao k cap]) ∧ IsBig w' neg ao k cap n ∧ Below w.heap.size w w'

set_option maxRecDepth 100000 in
set_option maxHeartbeats 400000 in
theorem big_trim (neg : Bool) (ao : Option Addr) (k cap : Nat) (ds : List Nat) (w : World) (h : Pcs w ao k cap ds) (hk : k ≤ 1000000) :
    Calls Try.prog 97 #[.agg #[.bool neg, .slice ao k cap]] w (BigRet (sgn neg (BM.bval ds)) w) := by
  have hcap := h.shape
  go_enter Try.func97, Try.ntmps97
  go_wp2
  go_loopg [] k (fun g wr => ∃ j : Nat, j ≤ k ∧ g = j ∧ (w.alloc (.cells #[.bool neg, .slice ao j cap] 29)).alloc (.cells #[.bool false, .slice none 0 0] 29) = wr ∧ BM.bval (ds.take j) = BM.bval ds)
  case atStart => exact ⟨k, Nat.le_refl _, rfl, rfl, by rw [List.take_of_length_le (by rw [h.len]; exact Nat.le_refl _)]⟩
  case round =>
    obtain ⟨j, hj, rfl, rfl, hv⟩ := hrel
    have HV := Lib.hid hv
    clear hv
    by_cases hj0 : gk = 0
    · subst hj0
      go_wp2
      simp [bodyPost, results, Try.results97, go_sem]
      have e0 : BM.bval ds = 0 := by rw [← HV.out]; rfl
      exact ⟨false, ao, 0, cap, rfl, ⟨[], (h.take 0 (Nat.zero_le _)).keep (by repeat' (first | (with_reducible exact Below.refl _ _) | (with_reducible assumption) | (with_reducible refine below_alloc ?_ _ ?_) | (with_reducible refine below_set _ ?_ ?_) | (with_reducible refine Below.drew ?_) | (with_reducible refine below_dN ?_ _) | (apply below_thenA; assumption) | omega | (simp; done) | (simp; omega) | (simp [*]; done))), BM.Trim.nil, fun h => (by cases h), by rw [e0]; cases neg <;> rfl⟩, (by repeat' (first | (with_reducible exact Below.refl _ _) | (with_reducible assumption) | (with_reducible refine below_alloc ?_ _ ?_) | (with_reducible refine below_set _ ?_ ?_) | (with_reducible refine Below.drew ?_) | (with_reducible refine below_dN ?_ _) | (apply below_thenA; assumption) | omega | (simp; done) | (simp; omega) | (simp [*]; done)))⟩
    · obtain ⟨g, rfl, hc, hg⟩ := h.cell (gk - 1) (by omega)
      have HD := h.dig.getD (gk - 1)
      obtain ⟨d, hd⟩ : ∃ d, d = ds.getD (gk - 1) 0 := ⟨_, rfl⟩
      rw [← hd] at hc HD
      have HDD := Lib.hid hd
      clear hd
      have hg1 : g < w.heap.size + 1 := by omega
      have hg2 : g ≤ w.heap.size := by omega
      have hj1 : 0 < gk := by omega
      by_cases h0 : d = 0
      · subst h0
        go_wp2
        go_roundg (gk - 1)
        case measure => omega
        case rel =>
          refine ⟨gk - 1, by omega, rfl, rfl, ?_⟩
          have e : gk = gk - 1 + 1 := by omega
          have hl : gk - 1 < ds.length := by rw [h.len]; omega
          have hz : ds[gk - 1] = 0 := by have := HDD.out; simp [List.getD, hl] at this; exact this.symm
          rw [← HV.out, e, BM.bval_take_succ ds (gk - 1) hl, hz]
          simp
      · have h0' : ((d : Int) == 0) = false := by simp [h0]
        go_wp2
        simp [bodyPost, results, Try.results97, go_sem]
        have hl : gk - 1 < ds.length := by rw [h.len]; omega
        have hz : ds[gk - 1] ≠ 0 := by have := HDD.out; simp [List.getD, hl] at this; omega
        have ht : BM.Trim (ds.take gk) := by
          intro hne
          have hlen : (ds.take gk).length = gk := by rw [List.length_take]; omega
          rw [List.getLast_eq_getElem]
          simp only [hlen, List.getElem_take]
          exact hz
        have hne : ds.take gk ≠ [] := by
          intro e
          have hlen : (ds.take gk).length = gk := by rw [List.length_take]; omega
          rw [e] at hlen
          simp at hlen
          omega
        exact ⟨neg, _, gk, cap, rfl, ⟨ds.take gk, (h.take gk hj).keep (by repeat' (first | (with_reducible exact Below.refl _ _) | (with_reducible assumption) | (with_reducible refine below_alloc ?_ _ ?_) | (with_reducible refine below_set _ ?_ ?_) | (with_reducible refine Below.drew ?_) | (with_reducible refine below_dN ?_ _) | (apply below_thenA; assumption) | omega | (simp; done) | (simp; omega) | (simp [*]; done))), ht, fun _ => hne, by rw [HV.out]⟩, (by repeat' (first | (with_reducible exact Below.refl _ _) | (with_reducible assumption) | (with_reducible refine below_alloc ?_ _ ?_) | (with_reducible refine below_set _ ?_ ?_) | (with_reducible refine Below.drew ?_) | (with_reducible refine below_dN ?_ _) | (apply below_thenA; assumption) | omega | (simp; done) | (simp; omega) | (simp [*]; done)))⟩
end Go.Proofs.Ythffphcgkmjhbaa
