/-
  The reference's whole numbers, each function by its contract. Third part: Minus, OfU.
-/
import Derived.Test.YthffphcgkmjhbaaBigB
namespace Go.Proofs.Ythffphcgkmjhbaa
open Go.RowKit
set_option linter.unusedSimpArgs false
set_option linter.unusedVariables false

theorem IsBig.shape {w : World} {neg : Bool} {ao : Option Addr} {k cap : Nat} {n : Int} (h : IsBig w neg ao k cap n) : k ≤ cap ∧ cap ≤ maxLen := by
  obtain ⟨ds, h, _⟩ := h
  exact h.shape
theorem IsBig.len {w : World} {neg : Bool} {ao : Option Addr} {k cap : Nat} {n : Int} (h : IsBig w neg ao k cap n) {j : Nat} (hs : BM.Sz n j) : k ≤ j := by
  obtain ⟨ds, h1, h2, _, rfl⟩ := h
  rw [← h1.len]
  refine h2.len ?_
  have : (sgn neg (BM.bval ds)).natAbs = BM.bval ds := by cases neg <;> simp [sgn]
  unfold BM.Sz at hs
  omega
theorem sgn_not (neg : Bool) (n : Nat) : sgn (!neg) n = -sgn neg n := by cases neg <;> simp [sgn]

set_option maxRecDepth 100000 in
set_option maxHeartbeats 400000 in
theorem big_minus (neg : Bool) (ao : Option Addr) (k cap : Nat) (n : Int) (w : World) (h : IsBig w neg ao k cap n) (hk : k ≤ 1000000) :
    Calls Try.prog 40 #[.agg #[.bool neg, .slice ao k cap]] w (BigRet (-n) w) := by
  obtain ⟨ds, h1, h2, h3, rfl⟩ := h
  have h1' := h1.keep (w' := (w.alloc (.cells #[.bool neg, .slice ao k cap] 29)).alloc (.cells #[.bool false, .slice none 0 0] 29)) (by repeat' (first | (with_reducible exact Below.refl _ _) | (with_reducible assumption) | (with_reducible refine below_alloc ?_ _ ?_) | (with_reducible refine below_set _ ?_ ?_) | (with_reducible refine Below.drew ?_) | (with_reducible refine below_dN ?_ _) | (apply below_thenA; assumption) | omega | (simp; done) | (simp; omega) | (simp [*]; done)))
  have E := Lib.hid (sgn_not neg (BM.bval ds))
  go_enter Try.func40, Try.ntmps40
  go_wp2_with fail
  refine (big_trim (!neg) ao k cap ds _ h1' hk).mono ?_
  rintro e w1 ⟨neg1, ao1, k1, cap1, rfl, hI, hb1⟩
  obtain ⟨hc1, hf1⟩ := bcell hb1
  have hz1 := bz2 (n := w.heap.size) hb1 (by simp)
  rw [E.out] at hI
  go_wp2_with fail
  (go_light; simp [bodyPost, results, Try.results40, go_sem, *])
  exact ⟨neg1, ao1, k1, cap1, rfl, hI.keeps (by repeat' (first | (with_reducible exact Keeps.refl _) | (with_reducible refine Keeps.alloc ?_ _) | (with_reducible refine Keeps.drew ?_) | (with_reducible refine Keeps.drewN ?_ _) | (with_reducible refine Keeps.set ?_ _ _ (T := 29) ?_ (by decide)) | (with_reducible exact TyAt.new _ _ _ _ (by simp)) | (with_reducible refine TyAt.set ?_ _ _) | (with_reducible refine TyAt.alloc ?_ _) | (with_reducible refine TyAt.drew ?_) | (with_reducible refine TyAt.drewN ?_ _) | (apply Keeps.below; assumption) | (exact Two.ty (by assumption)) | (apply TyAt.below; rotate_left; assumption))), (by repeat' (first | (with_reducible exact Below.refl _ _) | (with_reducible assumption) | (with_reducible refine below_alloc ?_ _ ?_) | (with_reducible refine below_set _ ?_ ?_) | (with_reducible refine Below.drew ?_) | (with_reducible refine below_dN ?_ _) | (apply below_thenA; assumption) | omega | (simp; done) | (simp; omega) | (simp [*]; done)))⟩

/-- A block of two cells. -/
def Two (w : World) (b : Nat) (x y : Value) : Prop := w.heap[b]? = some (Obj.cells #[x, y] 29 (0, 0))
theorem Two.cells {w : World} {b : Nat} {x y : Value} (h : Two w b x y) : w.cell? ⟨b, 0, none⟩ = some x ∧ w.cell? ⟨b, 1, none⟩ = some y ∧ w.frozen? ⟨b, 0, none⟩ = false ∧ w.frozen? ⟨b, 1, none⟩ = false := by
  refine ⟨by rw [cell_of_row w b 0 _ _ _ h]; rfl, by rw [cell_of_row w b 1 _ _ _ h]; rfl, ?_, ?_⟩ <;> simp [World.frozen?, show w.heap[b]? = _ from h]
theorem Two.lt {w : World} {b : Nat} {x y : Value} (h : Two w b x y) : b < w.heap.size := (Array.getElem?_eq_some_iff.1 h).1
theorem Two.alloc {w : World} {b : Nat} {x y : Value} (h : Two w b x y) (o : Obj) : Two (w.alloc o) b x y := (Below.heap_alloc w o _ h.lt).trans h
theorem Two.new (w : World) (x y : Value) (b : Nat) (hb : b = w.heap.size) : Two (w.alloc (.cells #[x, y] 29)) b x y := by
  subst hb; exact heap_alloc_new w _
theorem Two.set1 {w : World} {b : Nat} {x y : Value} (h : Two w b x y) (u : Value) : Two (w.setCell ⟨b, 1, none⟩ u) b x u := by
  unfold Two at *
  simp only [World.setCell, Array.getElem?_modify, if_true, h]
  rfl
theorem Two.set0 {w : World} {b : Nat} {x y : Value} (h : Two w b x y) (u : Value) : Two (w.setCell ⟨b, 0, none⟩ u) b u y := by
  unfold Two at *
  simp only [World.setCell, Array.getElem?_modify, if_true, h]
  rfl
theorem Two.other {w : World} {b : Nat} {x y : Value} (h : Two w b x y) (a : Addr) (u : Value) (ha : b ≠ a.block) : Two (w.setCell a u) b x y := by
  unfold Two at *
  rw [Below.heap_setCell _ _ _ _ ha]; exact h
theorem Two.ty {w : World} {b : Nat} {x y : Value} (h : Two w b x y) : TyAt w b 29 := ⟨_, _, h⟩
theorem Two.below {w w' : World} {b : Nat} {x y : Value} (h : Two w b x y) (hb : Below w.heap.size w w') : Two w' b x y := (hb.block b h.lt).trans h
/-- The pieces of a slice of the call's own. -/
def Own (w : World) (B : Nat) (ao : Option Addr) (k cap : Nat) (ds : List Nat) : Prop :=
  w.ownsRow B 23 1 (.slice ao k cap) k (u64s ds) ∧ ds.length = k ∧ BM.Dig ds
theorem Own.pcs {w : World} {B : Nat} {ao : Option Addr} {k cap : Nat} {ds : List Nat} (h : Own w B ao k cap ds) : Pcs w ao k cap ds := by
  refine ⟨⟨h.1.1, ?_⟩, h.2⟩
  rcases h.1.2 with h | ⟨g, c, cur, hv, hg, r⟩
  · exact .inl h
  · exact .inr ⟨g, c, cur, hv, Nat.zero_le _, r⟩
theorem Own.nil (w : World) (B : Nat) : Own w B none 0 0 [] := ⟨World.ownsRow_nil _ _ _ _, rfl, BM.Dig.nil⟩
theorem Own.set {w : World} {B : Nat} {ao : Option Addr} {k cap : Nat} {ds : List Nat} (h : Own w B ao k cap ds) (a : Addr) (u : Value) (ht : TyAt w a.block 29) : Own (w.setCell a u) B ao k cap ds := by
  refine ⟨⟨h.1.1, ?_⟩, h.2⟩
  rcases h.1.2 with h | ⟨g, c, cur, hv, hg, hh, r⟩
  · exact .inl h
  · exact .inr ⟨g, c, cur, hv, hg, Keeps.set (Keeps.refl w) a u ht (by decide) g cur hh, r⟩
/-- Behind an append: what has grown, and what stays. -/
theorem Own.grown {w w1 : World} {B : Nat} {ao : Option Addr} {k cap : Nat} {ds : List Nat} {d : Nat} {v' : Value} {o : Obj} (h : Own w B ao k cap ds) (hd : d < 65536) (hB : B ≤ w.heap.size)
    (ho : w1.ownsRow B 23 1 v' (k + 1) (u64s ds ++ [.int .u64 ((d : Int))])) (hg : (w.alloc o).grownBy w1 (Value.slice ao k cap).ownBlock) :
    ∃ ao' cap', v' = .slice ao' (k + 1) cap' ∧ Own w1 B ao' (k + 1) cap' (ds ++ [d]) ∧ (∀ b x y, Two w b x y → Two w1 b x y) ∧ (∀ C a, C ≤ B → Below C a w → Below C a w1) := by
  have hs : ∃ ao' cap', v' = .slice ao' (k + 1) cap' := by
    rcases ho.2 with ⟨_, e⟩ | ⟨g, c, cur, e, _⟩
    · omega
    · exact ⟨_, _, e⟩
  obtain ⟨ao', cap', rfl⟩ := hs
  have hrow : ∀ b x y, Two w b x y → some b ≠ (Value.slice ao k cap).ownBlock := by
    intro b x y h2 e
    rcases h.1.2 with ⟨hv, _⟩ | ⟨g, c, cur, hv, _, hh, _⟩
    · rw [hv] at e; simp [Value.ownBlock] at e
    · rw [hv] at e
      simp [Value.ownBlock] at e
      subst e
      unfold Two at h2
      rw [hh] at h2
      simp at h2
  refine ⟨ao', cap', rfl, ⟨by simpa [u64s] using ho, by simp [h.2.1], h.2.2.snoc hd⟩, fun b x y h2 => ?_, fun C a hC hb => ?_⟩
  · exact (hg.block b (h2.alloc o).lt (hrow b x y h2)).trans (h2.alloc o)
  · refine (hb.alloc (Nat.le_trans hC hB) o).grown hg (by simp; omega) ?_
    intro j hj
    have := (h.1.lt j hj).1
    omega

theorem trim_snoc {ds : List Nat} {d : Nat} (h : d ≠ 0) : BM.Trim (ds ++ [d]) := by
  intro hne
  simpa using h
theorem pow_lt_four {k m n : Nat} (h : 65536 ^ k * m ≤ n) (hm : 0 < m) (hn : n < 18446744073709551616) : k < 4 := by
  rcases Nat.lt_or_ge k 4 with h1 | h1
  · exact h1
  · have a : 65536 ^ 4 ≤ 65536 ^ k := Nat.pow_le_pow_right (by decide) h1
    have b : 65536 ^ k * 1 ≤ 65536 ^ k * m := Nat.mul_le_mul_left _ hm
    have c : (65536 : Nat) ^ 4 = 18446744073709551616 := by decide
    omega

def OfuRel (n : Nat) (w : World) (g : Nat) (s : Value) (wr : World) : Prop :=
  ∃ (m : Nat) (ds : List Nat) (ao : Option Addr) (k cap : Nat), g = m ∧ s = .int .u64 (m : Int) ∧ m < 18446744073709551616 ∧ BM.bval ds + 65536 ^ k * m = n ∧
    Two wr w.heap.size (.bool false) (.slice none 0 0) ∧ Two wr (w.heap.size + 1) (.bool false) (.slice ao k cap) ∧ Own wr w.heap.size ao k cap ds ∧ (m = 0 → BM.Trim ds) ∧ Below w.heap.size w wr

set_option maxRecDepth 100000 in
set_option maxHeartbeats 800000 in
theorem big_ofu (n : Nat) (hn : n < 18446744073709551616) (w : World) :
    Calls Try.prog 98 #[.int .u64 (((n : Nat) : Int))] w (BigRet n w) := by
  obtain ⟨i0, hi, hz0, hz1, hz2⟩ := info_parts (show (Try.prog.info? 23).map (fun i => (i.zero, i.size, i.bytes)) = some (some (.int .u64 0), 1, 8) by kernel_rfl)
  go_enter Try.func98, Try.ntmps98
  go_wp2
  go_loopg [0] n (fun g s wr => OfuRel n w g s wr)
  case atStart =>
    exact ⟨n, [], none, 0, 0, rfl, rfl, hn, by simp [BM.bval], (Two.new _ _ _ _ rfl).alloc _, Two.new _ _ _ _ (by simp), Own.nil _ _, fun _ => BM.Trim.nil, (by repeat' (first | (with_reducible exact Below.refl _ _) | (with_reducible assumption) | (with_reducible refine below_alloc ?_ _ ?_) | (with_reducible refine below_set _ ?_ ?_) | (with_reducible refine Below.drew ?_) | (with_reducible refine below_dN ?_ _) | (apply below_thenA; assumption) | omega | (simp; done) | (simp; omega) | (simp [*]; done)))⟩
  case round =>
    obtain ⟨m, ds, ao, k, cap, rfl, rfl, hm, hv, t0, t1, ho, htr, hbl⟩ := hrel
    have HV := Lib.hid hv
    have HT := Lib.hid htr
    clear hv htr
    obtain ⟨a1, a2, a3, a4⟩ := t0.cells
    obtain ⟨b1, b2, b3, b4⟩ := t1.cells
    have l1 := t1.lt
    have l0 := t0.lt
    by_cases h0 : gk = 0
    · subst h0
      go_wp2
      (go_light; simp [bodyPost, results, Try.results98, go_sem, *])
      exact ⟨false, ao, k, cap, rfl, ⟨ds, ho.pcs.keeps (by repeat' (first | (with_reducible exact Keeps.refl _) | (with_reducible refine Keeps.alloc ?_ _) | (with_reducible refine Keeps.drew ?_) | (with_reducible refine Keeps.drewN ?_ _) | (with_reducible refine Keeps.set ?_ _ _ (T := 29) ?_ (by decide)) | (with_reducible exact TyAt.new _ _ _ _ (by simp)) | (with_reducible refine TyAt.set ?_ _ _) | (with_reducible refine TyAt.alloc ?_ _) | (with_reducible refine TyAt.drew ?_) | (with_reducible refine TyAt.drewN ?_ _) | (apply Keeps.below; assumption) | (exact Two.ty (by assumption)) | (apply TyAt.below; rotate_left; assumption))), HT.out (by first | trivial | rfl), (fun h => by cases h), (by have h1 := HV.out; simp at h1; rw [h1]; rfl)⟩, (by repeat' (first | (with_reducible exact Below.refl _ _) | (with_reducible assumption) | (with_reducible refine below_alloc ?_ _ ?_) | (with_reducible refine below_set _ ?_ ?_) | (with_reducible refine Below.drew ?_) | (with_reducible refine below_dN ?_ _) | (apply below_thenA; assumption) | omega | (simp; done) | (simp; omega) | (simp [*]; done)))⟩
    · have hpos : 0 < gk := by omega
      have hk4 := pow_lt_four (Nat.le_of_add_left_le (Nat.le_of_eq HV.out)) hpos hn
      have hsh := ho.pcs.shape
      go_wp2_with (at_builtin; refine wpList_append_own _ rfl _ _ 27 rfl w.heap.size 23 i0 (.int .u64 0) 1 8 Try.underlying27 hi hz0 hz1 hz2 rfl (by decide) _ _ _ rfl (ho.1.alloc _) ⟨wr.heap.size, 0, none⟩ 1 1 [.int .u64 (((gk % 65536 : Nat) : Int))] rfl rfl ?c1 ?c2 ?c3 ?c4 ?c5 ?_)
      case c1 =>
        intro j u hj
        match j, hj with
        | 0, hj => simp at hj; subst hj; simp [Addr.add]
      case c2 => intro u hu; simp at hu; subst hu; rfl
      case c3 => unfold maxLen; omega
      case c4 => omega
      case c5 => simp; omega
      intro v' w1 hown' hgrow _
      obtain ⟨ao', cap', rfl, ho', hT, hB⟩ := ho.grown (Nat.mod_lt _ (by decide)) (by omega) hown' hgrow
      have t0' := hT _ _ _ t0
      have t1' := hT _ _ _ t1
      have hbl' := hB _ _ (Nat.le_refl _) hbl
      clear hown' hgrow hT hB
      obtain ⟨c1, c2, c3, c4⟩ := t0'.cells
      obtain ⟨d1, d2, d3, d4⟩ := t1'.cells
      go_wp2
      go_roundg (gk / 65536)
      case measure => omega
      case rel =>
        refine ⟨gk / 65536, ds ++ [gk % 65536], ao', k + 1, cap', rfl, by simp, by omega, ?_, t0'.other _ _ (by simp), t1'.set1 _, ho'.set _ _ t1'.ty, fun hz => trim_snoc (by omega), (by repeat' (first | (with_reducible exact Below.refl _ _) | (with_reducible assumption) | (with_reducible refine below_alloc ?_ _ ?_) | (with_reducible refine below_set _ ?_ ?_) | (with_reducible refine Below.drew ?_) | (with_reducible refine below_dN ?_ _) | (apply below_thenA; assumption) | omega | (simp; done) | (simp; omega) | (simp [*]; done)))⟩
        have hl : ds.length = k := ho.2.1
        rw [BM.bval_snoc, hl, Nat.pow_succ, Nat.mul_assoc, Nat.add_assoc, ← Nat.mul_add, Nat.mod_add_div]
        exact HV.out
end Go.Proofs.Ythffphcgkmjhbaa
