/-
  The reference's whole numbers, each function by its contract. Third part: Minus, OfU.
-/
/-
  The reference's whole numbers, each function by its contract. Fourth part: Plus.
-/
/-
  The reference's whole numbers, each function by its contract. Fifth part: Plus of two signs.
-/
/-
  The reference's whole numbers, each function by its contract. Sixth part: Plus, all cases.
-/
/-
  The reference's whole numbers, each function by its contract. Seventh part: Times.
-/
/-
  The reference's whole numbers, each function by its contract. Eighth part: Of, Cmp.
-/
/-
  The reference's whole numbers, each function by its contract. Ninth part: Cmp.
-/
/-
  The reference's whole numbers, each function by its contract. Tenth part: Power.
-/
/-
  The reference's whole numbers, each function by its contract. Eleventh part: OfWide, Fits.
-/
import Derived.Test.YtmkblfejoniccaaDoorZ3
import Derived.BigQuiet
import Derived.Deep.OwnRows
import Derived.Deep.RegionWith
namespace Go.Proofs.YtmkblfejoniccaaDoor
open Go.RowKit
set_option linter.unusedSimpArgs false
set_option linter.unusedVariables false

theorem IsBig.shape {w : World} {neg : Bool} {ao : Option Addr} {k cap : Nat} {n : Int} (h : IsBig w neg ao k cap n) : k ≤ cap ∧ cap ≤ maxLen := by
  obtain ⟨ds, h, _⟩ := h
  exact h.shape
theorem IsBig.len {w : World} {neg : Bool} {ao : Option Addr} {k cap : Nat} {n : Int} (h : IsBig w neg ao k cap n) {j : Nat} (hs : BM.Sz n j) : k ≤ j := by
  obtain ⟨ds, h1, h2, _, rfl⟩ := h
  rw [← h1.len]
  refine h2.len ?_
  have : (sgn neg (BM.bval ds)).natAbs = BM.bval ds := by cases neg <;> simp [sgn]
  unfold BM.Sz at hs
  omega
theorem sgn_not (neg : Bool) (n : Nat) : sgn (!neg) n = -sgn neg n := by cases neg <;> simp [sgn]

set_option maxRecDepth 100000 in
set_option maxHeartbeats 400000 in
theorem big_minus (neg : Bool) (ao : Option Addr) (k cap : Nat) (n : Int) (w : World) (h : IsBig w neg ao k cap n) (hk : k ≤ 1000000) :
    Calls Tryd.prog 63 #[.agg #[.bool neg, .slice ao k cap]] w (BigRet (-n) w) := by
  obtain ⟨ds, h1, h2, h3, rfl⟩ := h
  have h1' := h1.keep (w' := (w.alloc (.cells #[.bool neg, .slice ao k cap] 41)).alloc (.cells #[.bool false, .slice none 0 0] 41)) (by repeat' (first | (with_reducible exact Below.refl _ _) | (with_reducible assumption) | (with_reducible refine below_alloc ?_ _ ?_) | (with_reducible refine below_set _ ?_ ?_) | (with_reducible refine Below.drew ?_) | (with_reducible refine below_dN ?_ _) | (apply below_thenA; assumption) | omega | (simp; done) | (simp; omega) | (simp [*]; done)))
  have E := Lib.hid (sgn_not neg (BM.bval ds))
  go_enter Tryd.func63, Tryd.ntmps63
  go_wp2_with fail
  refine (big_trim (!neg) ao k cap ds _ h1' hk).mono ?_
  rintro e w1 ⟨neg1, ao1, k1, cap1, rfl, hI, hb1⟩
  obtain ⟨hc1, hf1⟩ := bcell hb1
  have hz1 := bz2 (n := w.heap.size) hb1 (by simp)
  rw [E.out] at hI
  go_wp2_with fail
  (go_light; simp [bodyPost, results, Tryd.results63, go_sem, *])
  exact ⟨neg1, ao1, k1, cap1, rfl, hI.keeps (by repeat' (first | (with_reducible exact Keeps.refl _) | (with_reducible refine Keeps.alloc ?_ _) | (with_reducible refine Keeps.drew ?_) | (with_reducible refine Keeps.drewN ?_ _) | (with_reducible refine Keeps.set ?_ _ _ (T := 41) ?_ (by decide)) | (with_reducible exact TyAt.new _ _ _ _ (by simp)) | (with_reducible refine TyAt.set ?_ _ _) | (with_reducible refine TyAt.alloc ?_ _) | (with_reducible refine TyAt.drew ?_) | (with_reducible refine TyAt.drewN ?_ _) | (apply Keeps.below; assumption) | (exact Two.ty (by assumption)) | (apply TyAt.below; rotate_left; assumption))), (by repeat' (first | (with_reducible exact Below.refl _ _) | (with_reducible assumption) | (with_reducible refine below_alloc ?_ _ ?_) | (with_reducible refine below_set _ ?_ ?_) | (with_reducible refine Below.drew ?_) | (with_reducible refine below_dN ?_ _) | (apply below_thenA; assumption) | omega | (simp; done) | (simp; omega) | (simp [*]; done)))⟩

/-- A block of two cells. -/
def Two (w : World) (b : Nat) (x y : Value) : Prop := w.heap[b]? = some (Obj.cells #[x, y] 41 (0, 0))
theorem Two.cells {w : World} {b : Nat} {x y : Value} (h : Two w b x y) : w.cell? ⟨b, 0, none⟩ = some x ∧ w.cell? ⟨b, 1, none⟩ = some y ∧ w.frozen? ⟨b, 0, none⟩ = false ∧ w.frozen? ⟨b, 1, none⟩ = false := by
  refine ⟨by rw [cell_of_row w b 0 _ _ _ h]; rfl, by rw [cell_of_row w b 1 _ _ _ h]; rfl, ?_, ?_⟩ <;> simp [World.frozen?, show w.heap[b]? = _ from h]
theorem Two.lt {w : World} {b : Nat} {x y : Value} (h : Two w b x y) : b < w.heap.size := (Array.getElem?_eq_some_iff.1 h).1
theorem Two.alloc {w : World} {b : Nat} {x y : Value} (h : Two w b x y) (o : Obj) : Two (w.alloc o) b x y := (Below.heap_alloc w o _ h.lt).trans h
theorem Two.new (w : World) (x y : Value) (b : Nat) (hb : b = w.heap.size) : Two (w.alloc (.cells #[x, y] 41)) b x y := by
  subst hb; exact heap_alloc_new w _
theorem Two.set1 {w : World} {b : Nat} {x y : Value} (h : Two w b x y) (u : Value) : Two (w.setCell ⟨b, 1, none⟩ u) b x u := by
  unfold Two at *
  simp only [World.setCell, Array.getElem?_modify, if_true, h]
  rfl
theorem Two.set0 {w : World} {b : Nat} {x y : Value} (h : Two w b x y) (u : Value) : Two (w.setCell ⟨b, 0, none⟩ u) b u y := by
  unfold Two at *
  simp only [World.setCell, Array.getElem?_modify, if_true, h]
  rfl
theorem Two.other {w : World} {b : Nat} {x y : Value} (h : Two w b x y) (a : Addr) (u : Value) (ha : b ≠ a.block) : Two (w.setCell a u) b x y := by
  unfold Two at *
  rw [Below.heap_setCell _ _ _ _ ha]; exact h
theorem Two.ty {w : World} {b : Nat} {x y : Value} (h : Two w b x y) : TyAt w b 41 := ⟨_, _, h⟩
theorem Two.below {w w' : World} {b : Nat} {x y : Value} (h : Two w b x y) (hb : Below w.heap.size w w') : Two w' b x y := (hb.block b h.lt).trans h
/-- The pieces of a slice of the call's own. -/
def Own (w : World) (B : Nat) (ao : Option Addr) (k cap : Nat) (ds : List Nat) : Prop :=
  w.ownsRow B 22 1 (.slice ao k cap) k (u64s ds) ∧ ds.length = k ∧ BM.Dig ds
theorem Own.pcs {w : World} {B : Nat} {ao : Option Addr} {k cap : Nat} {ds : List Nat} (h : Own w B ao k cap ds) : Pcs w ao k cap ds := by
  refine ⟨⟨h.1.1, ?_⟩, h.2⟩
  rcases h.1.2 with h | ⟨g, c, cur, hv, hg, r⟩
  · exact .inl h
  · exact .inr ⟨g, c, cur, hv, Nat.zero_le _, r⟩
theorem Own.nil (w : World) (B : Nat) : Own w B none 0 0 [] := ⟨World.ownsRow_nil _ _ _ _, rfl, BM.Dig.nil⟩
theorem Own.set {w : World} {B : Nat} {ao : Option Addr} {k cap : Nat} {ds : List Nat} (h : Own w B ao k cap ds) (a : Addr) (u : Value) (ht : TyAt w a.block 41) : Own (w.setCell a u) B ao k cap ds := by
  refine ⟨⟨h.1.1, ?_⟩, h.2⟩
  rcases h.1.2 with h | ⟨g, c, cur, hv, hg, hh, r⟩
  · exact .inl h
  · exact .inr ⟨g, c, cur, hv, hg, Keeps.set (Keeps.refl w) a u ht (by decide) g cur hh, r⟩
/-- Behind an append: what has grown, and what stays. -/
theorem Own.grown {w w1 : World} {B : Nat} {ao : Option Addr} {k cap : Nat} {ds : List Nat} {d : Nat} {v' : Value} {o : Obj} (h : Own w B ao k cap ds) (hd : d < 65536) (hB : B ≤ w.heap.size)
    (ho : w1.ownsRow B 22 1 v' (k + 1) (u64s ds ++ [.int .u64 ((d : Int))])) (hg : (w.alloc o).grownBy w1 (Value.slice ao k cap).ownBlock) :
    ∃ ao' cap', v' = .slice ao' (k + 1) cap' ∧ Own w1 B ao' (k + 1) cap' (ds ++ [d]) ∧ (∀ b x y, Two w b x y → Two w1 b x y) ∧ (∀ C a, C ≤ B → Below C a w → Below C a w1) := by
  have hs : ∃ ao' cap', v' = .slice ao' (k + 1) cap' := by
    rcases ho.2 with ⟨_, e⟩ | ⟨g, c, cur, e, _⟩
    · omega
    · exact ⟨_, _, e⟩
  obtain ⟨ao', cap', rfl⟩ := hs
  have hrow : ∀ b x y, Two w b x y → some b ≠ (Value.slice ao k cap).ownBlock := by
    intro b x y h2 e
    rcases h.1.2 with ⟨hv, _⟩ | ⟨g, c, cur, hv, _, hh, _⟩
    · rw [hv] at e; simp [Value.ownBlock] at e
    · rw [hv] at e
      simp [Value.ownBlock] at e
      subst e
      unfold Two at h2
      rw [hh] at h2
      simp at h2
  refine ⟨ao', cap', rfl, ⟨by simpa [u64s] using ho, by simp [h.2.1], h.2.2.snoc hd⟩, fun b x y h2 => ?_, fun C a hC hb => ?_⟩
  · exact (hg.block b (h2.alloc o).lt (hrow b x y h2)).trans (h2.alloc o)
  · refine (hb.alloc (Nat.le_trans hC hB) o).grown hg (by simp; omega) ?_
    intro j hj
    have := (h.1.lt j hj).1
    omega

theorem trim_snoc {ds : List Nat} {d : Nat} (h : d ≠ 0) : BM.Trim (ds ++ [d]) := by
  intro hne
  simpa using h
theorem pow_lt_four {k m n : Nat} (h : 65536 ^ k * m ≤ n) (hm : 0 < m) (hn : n < 18446744073709551616) : k < 4 := by
  rcases Nat.lt_or_ge k 4 with h1 | h1
  · exact h1
  · have a : 65536 ^ 4 ≤ 65536 ^ k := Nat.pow_le_pow_right (by decide) h1
    have b : 65536 ^ k * 1 ≤ 65536 ^ k * m := Nat.mul_le_mul_left _ hm
    have c : (65536 : Nat) ^ 4 = 18446744073709551616 := by decide
    omega

def OfuRel (n : Nat) (w : World) (g : Nat) (s : Value) (wr : World) : Prop :=
  ∃ (m : Nat) (ds : List Nat) (ao : Option Addr) (k cap : Nat), g = m ∧ s = .int .u64 (m : Int) ∧ m < 18446744073709551616 ∧ BM.bval ds + 65536 ^ k * m = n ∧
    Two wr w.heap.size (.bool false) (.slice none 0 0) ∧ Two wr (w.heap.size + 1) (.bool false) (.slice ao k cap) ∧ Own wr w.heap.size ao k cap ds ∧ (m = 0 → BM.Trim ds) ∧ Below w.heap.size w wr

set_option maxRecDepth 100000 in
set_option maxHeartbeats 800000 in
theorem big_ofu (n : Nat) (hn : n < 18446744073709551616) (w : World) :
    Calls Tryd.prog 67 #[.int .u64 (((n : Nat) : Int))] w (BigRet n w) := by
  obtain ⟨i0, hi, hz0, hz1, hz2⟩ := info_parts (show (Tryd.prog.info? 22).map (fun i => (i.zero, i.size, i.bytes)) = some (some (.int .u64 0), 1, 8) by kernel_rfl)
  go_enter Tryd.func67, Tryd.ntmps67
  go_wp2
  go_loopg [0] n (fun g s wr => OfuRel n w g s wr)
  case atStart =>
    exact ⟨n, [], none, 0, 0, rfl, rfl, hn, by simp [BM.bval], (Two.new _ _ _ _ rfl).alloc _, Two.new _ _ _ _ (by simp), Own.nil _ _, fun _ => BM.Trim.nil, (by repeat' (first | (with_reducible exact Below.refl _ _) | (with_reducible assumption) | (with_reducible refine below_alloc ?_ _ ?_) | (with_reducible refine below_set _ ?_ ?_) | (with_reducible refine Below.drew ?_) | (with_reducible refine below_dN ?_ _) | (apply below_thenA; assumption) | omega | (simp; done) | (simp; omega) | (simp [*]; done)))⟩
  case round =>
    obtain ⟨m, ds, ao, k, cap, rfl, rfl, hm, hv, t0, t1, ho, htr, hbl⟩ := hrel
    have HV := Lib.hid hv
    have HT := Lib.hid htr
    clear hv htr
    obtain ⟨a1, a2, a3, a4⟩ := t0.cells
    obtain ⟨b1, b2, b3, b4⟩ := t1.cells
    have l1 := t1.lt
    have l0 := t0.lt
    by_cases h0 : gk = 0
    · subst h0
      go_wp2
      (go_light; simp [bodyPost, results, Tryd.results67, go_sem, *])
      exact ⟨false, ao, k, cap, rfl, ⟨ds, ho.pcs.keeps (by repeat' (first | (with_reducible exact Keeps.refl _) | (with_reducible refine Keeps.alloc ?_ _) | (with_reducible refine Keeps.drew ?_) | (with_reducible refine Keeps.drewN ?_ _) | (with_reducible refine Keeps.set ?_ _ _ (T := 41) ?_ (by decide)) | (with_reducible exact TyAt.new _ _ _ _ (by simp)) | (with_reducible refine TyAt.set ?_ _ _) | (with_reducible refine TyAt.alloc ?_ _) | (with_reducible refine TyAt.drew ?_) | (with_reducible refine TyAt.drewN ?_ _) | (apply Keeps.below; assumption) | (exact Two.ty (by assumption)) | (apply TyAt.below; rotate_left; assumption))), HT.out (by first | trivial | rfl), (fun h => by cases h), (by have h1 := HV.out; simp at h1; rw [h1]; rfl)⟩, (by repeat' (first | (with_reducible exact Below.refl _ _) | (with_reducible assumption) | (with_reducible refine below_alloc ?_ _ ?_) | (with_reducible refine below_set _ ?_ ?_) | (with_reducible refine Below.drew ?_) | (with_reducible refine below_dN ?_ _) | (apply below_thenA; assumption) | omega | (simp; done) | (simp; omega) | (simp [*]; done)))⟩
    · have hpos : 0 < gk := by omega
      have hk4 := pow_lt_four (Nat.le_of_add_left_le (Nat.le_of_eq HV.out)) hpos hn
      have hsh := ho.pcs.shape
      go_wp2_with (at_builtin; refine wpList_append_own _ rfl _ _ 39 rfl w.heap.size 22 i0 (.int .u64 0) 1 8 Tryd.underlying39 hi hz0 hz1 hz2 rfl (by decide) _ _ _ rfl (ho.1.alloc _) ⟨wr.heap.size, 0, none⟩ 1 1 [.int .u64 (((gk % 65536 : Nat) : Int))] rfl rfl ?c1 ?c2 ?c3 ?c4 ?c5 ?_)
      case c1 =>
        intro j u hj
        match j, hj with
        | 0, hj => simp at hj; subst hj; simp [Addr.add]
      case c2 => intro u hu; simp at hu; subst hu; rfl
      case c3 => unfold maxLen; omega
      case c4 => omega
      case c5 => simp; omega
      intro v' w1 hown' hgrow _
      obtain ⟨ao', cap', rfl, ho', hT, hB⟩ := ho.grown (Nat.mod_lt _ (by decide)) (by omega) hown' hgrow
      have t0' := hT _ _ _ t0
      have t1' := hT _ _ _ t1
      have hbl' := hB _ _ (Nat.le_refl _) hbl
      clear hown' hgrow hT hB
      obtain ⟨c1, c2, c3, c4⟩ := t0'.cells
      obtain ⟨d1, d2, d3, d4⟩ := t1'.cells
      go_wp2
      go_roundg (gk / 65536)
      case measure => omega
      case rel =>
        refine ⟨gk / 65536, ds ++ [gk % 65536], ao', k + 1, cap', rfl, by simp, by omega, ?_, t0'.other _ _ (by simp), t1'.set1 _, ho'.set _ _ t1'.ty, fun hz => trim_snoc (by omega), (by repeat' (first | (with_reducible exact Below.refl _ _) | (with_reducible assumption) | (with_reducible refine below_alloc ?_ _ ?_) | (with_reducible refine below_set _ ?_ ?_) | (with_reducible refine Below.drew ?_) | (with_reducible refine below_dN ?_ _) | (apply below_thenA; assumption) | omega | (simp; done) | (simp; omega) | (simp [*]; done)))⟩
        have hl : ds.length = k := ho.2.1
        rw [BM.bval_snoc, hl, Nat.pow_succ, Nat.mul_assoc, Nat.add_assoc, ← Nat.mul_add, Nat.mod_add_div]
        exact HV.out
end Go.Proofs.YtmkblfejoniccaaDoor
namespace Go.Proofs.YtmkblfejoniccaaDoor
open Go.RowKit
set_option linter.unusedSimpArgs false
set_option linter.unusedVariables false

theorem one_cell (w : World) (x : Value) (T : TypeId) : ∀ (j : Nat) (u : Value), [x][j]? = some u → (w.alloc (.cells #[x] T)).cell? ((⟨w.heap.size, 0, none⟩ : Addr).add j) = some u := by
  intro j u hj
  match j, hj with
  | 0, hj => simp at hj; subst hj; simp [Addr.add]
theorem one_one (n : Int) : ∀ u ∈ [Value.int .u64 n], u.oneCell' = true := by
  intro u hu; simp at hu; subst hu; rfl
theorem bval_take_getD (xs : List Nat) (j : Nat) : BM.bval (xs.take (j + 1)) = BM.bval (xs.take j) + 65536 ^ j * xs.getD j 0 := by
  by_cases h : j < xs.length
  · rw [BM.bval_take_succ xs j h]
    simp [List.getD, h]
  · rw [List.take_of_length_le (by omega), List.take_of_length_le (by omega)]
    simp [List.getD, List.getElem?_eq_none (show xs.length ≤ j by omega)]
theorem getD_past {xs : List Nat} {j : Nat} (h : xs.length ≤ j) : xs.getD j 0 = 0 := by
  simp [List.getD, List.getElem?_eq_none h]
/-- One step of adding. -/
theorem plus_step {xs ys ds : List Nat} {j c s : Nat} (hl : ds.length = j) (h : BM.bval ds + 65536 ^ j * c = BM.bval (xs.take j) + BM.bval (ys.take j)) (hs : s = c + xs.getD j 0 + ys.getD j 0) :
    BM.bval (ds ++ [s % 65536]) + 65536 ^ (j + 1) * (s / 65536) = BM.bval (xs.take (j + 1)) + BM.bval (ys.take (j + 1)) := by
  rw [BM.bval_snoc, hl, Nat.pow_succ, Nat.mul_assoc, Nat.add_assoc, ← Nat.mul_add, Nat.mod_add_div, bval_take_getD, bval_take_getD, hs, Nat.mul_add, Nat.mul_add]
  omega

def PlusRel (neg : Bool) (ax bx : Option Addr) (k m ca cb : Nat) (xs ys : List Nat) (w : World) (g : Nat) (s5 s6 s7 : Value) (wr : World) : Prop :=
  ∃ (j c : Nat) (ds : List Nat) (ao : Option Addr) (cap : Nat), g = max k m + 1 - j ∧ s7 = .int .i64 ((j : Int)) ∧ s6 = .int .u64 ((c : Int)) ∧ s5 = .slice ao j cap ∧ c ≤ 1 ∧ (max k m < j → c = 0 ∧ j = max k m + 1) ∧
    Two wr w.heap.size (.bool neg) (.slice ax k ca) ∧ Two wr (w.heap.size + 1) (.bool neg) (.slice bx m cb) ∧ Two wr (w.heap.size + 1 + 1) (.bool false) (.slice none 0 0) ∧
    Own wr w.heap.size ao j cap ds ∧ BM.bval ds + 65536 ^ j * c = BM.bval (xs.take j) + BM.bval (ys.take j) ∧ Below w.heap.size w wr

theorem sgn_add (neg : Bool) (a b : Nat) : sgn neg (a + b) = sgn neg a + sgn neg b := by cases neg <;> simp [sgn] <;> omega

set_option maxRecDepth 100000 in
set_option maxHeartbeats 1600000 in
theorem big_plus_same (neg : Bool) (ax bx : Option Addr) (k m ca cb : Nat) (a b : Int) (w : World) (ha : IsBig w neg ax k ca a) (hb : IsBig w neg bx m cb b) (hk : k ≤ 100000) (hm : m ≤ 100000) :
    Calls Tryd.prog 61 #[.agg #[.bool neg, .slice ax k ca], .agg #[.bool neg, .slice bx m cb]] w (BigRet (a + b) w) := by
  obtain ⟨xs, hx, tx, nx, rfl⟩ := ha
  obtain ⟨ys, hy, ty, ny, rfl⟩ := hb
  obtain ⟨i0, hi, hz0, hz1, hz2⟩ := info_parts (show (Tryd.prog.info? 22).map (fun i => (i.zero, i.size, i.bytes)) = some (some (.int .u64 0), 1, 8) by kernel_rfl)
  have LX := Lib.hid hx.len
  have LY := Lib.hid hy.len
  have hbb : (neg == neg) = true := by simp
  have sx := hx.shape
  have sy := hy.shape
  go_enter Tryd.func61, Tryd.ntmps61
  go_wp2
  go_loopg [5, 6, 7] (max k m + 1) (fun g s5 s6 s7 wr => PlusRel neg ax bx k m ca cb xs ys w g s5 s6 s7 wr)
  case atStart =>
    refine ⟨0, 0, [], none, 0, by omega, rfl, rfl, rfl, by omega, fun h => by omega, ?_, ?_, ?_, Own.nil _ _, by simp [BM.bval], (by repeat' (first | (with_reducible exact Below.refl _ _) | (with_reducible assumption) | (with_reducible refine below_alloc ?_ _ ?_) | (with_reducible refine below_set _ ?_ ?_) | (with_reducible refine Below.drew ?_) | (with_reducible refine below_dN ?_ _) | (apply below_thenA; assumption) | omega | (simp; done) | (simp; omega) | (simp [*]; done)))⟩
    · exact ((Two.new _ _ _ _ rfl).alloc _).alloc _
    · exact (Two.new _ _ _ _ (by simp)).alloc _
    · exact Two.new _ _ _ _ (by simp)
  case round =>
    obtain ⟨j, c, ds, ao, cap, rfl, rfl, rfl, rfl, hc, hend, t0, t1, t2, ho, hv, hbl⟩ := hrel
    have HV := Lib.hid hv
    have HE := Lib.hid hend
    clear hv hend
    have hsh := ho.pcs.shape
    have l2 := t2.lt
    by_cases lx : j < k
    · by_cases ly : j < m
      · obtain ⟨gx, rfl, hcx, hgx⟩ := (hx.keep hbl).cell j (by omega)
        have dx := hx.dig.getD j
        have ix : (j : Int) < (k : Int) := by omega
        obtain ⟨gy, rfl, hcy, hgy⟩ := (hy.keep hbl).cell j (by omega)
        have dy := hy.dig.getD j
        have iy : (j : Int) < (m : Int) := by omega
        obtain ⟨x, ex⟩ : ∃ x, x = xs.getD j 0 := ⟨_, rfl⟩
        obtain ⟨y, ey⟩ : ∃ y, y = ys.getD j 0 := ⟨_, rfl⟩
        rw [← ex] at hcx dx
        rw [← ey] at hcy dy
        have HS := Lib.hid (plus_step (s := c + x + y) ho.2.1 HV.out (by rw [← ex, ← ey] <;> omega))
        clear ex ey
        obtain ⟨p1, p2, p3, p4⟩ := t0.cells
        obtain ⟨p5, p6, p7, p8⟩ := t1.cells
        obtain ⟨p9, p10, p11, p12⟩ := t2.cells
        have lgx : gx < wr.heap.size := by omega
        go_wp2_with (at_builtin; refine wpList_append_own _ rfl _ _ 39 rfl w.heap.size 22 i0 (.int .u64 0) 1 8 Tryd.underlying39 hi hz0 hz1 hz2 rfl (by decide) _ _ _ rfl (ho.1.alloc _) ⟨wr.heap.size, 0, none⟩ 1 1 [.int .u64 ((((c + x + y) % 65536 : Nat) : Int))] rfl rfl (one_cell _ _ _) (one_one _) (by unfold maxLen; omega) (by omega) (by simp; omega) ?_)
        intro v' w1 hown' hgrow _
        obtain ⟨ao', cap', rfl, ho', hT, hB⟩ := ho.grown (Nat.mod_lt (c + x + y) (by decide)) (by omega) hown' hgrow
        have t0' := hT _ _ _ t0
        have t1' := hT _ _ _ t1
        have t2' := hT _ _ _ t2
        have hbl' := hB _ _ (Nat.le_refl _) hbl
        clear hown' hgrow hT hB
        go_wp2
        go_roundg (max k m + 1 - (j + 1))
        case measure => omega
        case rel => exact ⟨j + 1, (c + x + y) / 65536, ds ++ [(c + x + y) % 65536], ao', cap', by omega, by go_num, by go_num, rfl, by omega, fun h => by omega, t0', t1', t2', ho', HS.out, hbl'⟩
      · obtain ⟨gx, rfl, hcx, hgx⟩ := (hx.keep hbl).cell j (by omega)
        have dx := hx.dig.getD j
        have ix : (j : Int) < (k : Int) := by omega
        have zy := getD_past (show ys.length ≤ j by rw [LY.out]; omega)
        have iy : ¬ (j : Int) < (m : Int) := by omega
        obtain ⟨x, ex⟩ : ∃ x, x = xs.getD j 0 := ⟨_, rfl⟩
        obtain ⟨y, ey⟩ : ∃ y, y = ys.getD j 0 := ⟨_, rfl⟩
        rw [← ex] at hcx dx
        rw [← ey] at zy
        have HS := Lib.hid (plus_step (s := c + x) ho.2.1 HV.out (by rw [← ex, ← ey] <;> omega))
        clear ex ey zy
        obtain ⟨p1, p2, p3, p4⟩ := t0.cells
        obtain ⟨p5, p6, p7, p8⟩ := t1.cells
        obtain ⟨p9, p10, p11, p12⟩ := t2.cells
        have lgx : gx < wr.heap.size := by omega
        go_wp2_with (at_builtin; refine wpList_append_own _ rfl _ _ 39 rfl w.heap.size 22 i0 (.int .u64 0) 1 8 Tryd.underlying39 hi hz0 hz1 hz2 rfl (by decide) _ _ _ rfl (ho.1.alloc _) ⟨wr.heap.size, 0, none⟩ 1 1 [.int .u64 ((((c + x) % 65536 : Nat) : Int))] rfl rfl (one_cell _ _ _) (one_one _) (by unfold maxLen; omega) (by omega) (by simp; omega) ?_)
        intro v' w1 hown' hgrow _
        obtain ⟨ao', cap', rfl, ho', hT, hB⟩ := ho.grown (Nat.mod_lt (c + x) (by decide)) (by omega) hown' hgrow
        have t0' := hT _ _ _ t0
        have t1' := hT _ _ _ t1
        have t2' := hT _ _ _ t2
        have hbl' := hB _ _ (Nat.le_refl _) hbl
        clear hown' hgrow hT hB
        go_wp2
        go_roundg (max k m + 1 - (j + 1))
        case measure => omega
        case rel => exact ⟨j + 1, (c + x) / 65536, ds ++ [(c + x) % 65536], ao', cap', by omega, by go_num, by go_num, rfl, by omega, fun h => by omega, t0', t1', t2', ho', HS.out, hbl'⟩
    · by_cases ly : j < m
      · have zx := getD_past (show xs.length ≤ j by rw [LX.out]; omega)
        have ix : ¬ (j : Int) < (k : Int) := by omega
        obtain ⟨gy, rfl, hcy, hgy⟩ := (hy.keep hbl).cell j (by omega)
        have dy := hy.dig.getD j
        have iy : (j : Int) < (m : Int) := by omega
        obtain ⟨x, ex⟩ : ∃ x, x = xs.getD j 0 := ⟨_, rfl⟩
        obtain ⟨y, ey⟩ : ∃ y, y = ys.getD j 0 := ⟨_, rfl⟩
        rw [← ex] at zx
        rw [← ey] at hcy dy
        have HS := Lib.hid (plus_step (s := c + y) ho.2.1 HV.out (by rw [← ex, ← ey] <;> omega))
        clear ex ey zx
        obtain ⟨p1, p2, p3, p4⟩ := t0.cells
        obtain ⟨p5, p6, p7, p8⟩ := t1.cells
        obtain ⟨p9, p10, p11, p12⟩ := t2.cells
        go_wp2_with (at_builtin; refine wpList_append_own _ rfl _ _ 39 rfl w.heap.size 22 i0 (.int .u64 0) 1 8 Tryd.underlying39 hi hz0 hz1 hz2 rfl (by decide) _ _ _ rfl (ho.1.alloc _) ⟨wr.heap.size, 0, none⟩ 1 1 [.int .u64 ((((c + y) % 65536 : Nat) : Int))] rfl rfl (one_cell _ _ _) (one_one _) (by unfold maxLen; omega) (by omega) (by simp; omega) ?_)
        intro v' w1 hown' hgrow _
        obtain ⟨ao', cap', rfl, ho', hT, hB⟩ := ho.grown (Nat.mod_lt (c + y) (by decide)) (by omega) hown' hgrow
        have t0' := hT _ _ _ t0
        have t1' := hT _ _ _ t1
        have t2' := hT _ _ _ t2
        have hbl' := hB _ _ (Nat.le_refl _) hbl
        clear hown' hgrow hT hB
        go_wp2
        go_roundg (max k m + 1 - (j + 1))
        case measure => omega
        case rel => exact ⟨j + 1, (c + y) / 65536, ds ++ [(c + y) % 65536], ao', cap', by omega, by go_num, by go_num, rfl, by omega, fun h => by omega, t0', t1', t2', ho', HS.out, hbl'⟩
      · by_cases hc0 : c = 0
        · subst hc0
          have e := HV.out
          rw [Nat.mul_zero, Nat.add_zero, List.take_of_length_le (by rw [LX.out]; omega), List.take_of_length_le (by rw [LY.out]; omega)] at e
          have E := Lib.hid e
          clear e
          have ix : ¬ (j : Int) < (k : Int) := by omega
          have iy : ¬ (j : Int) < (m : Int) := by omega
          have hj : j ≤ 100001 := by
            rcases Nat.lt_or_ge (max k m) j with h | h
            · have := (HE.out h).2; omega
            · omega
          obtain ⟨p1, p2, p3, p4⟩ := t0.cells
          obtain ⟨p5, p6, p7, p8⟩ := t1.cells
          obtain ⟨p9, p10, p11, p12⟩ := t2.cells
          go_wp2_with fail
          refine (big_trim neg ao j cap ds _ ho.pcs (by omega)).mono ?_
          rintro e w1 ⟨neg1, ao1, k1, cap1, rfl, hI, hb1⟩
          obtain ⟨hc1, hf1⟩ := bcell hb1
          have hz1 := bz3 (n := w.heap.size) hb1 (by have := t2.lt; omega)
          have t2' := t2.below hb1
          obtain ⟨r1, r2, r3, r4⟩ := t2'.cells
          rw [E.out, sgn_add] at hI
          go_wp2_with fail
          (go_light; simp [bodyPost, results, Tryd.results61, go_sem, *])
          exact ⟨neg1, ao1, k1, cap1, rfl, IsBig.keeps hI (by repeat' (first | (with_reducible exact Keeps.refl _) | (with_reducible refine Keeps.alloc ?_ _) | (with_reducible refine Keeps.drew ?_) | (with_reducible refine Keeps.drewN ?_ _) | (with_reducible refine Keeps.set ?_ _ _ (T := 41) ?_ (by decide)) | (with_reducible exact TyAt.new _ _ _ _ (by simp)) | (with_reducible refine TyAt.set ?_ _ _) | (with_reducible refine TyAt.alloc ?_ _) | (with_reducible refine TyAt.drew ?_) | (with_reducible refine TyAt.drewN ?_ _) | (apply Keeps.below; assumption) | (exact Two.ty (by assumption)) | (apply TyAt.below; rotate_left; assumption))), (by repeat' (first | (with_reducible exact Below.refl _ _) | (with_reducible assumption) | (with_reducible refine below_alloc ?_ _ ?_) | (with_reducible refine below_set _ ?_ ?_) | (with_reducible refine Below.drew ?_) | (with_reducible refine below_dN ?_ _) | (apply below_thenA; assumption) | omega | (simp; done) | (simp; omega) | (simp [*]; done)))⟩
        · have hj : j ≤ 100001 := by
            rcases Nat.lt_or_ge (max k m) j with h | h
            · have := (HE.out h).2; omega
            · omega
          have hje : ¬ max k m < j := fun h => hc0 (HE.out h).1
          have zx := getD_past (show xs.length ≤ j by rw [LX.out]; omega)
          have ix : ¬ (j : Int) < (k : Int) := by omega
          have zy := getD_past (show ys.length ≤ j by rw [LY.out]; omega)
          have iy : ¬ (j : Int) < (m : Int) := by omega
          have hc1 : (0 : Int) < (c : Int) := by omega
          obtain ⟨x, ex⟩ : ∃ x, x = xs.getD j 0 := ⟨_, rfl⟩
          obtain ⟨y, ey⟩ : ∃ y, y = ys.getD j 0 := ⟨_, rfl⟩
          rw [← ex] at zx
          rw [← ey] at zy
          have HS := Lib.hid (plus_step (s := c) ho.2.1 HV.out (by rw [← ex, ← ey] <;> omega))
          clear ex ey zx zy
          obtain ⟨p1, p2, p3, p4⟩ := t0.cells
          obtain ⟨p5, p6, p7, p8⟩ := t1.cells
          obtain ⟨p9, p10, p11, p12⟩ := t2.cells
          go_wp2_with (at_builtin; refine wpList_append_own _ rfl _ _ 39 rfl w.heap.size 22 i0 (.int .u64 0) 1 8 Tryd.underlying39 hi hz0 hz1 hz2 rfl (by decide) _ _ _ rfl (ho.1.alloc _) ⟨wr.heap.size, 0, none⟩ 1 1 [.int .u64 ((((c) % 65536 : Nat) : Int))] rfl rfl (one_cell _ _ _) (one_one _) (by unfold maxLen; omega) (by omega) (by simp; omega) ?_)
          intro v' w1 hown' hgrow _
          obtain ⟨ao', cap', rfl, ho', hT, hB⟩ := ho.grown (Nat.mod_lt (c) (by decide)) (by omega) hown' hgrow
          have t0' := hT _ _ _ t0
          have t1' := hT _ _ _ t1
          have t2' := hT _ _ _ t2
          have hbl' := hB _ _ (Nat.le_refl _) hbl
          clear hown' hgrow hT hB
          go_wp2
          go_roundg (max k m + 1 - (j + 1))
          case measure => omega
          case rel => exact ⟨j + 1, (c) / 65536, ds ++ [(c) % 65536], ao', cap', by omega, by go_num, by go_num, rfl, by omega, fun h => by omega, t0', t1', t2', ho', HS.out, hbl'⟩
end Go.Proofs.YtmkblfejoniccaaDoor
namespace Go.Proofs.YtmkblfejoniccaaDoor
open Go.RowKit
set_option linter.unusedSimpArgs false
set_option linter.unusedVariables false

/-- One step of taking away. -/
theorem sub_step {xs ys ds : List Nat} {j c d c' : Nat} (hl : ds.length = j) (h : BM.bval ds + BM.bval (ys.take j) = BM.bval (xs.take j) + 65536 ^ j * c) (hs : c + d + ys.getD j 0 = xs.getD j 0 + 65536 * c') :
    BM.bval (ds ++ [d]) + BM.bval (ys.take (j + 1)) = BM.bval (xs.take (j + 1)) + 65536 ^ (j + 1) * c' := by
  rw [BM.bval_snoc, hl, Nat.pow_succ, Nat.mul_assoc, bval_take_getD, bval_take_getD]
  have e : 65536 ^ j * (c + d + ys.getD j 0) = 65536 ^ j * (xs.getD j 0 + 65536 * c') := by rw [hs]
  rw [Nat.mul_add, Nat.mul_add, Nat.mul_add] at e
  omega
def SubRel (na nb : Bool) (ax bx : Option Addr) (k m ca cb : Nat) (xs ys : List Nat) (w : World) (g : Nat) (s9 s10 s11 : Value) (wr : World) : Prop :=
  ∃ (j c : Nat) (ds : List Nat) (ao : Option Addr) (cap : Nat), j ≤ k ∧ g = k - j ∧ s11 = .int .i64 ((j : Int)) ∧ s10 = .int .u64 ((c : Int)) ∧ s9 = .slice ao j cap ∧ c ≤ 1 ∧
    Two wr w.heap.size (.bool na) (.slice ax k ca) ∧ Two wr (w.heap.size + 1) (.bool nb) (.slice bx m cb) ∧ Two wr (w.heap.size + 1 + 1) (.bool false) (.slice none 0 0) ∧
    Own wr w.heap.size ao j cap ds ∧ BM.bval ds + BM.bval (ys.take j) = BM.bval (xs.take j) + 65536 ^ j * c ∧ Below w.heap.size w wr
theorem sgn_sub (neg : Bool) {a b d : Nat} (h : d + b = a) : sgn neg d = sgn neg a + sgn (!neg) b := by cases neg <;> simp [sgn] <;> omega

set_option maxRecDepth 100000 in
set_option maxHeartbeats 1600000 in
theorem big_plus_sub (na nb : Bool) (hn : nb = !na) (ax bx : Option Addr) (k m ca cb : Nat) (xs ys : List Nat) (w : World) (hx : Pcs w ax k ca xs) (hy : Pcs w bx m cb ys) (tx : BM.Trim xs) (ty : BM.Trim ys) (hle : BM.bval ys ≤ BM.bval xs) (hk : k ≤ 100000) (hm : m ≤ 100000) :
    Calls Tryd.prog 61 #[.agg #[.bool na, .slice ax k ca], .agg #[.bool nb, .slice bx m cb]] w (BigRet (sgn na (BM.bval xs) + sgn nb (BM.bval ys)) w) := by
  obtain ⟨i0, hi, hz0, hz1, hz2⟩ := info_parts (show (Tryd.prog.info? 22).map (fun i => (i.zero, i.size, i.bytes)) = some (some (.int .u64 0), 1, 8) by kernel_rfl)
  have LX := Lib.hid hx.len
  have LY := Lib.hid hy.len
  have hmk : m ≤ k := by
    rcases Nat.lt_or_ge k m with h | h
    · have := BM.len_lt_bval hx.dig ty (by rw [hx.len, hy.len]; exact h); omega
    · exact h
  have hbb : (na == nb) = false := by rw [hn]; cases na <;> rfl
  have HN := Lib.hid hn
  clear hn
  have HLE := Lib.hid hle
  clear hle
  have hcm : 0 ≤ cmpN (BM.bval xs) (BM.bval ys) := by
    rcases Nat.lt_or_ge (BM.bval ys) (BM.bval xs) with h | h
    · rw [cmpN_gt h]; decide
    · rw [cmpN_eq (by have := HLE.out; omega)]; decide
  have sx := hx.shape
  have sy := hy.shape
  have tt0 : Two (((w.alloc (.cells #[.bool na, .slice ax k ca] 41)).alloc (.cells #[.bool nb, .slice bx m cb] 41)).alloc (.cells #[.bool false, .slice none 0 0] 41)) w.heap.size (.bool na) (.slice ax k ca) := ((Two.new _ _ _ _ rfl).alloc _).alloc _
  have tt1 : Two (((w.alloc (.cells #[.bool na, .slice ax k ca] 41)).alloc (.cells #[.bool nb, .slice bx m cb] 41)).alloc (.cells #[.bool false, .slice none 0 0] 41)) (w.heap.size + 1) (.bool nb) (.slice bx m cb) := (Two.new _ _ _ _ (by simp)).alloc _
  have tt2 : Two (((w.alloc (.cells #[.bool na, .slice ax k ca] 41)).alloc (.cells #[.bool nb, .slice bx m cb] 41)).alloc (.cells #[.bool false, .slice none 0 0] 41)) (w.heap.size + 1 + 1) (.bool false) (.slice none 0 0) := Two.new _ _ _ _ (by simp)
  have hxW := hx.keep (w' := ((w.alloc (.cells #[.bool na, .slice ax k ca] 41)).alloc (.cells #[.bool nb, .slice bx m cb] 41)).alloc (.cells #[.bool false, .slice none 0 0] 41)) (by repeat' (first | (with_reducible exact Below.refl _ _) | (with_reducible assumption) | (with_reducible refine below_alloc ?_ _ ?_) | (with_reducible refine below_set _ ?_ ?_) | (with_reducible refine Below.drew ?_) | (with_reducible refine below_dN ?_ _) | (apply below_thenA; assumption) | omega | (simp; done) | (simp; omega) | (simp [*]; done)))
  have hyW := hy.keep (w' := ((w.alloc (.cells #[.bool na, .slice ax k ca] 41)).alloc (.cells #[.bool nb, .slice bx m cb] 41)).alloc (.cells #[.bool false, .slice none 0 0] 41)) (by repeat' (first | (with_reducible exact Below.refl _ _) | (with_reducible assumption) | (with_reducible refine below_alloc ?_ _ ?_) | (with_reducible refine below_set _ ?_ ?_) | (with_reducible refine Below.drew ?_) | (with_reducible refine below_dN ?_ _) | (apply below_thenA; assumption) | omega | (simp; done) | (simp; omega) | (simp [*]; done)))
  go_enter Tryd.func61, Tryd.ntmps61
  go_wp2_with fail
  refine (big_sizes ax bx k m ca cb xs ys _ hxW hyW tx ty (by omega) (by omega)).mono ?_
  rintro e w1 ⟨rfl, hb1⟩
  have u0 := tt0.below hb1
  have u1 := tt1.below hb1
  have u2 := tt2.below hb1
  have hbw : Below w.heap.size w w1 := (by repeat' (first | (with_reducible exact Below.refl _ _) | (with_reducible assumption) | (with_reducible refine below_alloc ?_ _ ?_) | (with_reducible refine below_set _ ?_ ?_) | (with_reducible refine Below.drew ?_) | (with_reducible refine below_dN ?_ _) | (apply below_thenA; assumption) | omega | (simp; done) | (simp; omega) | (simp [*]; done)))
  clear tt0 tt1 tt2 hxW hyW hb1
  obtain ⟨p1, p2, p3, p4⟩ := u0.cells
  obtain ⟨p5, p6, p7, p8⟩ := u1.cells
  obtain ⟨p9, p10, p11, p12⟩ := u2.cells
  go_wp2_with fail
  clear p1 p2 p3 p4 p5 p6 p7 p8 p9 p10 p11 p12
  go_loopg [9, 10, 11] k (fun g s9 s10 s11 wr => SubRel na nb ax bx k m ca cb xs ys w g s9 s10 s11 wr)
  case atStart =>
    exact ⟨0, 0, [], none, 0, by omega, by omega, rfl, rfl, rfl, by omega, u0, u1, u2, Own.nil _ _, by simp [BM.bval], hbw⟩
  case round =>
    clear u0 u1 u2 hbw
    obtain ⟨j, c, ds, ao, cap, hj, rfl, rfl, rfl, rfl, hc, t0, t1, t2, ho, hv, hbl⟩ := hrel
    have HV := Lib.hid hv
    clear hv
    have hsh := ho.pcs.shape
    have l2 := t2.lt
    by_cases lx : j < k
    · by_cases ly : j < m
      · obtain ⟨gy, rfl, hcy, hgy⟩ := (hy.keep hbl).cell j (by omega)
        have dy := hy.dig.getD j
        have iy : (j : Int) < (m : Int) := by omega
        obtain ⟨gx, rfl, hcx, hgx⟩ := (hx.keep hbl).cell j (by omega)
        have dx := hx.dig.getD j
        have ix : (j : Int) < (k : Int) := by omega
        obtain ⟨x, ex⟩ : ∃ x, x = xs.getD j 0 := ⟨_, rfl⟩
        obtain ⟨y, ey⟩ : ∃ y, y = ys.getD j 0 := ⟨_, rfl⟩
        rw [← ex] at hcx dx
        rw [← ey] at hcy dy
        by_cases hlt : x < c + y
        · have hlt' : (x : Int) < (c : Int) + (y : Int) := by omega
          obtain ⟨d, hd⟩ : ∃ d, d = x + 65536 - (c + y) := ⟨_, rfl⟩
          have HDL := Lib.hid (show d < 65536 by omega)
          have hdi : ((d : Nat) : Int) = (x : Int) + 65536 - ((c : Int) + (y : Int)) := by omega
          have HS := Lib.hid (sub_step (d := d) (c' := 1) ho.2.1 HV.out (by rw [← ex, ← ey]; omega))
          have HDI := Lib.hid hdi
          clear ex ey hd hdi hlt
          obtain ⟨p1, p2, p3, p4⟩ := t0.cells
          obtain ⟨p5, p6, p7, p8⟩ := t1.cells
          obtain ⟨p9, p10, p11, p12⟩ := t2.cells
          have hdi := HDI.out.symm
          go_wp2_with (at_builtin; refine wpList_append_own _ rfl _ _ 39 rfl w.heap.size 22 i0 (.int .u64 0) 1 8 Tryd.underlying39 hi hz0 hz1 hz2 rfl (by decide) _ _ _ rfl (ho.1.alloc _) ⟨wr.heap.size, 0, none⟩ 1 1 [.int .u64 (((d : Nat) : Int))] rfl rfl (one_cell _ _ _) (one_one _) (by unfold maxLen; omega) (by omega) (by simp; omega) ?_)
          intro v' w1 hown' hgrow _
          obtain ⟨ao', cap', rfl, ho', hT, hB⟩ := ho.grown HDL.out (by omega) hown' hgrow
          have t0' := hT _ _ _ t0
          have t1' := hT _ _ _ t1
          have t2' := hT _ _ _ t2
          have hbl' := hB _ _ (Nat.le_refl _) hbl
          clear hown' hgrow hT hB
          go_wp2
          go_roundg (k - (j + 1))
          case measure => omega
          case rel => exact ⟨j + 1, 1, ds ++ [d], ao', cap', by omega, rfl, by go_num, by go_num, rfl, by omega, t0', t1', t2', ho', HS.out, hbl'⟩
        · have hlt' : ¬ (x : Int) < (c : Int) + (y : Int) := by omega
          obtain ⟨d, hd⟩ : ∃ d, d = x - (c + y) := ⟨_, rfl⟩
          have HDL := Lib.hid (show d < 65536 by omega)
          have hdi : ((d : Nat) : Int) = (x : Int) - ((c : Int) + (y : Int)) := by omega
          have HS := Lib.hid (sub_step (d := d) (c' := 0) ho.2.1 HV.out (by rw [← ex, ← ey]; omega))
          have HDI := Lib.hid hdi
          clear ex ey hd hdi hlt
          obtain ⟨p1, p2, p3, p4⟩ := t0.cells
          obtain ⟨p5, p6, p7, p8⟩ := t1.cells
          obtain ⟨p9, p10, p11, p12⟩ := t2.cells
          have hdi := HDI.out.symm
          go_wp2_with (at_builtin; refine wpList_append_own _ rfl _ _ 39 rfl w.heap.size 22 i0 (.int .u64 0) 1 8 Tryd.underlying39 hi hz0 hz1 hz2 rfl (by decide) _ _ _ rfl (ho.1.alloc _) ⟨wr.heap.size, 0, none⟩ 1 1 [.int .u64 (((d : Nat) : Int))] rfl rfl (one_cell _ _ _) (one_one _) (by unfold maxLen; omega) (by omega) (by simp; omega) ?_)
          intro v' w1 hown' hgrow _
          obtain ⟨ao', cap', rfl, ho', hT, hB⟩ := ho.grown HDL.out (by omega) hown' hgrow
          have t0' := hT _ _ _ t0
          have t1' := hT _ _ _ t1
          have t2' := hT _ _ _ t2
          have hbl' := hB _ _ (Nat.le_refl _) hbl
          clear hown' hgrow hT hB
          go_wp2
          go_roundg (k - (j + 1))
          case measure => omega
          case rel => exact ⟨j + 1, 0, ds ++ [d], ao', cap', by omega, rfl, by go_num, by go_num, rfl, by omega, t0', t1', t2', ho', HS.out, hbl'⟩
      · have zy := getD_past (show ys.length ≤ j by rw [LY.out]; omega)
        have iy : ¬ (j : Int) < (m : Int) := by omega
        obtain ⟨gx, rfl, hcx, hgx⟩ := (hx.keep hbl).cell j (by omega)
        have dx := hx.dig.getD j
        have ix : (j : Int) < (k : Int) := by omega
        obtain ⟨x, ex⟩ : ∃ x, x = xs.getD j 0 := ⟨_, rfl⟩
        obtain ⟨y, ey⟩ : ∃ y, y = ys.getD j 0 := ⟨_, rfl⟩
        rw [← ex] at hcx dx
        rw [← ey] at zy
        by_cases hlt : x < c
        · have hlt' : (x : Int) < (c : Int) := by omega
          obtain ⟨d, hd⟩ : ∃ d, d = x + 65536 - (c) := ⟨_, rfl⟩
          have HDL := Lib.hid (show d < 65536 by omega)
          have hdi : ((d : Nat) : Int) = (x : Int) + 65536 - ((c : Int)) := by omega
          have HS := Lib.hid (sub_step (d := d) (c' := 1) ho.2.1 HV.out (by rw [← ex, ← ey]; omega))
          have HDI := Lib.hid hdi
          clear ex ey hd hdi hlt zy
          obtain ⟨p1, p2, p3, p4⟩ := t0.cells
          obtain ⟨p5, p6, p7, p8⟩ := t1.cells
          obtain ⟨p9, p10, p11, p12⟩ := t2.cells
          have hdi := HDI.out.symm
          go_wp2_with (at_builtin; refine wpList_append_own _ rfl _ _ 39 rfl w.heap.size 22 i0 (.int .u64 0) 1 8 Tryd.underlying39 hi hz0 hz1 hz2 rfl (by decide) _ _ _ rfl (ho.1.alloc _) ⟨wr.heap.size, 0, none⟩ 1 1 [.int .u64 (((d : Nat) : Int))] rfl rfl (one_cell _ _ _) (one_one _) (by unfold maxLen; omega) (by omega) (by simp; omega) ?_)
          intro v' w1 hown' hgrow _
          obtain ⟨ao', cap', rfl, ho', hT, hB⟩ := ho.grown HDL.out (by omega) hown' hgrow
          have t0' := hT _ _ _ t0
          have t1' := hT _ _ _ t1
          have t2' := hT _ _ _ t2
          have hbl' := hB _ _ (Nat.le_refl _) hbl
          clear hown' hgrow hT hB
          go_wp2
          go_roundg (k - (j + 1))
          case measure => omega
          case rel => exact ⟨j + 1, 1, ds ++ [d], ao', cap', by omega, rfl, by go_num, by go_num, rfl, by omega, t0', t1', t2', ho', HS.out, hbl'⟩
        · have hlt' : ¬ (x : Int) < (c : Int) := by omega
          obtain ⟨d, hd⟩ : ∃ d, d = x - (c) := ⟨_, rfl⟩
          have HDL := Lib.hid (show d < 65536 by omega)
          have hdi : ((d : Nat) : Int) = (x : Int) - ((c : Int)) := by omega
          have HS := Lib.hid (sub_step (d := d) (c' := 0) ho.2.1 HV.out (by rw [← ex, ← ey]; omega))
          have HDI := Lib.hid hdi
          clear ex ey hd hdi hlt zy
          obtain ⟨p1, p2, p3, p4⟩ := t0.cells
          obtain ⟨p5, p6, p7, p8⟩ := t1.cells
          obtain ⟨p9, p10, p11, p12⟩ := t2.cells
          have hdi := HDI.out.symm
          go_wp2_with (at_builtin; refine wpList_append_own _ rfl _ _ 39 rfl w.heap.size 22 i0 (.int .u64 0) 1 8 Tryd.underlying39 hi hz0 hz1 hz2 rfl (by decide) _ _ _ rfl (ho.1.alloc _) ⟨wr.heap.size, 0, none⟩ 1 1 [.int .u64 (((d : Nat) : Int))] rfl rfl (one_cell _ _ _) (one_one _) (by unfold maxLen; omega) (by omega) (by simp; omega) ?_)
          intro v' w1 hown' hgrow _
          obtain ⟨ao', cap', rfl, ho', hT, hB⟩ := ho.grown HDL.out (by omega) hown' hgrow
          have t0' := hT _ _ _ t0
          have t1' := hT _ _ _ t1
          have t2' := hT _ _ _ t2
          have hbl' := hB _ _ (Nat.le_refl _) hbl
          clear hown' hgrow hT hB
          go_wp2
          go_roundg (k - (j + 1))
          case measure => omega
          case rel => exact ⟨j + 1, 0, ds ++ [d], ao', cap', by omega, rfl, by go_num, by go_num, rfl, by omega, t0', t1', t2', ho', HS.out, hbl'⟩
    · have e := HV.out
      obtain rfl : j = k := by omega
      have lx0 := LX.out
      have ly0 := LY.out
      rw [List.take_of_length_le (l := xs) (by omega), List.take_of_length_le (l := ys) (by omega)] at e
      have hlt := BM.bval_lt ho.2.2
      rw [ho.2.1] at hlt
      have hc0 : c = 0 := by
        rcases Nat.eq_zero_or_pos c with h | h
        · exact h
        · have : 65536 ^ j * 1 ≤ 65536 ^ j * c := Nat.mul_le_mul_left _ h
          have := HLE.out
          omega
      rw [hc0, Nat.mul_zero, Nat.add_zero] at e
      have E := Lib.hid (sgn_sub na e)
      clear e hlt hc0
      have ix : ¬ (j : Int) < (j : Int) := by omega
      obtain ⟨p1, p2, p3, p4⟩ := t0.cells
      obtain ⟨p5, p6, p7, p8⟩ := t1.cells
      obtain ⟨p9, p10, p11, p12⟩ := t2.cells
      go_wp2_with fail
      refine (big_trim na ao j cap ds _ ho.pcs (by omega)).mono ?_
      rintro e w1 ⟨neg1, ao1, k1, cap1, rfl, hI, hb1⟩
      obtain ⟨hc1, hf1⟩ := bcell hb1
      have hz1 := bz3 (n := w.heap.size) hb1 (by have := t2.lt; omega)
      have t2' := t2.below hb1
      obtain ⟨r1, r2, r3, r4⟩ := t2'.cells
      rw [E.out, ← HN.out] at hI
      go_wp2_with fail
      (go_light; simp [bodyPost, results, Tryd.results61, go_sem, *])
      exact ⟨neg1, ao1, k1, cap1, rfl, IsBig.keeps hI (by repeat' (first | (with_reducible exact Keeps.refl _) | (with_reducible refine Keeps.alloc ?_ _) | (with_reducible refine Keeps.drew ?_) | (with_reducible refine Keeps.drewN ?_ _) | (with_reducible refine Keeps.set ?_ _ _ (T := 41) ?_ (by decide)) | (with_reducible exact TyAt.new _ _ _ _ (by simp)) | (with_reducible refine TyAt.set ?_ _ _) | (with_reducible refine TyAt.alloc ?_ _) | (with_reducible refine TyAt.drew ?_) | (with_reducible refine TyAt.drewN ?_ _) | (apply Keeps.below; assumption) | (exact Two.ty (by assumption)) | (apply TyAt.below; rotate_left; assumption))), (by repeat' (first | (with_reducible exact Below.refl _ _) | (with_reducible assumption) | (with_reducible refine below_alloc ?_ _ ?_) | (with_reducible refine below_set _ ?_ ?_) | (with_reducible refine Below.drew ?_) | (with_reducible refine below_dN ?_ _) | (apply below_thenA; assumption) | omega | (simp; done) | (simp; omega) | (simp [*]; done)))⟩
end Go.Proofs.YtmkblfejoniccaaDoor
namespace Go.Proofs.YtmkblfejoniccaaDoor
open Go.RowKit
set_option linter.unusedSimpArgs false
set_option linter.unusedVariables false

set_option maxRecDepth 100000 in
set_option maxHeartbeats 1600000 in
theorem big_plus_less (na nb : Bool) (hn : nb = !na) (ax bx : Option Addr) (k m ca cb : Nat) (xs ys : List Nat) (w : World) (hx : Pcs w ax k ca xs) (hy : Pcs w bx m cb ys) (tx : BM.Trim xs) (ty : BM.Trim ys) (hlt : BM.bval xs < BM.bval ys) (hk : k ≤ 100000) (hm : m ≤ 100000) :
    Calls Tryd.prog 61 #[.agg #[.bool na, .slice ax k ca], .agg #[.bool nb, .slice bx m cb]] w (BigRet (sgn na (BM.bval xs) + sgn nb (BM.bval ys)) w) := by
  have hbb : (na == nb) = false := by rw [hn]; cases na <;> rfl
  have hn2 : na = !nb := by rw [hn]; cases na <;> rfl
  have HN := Lib.hid hn2
  clear hn hn2
  have HLE := Lib.hid hlt
  have hcm : cmpN (BM.bval xs) (BM.bval ys) = -1 := cmpN_lt hlt
  clear hlt
  have tt0 : Two (((w.alloc (.cells #[.bool na, .slice ax k ca] 41)).alloc (.cells #[.bool nb, .slice bx m cb] 41)).alloc (.cells #[.bool false, .slice none 0 0] 41)) w.heap.size (.bool na) (.slice ax k ca) := ((Two.new _ _ _ _ rfl).alloc _).alloc _
  have tt1 : Two (((w.alloc (.cells #[.bool na, .slice ax k ca] 41)).alloc (.cells #[.bool nb, .slice bx m cb] 41)).alloc (.cells #[.bool false, .slice none 0 0] 41)) (w.heap.size + 1) (.bool nb) (.slice bx m cb) := (Two.new _ _ _ _ (by simp)).alloc _
  have tt2 : Two (((w.alloc (.cells #[.bool na, .slice ax k ca] 41)).alloc (.cells #[.bool nb, .slice bx m cb] 41)).alloc (.cells #[.bool false, .slice none 0 0] 41)) (w.heap.size + 1 + 1) (.bool false) (.slice none 0 0) := Two.new _ _ _ _ (by simp)
  have hxW := hx.keep (w' := ((w.alloc (.cells #[.bool na, .slice ax k ca] 41)).alloc (.cells #[.bool nb, .slice bx m cb] 41)).alloc (.cells #[.bool false, .slice none 0 0] 41)) (by repeat' (first | (with_reducible exact Below.refl _ _) | (with_reducible assumption) | (with_reducible refine below_alloc ?_ _ ?_) | (with_reducible refine below_set _ ?_ ?_) | (with_reducible refine Below.drew ?_) | (with_reducible refine below_dN ?_ _) | (apply below_thenA; assumption) | omega | (simp; done) | (simp; omega) | (simp [*]; done)))
  have hyW := hy.keep (w' := ((w.alloc (.cells #[.bool na, .slice ax k ca] 41)).alloc (.cells #[.bool nb, .slice bx m cb] 41)).alloc (.cells #[.bool false, .slice none 0 0] 41)) (by repeat' (first | (with_reducible exact Below.refl _ _) | (with_reducible assumption) | (with_reducible refine below_alloc ?_ _ ?_) | (with_reducible refine below_set _ ?_ ?_) | (with_reducible refine Below.drew ?_) | (with_reducible refine below_dN ?_ _) | (apply below_thenA; assumption) | omega | (simp; done) | (simp; omega) | (simp [*]; done)))
  go_enter Tryd.func61, Tryd.ntmps61
  go_wp2_with fail
  refine (big_sizes ax bx k m ca cb xs ys _ hxW hyW tx ty (by omega) (by omega)).mono ?_
  rintro e w1 ⟨rfl, hb1⟩
  have u0 := tt0.below hb1
  have u1 := tt1.below hb1
  have u2 := tt2.below hb1
  have hbw : Below w.heap.size w w1 := (by repeat' (first | (with_reducible exact Below.refl _ _) | (with_reducible assumption) | (with_reducible refine below_alloc ?_ _ ?_) | (with_reducible refine below_set _ ?_ ?_) | (with_reducible refine Below.drew ?_) | (with_reducible refine below_dN ?_ _) | (apply below_thenA; assumption) | omega | (simp; done) | (simp; omega) | (simp [*]; done)))
  clear tt0 tt1 tt2 hxW hyW hb1
  obtain ⟨p1, p2, p3, p4⟩ := u0.cells
  obtain ⟨p5, p6, p7, p8⟩ := u1.cells
  obtain ⟨p9, p10, p11, p12⟩ := u2.cells
  have l2 := u2.lt
  have hxW := hx.keep hbw
  have hyW := hy.keep hbw
  rw [hcm]
  go_wp2_with fail
  refine (big_plus_sub nb na HN.out bx ax m k cb ca ys xs _ hyW hxW ty tx (Nat.le_of_lt HLE.out) hm hk).mono ?_
  rintro e w2 ⟨neg1, ao1, k1, cap1, rfl, hI, hb1⟩
  rw [Int.add_comm] at hI
  obtain ⟨hc1, hf1⟩ := bcell hb1
  have hz1 := bz3 (n := w.heap.size) hb1 (by omega)
  go_wp2_with fail
  (go_light; simp [bodyPost, results, Tryd.results61, go_sem, *])
  exact ⟨neg1, ao1, k1, cap1, rfl, IsBig.keeps hI (by repeat' (first | (with_reducible exact Keeps.refl _) | (with_reducible refine Keeps.alloc ?_ _) | (with_reducible refine Keeps.drew ?_) | (with_reducible refine Keeps.drewN ?_ _) | (with_reducible refine Keeps.set ?_ _ _ (T := 41) ?_ (by decide)) | (with_reducible exact TyAt.new _ _ _ _ (by simp)) | (with_reducible refine TyAt.set ?_ _ _) | (with_reducible refine TyAt.alloc ?_ _) | (with_reducible refine TyAt.drew ?_) | (with_reducible refine TyAt.drewN ?_ _) | (apply Keeps.below; assumption) | (exact Two.ty (by assumption)) | (apply TyAt.below; rotate_left; assumption))), (by repeat' (first | (with_reducible exact Below.refl _ _) | (with_reducible assumption) | (with_reducible refine below_alloc ?_ _ ?_) | (with_reducible refine below_set _ ?_ ?_) | (with_reducible refine Below.drew ?_) | (with_reducible refine below_dN ?_ _) | (apply below_thenA; assumption) | omega | (simp; done) | (simp; omega) | (simp [*]; done)))⟩

/-- Plus adds. -/
theorem big_plus (na nb : Bool) (ax bx : Option Addr) (k m ca cb : Nat) (a b : Int) (w : World) (ha : IsBig w na ax k ca a) (hb : IsBig w nb bx m cb b) (hk : k ≤ 100000) (hm : m ≤ 100000) :
    Calls Tryd.prog 61 #[.agg #[.bool na, .slice ax k ca], .agg #[.bool nb, .slice bx m cb]] w (BigRet (a + b) w) := by
  by_cases h : na = nb
  · subst h
    exact big_plus_same na ax bx k m ca cb a b w ha hb hk hm
  · have hn : nb = !na := by cases na <;> cases nb <;> simp_all
    obtain ⟨xs, hx, tx, _, rfl⟩ := ha
    obtain ⟨ys, hy, ty, _, rfl⟩ := hb
    rcases Nat.lt_or_ge (BM.bval xs) (BM.bval ys) with h | h
    · exact big_plus_less na nb hn ax bx k m ca cb xs ys w hx hy tx ty h hk hm
    · exact big_plus_sub na nb hn ax bx k m ca cb xs ys w hx hy tx ty h hk hm
end Go.Proofs.YtmkblfejoniccaaDoor
namespace Go.Proofs.YtmkblfejoniccaaDoor
open Go.RowKit
set_option linter.unusedSimpArgs false
set_option linter.unusedVariables false

/-- A block of pieces. -/
def Row (w : World) (g n : Nat) (os : List Nat) : Prop := w.heap[g]? = some (Obj.cells (u64s os).toArray 22 (0, 0)) ∧ os.length = n ∧ BM.Dig os
theorem Row.lt {w : World} {g n : Nat} {os : List Nat} (h : Row w g n os) : g < w.heap.size := (Array.getElem?_eq_some_iff.1 h.1).1
theorem Row.cell {w : World} {g n : Nat} {os : List Nat} (h : Row w g n os) (j : Nat) (hj : j < n) : w.cell? ⟨g, j, none⟩ = some (.int .u64 (((os.getD j 0 : Nat) : Int))) := by
  have hl := h.2.1
  rw [cell_of_row w g j _ _ _ h.1]
  simp [u64s, List.getD, List.getElem?_eq_getElem (show j < os.length by omega)]
theorem Row.frozen {w : World} {g n : Nat} {os : List Nat} (h : Row w g n os) (j : Nat) : w.frozen? ⟨g, j, none⟩ = false := by
  simp [World.frozen?, h.1]
theorem Row.set {w : World} {g n : Nat} {os : List Nat} (h : Row w g n os) (j d : Nat) (hd : d < 65536) : Row (w.setCell ⟨g, j, none⟩ (.int .u64 ((d : Int)))) g n (os.set j d) := by
  refine ⟨?_, by rw [List.length_set]; exact h.2.1, h.2.2.set j d hd⟩
  simp only [World.setCell, Array.getElem?_modify, if_true, h.1]
  simp [u64s, List.map_set]
theorem Row.drew {w : World} {g n : Nat} {os : List Nat} (h : Row w g n os) : Row w.drew g n os := h
theorem Row.drewN {w : World} {g n : Nat} {os : List Nat} (h : Row w g n os) (k : Nat) : Row (w.drewN k) g n os := h
theorem Row.pcs {w : World} {g n : Nat} {os : List Nat} (h : Row w g n os) (hn : n ≤ maxLen) : Pcs w (some ⟨g, 0, none⟩) n n os :=
  ⟨⟨by simp [u64s, h.2.1], .inr ⟨g, n, _, rfl, Nat.zero_le _, h.1, Nat.le_refl _, hn, by simp [u64s, h.2.1], by simp [u64s]; rw [List.take_of_length_le (by simp [h.2.1])]⟩⟩, h.2⟩
theorem Row.made (w : World) (n g : Nat) (hg : g = w.heap.size) : Row (w.alloc (.cells (madeCells #[.int .u64 0] n) 22)) g n (List.replicate n 0) := by
  subst hg
  refine ⟨?_, by simp, BM.Dig.replicate n⟩
  have e : madeCells #[Value.int .u64 0] n = (u64s (List.replicate n 0)).toArray := by
    apply Array.ext'
    rw [toList_madeCells_one]
    simp [u64s]
  rw [e]
  exact heap_alloc_new w _

theorem times_step {xs ys os : List Nat} {i j c x o y t : Nat} (hl : i + j < os.length) (ho : o = os.getD (i + j) 0) (hy : y = ys.getD j 0)
    (h : BM.bval os + 65536 ^ (i + j) * c = BM.bval (xs.take i) * BM.bval ys + 65536 ^ i * (x * BM.bval (ys.take j))) (ht : t = o + x * y + c) :
    BM.bval (os.set (i + j) (t % 65536)) + 65536 ^ (i + (j + 1)) * (t / 65536) = BM.bval (xs.take i) * BM.bval ys + 65536 ^ i * (x * BM.bval (ys.take (j + 1))) := by
  have h1 := BM.bval_set os (i + j) (t % 65536) hl
  have e1 : os[i + j] = o := by rw [ho]; simp [List.getD, hl]
  rw [e1] at h1
  rw [bval_take_getD, ← hy, Nat.mul_add x, Nat.mul_add (65536 ^ i), ← Nat.add_assoc i j 1, Nat.pow_succ, Nat.mul_assoc]
  have e2 : 65536 ^ (i + j) * (t % 65536) + 65536 ^ (i + j) * (65536 * (t / 65536)) = 65536 ^ (i + j) * (o + x * y + c) := by
    rw [← Nat.mul_add, Nat.mod_add_div, ht]
  have e3 : 65536 ^ i * (x * (65536 ^ j * y)) = 65536 ^ (i + j) * (x * y) := by
    rw [Nat.pow_add, Nat.mul_assoc, Nat.mul_left_comm x]
  rw [Nat.mul_add, Nat.mul_add] at e2
  rw [e3]
  omega
theorem times_end {xs ys os : List Nat} {i c : Nat} (dx : BM.Dig xs) (dy : BM.Dig ys) (hl : i + ys.length < os.length)
    (h : BM.bval os + 65536 ^ (i + ys.length) * c = BM.bval (xs.take i) * BM.bval ys + 65536 ^ i * (xs.getD i 0 * BM.bval (ys.take ys.length))) :
    os.getD (i + ys.length) 0 + c < 65536 ∧ BM.bval (os.set (i + ys.length) (os.getD (i + ys.length) 0 + c)) = BM.bval (xs.take (i + 1)) * BM.bval ys := by
  have h1 := BM.bval_set os (i + ys.length) (os.getD (i + ys.length) 0 + c) hl
  have e1 : os[i + ys.length] = os.getD (i + ys.length) 0 := by simp [List.getD, hl]
  rw [e1] at h1
  have e2 : BM.bval os + 65536 ^ (i + ys.length) * c = BM.bval (xs.take (i + 1)) * BM.bval ys := by
    rw [h, bval_take_getD, List.take_of_length_le (Nat.le_refl _), Nat.add_mul, Nat.mul_assoc]
  rw [Nat.mul_add] at h1
  refine ⟨?_, by omega⟩
  have h2 : BM.bval (xs.take (i + 1)) < 65536 ^ (i + 1) := BM.bval_take_lt dx (i + 1)
  have h3 := BM.bval_lt dy
  have h4 : BM.bval (xs.take (i + 1)) * BM.bval ys < 65536 ^ (i + 1) * 65536 ^ ys.length := by
    rcases Nat.eq_zero_or_pos (BM.bval ys) with e | hp
    · rw [e, Nat.mul_zero]; exact Nat.mul_pos (Nat.pow_pos (by decide)) (Nat.pow_pos (by decide))
    · exact Nat.lt_of_lt_of_le ((Nat.mul_lt_mul_right hp).2 h2) (Nat.mul_le_mul_left _ (Nat.le_of_lt h3))
  have h5 : 65536 ^ (i + 1) * 65536 ^ ys.length = 65536 ^ (i + ys.length) * 65536 := by
    rw [Nat.pow_succ, Nat.pow_add, Nat.mul_right_comm]
  have h6 : 65536 ^ (i + ys.length) * os.getD (i + ys.length) 0 ≤ BM.bval os := by
    have := BM.bval_take_succ os (i + ys.length) hl
    rw [e1] at this
    have h7 := BM.bval_split os (i + ys.length + 1) (by omega)
    omega
  rw [h5] at h4
  have h8 : 65536 ^ (i + ys.length) * (os.getD (i + ys.length) 0 + c) < 65536 ^ (i + ys.length) * 65536 := by rw [Nat.mul_add]; omega
  exact Nat.lt_of_mul_lt_mul_left h8
theorem sgn_mul (na nb : Bool) (a b : Nat) : sgn (na != nb) (a * b) = sgn na a * sgn nb b := by
  cases na <;> cases nb <;> simp [sgn, Int.neg_mul, Int.mul_neg]

def TimesOut (na nb : Bool) (ax bx : Option Addr) (k m n ca cb : Nat) (xs ys : List Nat) (w : World) (g : Nat) (s6 : Value) (wr : World) : Prop :=
  ∃ (i : Nat) (os : List Nat), i ≤ k ∧ g = k - i ∧ s6 = .int .i64 ((i : Int)) ∧
    Two wr w.heap.size (.bool na) (.slice ax k ca) ∧ Two wr (w.heap.size + 1) (.bool nb) (.slice bx m cb) ∧ Two wr (w.heap.size + 1 + 1) (.bool false) (.slice none 0 0) ∧
    Row wr (w.heap.size + 1 + 1 + 1) n os ∧ BM.bval os = BM.bval (xs.take i) * BM.bval ys ∧ Below w.heap.size w wr
def TimesIn (na nb : Bool) (ax bx : Option Addr) (k m n ca cb : Nat) (xs ys : List Nat) (w : World) (i : Nat) (g : Nat) (s7 s8 : Value) (wr : World) : Prop :=
  ∃ (j c : Nat) (os : List Nat), j ≤ m ∧ g = m - j ∧ s8 = .int .i64 ((j : Int)) ∧ s7 = .int .u64 ((c : Int)) ∧ c < 65536 ∧
    Two wr w.heap.size (.bool na) (.slice ax k ca) ∧ Two wr (w.heap.size + 1) (.bool nb) (.slice bx m cb) ∧ Two wr (w.heap.size + 1 + 1) (.bool false) (.slice none 0 0) ∧
    Row wr (w.heap.size + 1 + 1 + 1) n os ∧ BM.bval os + 65536 ^ (i + j) * c = BM.bval (xs.take i) * BM.bval ys + 65536 ^ i * (xs.getD i 0 * BM.bval (ys.take j)) ∧ Below w.heap.size w wr

set_option maxRecDepth 100000 in
set_option maxHeartbeats 1600000 in
theorem big_times (na nb : Bool) (ax bx : Option Addr) (k m ca cb : Nat) (a b : Int) (w : World) (ha : IsBig w na ax k ca a) (hb : IsBig w nb bx m cb b) (hk : k ≤ 100000) (hm : m ≤ 100000) :
    Calls Tryd.prog 25 #[.agg #[.bool na, .slice ax k ca], .agg #[.bool nb, .slice bx m cb]] w (BigRet (a * b) w) := by
  obtain ⟨xs, hx, tx, nx, rfl⟩ := ha
  obtain ⟨ys, hy, ty, ny, rfl⟩ := hb
  rw [← sgn_mul]
  have LX := Lib.hid hx.len
  have LY := Lib.hid hy.len
  obtain ⟨n, en⟩ : ∃ n, n = k + m := ⟨_, rfl⟩
  have ekm : (k : Int) + (m : Int) = (n : Int) := by omega
  have hn1 : (n : Int) ≤ 200000 := by omega
  have EN := Lib.hid en
  have hmk := run_make_row' (P := Tryd.prog) 39 22 (.int .u64 0) 8 Tryd.underlying39 (by kernel_rfl) rfl .i64 .i64 n (by omega) (by omega)
  have tt0 : Two ((((w.alloc (.cells #[.bool na, .slice ax k ca] 41)).alloc (.cells #[.bool nb, .slice bx m cb] 41)).alloc (.cells #[.bool false, .slice none 0 0] 41)).alloc (.cells (madeCells #[.int .u64 0] n) 22)) w.heap.size (.bool na) (.slice ax k ca) := (((Two.new _ _ _ _ rfl).alloc _).alloc _).alloc _
  have tt1 : Two ((((w.alloc (.cells #[.bool na, .slice ax k ca] 41)).alloc (.cells #[.bool nb, .slice bx m cb] 41)).alloc (.cells #[.bool false, .slice none 0 0] 41)).alloc (.cells (madeCells #[.int .u64 0] n) 22)) (w.heap.size + 1) (.bool nb) (.slice bx m cb) := ((Two.new _ _ _ _ (by simp)).alloc _).alloc _
  have tt2 : Two ((((w.alloc (.cells #[.bool na, .slice ax k ca] 41)).alloc (.cells #[.bool nb, .slice bx m cb] 41)).alloc (.cells #[.bool false, .slice none 0 0] 41)).alloc (.cells (madeCells #[.int .u64 0] n) 22)) (w.heap.size + 1 + 1) (.bool false) (.slice none 0 0) := (Two.new _ _ _ _ (by simp)).alloc _
  clear en
  go_enter Tryd.func25, Tryd.ntmps25
  go_wp2_with fail
  clear hmk
  go_loopg [6] k (fun g s6 wr => TimesOut na nb ax bx k m n ca cb xs ys w g s6 wr)
  case atStart =>
    exact ⟨0, List.replicate n 0, by omega, by omega, rfl, tt0, tt1, tt2, Row.made _ _ _ (by simp), by simp [BM.bval, BM.bval_replicate], (by repeat' (first | (with_reducible exact Below.refl _ _) | (with_reducible assumption) | (with_reducible refine below_alloc ?_ _ ?_) | (with_reducible refine below_set _ ?_ ?_) | (with_reducible refine Below.drew ?_) | (with_reducible refine below_dN ?_ _) | (apply below_thenA; assumption) | omega | (simp; done) | (simp; omega) | (simp [*]; done)))⟩
  case round =>
    clear tt0 tt1 tt2
    obtain ⟨i, os, hi, rfl, rfl, t0, t1, t2, ho, hv, hbl⟩ := hrel
    have HV := Lib.hid hv
    clear hv
    by_cases lx : i < k
    · have ix : (i : Int) < (k : Int) := by omega
      obtain ⟨p1, p2, p3, p4⟩ := t0.cells
      go_wp2_with fail
      clear p1 p2 p3 p4
      obtain ⟨wo, rfl⟩ : ∃ wo : World, wo = wr := ⟨_, rfl⟩
      go_loopg [7, 8] m (fun g s7 s8 wr => TimesIn na nb ax bx k m n ca cb xs ys w i g s7 s8 wr)
      case atStart =>
        exact ⟨0, 0, os, by omega, by omega, rfl, rfl, by omega, t0, t1, t2, ho, by rw [HV.out]; simp [BM.bval], hbl⟩
      case round =>
        clear t0 t1 t2 ho HV hbl
        obtain ⟨j, c, os, hj, rfl, rfl, rfl, hc, t0, t1, t2, ho, hv, hbl⟩ := hrel
        have HV := Lib.hid hv
        clear hv
        have l2 := t2.lt
        by_cases ly : j < m
        · have iy : (j : Int) < (m : Int) := by omega
          obtain ⟨gx, rfl, hcx, hgx⟩ := (hx.keep hbl).cell i (by omega)
          have dx := hx.dig.getD i
          obtain ⟨gy, rfl, hcy, hgy⟩ := (hy.keep hbl).cell j (by omega)
          have dy := hy.dig.getD j
          have hco := ho.cell (i + j) (by rw [EN.out]; omega)
          have hfo := ho.frozen (i + j)
          have do_ := ho.2.2.getD (i + j)
          obtain ⟨x, ex⟩ : ∃ x, x = xs.getD i 0 := ⟨_, rfl⟩
          obtain ⟨y, ey⟩ : ∃ y, y = ys.getD j 0 := ⟨_, rfl⟩
          obtain ⟨o, eo⟩ : ∃ o, o = os.getD (i + j) 0 := ⟨_, rfl⟩
          obtain ⟨p, ep⟩ : ∃ p, p = i + j := ⟨_, rfl⟩
          obtain ⟨q, eq⟩ : ∃ q, q = x * y := ⟨_, rfl⟩
          have HS := Lib.hid (times_step (xs := xs) (ys := ys) (os := os) (i := i) (j := j) (c := c) (x := x) (o := o) (y := y) (t := o + q + c) (by rw [ho.2.1, EN.out]; omega) eo ey (by rw [ex]; exact HV.out) (by rw [eq]))
          rw [← ex] at hcx dx
          rw [← ey] at hcy dy
          rw [← eo] at hco do_
          rw [← ep] at hco hfo
          have hq : q ≤ 4294836225 := by rw [eq]; exact Nat.mul_le_mul (show x ≤ 65535 by omega) (show y ≤ 65535 by omega)
          have eq2 : (x : Int) * (y : Int) = (q : Int) := by rw [eq]; simp
          have ep2 : (i : Int) + (j : Int) = (p : Int) := by omega
          have ep3 : (p : Int) < (n : Int) := by rw [EN.out]; omega
          have EX := Lib.hid ex
          have EP := Lib.hid ep
          clear ex ey eo eq ep
          obtain ⟨p1, p2, p3, p4⟩ := t0.cells
          obtain ⟨p5, p6, p7, p8⟩ := t1.cells
          go_wp2_with fail
          go_quiet (fail)
          clear p1 p2 p3 p4 p5 p6 p7 p8
          go_wp2_with fail
          have hq1 : o + q + c < 4294967296 := by omega
          rw [← EP.out] at HS
          go_roundg (m - (j + 1))
          case measure => omega
          case rel =>
            refine ⟨j + 1, (o + q + c) / 65536, os.set p ((o + q + c) % 65536), by omega, by omega, by go_num, by go_num, by omega, ?_, ?_, ?_, ?_, by rw [← EX.out]; exact HS.out, ?_⟩
            · exact t0.other _ _ (by show w.heap.size ≠ w.heap.size + 1 + 1 + 1; omega)
            · exact t1.other _ _ (by show w.heap.size + 1 ≠ w.heap.size + 1 + 1 + 1; omega)
            · exact t2.other _ _ (by show w.heap.size + 1 + 1 ≠ w.heap.size + 1 + 1 + 1; omega)
            · exact ho.set p _ (Nat.mod_lt _ (by decide))
            · exact (by repeat' (first | (with_reducible exact Below.refl _ _) | (with_reducible assumption) | (with_reducible refine below_alloc ?_ _ ?_) | (with_reducible refine below_set _ ?_ ?_) | (with_reducible refine Below.drew ?_) | (with_reducible refine below_dN ?_ _) | (apply below_thenA; assumption) | omega | (simp; done) | (simp; omega) | (simp [*]; done)))
        · have iy : ¬ (j : Int) < (m : Int) := by omega
          obtain rfl : j = m := by omega
          have HE := times_end (i := i) (c := c) (os := os) hx.dig hy.dig (by rw [LY.out, ho.2.1, EN.out]; omega) (by rw [LY.out]; exact HV.out)
          rw [LY.out] at HE
          have hco := ho.cell (i + j) (by rw [EN.out]; omega)
          have hfo := ho.frozen (i + j)
          obtain ⟨o, eo⟩ : ∃ o, o = os.getD (i + j) 0 := ⟨_, rfl⟩
          obtain ⟨p, ep⟩ : ∃ p, p = i + j := ⟨_, rfl⟩
          rw [← eo] at hco HE
          rw [← ep] at hco hfo HE
          obtain ⟨hoc, HS⟩ := HE
          have hs := Lib.hid HS
          have ep2 : (i : Int) + (j : Int) = (p : Int) := by omega
          have ep3 : (p : Int) < (n : Int) := by rw [EN.out]; omega
          clear eo ep HS HV
          obtain ⟨p5, p6, p7, p8⟩ := t1.cells
          go_wp2_with fail
          clear p5 p6 p7 p8
          go_roundg (k - (i + 1))
          case measure => omega
          case rel =>
            refine ⟨i + 1, os.set p (o + c), by omega, by omega, by go_num, ?_, ?_, ?_, ?_, hs.out, ?_⟩
            · exact t0.other _ _ (by show w.heap.size ≠ w.heap.size + 1 + 1 + 1; omega)
            · exact t1.other _ _ (by show w.heap.size + 1 ≠ w.heap.size + 1 + 1 + 1; omega)
            · exact t2.other _ _ (by show w.heap.size + 1 + 1 ≠ w.heap.size + 1 + 1 + 1; omega)
            · exact ho.set p _ hoc
            · exact hbl.setCell (by show w.heap.size ≤ w.heap.size + 1 + 1 + 1; omega) _
    · obtain rfl : i = k := by omega
      have ix : ¬ (i : Int) < (i : Int) := by omega
      have e := HV.out
      rw [List.take_of_length_le (by rw [LX.out]; omega)] at e
      have HE := Lib.hid e
      clear e HV
      obtain ⟨p1, p2, p3, p4⟩ := t0.cells
      obtain ⟨p5, p6, p7, p8⟩ := t1.cells
      obtain ⟨p9, p10, p11, p12⟩ := t2.cells
      have l2 := t2.lt
      go_wp2_with fail
      refine (big_trim (na != nb) _ n n os _ (ho.pcs (by unfold maxLen; omega)) (by omega)).mono ?_
      rintro e w1 ⟨neg1, ao1, k1, cap1, rfl, hI, hb1⟩
      obtain ⟨hc1, hf1⟩ := bcell hb1
      have hz1 := bz3 (n := w.heap.size) hb1 (by omega)
      have t2' := t2.below hb1
      obtain ⟨r1, r2, r3, r4⟩ := t2'.cells
      rw [HE.out] at hI
      go_wp2_with fail
      (go_light; simp [bodyPost, results, Tryd.results25, go_sem, *])
      exact ⟨neg1, ao1, k1, cap1, rfl, IsBig.keeps hI (by repeat' (first | (with_reducible exact Keeps.refl _) | (with_reducible refine Keeps.alloc ?_ _) | (with_reducible refine Keeps.drew ?_) | (with_reducible refine Keeps.drewN ?_ _) | (with_reducible refine Keeps.set ?_ _ _ (T := 41) ?_ (by decide)) | (with_reducible exact TyAt.new _ _ _ _ (by simp)) | (with_reducible refine TyAt.set ?_ _ _) | (with_reducible refine TyAt.alloc ?_ _) | (with_reducible refine TyAt.drew ?_) | (with_reducible refine TyAt.drewN ?_ _) | (apply Keeps.below; assumption) | (exact Two.ty (by assumption)) | (apply TyAt.below; rotate_left; assumption))), (by repeat' (first | (with_reducible exact Below.refl _ _) | (with_reducible assumption) | (with_reducible refine below_alloc ?_ _ ?_) | (with_reducible refine below_set _ ?_ ?_) | (with_reducible refine Below.drew ?_) | (with_reducible refine below_dN ?_ _) | (apply below_thenA; assumption) | omega | (simp; done) | (simp; omega) | (simp [*]; done)))⟩
end Go.Proofs.YtmkblfejoniccaaDoor
namespace Go.Proofs.YtmkblfejoniccaaDoor
open Go.RowKit
set_option linter.unusedSimpArgs false
set_option linter.unusedVariables false

theorem IsBig.le {w : World} {neg : Bool} {ao : Option Addr} {k cap : Nat} {n : Int} (h : IsBig w neg ao k cap n) {K : Nat} (hs : BM.Sz n K) : k ≤ K := by
  obtain ⟨ds, h1, h2, h3, rfl⟩ := h
  rw [← h1.len]
  refine h2.len ?_
  have : (sgn neg (BM.bval ds)).natAbs = BM.bval ds := by cases neg <;> simp [sgn]
  unfold BM.Sz at hs
  omega
theorem IsBig.flip {w : World} {neg : Bool} {ao : Option Addr} {k cap : Nat} {n : Int} (h : IsBig w neg ao k cap n) (hn : 0 < n) : IsBig w true ao k cap (-n) := by
  obtain ⟨ds, h1, h2, h3, rfl⟩ := h
  refine ⟨ds, h1, h2, fun _ e => ?_, ?_⟩
  · subst e; cases neg <;> simp [sgn, BM.bval] at hn
  · cases neg <;> simp [sgn] at hn ⊢
    omega

set_option maxRecDepth 100000 in
set_option maxHeartbeats 1600000 in
theorem big_of_pos (n : Nat) (hn : (n : Int) ≤ 9223372036854775807) (w : World) :
    Calls Tryd.prog 62 #[.int .i64 (((n : Nat) : Int))] w (BigRet n w) := by
  have h0 : (0 : Int) ≤ (n : Int) := by omega
  go_enter Tryd.func62, Tryd.ntmps62
  go_wp2_with fail
  refine (big_ofu n (by omega) _).mono ?_
  rintro e w1 ⟨n1, a1, k1, c1, rfl, hI1, hb1⟩
  obtain ⟨hc1, hf1⟩ := bcell hb1
  have hz1 := bz1 (n := w.heap.size) hb1 (by simp)
  go_wp2_with fail
  (go_light; simp [bodyPost, results, Tryd.results62, go_sem, *])
  exact ⟨n1, a1, k1, c1, rfl, IsBig.keeps hI1 (by repeat' (first | (with_reducible exact Keeps.refl _) | (with_reducible refine Keeps.alloc ?_ _) | (with_reducible refine Keeps.drew ?_) | (with_reducible refine Keeps.drewN ?_ _) | (with_reducible refine Keeps.set ?_ _ _ (T := 41) ?_ (by decide)) | (with_reducible exact TyAt.new _ _ _ _ (by simp)) | (with_reducible refine TyAt.set ?_ _ _) | (with_reducible refine TyAt.alloc ?_ _) | (with_reducible refine TyAt.drew ?_) | (with_reducible refine TyAt.drewN ?_ _) | (apply Keeps.below; assumption) | (exact Two.ty (by assumption)) | (apply TyAt.below; rotate_left; assumption))), (by repeat' (first | (with_reducible exact Below.refl _ _) | (with_reducible assumption) | (with_reducible refine below_alloc ?_ _ ?_) | (with_reducible refine below_set _ ?_ ?_) | (with_reducible refine Below.drew ?_) | (with_reducible refine below_dN ?_ _) | (apply below_thenA; assumption) | omega | (simp; done) | (simp; omega) | (simp [*]; done)))⟩
set_option maxRecDepth 100000 in
set_option maxHeartbeats 1600000 in
theorem big_of_neg (n : Int) (hn : 0 ≤ n) (hn2 : n ≤ 9223372036854775807) (w : World) :
    Calls Tryd.prog 62 #[.int .i64 (-n - 1)] w (BigRet (-n - 1) w) := by
  have h0 : ¬ (0 : Int) ≤ -n - 1 := by omega
  have e1 : -n - 1 + 1 = -n := by omega
  obtain ⟨m, rfl⟩ := Int.eq_ofNat_of_zero_le hn
  go_enter Tryd.func62, Tryd.ntmps62
  go_wp2_with fail
  refine (big_ofu m (by omega) _).mono ?_
  rintro e w1 ⟨n1, a1, k1, c1, rfl, hI1, hb1⟩
  obtain ⟨hc1, hf1⟩ := bcell hb1
  have hz1 := bz1 (n := w.heap.size) hb1 (by simp)
  go_wp2_with fail
  refine (big_ofu 1 (by omega) _).mono ?_
  rintro e w2 ⟨n2, a2, k2, c2, rfl, hI2, hb2⟩
  obtain ⟨hc2, hf2⟩ := bcell hb2
  have hz2 := bz1 (n := w.heap.size) hb2 (by omega)
  go_wp2_with fail
  have s1 := hI1.le (BM.Sz.u64 (by omega) (by omega))
  have s2 := hI2.le (BM.Sz.u64 (by omega) (by omega))
  refine (big_plus n1 n2 a1 a2 k1 k2 c1 c2 _ _ _ (hI1.keep hb2) hI2 (by omega) (by omega)).mono ?_
  rintro e w3 ⟨n3, a3, k3, c3, rfl, hI3, hb3⟩
  obtain ⟨hc3, hf3⟩ := bcell hb3
  have hz3 := bz1 (n := w.heap.size) hb3 (by omega)
  have hI := hI3.flip (by omega)
  rw [show -((m : Int) + ((1 : Nat) : Int)) = -(m : Int) - 1 by omega] at hI
  go_wp2_with fail
  (go_light; simp [bodyPost, results, Tryd.results62, go_sem, *])
  exact ⟨true, a3, k3, c3, rfl, IsBig.keeps hI (by repeat' (first | (with_reducible exact Keeps.refl _) | (with_reducible refine Keeps.alloc ?_ _) | (with_reducible refine Keeps.drew ?_) | (with_reducible refine Keeps.drewN ?_ _) | (with_reducible refine Keeps.set ?_ _ _ (T := 41) ?_ (by decide)) | (with_reducible exact TyAt.new _ _ _ _ (by simp)) | (with_reducible refine TyAt.set ?_ _ _) | (with_reducible refine TyAt.alloc ?_ _) | (with_reducible refine TyAt.drew ?_) | (with_reducible refine TyAt.drewN ?_ _) | (apply Keeps.below; assumption) | (exact Two.ty (by assumption)) | (apply TyAt.below; rotate_left; assumption))), (by repeat' (first | (with_reducible exact Below.refl _ _) | (with_reducible assumption) | (with_reducible refine below_alloc ?_ _ ?_) | (with_reducible refine below_set _ ?_ ?_) | (with_reducible refine Below.drew ?_) | (with_reducible refine below_dN ?_ _) | (apply below_thenA; assumption) | omega | (simp; done) | (simp; omega) | (simp [*]; done)))⟩
/-- Of an int. -/
theorem big_of (n : Int) (h1 : -9223372036854775808 ≤ n) (h2 : n ≤ 9223372036854775807) (w : World) :
    Calls Tryd.prog 62 #[.int .i64 n] w (BigRet n w) := by
  rcases (by omega : 0 ≤ n ∨ n < 0) with h | h
  · obtain ⟨m, rfl⟩ := Int.eq_ofNat_of_zero_le h
    exact big_of_pos m h2 w
  · have := big_of_neg (-n - 1) (by omega) (by omega) w
    rwa [show -(-n - 1) - 1 = n by omega] at this
end Go.Proofs.YtmkblfejoniccaaDoor
namespace Go.Proofs.YtmkblfejoniccaaDoor
open Go.RowKit
set_option linter.unusedSimpArgs false
set_option linter.unusedVariables false

def cmpI (a b : Int) : Int := if a < b then -1 else if b < a then 1 else 0
theorem cmpI_pos (x y : Nat) : cmpI (sgn false x) (sgn false y) = cmpN x y := by
  simp only [cmpI, cmpN, sgn, Bool.false_eq_true, if_false]
  by_cases h : x < y
  · rw [if_pos h, if_pos (by omega)]
  · rw [if_neg h, if_neg (by omega)]
    by_cases h2 : y < x
    · rw [if_pos h2, if_pos (by omega)]
    · rw [if_neg h2, if_neg (by omega)]
theorem cmpI_neg (x y : Nat) : cmpI (sgn true x) (sgn true y) = cmpN y x := by
  simp only [cmpI, cmpN, sgn, if_true]
  by_cases h : y < x
  · rw [if_pos h, if_pos (by omega)]
  · rw [if_neg h, if_neg (by omega)]
    by_cases h2 : x < y
    · rw [if_pos h2, if_pos (by omega)]
    · rw [if_neg h2, if_neg (by omega)]
theorem cmpI_np {x : Nat} (y : Nat) (hx : x ≠ 0) : cmpI (sgn true x) (sgn false y) = -1 := by
  simp only [cmpI, sgn, if_true, Bool.false_eq_true, if_false]
  rw [if_pos (by omega)]
theorem cmpI_pn (x : Nat) {y : Nat} (hy : y ≠ 0) : cmpI (sgn false x) (sgn true y) = 1 := by
  simp only [cmpI, sgn, if_true, Bool.false_eq_true, if_false]
  rw [if_neg (by omega), if_pos (by omega)]

set_option maxRecDepth 100000 in
set_option maxHeartbeats 1600000 in
theorem big_cmp (na nb : Bool) (ax bx : Option Addr) (k m ca cb : Nat) (a b : Int) (w : World) (ha : IsBig w na ax k ca a) (hb : IsBig w nb bx m cb b) (hk : k ≤ 1000000) (hm : m ≤ 1000000) :
    Calls Tryd.prog 24 #[.agg #[.bool na, .slice ax k ca], .agg #[.bool nb, .slice bx m cb]] w fun e w' => e = .returned (.int .i64 (cmpI a b)) ∧ Below w.heap.size w w' := by
  obtain ⟨xs, hx, tx, nx, rfl⟩ := ha
  obtain ⟨ys, hy, ty, ny, rfl⟩ := hb
  have zx : na = true → BM.bval xs ≠ 0 := fun h e => nx h (tx.eq_nil e)
  have zy : nb = true → BM.bval ys ≠ 0 := fun h e => ny h (ty.eq_nil e)
  have hxW := hx.keep (w' := (w.alloc (.cells #[.bool na, .slice ax k ca] 41)).alloc (.cells #[.bool nb, .slice bx m cb] 41)) (by repeat' (first | (with_reducible exact Below.refl _ _) | (with_reducible assumption) | (with_reducible refine below_alloc ?_ _ ?_) | (with_reducible refine below_set _ ?_ ?_) | (with_reducible refine Below.drew ?_) | (with_reducible refine below_dN ?_ _) | (apply below_thenA; assumption) | omega | (simp; done) | (simp; omega) | (simp [*]; done)))
  have hyW := hy.keep (w' := (w.alloc (.cells #[.bool na, .slice ax k ca] 41)).alloc (.cells #[.bool nb, .slice bx m cb] 41)) (by repeat' (first | (with_reducible exact Below.refl _ _) | (with_reducible assumption) | (with_reducible refine below_alloc ?_ _ ?_) | (with_reducible refine below_set _ ?_ ?_) | (with_reducible refine Below.drew ?_) | (with_reducible refine below_dN ?_ _) | (apply below_thenA; assumption) | omega | (simp; done) | (simp; omega) | (simp [*]; done)))
  cases na
  · cases nb
    · rw [cmpI_pos]
      go_enter Tryd.func24, Tryd.ntmps24
      go_wp2_with fail
      refine (big_sizes ax bx k m ca cb xs ys _ hxW hyW tx ty (by omega) (by omega)).mono ?_
      rintro e w1 ⟨rfl, hb1⟩
      go_wp2_with fail
      (go_light; simp [bodyPost, results, Tryd.results24, go_sem, *])
      exact (by repeat' (first | (with_reducible exact Below.refl _ _) | (with_reducible assumption) | (with_reducible refine below_alloc ?_ _ ?_) | (with_reducible refine below_set _ ?_ ?_) | (with_reducible refine Below.drew ?_) | (with_reducible refine below_dN ?_ _) | (apply below_thenA; assumption) | omega | (simp; done) | (simp; omega) | (simp [*]; done)))
    · rw [cmpI_pn _ (zy rfl)]
      go_enter Tryd.func24, Tryd.ntmps24
      go_wp2_with fail
      (go_light; simp [bodyPost, results, Tryd.results24, go_sem, *])
      exact (by repeat' (first | (with_reducible exact Below.refl _ _) | (with_reducible assumption) | (with_reducible refine below_alloc ?_ _ ?_) | (with_reducible refine below_set _ ?_ ?_) | (with_reducible refine Below.drew ?_) | (with_reducible refine below_dN ?_ _) | (apply below_thenA; assumption) | omega | (simp; done) | (simp; omega) | (simp [*]; done)))
  · cases nb
    · rw [cmpI_np _ (zx rfl)]
      go_enter Tryd.func24, Tryd.ntmps24
      go_wp2_with fail
      (go_light; simp [bodyPost, results, Tryd.results24, go_sem, *])
      exact (by repeat' (first | (with_reducible exact Below.refl _ _) | (with_reducible assumption) | (with_reducible refine below_alloc ?_ _ ?_) | (with_reducible refine below_set _ ?_ ?_) | (with_reducible refine Below.drew ?_) | (with_reducible refine below_dN ?_ _) | (apply below_thenA; assumption) | omega | (simp; done) | (simp; omega) | (simp [*]; done)))
    · rw [cmpI_neg]
      go_enter Tryd.func24, Tryd.ntmps24
      go_wp2_with fail
      refine (big_sizes bx ax m k cb ca ys xs _ hyW hxW ty tx (by omega) (by omega)).mono ?_
      rintro e w1 ⟨rfl, hb1⟩
      go_wp2_with fail
      (go_light; simp [bodyPost, results, Tryd.results24, go_sem, *])
      exact (by repeat' (first | (with_reducible exact Below.refl _ _) | (with_reducible assumption) | (with_reducible refine below_alloc ?_ _ ?_) | (with_reducible refine below_set _ ?_ ?_) | (with_reducible refine Below.drew ?_) | (with_reducible refine below_dN ?_ _) | (apply below_thenA; assumption) | omega | (simp; done) | (simp; omega) | (simp [*]; done)))
end Go.Proofs.YtmkblfejoniccaaDoor
namespace Go.Proofs.YtmkblfejoniccaaDoor
open Go.RowKit
set_option linter.unusedSimpArgs false
set_option linter.unusedVariables false

theorem pow_sz (i : Nat) : BM.Sz (((2 ^ i : Nat) : Int)) (i + 1) := by
  unfold BM.Sz
  rw [Int.natAbs_natCast]
  exact Nat.lt_of_le_of_lt (Nat.pow_le_pow_left (by decide) i) (Nat.pow_lt_pow_right (by decide) (by omega))
theorem big_ofu1 (W : World) : Calls Tryd.prog 67 #[.int .u64 1] W (BigRet 1 W) := big_ofu 1 (by omega) W
theorem big_ofu2 (W : World) : Calls Tryd.prog 67 #[.int .u64 2] W (BigRet 2 W) := big_ofu 2 (by omega) W
theorem pow_dbl (i : Nat) : ((2 ^ i : Nat) : Int) * 2 = ((2 ^ (i + 1) : Nat) : Int) := by
  rw [Nat.pow_succ]; simp
theorem BigRet.out {n : Int} {w : World} {e : Ending} {w' : World} (h : BigRet n w e w') : ∃ neg ao k cap, e = .returned (.agg #[.bool neg, .slice ao k cap]) ∧ IsBig w' neg ao k cap n ∧ Below w.heap.size w w' := h
theorem below_undrew {w w' : World} (h : Below w.drew.heap.size w.drew w') : Below w.heap.size w w' := (Below.drew (Below.refl _ _)).trans h
/-- A whole number is laid into a box. -/
def put (w : World) (b : Nat) (x y : Value) : World := (w.setCell ⟨b, 0, none⟩ x).setCell ⟨b, 1, none⟩ y
theorem Two.put {w : World} {b : Nat} {x y : Value} (h : Two w b x y) (u v : Value) : Two ((w.setCell ⟨b, 0, none⟩ u).setCell ⟨b, 1, none⟩ v) b u v := (h.set0 u).set1 v
theorem Two.put_other {w : World} {b c : Nat} {x y : Value} (h : Two w b x y) (hc : b ≠ c) (u v : Value) : Two ((w.setCell ⟨c, 0, none⟩ u).setCell ⟨c, 1, none⟩ v) b x y := (h.other _ _ hc).other _ _ hc
theorem IsBig.put {w : World} {b : Nat} {x y : Value} {neg : Bool} {ao : Option Addr} {k cap : Nat} {n : Int} (h : IsBig w neg ao k cap n) (t : Two w b x y) (u v : Value) : IsBig ((w.setCell ⟨b, 0, none⟩ u).setCell ⟨b, 1, none⟩ v) neg ao k cap n :=
  IsBig.keeps h (Keeps.set (Keeps.set (Keeps.refl _) _ _ t.ty (by decide)) _ _ (t.set0 _).ty (by decide))
theorem Below.put {w w' : World} {B b : Nat} (h : Below B w w') (hb : B ≤ b) (u v : Value) : Below B w ((w'.setCell ⟨b, 0, none⟩ u).setCell ⟨b, 1, none⟩ v) :=
  (h.setCell (p := ⟨b, 0, none⟩) hb u).setCell (p := ⟨b, 1, none⟩) hb v
def PowRel (n b : Nat) (w : World) (g : Nat) (s4 : Value) (wr : World) : Prop :=
  ∃ (i : Nat) (neg : Bool) (ao : Option Addr) (k cap : Nat) (v : Int), i ≤ n ∧ g = n - i ∧ s4 = .int .i64 ((i : Int)) ∧ v = ((2 ^ i : Nat) : Int) ∧
    Two wr w.heap.size (.bool false) (.slice none 0 0) ∧ Two wr b (.bool neg) (.slice ao k cap) ∧ IsBig wr neg ao k cap v ∧ Below w.heap.size w wr

set_option maxRecDepth 100000 in
set_option maxHeartbeats 1600000 in
theorem big_power_at (n : Nat) (hn : n ≤ 3000) (N : Int) (eN : N = ((2 ^ n : Nat) : Int)) (w : World) :
    Calls Tryd.prog 91 #[.int .i64 (((n : Nat) : Int))] w (BigRet N w) := by
  have EN := Lib.hid eN
  clear eN
  go_enter Tryd.func91, Tryd.ntmps91
  go_wp2_with fail
  refine (big_ofu1 _).mono ?_
  rintro e w1 ⟨n1, a1, k1, c1, rfl, hI1, hb1⟩
  obtain ⟨hc1, hf1⟩ := bcell hb1
  have hz1 := bz1 (n := w.heap.size) hb1 (by simp)
  have hl1 : w.heap.size < w1.heap.size := hz1.1
  have tt : Two w1 w.heap.size (.bool false) (.slice none 0 0) := (Two.new w _ _ _ rfl).below hb1
  have hbw : Below w.heap.size w w1 := (by repeat' (first | (with_reducible exact Below.refl _ _) | (with_reducible assumption) | (with_reducible refine below_alloc ?_ _ ?_) | (with_reducible refine below_set _ ?_ ?_) | (with_reducible refine Below.drew ?_) | (with_reducible refine below_dN ?_ _) | (apply below_thenA; assumption) | omega | (simp; done) | (simp; omega) | (simp [*]; done)))
  go_wp2_with fail
  go_loopg [4] n (fun g s4 wr => PowRel n w1.heap.size w g s4 wr)
  case atStart =>
    refine ⟨0, n1, a1, k1, c1, 1, by omega, by omega, rfl, rfl, tt.alloc _, Two.new _ _ _ _ rfl, ?_, (by repeat' (first | (with_reducible exact Below.refl _ _) | (with_reducible assumption) | (with_reducible refine below_alloc ?_ _ ?_) | (with_reducible refine below_set _ ?_ ?_) | (with_reducible refine Below.drew ?_) | (with_reducible refine below_dN ?_ _) | (apply below_thenA; assumption) | omega | (simp; done) | (simp; omega) | (simp [*]; done)))⟩
    exact IsBig.keeps hI1 (by repeat' (first | (with_reducible exact Keeps.refl _) | (with_reducible refine Keeps.alloc ?_ _) | (with_reducible refine Keeps.drew ?_) | (with_reducible refine Keeps.drewN ?_ _) | (with_reducible refine Keeps.set ?_ _ _ (T := 41) ?_ (by decide)) | (with_reducible exact TyAt.new _ _ _ _ (by simp)) | (with_reducible refine TyAt.set ?_ _ _) | (with_reducible refine TyAt.alloc ?_ _) | (with_reducible refine TyAt.drew ?_) | (with_reducible refine TyAt.drewN ?_ _) | (apply Keeps.below; assumption) | (exact Two.ty (by assumption)) | (apply TyAt.below; rotate_left; assumption)))
  case round =>
    clear tt hbw hz1 hc1 hf1 hI1
    obtain ⟨i, neg, ao, k, cap, v, hi, rfl, rfl, hv, t0, t1, hI, hbl⟩ := hrel
    have HV := Lib.hid hv
    by_cases lx : i < n
    · have ix : (i : Int) < (n : Int) := by omega
      have hs : BM.Sz v (i + 1) := by rw [hv]; exact pow_sz i
      have hk := hI.le hs
      have h2 := BM.Sz.u64 (n := 2) (by omega) (by omega)
      have HD : Hid (v * 2 = ((2 ^ (i + 1) : Nat) : Int)) := Lib.hid (by rw [hv]; exact pow_dbl i)
      clear hv
      obtain ⟨p1, p2, p3, p4⟩ := t1.cells
      have hlr := t1.lt
      go_wp2_with fail
      go_region_with (first
        | (go_at_call 67; with_reducible refine (big_ofu2 _).mono ?_; rintro e w2 hB2; obtain ⟨n2, a2, k2, c2, rfl, hI2, hb2⟩ := hB2.out; obtain ⟨hc2, hf2⟩ := bcell hb2; replace hb2 := below_undrew hb2; have hs2 := hb2.size; have t1a := t1.below hb2; obtain ⟨q1, q2, q3, q4⟩ := t1a.cells)
        | (go_at_call 25; go_loud (with_reducible refine (big_times neg n2 ao a2 k k2 cap c2 v 2 _ (hI.keep hb2) hI2 ?_ ?_).mono ?_); omega; (have := hI2.le h2; omega); go_loud (rintro e w3 hB3; obtain ⟨n3, a3, k3, c3, rfl, hI3, hb3⟩ := hB3.out; obtain ⟨hc3, hf3⟩ := bcell hb3; have hs3 := hb3.size; have hl3 : w1.heap.size < w3.heap.size := (by omega); have t0' := (t0.below hb2).below hb3; have t1' := (t1.below hb2).below hb3; obtain ⟨r1, r2, r3, r4⟩ := t1'.cells; have hbl3 : Below w.heap.size w w3 := (by repeat' (first | (with_reducible exact Below.refl _ _) | (with_reducible assumption) | (with_reducible refine below_alloc ?_ _ ?_) | (with_reducible refine below_set _ ?_ ?_) | (with_reducible refine Below.drew ?_) | (with_reducible refine below_dN ?_ _) | (apply below_thenA; assumption) | omega | (simp; done) | (simp; omega) | (simp [*]; done))))))
      all_goals
        have hD := hI3.put t1' (.bool n3) (.slice a3 k3 c3)
        have hU := t1'.put (.bool n3) (.slice a3 k3 c3)
        have hT := t0'.put_other (c := w1.heap.size) (by omega) (.bool n3) (.slice a3 k3 c3)
        have hQ := Below.put hbl3 (b := w1.heap.size) (by omega) (.bool n3) (.slice a3 k3 c3)
        clear p1 p2 p3 p4 q1 q2 q3 q4 r1 r2 r3 r4
        go_wp2_with fail
        go_roundg (n - (i + 1))
        case measure => omega
        case rel => exact ⟨i + 1, n3, a3, k3, c3, v * 2, by omega, by omega, by go_num, HD.out, hT, hU, hD, hQ⟩
    · have ix : ¬ (i : Int) < (n : Int) := by omega
      obtain rfl : i = n := by omega
      obtain rfl : v = N := by rw [EN.out]; exact HV.out
      clear hv
      obtain ⟨p1, p2, p3, p4⟩ := t1.cells
      obtain ⟨q1, q2, q3, q4⟩ := t0.cells
      go_wp2_with fail
      (go_light; simp [bodyPost, results, Tryd.results91, go_sem, *])
      exact ⟨neg, ao, k, cap, rfl, hI.put t0 _ _, Below.put hbl (Nat.le_refl _) _ _⟩
/-- Two to a number. -/
theorem big_power (n : Nat) (hn : n ≤ 3000) (w : World) :
    Calls Tryd.prog 91 #[.int .i64 (((n : Nat) : Int))] w (BigRet ((2 ^ n : Nat) : Int) w) := big_power_at n hn _ rfl w
end Go.Proofs.YtmkblfejoniccaaDoor
namespace Go.Proofs.YtmkblfejoniccaaDoor
open Go.RowKit
set_option linter.unusedSimpArgs false
set_option linter.unusedVariables false

theorem big_ofu_int (n : Int) (h0 : 0 ≤ n) (hn : n < 18446744073709551616) (w : World) :
    Calls Tryd.prog 67 #[.int .u64 n] w (BigRet n w) := by
  obtain ⟨m, rfl⟩ := Int.eq_ofNat_of_zero_le h0
  exact big_ofu m (by omega) w
theorem big_power_lit (n : Nat) (m : Int) (em : m = (n : Int)) (hn : n ≤ 3000) (N : Int) (eN : N = ((2 ^ n : Nat) : Int)) (w : World) :
    Calls Tryd.prog 91 #[.int .i64 m] w (BigRet N w) := by
  subst em; exact big_power_at n hn N eN w

end Go.Proofs.YtmkblfejoniccaaDoor
