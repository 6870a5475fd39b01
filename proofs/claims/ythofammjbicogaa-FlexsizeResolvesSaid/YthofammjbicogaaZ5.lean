/-
  The reference's whole numbers, each function by its contract. Fifteenth part: Down, a quotient rounded down and its rest.
-/
/-
  The functions of package fixed, each by its contract. Third part: Part and Scale whatever they are given; Try over a closure that stores a number; the reference's Part.
-/
/-
  Package share, each function by its contract: slices.Min; all; parts.
-/
/-
  The reference of layer 2, each function by its contract. First part: Common, the greatest common divisor.
-/
/-
  The reference of layer 2, each function by its contract. Second part: size, Ints; boxes by a list.
-/
/-
  The reference of layer 2, each function by its contract. Third part: Lowest (begun).
-/
/-
  The reference of layer 2, each function by its contract. Fourth part: Good.
-/
/-
  Regions whose order is left open, by one claim for each operation: what it leaves, in whatever order the others come up.
-/
import Derived.Test.YthofammjbicogaaZ4
import Derived.Test.YthofammjbicogaaZ2
import Derived.Test.YthofammjbicogaaZ1
import Derived.OrdersHeld
import Derived.Deep.RegionHeld
import Derived.Below
namespace Go.Proofs.Ythofammjbicogaa
open Go.RowKit
set_option linter.unusedSimpArgs false
set_option linter.unusedVariables false

theorem IsBig.sz {w : World} {neg : Bool} {ao : Option Addr} {k cap : Nat} {n : Int} (h : IsBig w neg ao k cap n) : BM.Sz n k := by
  obtain ⟨ds, h1, h2, h3, rfl⟩ := h
  have := bval_lt' h1
  unfold BM.Sz
  cases neg <;> simpa [sgn] using this
theorem one_new (w : World) : IsBig (w.alloc (.cells #[.int .u64 1] 130)) true (some ⟨w.heap.size, 0, none⟩) 1 1 (-1) := by
  refine ⟨[1], Row.pcs (n := 1) ⟨heap_alloc_new w _, rfl, ?_⟩ (by decide), ?_, (fun _ => by simp), rfl⟩
  · intro d hd; simp at hd; omega
  · intro h; simp
theorem one_at (w : World) (g : Nat) (hg : g = w.heap.size) : IsBig (w.alloc (.cells #[.int .u64 1] 130)) true (some ⟨g, 0, none⟩) 1 1 (-1) := by subst hg; exact one_new w
theorem sgn_ne {w : World} {neg : Bool} {ao : Option Addr} {k cap : Nat} {ds : List Nat} (ht : BM.Trim ds) (h : neg = true → ds ≠ []) : neg = true → BM.bval ds ≠ 0 := fun h1 h2 => h h1 (ht.eq_nil h2)
/-- The six boxes of Down. -/
def DnB (na nb : Bool) (ax bx : Option Addr) (k m ca cb : Nat) (w wr : World) (bq br : Nat) (q1 q2 r1 r2 : Value) : Prop :=
  Two wr w.heap.size (.bool na) (.slice ax k ca) ∧ Two wr (w.heap.size + 1) (.bool nb) (.slice bx m cb) ∧ Two wr (w.heap.size + 1 + 1) (.bool false) (.slice none 0 0) ∧ Two wr (w.heap.size + 1 + 1 + 1) (.bool false) (.slice none 0 0) ∧
    Two wr bq q1 q2 ∧ Two wr br r1 r2 ∧ w.heap.size + 1 + 1 + 1 < bq ∧ bq < br ∧ Below w.heap.size w wr
section
variable {na nb : Bool} {ax bx : Option Addr} {k m ca cb : Nat} {w wr w' : World} {bq br : Nat} {q1 q2 r1 r2 : Value}
theorem DnB.ta (h : DnB na nb ax bx k m ca cb w wr bq br q1 q2 r1 r2) : Two wr w.heap.size (.bool na) (.slice ax k ca) := h.1
theorem DnB.tb (h : DnB na nb ax bx k m ca cb w wr bq br q1 q2 r1 r2) : Two wr (w.heap.size + 1) (.bool nb) (.slice bx m cb) := h.2.1
theorem DnB.t2 (h : DnB na nb ax bx k m ca cb w wr bq br q1 q2 r1 r2) : Two wr (w.heap.size + 1 + 1) (.bool false) (.slice none 0 0) := h.2.2.1
theorem DnB.t3 (h : DnB na nb ax bx k m ca cb w wr bq br q1 q2 r1 r2) : Two wr (w.heap.size + 1 + 1 + 1) (.bool false) (.slice none 0 0) := h.2.2.2.1
theorem DnB.tq (h : DnB na nb ax bx k m ca cb w wr bq br q1 q2 r1 r2) : Two wr bq q1 q2 := h.2.2.2.2.1
theorem DnB.tr (h : DnB na nb ax bx k m ca cb w wr bq br q1 q2 r1 r2) : Two wr br r1 r2 := h.2.2.2.2.2.1
theorem DnB.l1 (h : DnB na nb ax bx k m ca cb w wr bq br q1 q2 r1 r2) : w.heap.size + 1 + 1 + 1 < bq := h.2.2.2.2.2.2.1
theorem DnB.l2 (h : DnB na nb ax bx k m ca cb w wr bq br q1 q2 r1 r2) : bq < br := h.2.2.2.2.2.2.2.1
theorem DnB.bl (h : DnB na nb ax bx k m ca cb w wr bq br q1 q2 r1 r2) : Below w.heap.size w wr := h.2.2.2.2.2.2.2.2
theorem DnB.below (h : DnB na nb ax bx k m ca cb w wr bq br q1 q2 r1 r2) (hb : Below wr.heap.size wr w') : DnB na nb ax bx k m ca cb w w' bq br q1 q2 r1 r2 :=
  ⟨h.ta.below hb, h.tb.below hb, h.t2.below hb, h.t3.below hb, h.tq.below hb, h.tr.below hb, h.l1, h.l2, h.bl.trans (hb.mono h.bl.size)⟩
theorem DnB.alloc (h : DnB na nb ax bx k m ca cb w wr bq br q1 q2 r1 r2) (o : Obj) : DnB na nb ax bx k m ca cb w (wr.alloc o) bq br q1 q2 r1 r2 :=
  ⟨h.ta.alloc o, h.tb.alloc o, h.t2.alloc o, h.t3.alloc o, h.tq.alloc o, h.tr.alloc o, h.l1, h.l2, h.bl.alloc h.bl.size o⟩
theorem DnB.putq (h : DnB na nb ax bx k m ca cb w wr bq br q1 q2 r1 r2) (u v : Value) : DnB na nb ax bx k m ca cb w ((wr.setCell ⟨bq, 0, none⟩ u).setCell ⟨bq, 1, none⟩ v) bq br u v r1 r2 :=
  have h1 := h.l1
  have h2 := h.l2
  ⟨h.ta.put_other (by omega) _ _, h.tb.put_other (by omega) _ _, h.t2.put_other (by omega) _ _, h.t3.put_other (by omega) _ _, h.tq.put _ _, h.tr.put_other (by omega) _ _, h1, h2, BP h.bl (by omega) u v⟩
end
theorem BigRet2.out {n p : Int} {w : World} {e : Ending} {w' : World} (h : BigRet2 n p w e w') : ∃ (qn : Bool) (qa : Option Addr) (qk qc : Nat) (rn : Bool) (ra : Option Addr) (rk rc : Nat), e = .returned (.tuple #[.agg #[.bool qn, .slice qa qk qc], .agg #[.bool rn, .slice ra rk rc]]) ∧ IsBig w' qn qa qk qc n ∧ IsBig w' rn ra rk rc p ∧ Below w.heap.size w w' := h

def Three (na nb : Bool) (ax bx : Option Addr) (k m ca cb : Nat) (w : World) (bq : Nat) (q1 q2 z1 z2 : Value) (wr : World) : Prop :=
  Two wr w.heap.size (.bool na) (.slice ax k ca) ∧ Two wr (w.heap.size + 1) (.bool nb) (.slice bx m cb) ∧ Two wr bq q1 q2 ∧ Two wr (w.heap.size + 1 + 1) z1 z2 ∧ Two wr (w.heap.size + 1 + 1 + 1) (.bool false) (.slice none 0 0)
section
variable {na nb : Bool} {ax bx : Option Addr} {k m ca cb : Nat} {w wr w' : World} {bq : Nat} {q1 q2 z1 z2 : Value}
theorem Three.t1 (h : Three na nb ax bx k m ca cb w bq q1 q2 z1 z2 wr) : Two wr w.heap.size (.bool na) (.slice ax k ca) := h.1
theorem Three.t2 (h : Three na nb ax bx k m ca cb w bq q1 q2 z1 z2 wr) : Two wr (w.heap.size + 1) (.bool nb) (.slice bx m cb) := h.2.1
theorem Three.t3 (h : Three na nb ax bx k m ca cb w bq q1 q2 z1 z2 wr) : Two wr bq q1 q2 := h.2.2.1
theorem Three.t4 (h : Three na nb ax bx k m ca cb w bq q1 q2 z1 z2 wr) : Two wr (w.heap.size + 1 + 1) z1 z2 := h.2.2.2.1
theorem Three.t5 (h : Three na nb ax bx k m ca cb w bq q1 q2 z1 z2 wr) : Two wr (w.heap.size + 1 + 1 + 1) (.bool false) (.slice none 0 0) := h.2.2.2.2
theorem Three.cells6 (h : Three na nb ax bx k m ca cb w bq q1 q2 z1 z2 wr) : wr.cell? ⟨w.heap.size, 0, none⟩ = some (.bool na) ∧ wr.cell? ⟨w.heap.size, 1, none⟩ = some (.slice ax k ca) ∧ wr.cell? ⟨w.heap.size + 1, 0, none⟩ = some (.bool nb) ∧ wr.cell? ⟨w.heap.size + 1, 1, none⟩ = some (.slice bx m cb) ∧ wr.cell? ⟨bq, 0, none⟩ = some q1 ∧ wr.cell? ⟨bq, 1, none⟩ = some q2 := ⟨h.t1.cells.1, h.t1.cells.2.1, h.t2.cells.1, h.t2.cells.2.1, h.t3.cells.1, h.t3.cells.2.1⟩
theorem Three.cells6b (h : Three na nb ax bx k m ca cb w bq q1 q2 z1 z2 wr) (hl : w.heap.size + 1 + 1 + 1 < bq) (u v : Value) (X : World) (hX : X = (wr.setCell ⟨w.heap.size + 1 + 1 + 1, 0, none⟩ u).setCell ⟨w.heap.size + 1 + 1 + 1, 1, none⟩ v) : X.cell? ⟨w.heap.size, 0, none⟩ = some (.bool na) ∧ X.cell? ⟨w.heap.size, 1, none⟩ = some (.slice ax k ca) ∧ X.cell? ⟨w.heap.size + 1, 0, none⟩ = some (.bool nb) ∧ X.cell? ⟨w.heap.size + 1, 1, none⟩ = some (.slice bx m cb) ∧ X.cell? ⟨bq, 0, none⟩ = some q1 ∧ X.cell? ⟨bq, 1, none⟩ = some q2 := by
  subst hX
  have a := h.t1.put_other (c := w.heap.size + 1 + 1 + 1) (by omega) u v
  have b := h.t2.put_other (c := w.heap.size + 1 + 1 + 1) (by omega) u v
  have c := h.t3.put_other (c := w.heap.size + 1 + 1 + 1) (by omega) u v
  exact ⟨a.cells.1, a.cells.2.1, b.cells.1, b.cells.2.1, c.cells.1, c.cells.2.1⟩
theorem Three.drew (h : Three na nb ax bx k m ca cb w bq q1 q2 z1 z2 wr) : Three na nb ax bx k m ca cb w bq q1 q2 z1 z2 wr.drew := h
theorem Three.below (hb : Below wr.heap.size wr w') (h : Three na nb ax bx k m ca cb w bq q1 q2 z1 z2 wr) : Three na nb ax bx k m ca cb w bq q1 q2 z1 z2 w' := ⟨h.t1.below hb, h.t2.below hb, h.t3.below hb, h.t4.below hb, h.t5.below hb⟩
theorem Three.put (h : Three na nb ax bx k m ca cb w bq q1 q2 z1 z2 wr) (hl : w.heap.size + 1 + 1 + 1 < bq) (u v : Value) : Three na nb ax bx k m ca cb w bq q1 q2 u v ((wr.setCell ⟨w.heap.size + 1 + 1, 0, none⟩ u).setCell ⟨w.heap.size + 1 + 1, 1, none⟩ v) :=
  ⟨h.t1.put_other (by omega) _ _, h.t2.put_other (by omega) _ _, h.t3.put_other (by omega) _ _, h.t4.put _ _, h.t5.put_other (by omega) _ _⟩
end

set_option maxRecDepth 100000 in
set_option maxHeartbeats 3200000 in
theorem big_down (na nb : Bool) (ax bx : Option Addr) (k m ca cb : Nat) (A B : Int) (w : World) (ha : IsBig w na ax k ca A) (hb : IsBig w nb bx m cb B) (hk : k ≤ 10000) (hm : m ≤ 10000) (hB : B ≠ 0) :
    Calls Try.prog 108 #[.agg #[.bool na, .slice ax k ca], .agg #[.bool nb, .slice bx m cb]] w (BigRet2 (fq A B) (fr A B) w) := by
  have hA := ha
  have hBB := hb
  have sA := ha.sz
  have sB := hb.sz
  have sF : BM.Sz (fq A B) k := sA.le (fq_abs hB)
  have sFB := sF.mul sB
  obtain ⟨xs, hx, tx, nx, eA⟩ := ha
  obtain ⟨ys, hy, ty, ny, eB⟩ := hb
  have hY : 0 < BM.bval ys := by
    rcases Nat.eq_zero_or_pos (BM.bval ys) with h | h
    · exfalso; apply hB; rw [eB, h]; cases nb <;> rfl
    · exact h
  have hdq := down_q (na := na) (nb := nb) (x := BM.bval xs) (y := BM.bval ys) (fun h1 h2 => nx h1 (tx.eq_nil h2)) (fun h1 h2 => ny h1 (ty.eq_nil h2)) hY
  rw [← eA, ← eB] at hdq
  have hxl := bval_lt' hx
  obtain ⟨F, eF⟩ : ∃ F, F = fq A B := ⟨_, rfl⟩
  have eR : fr A B = A + -(F * B) := by unfold fr; rw [eF, Int.sub_eq_add_neg]
  rw [← eF] at hdq sF sFB ⊢
  rw [eR]
  obtain ⟨q, eq⟩ : ∃ q, q = BM.bval xs / BM.bval ys := ⟨_, rfl⟩
  obtain ⟨r, er⟩ : ∃ r, r = BM.bval xs % BM.bval ys := ⟨_, rfl⟩
  have sq : BM.Sz (q : Int) k := sz_nat (by rw [eq]; exact Nat.lt_of_le_of_lt (Nat.div_le_self _ _) hxl)
  have hdv := big_divided ax bx k m ca cb xs ys
  rw [← eq, ← er] at hdq hdv
  have HQ := Lib.hid hdq
  clear hdq eF eR eq er eA eB hxl nx ny sA
  go_enter Try.func108, Try.ntmps108
  go_wp2_with fail
  refine (hdv _ (hx.keep (by repeat' (first | (with_reducible exact Below.refl _ _) | (with_reducible assumption) | (with_reducible refine below_alloc ?_ _ ?_) | (with_reducible refine below_set _ ?_ ?_) | (with_reducible refine Below.drew ?_) | (with_reducible refine below_dN ?_ _) | (apply below_thenA; assumption) | omega | (simp; done) | (simp; omega) | (simp [*]; done)))) (hy.keep (by repeat' (first | (with_reducible exact Below.refl _ _) | (with_reducible assumption) | (with_reducible refine below_alloc ?_ _ ?_) | (with_reducible refine below_set _ ?_ ?_) | (with_reducible refine Below.drew ?_) | (with_reducible refine below_dN ?_ _) | (apply below_thenA; assumption) | omega | (simp; done) | (simp; omega) | (simp [*]; done)))) tx ty hk hm hY).mono ?_
  clear hdv
  rintro e w1 hRet
  obtain ⟨qn, qa, qk, qc, rn, ra, rk, rc, rfl, hQ, hR, hb1⟩ := hRet.out
  have hz := bz4 (n := w.heap.size) hb1 (by simp)
  have hz1 : w.heap.size + 1 + 1 + 1 < w1.heap.size := by have := hb1.size; simp at this; omega
  have ta := ((((Two.new w (.bool na) (.slice ax k ca) _ rfl).alloc (.cells #[.bool nb, .slice bx m cb] 128)).alloc (.cells #[.bool false, .slice none 0 0] 128)).alloc (.cells #[.bool false, .slice none 0 0] 128)).below hb1
  have tb := (((Two.new (w.alloc (.cells #[.bool na, .slice ax k ca] 128)) (.bool nb) (.slice bx m cb) (w.heap.size + 1) (by simp)).alloc (.cells #[.bool false, .slice none 0 0] 128)).alloc (.cells #[.bool false, .slice none 0 0] 128)).below hb1
  have t2 := ((Two.new ((w.alloc (.cells #[.bool na, .slice ax k ca] 128)).alloc (.cells #[.bool nb, .slice bx m cb] 128)) (.bool false) (.slice none 0 0) (w.heap.size + 1 + 1) (by simp)).alloc (.cells #[.bool false, .slice none 0 0] 128)).below hb1
  have t3 := (Two.new (((w.alloc (.cells #[.bool na, .slice ax k ca] 128)).alloc (.cells #[.bool nb, .slice bx m cb] 128)).alloc (.cells #[.bool false, .slice none 0 0] 128)) (.bool false) (.slice none 0 0) (w.heap.size + 1 + 1 + 1) (by simp)).below hb1
  have hbw : Below w.heap.size w w1 := (by repeat' (first | (with_reducible exact Below.refl _ _) | (with_reducible assumption) | (with_reducible refine below_alloc ?_ _ ?_) | (with_reducible refine below_set _ ?_ ?_) | (with_reducible refine Below.drew ?_) | (with_reducible refine below_dN ?_ _) | (apply below_thenA; assumption) | omega | (simp; done) | (simp; omega) | (simp [*]; done)))
  have D : DnB na nb ax bx k m ca cb w ((w1.alloc (.cells #[.bool qn, .slice qa qk qc] 128)).alloc (.cells #[.bool rn, .slice ra rk rc] 128)) w1.heap.size (w1.heap.size + 1) (.bool qn) (.slice qa qk qc) (.bool rn) (.slice ra rk rc) :=
    ⟨(ta.alloc _).alloc _, (tb.alloc _).alloc _, (t2.alloc _).alloc _, (t3.alloc _).alloc _, (Two.new _ _ _ _ rfl).alloc _, Two.new _ _ _ _ (by simp), hz1, by omega, (by repeat' (first | (with_reducible exact Below.refl _ _) | (with_reducible assumption) | (with_reducible refine below_alloc ?_ _ ?_) | (with_reducible refine below_set _ ?_ ?_) | (with_reducible refine Below.drew ?_) | (with_reducible refine below_dN ?_ _) | (apply below_thenA; assumption) | omega | (simp; done) | (simp; omega) | (simp [*]; done)))⟩
  replace hQ : IsBig ((w1.alloc (.cells #[.bool qn, .slice qa qk qc] 128)).alloc (.cells #[.bool rn, .slice ra rk rc] 128)) qn qa qk qc (q : Int) := hQ.keep (by repeat' (first | (with_reducible exact Below.refl _ _) | (with_reducible assumption) | (with_reducible refine below_alloc ?_ _ ?_) | (with_reducible refine below_set _ ?_ ?_) | (with_reducible refine Below.drew ?_) | (with_reducible refine below_dN ?_ _) | (apply below_thenA; assumption) | omega | (simp; done) | (simp; omega) | (simp [*]; done)))
  replace hR : IsBig ((w1.alloc (.cells #[.bool qn, .slice qa qk qc] 128)).alloc (.cells #[.bool rn, .slice ra rk rc] 128)) rn ra rk rc (r : Int) := hR.keep (by repeat' (first | (with_reducible exact Below.refl _ _) | (with_reducible assumption) | (with_reducible refine below_alloc ?_ _ ?_) | (with_reducible refine below_set _ ?_ ?_) | (with_reducible refine Below.drew ?_) | (with_reducible refine below_dN ?_ _) | (apply below_thenA; assumption) | omega | (simp; done) | (simp; omega) | (simp [*]; done)))
  obtain ⟨p1, p2, p3, p4⟩ := ta.cells
  obtain ⟨p5, p6, p7, p8⟩ := tb.cells
  clear hRet hb1 t2 t3 hbw
  go_upto_if 22 with (fail)
  clear p1 p2 p3 p4 p5 p6 p7 p8 ta tb
  obtain ⟨c, ec⟩ : ∃ c, c = (na == nb) := ⟨_, rfl⟩
  rw [← ec]
  have EC := Lib.hid ec
  clear ec
  go_cut [] from 22 (fun wx => ∃ qn qa qk qc, DnB na nb ax bx k m ca cb w wx w1.heap.size (w1.heap.size + 1) (.bool qn) (.slice qa qk qc) (.bool rn) (.slice ra rk rc) ∧ IsBig wx qn qa qk qc F)
  case first =>
    obtain ⟨rfl, rs, hrs, trs, ers⟩ := hR.nat
    have hrk : (r = 0 → rk = 0) ∧ (0 < r → 0 < rk) := by
      have hl := hrs.len
      refine ⟨fun h => ?_, fun h => ?_⟩
      · have := trs.eq_nil (by omega); rw [this] at hl; simp at hl; omega
      · rcases Nat.eq_zero_or_pos rk with h0 | h0
        · rw [h0] at hl; have : rs = [] := List.eq_nil_of_length_eq_zero hl; rw [this] at ers; simp [BM.bval] at ers; omega
        · exact h0
    have HK := Lib.hid hrk
    have hkq := hQ.le sq
    clear hrk hrs trs ers hR
    obtain ⟨p1, p2, p3, p4⟩ := D.tq.cells
    cases c
    · have hs : na ≠ nb := by have := EC.out; intro h; simp [h] at this
      by_cases h0 : r = 0
      · have e := Lib.hid (HQ.out.2.1 hs h0)
        have hr0 := HK.out.1 h0
        clear hs h0
        subst hr0
        go_wp2_with (go_at_call 105; go_loud (with_reducible refine (big_minus qn qa qk qc _ _ hQ ?_).mono ?_); omega; rintro e w2 ⟨n2, a2, k2, c2, rfl, hI2, hb2⟩; replace D := D.below hb2; obtain ⟨q1, q2, q3, q4⟩ := D.tq.cells; obtain ⟨r1, r2, r3, r4⟩ := D.tr.cells)
        go_meet
        case rel => exact ⟨n2, a2, k2, c2, D.putq _ _, by rw [e.out]; exact IsBig.put hI2 D.tq _ _⟩
      · have e := Lib.hid (HQ.out.2.2 hs (by omega))
        have hr0 := HK.out.2 (by omega)
        clear hs h0
        go_wp2_with (first
          | (go_at_call 105; go_loud (with_reducible refine (big_minus qn qa qk qc _ _ hQ ?_).mono ?_); omega; rintro e w2 ⟨n2, a2, k2, c2, rfl, hI2, hb2⟩; (have hk2 := hI2.le sq.neg); replace D := D.below hb2; obtain ⟨q1, q2, q3, q4⟩ := D.tq.cells; obtain ⟨r1, r2, r3, r4⟩ := D.tr.cells; have hN := IsBig.put hI2 D.tq (.bool n2) (.slice a2 k2 c2); have hD := D.putq (.bool n2) (.slice a2 k2 c2))
          | (go_at_call 89; go_loud (with_reducible refine (big_plus n2 true a2 _ k2 1 c2 1 (-(q : Int)) (-1) _ (hN.keep (by repeat' (first | (with_reducible exact Below.refl _ _) | (with_reducible assumption) | (with_reducible refine below_alloc ?_ _ ?_) | (with_reducible refine below_set _ ?_ ?_) | (with_reducible refine Below.drew ?_) | (with_reducible refine below_dN ?_ _) | (apply below_thenA; assumption) | omega | (simp; done) | (simp; omega) | (simp [*]; done)))) (one_at _ _ (by simp)) ?_ ?_).mono ?_); omega; omega; rintro e w3 ⟨n3, a3, k3, c3, rfl, hI3, hb3⟩; have hD3 := (hD.alloc (.cells #[.int .u64 1] 130)).below hb3; obtain ⟨s1, s2, s3, s4⟩ := hD3.tq.cells))
        go_meet
        case rel => exact ⟨n3, a3, k3, c3, hD3.putq _ _, by rw [e.out]; exact IsBig.put hI3 hD3.tq _ _⟩
    · have e := HQ.out.1 (by have := EC.out; simpa using this.symm)
      rw [← e] at hQ
      clear e
      go_wp2_with fail
      go_meet
      case rel => exact ⟨qn, qa, qk, qc, D, hQ⟩
  case rest =>
    clear D hQ hR
    obtain ⟨qn, qa, qk, qc, D, hQ⟩ := hcut
    have hkq := hQ.le sF
    have hA' := hA.keep D.bl
    have hB' := hBB.keep D.bl
    obtain ⟨p1, p2, p3, p4⟩ := D.ta.cells
    obtain ⟨p5, p6, p7, p8⟩ := D.tb.cells
    obtain ⟨q1, q2, q3, q4⟩ := D.tq.cells
    obtain ⟨r1, r2, r3, r4⟩ := D.t2.cells
    obtain ⟨r5, r6, r7, r8⟩ := D.t3.cells
    have z2 := D.t2
    have z3 := D.t3
    have l1 := D.l1
    have l2 := D.l2
    have lz := D.tr.lt
    have hbl := D.bl
    have T : Three na nb ax bx k m ca cb w w1.heap.size (.bool qn) (.slice qa qk qc) (.bool false) (.slice none 0 0) wc := ⟨D.ta, D.tb, D.tq, D.t2, D.t3⟩
    have n1 : ¬ w1.heap.size = w.heap.size + 1 + 1 := by omega
    have n2 : ¬ w1.heap.size = w.heap.size + 1 + 1 + 1 := by omega
    have g1 : w.heap.size < wc.heap.size := by omega
    have g2 : w.heap.size + 1 < wc.heap.size := by omega
    have g3 : w1.heap.size < wc.heap.size := by omega
    go_wp2_with fail
    go_region_held3 (fun w' => w'.cell? ⟨w.heap.size, 0, none⟩ = some (.bool na) ∧ w'.cell? ⟨w.heap.size, 1, none⟩ = some (.slice ax k ca) ∧ w'.cell? ⟨w.heap.size + 1, 0, none⟩ = some (.bool nb) ∧ w'.cell? ⟨w.heap.size + 1, 1, none⟩ = some (.slice bx m cb) ∧ w'.cell? ⟨w1.heap.size, 0, none⟩ = some (.bool qn) ∧ w'.cell? ⟨w1.heap.size, 1, none⟩ = some (.slice qa qk qc))
      (with_reducible first | exact ⟨p1, p2, p5, p6, q1, q2⟩ | exact T.cells6 | exact (T.put l1 _ _).cells6 | exact (T.put l1 _ _).cells6b l1 _ _ _ rfl | exact T.drew.cells6 | exact (T.put l1 _ _).drew.cells6)
      (first
      | (go_at_call 107; go_loud (with_reducible refine (big_times qn nb qa bx qk m qc cb F B _ (IsBig.keeps hQ (by repeat' (first | (with_reducible exact Keeps.refl _) | (with_reducible refine Keeps.alloc ?_ _) | (with_reducible refine Keeps.drew ?_) | (with_reducible refine Keeps.drewN ?_ _) | (with_reducible refine Keeps.set ?_ _ _ (T := 128) ?_ (by decide)) | (with_reducible exact TyAt.new _ _ _ _ (by simp)) | (with_reducible refine TyAt.set ?_ _ _) | (with_reducible refine TyAt.alloc ?_ _) | (with_reducible refine TyAt.drew ?_) | (with_reducible refine TyAt.drewN ?_ _) | (apply Keeps.below; assumption) | (exact Two.ty (by assumption)) | (apply TyAt.below; rotate_left; assumption)))) (IsBig.keeps hB' (by repeat' (first | (with_reducible exact Keeps.refl _) | (with_reducible refine Keeps.alloc ?_ _) | (with_reducible refine Keeps.drew ?_) | (with_reducible refine Keeps.drewN ?_ _) | (with_reducible refine Keeps.set ?_ _ _ (T := 128) ?_ (by decide)) | (with_reducible exact TyAt.new _ _ _ _ (by simp)) | (with_reducible refine TyAt.set ?_ _ _) | (with_reducible refine TyAt.alloc ?_ _) | (with_reducible refine TyAt.drew ?_) | (with_reducible refine TyAt.drewN ?_ _) | (apply Keeps.below; assumption) | (exact Two.ty (by assumption)) | (apply TyAt.below; rotate_left; assumption)))) ?_ ?_).mono ?_); omega; omega; rintro e w4 hB4; obtain ⟨n4, a4, k4, c4, rfl, hI4, hb4⟩ := hB4.out; have hk4 := hI4.le sFB; obtain ⟨hc4, hf4⟩ := bcell hb4; replace T := Three.below hb4 (by with_reducible first | exact T.drew | exact (T.put l1 _ _).drew | exact T | exact T.put l1 _ _); obtain ⟨p1, p2, p3, p4⟩ := T.t1.cells; obtain ⟨p5, p6, p7, p8⟩ := T.t2.cells; obtain ⟨q1, q2, q3, q4⟩ := T.t3.cells; obtain ⟨r1, r2, r3, r4⟩ := T.t4.cells; obtain ⟨r5, r6, r7, r8⟩ := T.t5.cells)
      | (go_at_call 105; go_loud (with_reducible refine (big_minus n4 a4 k4 c4 (F * B) _ (IsBig.keeps hI4 (by repeat' (first | (with_reducible exact Keeps.refl _) | (with_reducible refine Keeps.alloc ?_ _) | (with_reducible refine Keeps.drew ?_) | (with_reducible refine Keeps.drewN ?_ _) | (with_reducible refine Keeps.set ?_ _ _ (T := 128) ?_ (by decide)) | (with_reducible exact TyAt.new _ _ _ _ (by simp)) | (with_reducible refine TyAt.set ?_ _ _) | (with_reducible refine TyAt.alloc ?_ _) | (with_reducible refine TyAt.drew ?_) | (with_reducible refine TyAt.drewN ?_ _) | (apply Keeps.below; assumption) | (exact Two.ty (by assumption)) | (apply TyAt.below; rotate_left; assumption)))) ?_).mono ?_); omega; rintro e w5 hB5; obtain ⟨n5, a5, k5, c5, rfl, hI5, hb5⟩ := hB5.out; have hk5 := hI5.le sFB.neg; obtain ⟨hc5, hf5⟩ := bcell hb5; replace T := Three.below hb5 (by with_reducible first | exact T.drew | exact (T.put l1 _ _).drew | exact T | exact T.put l1 _ _); obtain ⟨p1, p2, p3, p4⟩ := T.t1.cells; obtain ⟨p5, p6, p7, p8⟩ := T.t2.cells; obtain ⟨q1, q2, q3, q4⟩ := T.t3.cells; obtain ⟨r1, r2, r3, r4⟩ := T.t4.cells; obtain ⟨r5, r6, r7, r8⟩ := T.t5.cells)
      | (go_at_call 89; go_loud (with_reducible refine (big_plus na n5 ax a5 k k5 ca c5 A (-(F * B)) _ (IsBig.keeps hA' (by repeat' (first | (with_reducible exact Keeps.refl _) | (with_reducible refine Keeps.alloc ?_ _) | (with_reducible refine Keeps.drew ?_) | (with_reducible refine Keeps.drewN ?_ _) | (with_reducible refine Keeps.set ?_ _ _ (T := 128) ?_ (by decide)) | (with_reducible exact TyAt.new _ _ _ _ (by simp)) | (with_reducible refine TyAt.set ?_ _ _) | (with_reducible refine TyAt.alloc ?_ _) | (with_reducible refine TyAt.drew ?_) | (with_reducible refine TyAt.drewN ?_ _) | (apply Keeps.below; assumption) | (exact Two.ty (by assumption)) | (apply TyAt.below; rotate_left; assumption)))) (IsBig.keeps hI5 (by repeat' (first | (with_reducible exact Keeps.refl _) | (with_reducible refine Keeps.alloc ?_ _) | (with_reducible refine Keeps.drew ?_) | (with_reducible refine Keeps.drewN ?_ _) | (with_reducible refine Keeps.set ?_ _ _ (T := 128) ?_ (by decide)) | (with_reducible exact TyAt.new _ _ _ _ (by simp)) | (with_reducible refine TyAt.set ?_ _ _) | (with_reducible refine TyAt.alloc ?_ _) | (with_reducible refine TyAt.drew ?_) | (with_reducible refine TyAt.drewN ?_ _) | (apply Keeps.below; assumption) | (exact Two.ty (by assumption)) | (apply TyAt.below; rotate_left; assumption)))) ?_ ?_).mono ?_); omega; omega; rintro e w6 hB6; obtain ⟨n6, a6, k6, c6, rfl, hI6, hb6⟩ := hB6.out; obtain ⟨hc6, hf6⟩ := bcell hb6; replace T := Three.below hb6 (by with_reducible first | exact T.drew | exact (T.put l1 _ _).drew | exact T | exact T.put l1 _ _); obtain ⟨p1, p2, p3, p4⟩ := T.t1.cells; obtain ⟨p5, p6, p7, p8⟩ := T.t2.cells; obtain ⟨q1, q2, q3, q4⟩ := T.t3.cells; obtain ⟨r1, r2, r3, r4⟩ := T.t4.cells; obtain ⟨r5, r6, r7, r8⟩ := T.t5.cells))
    go_wp2_with fail
    have hQ6 := IsBig.keeps hQ (show Keeps wc w6 from (by repeat' (first | (with_reducible exact Keeps.refl _) | (with_reducible refine Keeps.alloc ?_ _) | (with_reducible refine Keeps.drew ?_) | (with_reducible refine Keeps.drewN ?_ _) | (with_reducible refine Keeps.set ?_ _ _ (T := 128) ?_ (by decide)) | (with_reducible exact TyAt.new _ _ _ _ (by simp)) | (with_reducible refine TyAt.set ?_ _ _) | (with_reducible refine TyAt.alloc ?_ _) | (with_reducible refine TyAt.drew ?_) | (with_reducible refine TyAt.drewN ?_ _) | (apply Keeps.below; assumption) | (exact Two.ty (by assumption)) | (apply TyAt.below; rotate_left; assumption))))
    have hN := IsBig.put (IsBig.put hQ6 T.t4 (.bool qn) (.slice qa qk qc)) (T.put l1 (.bool qn) (.slice qa qk qc)).t5 (.bool n6) (.slice a6 k6 c6)
    have hO := IsBig.put (IsBig.put hI6 T.t4 (.bool qn) (.slice qa qk qc)) (T.put l1 (.bool qn) (.slice qa qk qc)).t5 (.bool n6) (.slice a6 k6 c6)
    have hl : Below w.heap.size w w6 := below_step (below_step (below_step hbl (below_undrew hb4)) hb5) hb6
    have hL := BP (BP hl (b := w.heap.size + 1 + 1) (by omega) (.bool qn) (.slice qa qk qc)) (b := w.heap.size + 1 + 1 + 1) (by omega) (.bool n6) (.slice a6 k6 c6)
    (go_light; simp [bodyPost, results, Try.results108, go_sem, *])
    exact ⟨qn, qa, qk, qc, n6, a6, k6, c6, rfl, hN, hO, hL⟩
end Go.Proofs.Ythofammjbicogaa
namespace Go.Proofs.Ythofammjbicogaa
open Go.RowKit
set_option linter.unusedSimpArgs false
set_option linter.unusedVariables false

/-- A number, or a giving up. -/
def Gives (n c : Int) (w : World) (e : Ending) (w' : World) : Prop := (c = 0 → e = .returned (.int .i64 n)) ∧ (c ≠ 0 → e = .panicked (gave c)) ∧ Below w.heap.size w w'
def partE (a n d : Int) : Int := if d = 0 then 3 else if lenB (fq (a * n) d) then 0 else 2
def partN (a n d : Int) : Int := if d = 0 then 0 else if lenB (fq (a * n) d) then fq (a * n) d else 0
theorem lenB_iff (X : Int) : lenB X = true ↔ LenB X := by unfold lenB LenB; simp
theorem fix_part_any (a n d : Int) (ha : IFit a) (hn : IFit n) (hd : IFit d) (w : World) :
    Calls Try.prog 117 #[.int .i64 a, .int .i64 n, .int .i64 d] w (Gives (partN a n d) (partE a n d) w) := by
  unfold Gives partN partE
  by_cases h0 : d = 0
  · subst h0
    refine (fix_part_zero a n w).mono fun e w' h => ?_
    obtain ⟨rfl, rfl⟩ := h
    exact ⟨fun h => by simp at h, fun _ => by simp, Below.refl _ _⟩
  · simp only [if_neg h0]
    cases hl : lenB (fq (a * n) d)
    · exact (fix_part_no a n d ha hn hd h0 (fun h => by rw [(lenB_iff _).2 h] at hl; cases hl) w).mono fun e w' h => ⟨fun h => by simp at h, fun _ => h.1, h.2⟩
    · exact (fix_part a n d ha hn hd h0 ((lenB_iff _).1 hl) w).mono fun e w' h => ⟨fun _ => h.1, fun h => by simp at h, h.2⟩
def scaleE (n p q : Int) : Int := if goodB p q then partE n p q else 1
def scaleN (n p q : Int) : Int := if goodB p q then partN n p q else 0
theorem goodB_pos {p q : Int} (h : goodB p q = true) : 1 ≤ q := by unfold goodB at h; simp at h; omega
/-- A closure that puts a number into a block's cell, or gives up. -/
def Puts (b off : Nat) (n c : Int) (w : World) (e : Ending) (w' : World) : Prop :=
  (c = 0 → e = .returned (.tuple #[]) ∧ ∃ w3, Below w.heap.size w w3 ∧ w' = w3.setCell ⟨b, off, none⟩ (.int .i64 n)) ∧ (c ≠ 0 → e = .panicked (gave c) ∧ Below w.heap.size w w')
theorem try_puts (F : Nat) (cap : Array Value) (b off : Nat) (n c : Int) (w : World) (cs : Array Value) (T : TypeId) (hb : Blk w b cs T) (hen : ∀ w, (callFunc F cap).run Try.prog w = .ok (.enter F cap) w)
    (h : ∀ W, Below w.heap.size w W → Calls Try.prog F cap W (Puts b off n c W)) :
    Calls Try.prog 16 #[.func (.func F) #[] cap] w fun e w' => e = .returned (.int .i64 c) ∧ But b w w' ∧ Blk w' b (if c = 0 then cs.setIfInBounds off (.int .i64 n) else cs) T := by
  have hlt := hb.lt
  have o1 : Blk (w.alloc (.cells #[.int .i64 0] 32)) w.heap.size #[.int .i64 0] 32 := Blk.new w _ _ _ rfl
  have b1 := hb.alloc (.cells #[.int .i64 0] 32)
  refine (fix_try F cap w (fun c' w1 => c' = c ∧ But b (w.alloc (.cells #[.int .i64 0] 32)) w1 ∧ Blk w1 b (if c = 0 then cs.setIfInBounds off (.int .i64 n) else cs) T) hen ((h _ (by repeat' (first | (with_reducible exact Below.refl _ _) | (with_reducible assumption) | (with_reducible refine below_alloc ?_ _ ?_) | (with_reducible refine below_set _ ?_ ?_) | (with_reducible refine Below.drew ?_) | (with_reducible refine below_dN ?_ _) | (apply below_thenA; assumption) | omega | (simp; done) | (simp; omega) | (simp [*]; done)))).mono fun e w1 x => ?_)).mono fun e w' x => ?_
  · by_cases hc : c = 0
    · obtain ⟨rfl, w3, hb3, rfl⟩ := x.1 hc
      have o3 := (o1.below hb3).other (c := b) (by omega) off (.int .i64 n)
      refine ⟨o3.cell 0 _ rfl, o3.free 0, .inl ⟨rfl, hc.symm, (But.of hb3).trans (But.set _ _ _), ?_⟩⟩
      rw [if_pos hc]
      exact (b1.below hb3).set _ _
    · obtain ⟨rfl, hb3⟩ := x.2 hc
      have o3 := o1.below hb3
      refine ⟨o3.cell 0 _ rfl, o3.free 0, .inr ⟨c, rfl, rfl, But.of hb3, ?_⟩⟩
      rw [if_neg hc]
      exact b1.below hb3
  · obtain ⟨c', w1, ⟨rfl, hbut, hblk⟩, rfl, rfl⟩ := x
    refine ⟨rfl, ((But.of (b := b) (show Below w.heap.size w (w.alloc (.cells #[.int .i64 0] 32)) from (by repeat' (first | (with_reducible exact Below.refl _ _) | (with_reducible assumption) | (with_reducible refine below_alloc ?_ _ ?_) | (with_reducible refine below_set _ ?_ ?_) | (with_reducible refine Below.drew ?_) | (with_reducible refine below_dN ?_ _) | (apply below_thenA; assumption) | omega | (simp; done) | (simp; omega) | (simp [*]; done))))).trans hbut).setNew (Nat.le_refl _) _ _, hblk.other (by omega) _ _⟩
/-- Try over a closure that turns some old blocks. -/
theorem try_blks (F : Nat) (cap : Array Value) (c : Int) (L : List (Nat × Array Value × TypeId)) (w : World) (hl : ∀ e, e ∈ L → e.1 < w.heap.size) (hen : ∀ w, (callFunc F cap).run Try.prog w = .ok (.enter F cap) w)
    (h : ∀ W, Below w.heap.size w W → Calls Try.prog F cap W fun e W' => (c = 0 → e = .returned (.tuple #[])) ∧ (c ≠ 0 → e = .panicked (gave c)) ∧ BlkL W' L ∧ ButL (L.map (·.1)) W W') :
    Calls Try.prog 16 #[.func (.func F) #[] cap] w fun e w' => e = .returned (.int .i64 c) ∧ BlkL w' L ∧ ButL (L.map (·.1)) w w' := by
  have o1 : Blk (w.alloc (.cells #[.int .i64 0] 32)) w.heap.size #[.int .i64 0] 32 := Blk.new w _ _ _ rfl
  have hnew : w.heap.size ∉ L.map (·.1) := fun hm => by
    obtain ⟨e, he, e2⟩ := List.mem_map.1 hm
    have := hl e he
    omega
  refine (fix_try F cap w (fun c' w1 => c' = c ∧ BlkL w1 L ∧ ButL (L.map (·.1)) (w.alloc (.cells #[.int .i64 0] 32)) w1) hen ((h _ (by repeat' (first | (with_reducible exact Below.refl _ _) | (with_reducible assumption) | (with_reducible refine below_alloc ?_ _ ?_) | (with_reducible refine below_set _ ?_ ?_) | (with_reducible refine Below.drew ?_) | (with_reducible refine below_dN ?_ _) | (apply below_thenA; assumption) | omega | (simp; done) | (simp; omega) | (simp [*]; done)))).mono fun e w1 x => ?_)).mono fun e w' x => ?_
  · obtain ⟨x1, x2, x3, x4⟩ := x
    have o3 := o1.butl x4 hnew
    refine ⟨o3.cell 0 _ rfl, o3.free 0, ?_⟩
    by_cases hc : c = 0
    · exact .inl ⟨x1 hc, hc.symm, x3, x4⟩
    · exact .inr ⟨c, x2 hc, rfl, x3, x4⟩
  · obtain ⟨c', w1, ⟨rfl, hblk, hbut⟩, rfl, rfl⟩ := x
    refine ⟨rfl, fun e he => (hblk e he).other (Nat.ne_of_lt (hl e he)) _ _, ((ButL.of (l := L.map (·.1)) (show Below w.heap.size w (w.alloc (.cells #[.int .i64 0] 32)) from (by repeat' (first | (with_reducible exact Below.refl _ _) | (with_reducible assumption) | (with_reducible refine below_alloc ?_ _ ?_) | (with_reducible refine below_set _ ?_ ?_) | (with_reducible refine Below.drew ?_) | (with_reducible refine below_dN ?_ _) | (apply below_thenA; assumption) | omega | (simp; done) | (simp; omega) | (simp [*]; done))))).trans hbut).setNew (Nat.le_refl _) _ _⟩
end Go.Proofs.Ythofammjbicogaa
namespace Go.Proofs.Ythofammjbicogaa
open Go.RowKit
set_option linter.unusedSimpArgs false
set_option linter.unusedVariables false

/-- The least one of the first k + 1. -/
def minK (xs : List Int) : Nat → Int
  | 0 => xs.getD 0 0
  | j + 1 => min (minK xs j) (xs.getD (j + 1) 0)
theorem minK_neg (xs : List Int) : ∀ j, minK xs j < 0 ↔ ∃ i, i ≤ j ∧ xs.getD i 0 < 0
  | 0 => ⟨fun h => ⟨0, Nat.le_refl _, h⟩, fun ⟨i, hi, h⟩ => by
      obtain rfl : i = 0 := by omega
      exact h⟩
  | j + 1 => by
    have ih := minK_neg xs j
    constructor
    · intro h
      by_cases h1 : minK xs j < 0
      · obtain ⟨i, hi, h2⟩ := ih.1 h1
        exact ⟨i, by omega, h2⟩
      · refine ⟨j + 1, Nat.le_refl _, ?_⟩
        unfold minK at h
        omega
    · rintro ⟨i, hi, h⟩
      unfold minK
      by_cases e : i = j + 1
      · subst e; omega
      · have := ih.2 ⟨i, by omega, h⟩
        omega
set_option maxRecDepth 100000 in
set_option maxHeartbeats 1600000 in
theorem sl_min (ao : Option Addr) (k cap : Nat) (xs : List Int) (hk : 0 < k) (hk2 : k ≤ 1000000) (w : World) (hx : RowI w ao k xs) :
    Calls Try.prog 111 #[.slice ao k cap] w fun e w' => e = .returned (.int .i64 (minK xs (k - 1))) ∧ w' = w := by
  obtain ⟨g, off, rfl, hg, hc0⟩ := hx.at hk
  have HX := Lib.hid hx
  clear hx
  rw [Nat.add_zero] at hc0
  obtain ⟨m0, em⟩ : ∃ m, xs.getD 0 0 = m := ⟨_, rfl⟩
  rw [em] at hc0
  have EM := Lib.hid em
  clear em
  have hk' : ¬ (k : Int) < 1 := by omega
  have hk3 : (0 : Int) < (k : Int) := by omega
  go_enter Try.func111, Try.ntmps111
  go_wp2_with fail
  go_loopg [3, 4] k (fun gk s3 s4 wr => ∃ (j : Nat), j + 1 ≤ k ∧ gk = k - j ∧ s3 = .int .i64 (minK xs j) ∧ s4 = .int .i64 ((j : Int) + 1) ∧ w = wr)
  case atStart => exact ⟨0, by omega, by omega, by rw [← EM.out]; rfl, rfl, rfl⟩
  case round =>
    obtain ⟨j, hj, rfl, rfl, rfl, rfl⟩ := hrel
    by_cases hjk : j + 1 < k
    · have ix : (j : Int) + 1 < (k : Int) := by omega
      obtain ⟨g', off', e', _, hcx⟩ := HX.out.at hjk
      obtain ⟨rfl, rfl⟩ : g = g' ∧ off = off' := by simpa using e'
      obtain ⟨x, ex⟩ : ∃ x, xs.getD (j + 1) 0 = x := ⟨_, rfl⟩
      rw [ex] at hcx
      have EX := Lib.hid ex
      obtain ⟨m, em⟩ : ∃ m, minK xs j = m := ⟨_, rfl⟩
      rw [em]
      have EJ := Lib.hid em
      clear ex em e'
      go_wp2_with fail
      go_roundg (k - (j + 1))
      case measure => omega
      case rel => exact ⟨j + 1, by omega, rfl, by unfold minK; rw [EX.out, EJ.out], by go_num, rfl⟩
    · obtain rfl : k = j + 1 := by omega
      have ix : ¬ (j : Int) + 1 < ((j + 1 : Nat) : Int) := by omega
      go_wp2_with fail
      go_ret
      exact ⟨rfl, rfl⟩
def allE (xs : List Int) (k : Nat) : Int := if pre xs k ≤ 4611686018427387904 then 0 else 2
def allN (xs : List Int) (k : Nat) : Int := if pre xs k ≤ 4611686018427387904 then pre xs k else 0
set_option maxRecDepth 100000 in
set_option maxHeartbeats 1600000 in
theorem sh_all (ao : Option Addr) (k cap : Nat) (xs : List Int) (hk2 : k ≤ 1000000) (hn : Nonneg xs) (hf : Fits xs) (w : World) (hx : RowI w ao k xs) :
    Calls Try.prog 113 #[.slice ao k cap] w (Gives (allN xs k) (allE xs k) w) := by
  obtain ⟨Q, eQ⟩ : ∃ Q, Q = Gives (allN xs k) (allE xs k) w := ⟨_, rfl⟩
  rw [← eQ]
  have EQ := Lib.hid eQ
  have HX := Lib.hid hx
  have HN := Lib.hid hn
  have HF := Lib.hid hf
  clear hx hn hf eQ
  go_enter Try.func113, Try.ntmps113
  go_wp2_with fail
  go_loopg [3, 8] k (fun gk s3 s8 wr => ∃ (j : Nat) (s : Int), j ≤ k ∧ gk = k - j ∧ s3 = .int .i64 s ∧ s8 = .int .i64 ((j : Int)) ∧ s = pre xs j ∧ s ≤ 4611686018427387904 ∧ w = wr)
  case atStart => exact ⟨0, 0, by omega, by omega, rfl, rfl, rfl, by omega, rfl⟩
  case round =>
    obtain ⟨j, s, hj, rfl, rfl, rfl, es, hs, rfl⟩ := hrel
    have hs0 : 0 ≤ s := by rw [es]; exact pre_nonneg HN.out j
    have ES := Lib.hid es
    clear es
    by_cases hjk : j < k
    · have ix : (j : Int) < (k : Int) := by omega
      obtain ⟨g, off, rfl, _, hcx⟩ := HX.out.at hjk
      obtain ⟨x, ex⟩ : ∃ x, xs.getD j 0 = x := ⟨_, rfl⟩
      have hx0 := HN.out j
      have hx1 := (HF.out j).2
      rw [ex] at hcx hx0 hx1
      have EX := Lib.hid ex
      clear ex
      by_cases hL : 4611686018427387904 - s < x
      · have hE : ¬ pre xs k ≤ 4611686018427387904 := by
          have h1 := pre_mono HN.out (show j + 1 ≤ k by omega)
          have h2 : pre xs (j + 1) = pre xs j + xs.getD j 0 := rfl
          rw [← ES.out, EX.out] at h2
          omega
        have HE := Lib.hid hE
        clear hE
        go_wp2_with (go_at_call 86; with_reducible refine (fix_fail2 _).mono ?_; rintro e w2 ⟨rfl, rfl⟩)
        simp only [bodyPost]
        rw [EQ.out]
        unfold allN allE
        have hE := HE.out
        rw [if_neg (by omega), if_neg (by omega)]
        refine ⟨trivial, ?_⟩
        unfold Gives
        exact ⟨(fun h => absurd h (by decide)), (fun _ => rfl), Below.refl _ _⟩
      · go_wp2_with fail
        go_roundg (k - (j + 1))
        case measure => omega
        case rel => exact ⟨j + 1, s + x, by omega, rfl, rfl, by go_num, by rw [ES.out, ← EX.out]; rfl, by omega, rfl⟩
    · obtain rfl : j = k := by omega
      have ix : ¬ (j : Int) < (j : Int) := by omega
      go_wp2_with fail
      rw [EQ.out]
      have hs' := hs
      rw [ES.out] at hs'
      unfold allN allE
      rw [if_pos hs', if_pos hs', ES.out]
      exact ⟨fun _ => rfl, fun h => absurd rfl h, Below.refl _ _⟩
def PartRel (w : World) (t S : Int) (xs : List Int) (k : Nat) (gk : Nat) (s7 s8 s9 s15 : Value) (wr : World) : Prop :=
  ∃ (j : Nat) (ao : Option Addr) (cap : Nat) (p b : Int), j ≤ k ∧ gk = k - j ∧ s7 = .slice ao j cap ∧ s8 = .int .i64 p ∧ s9 = .int .i64 b ∧ s15 = .int .i64 ((j : Int)) ∧ p = pre xs j ∧ b = t * pre xs j / S ∧ OwnI wr w.heap.size ao j cap (partsN t S xs j) ∧ Below w.heap.size w wr
def PartsAns (t S : Int) (xs : List Int) (k : Nat) (w : World) (e : Ending) (w' : World) : Prop :=
  ∃ ao cap, e = .returned (.slice ao k cap) ∧ OwnI w' w.heap.size ao k cap (partsN t S xs k) ∧ Below w.heap.size w w'
theorem bound_len {t p S : Int} (hp : 0 ≤ p) (hS : p ≤ S) (ht : LenB t) : LenB (t * p / S) := by
  have h := @bound_abs t p S hp hS
  unfold LenB at *
  by_cases h0 : 0 ≤ t
  · have := h.1 h0; omega
  · have := h.2 (by omega); omega
set_option maxRecDepth 100000 in
set_option maxHeartbeats 3200000 in
theorem sh_parts (t S : Int) (ao : Option Addr) (k cap : Nat) (xs : List Int) (hk2 : k ≤ 1000000) (hn : Nonneg xs) (ht : LenB t) (hS : pre xs k ≤ S) (hS0 : 0 < S) (hS1 : S ≤ 4611686018427387904) (w : World) (hx : RowI w ao k xs) :
    Calls Try.prog 114 #[.int .i64 t, .slice ao k cap, .int .i64 S] w (PartsAns t S xs k w) := by
  obtain ⟨Q, eQ⟩ : ∃ Q, Q = PartsAns t S xs k w := ⟨_, rfl⟩
  rw [← eQ]
  obtain ⟨i0, hi, hz0, hz1, hz2⟩ := info_parts (show (Try.prog.info? 2).map (fun i => (i.zero, i.size, i.bytes)) = some (some (.int .i64 0), 1, 8) by kernel_rfl)
  have EQ := Lib.hid eQ
  have HX := Lib.hid hx
  have HN := Lib.hid hn
  have HT := Lib.hid ht
  have HS := Lib.hid hS
  clear hx hn ht eQ hS
  go_enter Try.func114, Try.ntmps114
  go_wp2_with fail
  go_loopg [7, 8, 9, 15] k (fun gk s7 s8 s9 s15 wr => PartRel w t S xs k gk s7 s8 s9 s15 wr)
  case atStart => exact ⟨0, none, 0, 0, 0, by omega, by omega, rfl, rfl, rfl, rfl, rfl, by show (0 : Int) = t * 0 / S; rw [Int.mul_zero, Int.zero_ediv], OwnI.nil _ _, Below.refl _ _⟩
  case round =>
    obtain ⟨j, aj, cj, p, b, hj, rfl, rfl, rfl, rfl, rfl, ep, eb, ho, hB⟩ := hrel
    have hp0 : 0 ≤ p := by rw [ep]; exact pre_nonneg HN.out j
    have hpS : p ≤ S := by rw [ep]; exact Int.le_trans (pre_mono HN.out hj) HS.out
    have hbL : LenB b := by rw [eb, ← ep]; exact bound_len hp0 hpS HT.out
    have hb1 := hbL.1
    have hb2 := hbL.2
    have EP := Lib.hid ep
    have EB := Lib.hid eb
    clear ep eb hbL
    have hsz := hB.size
    by_cases hjk : j < k
    · have ix : (j : Int) < (k : Int) := by omega
      obtain ⟨g, off, rfl, _, hcx⟩ := (HX.out.below hB).at hjk
      obtain ⟨x, ex⟩ : ∃ x, xs.getD j 0 = x := ⟨_, rfl⟩
      have hx0 := HN.out j
      have hx1 : p + xs.getD j 0 ≤ S := by
        have h1 := Int.le_trans (pre_mono HN.out (show j + 1 ≤ k by omega)) HS.out
        have h2 : pre xs (j + 1) = pre xs j + xs.getD j 0 := rfl
        rw [EP.out]; omega
      rw [ex] at hcx hx0 hx1
      have EX := Lib.hid ex
      clear ex
      have hq : fq (t * (p + x)) S = t * (p + x) / S := by unfold fq; rw [if_neg (by omega)]
      have hnL : LenB (t * (p + x) / S) := bound_len (by omega) hx1 HT.out
      have PT := fun W => fix_part t (p + x) S (HT.out.fit) (by unfold IFit; omega) (by unfold IFit; omega) (by omega) (by rw [hq]; exact hnL) W
      rw [hq] at PT
      obtain ⟨nb, enb⟩ : ∃ n, t * (p + x) / S = n := ⟨_, rfl⟩
      rw [enb] at PT hnL
      have hn1 := hnL.1
      have hn2 := hnL.2
      have ENB := Lib.hid enb
      clear enb hq hnL
      go_wp2_with fail
      refine (PT _).mono ?_
      rintro e w1 ⟨rfl, hb⟩
      replace ho := ho.below hb
      replace hB := hB.trans (hb.mono hsz)
      have hsz1 := hB.size
      have hsh := ho.shape
      clear hb PT hcx
      go_wp2_with (at_builtin; refine wpList_append_own _ rfl _ _ 31 rfl w.heap.size 2 i0 (.int .i64 0) 1 8 Try.underlying31 hi hz0 hz1 hz2 rfl (by decide) _ _ _ rfl (ho.1.alloc _) ⟨w1.heap.size, 0, none⟩ 1 1 [.int .i64 (nb - b)] rfl rfl ?c1 ?c2 ?c3 ?c4 ?c5 ?_)
      case c1 =>
        intro j u hj
        match j, hj with
        | 0, hj => simp at hj; subst hj; simp [Addr.add]
      case c2 => intro u hu; simp at hu; subst hu; rfl
      case c3 => unfold maxLen; omega
      case c4 => omega
      case c5 => simp; omega
      intro v' w2 hown' hgrow _
      obtain ⟨ao', cap', rfl, ho', _, hB'⟩ := ho.grown hown' hgrow (by omega)
      replace hB := hB' _ _ (Nat.le_refl _) hB
      clear hown' hgrow hB'
      go_wp2_with fail
      go_roundg (k - (j + 1))
      case measure => omega
      case rel =>
        have e1 : pre xs (j + 1) = p + x := by rw [EP.out, ← EX.out]; rfl
        have e2 : shareAt t S xs j = nb - b := by unfold shareAt; rw [e1, ENB.out, EB.out]
        exact ⟨j + 1, ao', cap', p + x, nb, by omega, rfl, rfl, rfl, rfl, by go_num, e1.symm, by rw [e1]; exact ENB.out.symm, by rw [partsN_succ, e2]; exact ho', hB⟩
    · obtain rfl : j = k := by omega
      have ix : ¬ (j : Int) < (j : Int) := by omega
      go_wp2_with fail
      rw [EQ.out]
      exact ⟨aj, cj, rfl, ho, hB⟩
end Go.Proofs.Ythofammjbicogaa
namespace Go.Proofs.Ythofammjbicogaa
open Go.RowKit
set_option linter.unusedSimpArgs false
set_option linter.unusedVariables false

theorem IsBig.lenpos {w : World} {neg : Bool} {ao : Option Addr} {k cap y : Nat} (h : IsBig w neg ao k cap ((y : Nat) : Int)) : (y = 0 → k = 0) ∧ (0 < y → 0 < k) := by
  obtain ⟨_, ds, h1, h2, h3⟩ := h.nat
  have hl := h1.len
  refine ⟨fun e => ?_, fun e => ?_⟩
  · have := h2.eq_nil (by omega); rw [this] at hl; simp at hl; omega
  · rcases Nat.eq_zero_or_pos k with h0 | h0
    · rw [h0] at hl; have : ds = [] := List.eq_nil_of_length_eq_zero hl; rw [this] at h3; simp [BM.bval] at h3; omega
    · exact h0
theorem fr_nat (x y : Nat) (hy : 0 < y) : fr (x : Int) (y : Int) = ((x % y : Nat) : Int) := by
  rw [fr_pos (by omega)]; simp
/-- The three boxes of Common. -/
def CmB (w : World) (a1 a2 b1 b2 : Value) (wr : World) : Prop :=
  Two wr w.heap.size a1 a2 ∧ Two wr (w.heap.size + 1) b1 b2 ∧ Two wr (w.heap.size + 1 + 1) (.bool false) (.slice none 0 0) ∧ Below w.heap.size w wr
section
variable {w wr w' : World} {a1 a2 b1 b2 : Value}
theorem CmB.ta (h : CmB w a1 a2 b1 b2 wr) : Two wr w.heap.size a1 a2 := h.1
theorem CmB.tb (h : CmB w a1 a2 b1 b2 wr) : Two wr (w.heap.size + 1) b1 b2 := h.2.1
theorem CmB.tc (h : CmB w a1 a2 b1 b2 wr) : Two wr (w.heap.size + 1 + 1) (.bool false) (.slice none 0 0) := h.2.2.1
theorem CmB.bl (h : CmB w a1 a2 b1 b2 wr) : Below w.heap.size w wr := h.2.2.2
theorem CmB.alloc (h : CmB w a1 a2 b1 b2 wr) (o : Obj) : CmB w a1 a2 b1 b2 (wr.alloc o) := ⟨h.ta.alloc o, h.tb.alloc o, h.tc.alloc o, h.bl.alloc h.bl.size o⟩
theorem CmB.drew (h : CmB w a1 a2 b1 b2 wr) : CmB w a1 a2 b1 b2 wr.drew := ⟨h.ta, h.tb, h.tc, h.bl.drew⟩
theorem CmB.below (h : CmB w a1 a2 b1 b2 wr) (hb : Below wr.heap.size wr w') : CmB w a1 a2 b1 b2 w' := ⟨h.ta.below hb, h.tb.below hb, h.tc.below hb, h.bl.trans (hb.mono h.bl.size)⟩
theorem CmB.puts (h : CmB w a1 a2 b1 b2 wr) (c1 c2 d1 d2 : Value) :
    CmB w c1 c2 d1 d2 ((((wr.setCell ⟨w.heap.size, 0, none⟩ c1).setCell ⟨w.heap.size, 1, none⟩ c2).setCell ⟨w.heap.size + 1, 0, none⟩ d1).setCell ⟨w.heap.size + 1, 1, none⟩ d2) :=
  ⟨(h.ta.put c1 c2).put_other (by omega) d1 d2, (h.tb.put_other (by omega) c1 c2).put d1 d2, (h.tc.put_other (by omega) c1 c2).put_other (by omega) d1 d2, BP (BP h.bl (by omega) c1 c2) (by omega) d1 d2⟩
theorem CmB.big (h : CmB w a1 a2 b1 b2 wr) (c1 c2 d1 d2 : Value) {neg : Bool} {ao : Option Addr} {k cap : Nat} {n : Int} (hI : IsBig wr neg ao k cap n) :
    IsBig ((((wr.setCell ⟨w.heap.size, 0, none⟩ c1).setCell ⟨w.heap.size, 1, none⟩ c2).setCell ⟨w.heap.size + 1, 0, none⟩ d1).setCell ⟨w.heap.size + 1, 1, none⟩ d2) neg ao k cap n :=
  IsBig.put (IsBig.put hI h.ta c1 c2) (h.tb.put_other (by omega) c1 c2) d1 d2
end
def ComRel (G K : Nat) (w : World) (g : Nat) (wr : World) : Prop :=
  ∃ (x y : Nat) (na : Bool) (xa : Option Addr) (ka ca : Nat) (nb : Bool) (xb : Option Addr) (kb cb : Nat), g = y ∧ x < 65536 ^ K ∧ y < 65536 ^ K ∧ Nat.gcd x y = G ∧
    CmB w (.bool na) (.slice xa ka ca) (.bool nb) (.slice xb kb cb) wr ∧ IsBig wr na xa ka ca ((x : Nat) : Int) ∧ IsBig wr nb xb kb cb ((y : Nat) : Int)

end Go.Proofs.Ythofammjbicogaa
namespace Go.Proofs.Ythofammjbicogaa
open Go.RowKit
set_option linter.unusedSimpArgs false
set_option linter.unusedVariables false

theorem IsBig.abs {w : World} {neg : Bool} {ao : Option Addr} {k cap : Nat} {n : Int} (h : IsBig w neg ao k cap n) : IsBig w false ao k cap ((n.natAbs : Nat) : Int) := by
  obtain ⟨ds, h1, h2, h3, rfl⟩ := h
  exact ⟨ds, h1, h2, (fun e => by cases e), by cases neg <;> simp [sgn]⟩
/-- Boxes of two cells, by a list. -/
def LX (w : World) (l : List (Nat × Value × Value)) (wX : World) : Prop := (∀ e, e ∈ l → Two wX e.1 e.2.1 e.2.2) ∧ Below w.heap.size w wX
section
variable {w wX w' : World} {l : List (Nat × Value × Value)}
theorem LX.get (h : LX w l wX) {b : Nat} {x y : Value} (hm : (b, x, y) ∈ l) : Two wX b x y := h.1 _ hm
theorem LX.bl (h : LX w l wX) : Below w.heap.size w wX := h.2
theorem LX.alloc (h : LX w l wX) (o : Obj) : LX w l (wX.alloc o) := ⟨fun e he => (h.1 e he).alloc o, h.bl.alloc h.bl.size o⟩
theorem LX.drew (h : LX w l wX) : LX w l wX.drew := ⟨fun e he => h.1 e he, h.bl.drew⟩
theorem LX.below (hb : Below wX.heap.size wX w') (h : LX w l wX) : LX w l w' := ⟨fun e he => (h.1 e he).below hb, h.bl.trans (hb.mono h.bl.size)⟩
theorem LX.set (h : LX w l wX) (c o : Nat) (v : Value) (hc : ∀ e, e ∈ l → e.1 ≠ c) (hb : w.heap.size ≤ c) : LX w l (wX.setCell ⟨c, o, none⟩ v) :=
  ⟨fun e he => (Below.heap_setCell _ _ _ _ (hc e he)).trans (h.1 e he), h.bl.setCell (p := ⟨c, o, none⟩) hb v⟩
theorem LX.fresh (h : LX w l wX) : ∀ e, e ∈ l → e.1 ≠ wX.heap.size := fun e he => Nat.ne_of_lt (h.1 e he).lt
theorem LX.fresh' (h : LX w l wX) : ∀ e, e ∈ l → e.1 ≠ wX.heap.size + 1 := fun e he => Nat.ne_of_lt (Nat.lt_succ_of_lt (h.1 e he).lt)
theorem LX.add (h : LX w l wX) {b : Nat} {x y : Value} (t : Two wX b x y) : LX w ((b, x, y) :: l) wX :=
  ⟨fun e he => (List.mem_cons.1 he).elim (fun x => by subst x; exact t) (fun x => h.1 e x), h.bl⟩
theorem LX.nil (hb : Below w.heap.size w wX) : LX w [] wX := ⟨fun e he => absurd he (List.not_mem_nil), hb⟩
end
end Go.Proofs.Ythofammjbicogaa
namespace Go.Proofs.Ythofammjbicogaa
open Go.RowKit
set_option linter.unusedSimpArgs false
set_option linter.unusedVariables false

theorem Two.drew {w : World} {b : Nat} {x y : Value} (h : Two w b x y) : Two w.drew b x y := h
theorem Two.belowX {w w' : World} {b : Nat} {x y : Value} (hb : Below w.heap.size w w') (h : Two w b x y) : Two w' b x y := h.below hb
theorem Two.putE {w : World} {b : Nat} (h : ∃ x y, Two w b x y) (u v : Value) : Two ((w.setCell ⟨b, 0, none⟩ u).setCell ⟨b, 1, none⟩ v) b u v := by
  obtain ⟨x, y, h⟩ := h; exact h.put u v
theorem Two.putE_other {w : World} {b c : Nat} (h : ∃ x y, Two w b x y) (hc : b ≠ c) (u v : Value) : ∃ x y, Two ((w.setCell ⟨c, 0, none⟩ u).setCell ⟨c, 1, none⟩ v) b x y := by
  obtain ⟨x, y, h⟩ := h; exact ⟨x, y, h.put_other hc u v⟩
theorem Two.newS (w : World) (b : Nat) (u v x y : Value) : Two (((w.setCell ⟨b, 0, none⟩ u).setCell ⟨b, 1, none⟩ v).alloc (.cells #[x, y] 128)) w.heap.size x y := Two.new _ _ _ _ (by simp [World.setCell])
theorem Two.new1 (w : World) (x y : Value) (o : Obj) : Two ((w.alloc o).alloc (.cells #[x, y] 128)) (w.heap.size + 1) x y := Two.new _ _ _ _ (by simp)
theorem IsBig.allocd {w : World} {neg : Bool} {ao : Option Addr} {k cap : Nat} {n : Int} (h : IsBig w neg ao k cap n) (o : Obj) : IsBig (w.alloc o) neg ao k cap n := h.keeps (Keeps.alloc (Keeps.refl w) o)
theorem IsBig.drewd {w : World} {neg : Bool} {ao : Option Addr} {k cap : Nat} {n : Int} (h : IsBig w neg ao k cap n) : IsBig w.drew neg ao k cap n := h.keeps (Keeps.drew (Keeps.refl w))
theorem IsBig.belowX {w w' : World} (hb : Below w.heap.size w w') {neg : Bool} {ao : Option Addr} {k cap : Nat} {n : Int} (h : IsBig w neg ao k cap n) : IsBig w' neg ao k cap n := h.keep hb
theorem LX.n1 {w wX : World} {l : List (Nat × Value × Value)} (h : LX w l wX) : Two (wX.alloc (.cells #[.bool false, .slice none 0 0] 128)) wX.heap.size (.bool false) (.slice none 0 0) := Two.new _ _ _ _ rfl
theorem LX.n21 {w wX : World} {l : List (Nat × Value × Value)} (h : LX w l wX) : Two ((wX.alloc (.cells #[.bool false, .slice none 0 0] 128)).alloc (.cells #[.bool false, .slice none 0 0] 128)) wX.heap.size (.bool false) (.slice none 0 0) := (Two.new _ _ _ _ rfl).alloc _
theorem LX.n22 {w wX : World} {l : List (Nat × Value × Value)} (h : LX w l wX) : Two ((wX.alloc (.cells #[.bool false, .slice none 0 0] 128)).alloc (.cells #[.bool false, .slice none 0 0] 128)) (wX.heap.size + 1) (.bool false) (.slice none 0 0) := Two.new _ _ _ _ (by simp)
theorem LX.room {w wX : World} {l : List (Nat × Value × Value)} (h : LX w l wX) : w.heap.size ≤ wX.heap.size ∧ w.heap.size ≤ wX.heap.size + 1 := ⟨h.bl.size, Nat.le_succ_of_le h.bl.size⟩
theorem LX.c2 {w wX : World} {l : List (Nat × Value × Value)} (h : LX w l wX) {b : Nat} {x y : Value} (hm : (b, x, y) ∈ l) : wX.cell? ⟨b, 0, none⟩ = some x ∧ wX.cell? ⟨b, 1, none⟩ = some y := ⟨(h.get hm).cells.1, (h.get hm).cells.2.1⟩

theorem fq_nat (a g : Nat) (hg : 0 < g) : fq (a : Int) (g : Int) = ((a / g : Nat) : Int) := by unfold fq; rw [if_neg (by omega)]; simp
def LowS (w : World) (l : List (Nat × Value × Value)) (G : Int) (s6 : Value) (wx : World) : Prop :=
  ∃ b n x k c, s6 = .pointer (some ⟨b, 0, none⟩) ∧ LX w l wx ∧ Two wx b (.bool n) (.slice x k c) ∧ IsBig wx n x k c G

def LowT (w : World) (l : List (Nat × Value × Value)) (A C : Int) (cn : Bool) (cx : Option Addr) (ck cc : Nat) (s : Value) (wx : World) : Prop :=
  ∃ b n x k c, s = .pointer (some ⟨b, 0, none⟩) ∧ LX w l wx ∧ Two wx b (.bool n) (.slice x k c) ∧ IsBig wx n x k c A ∧ IsBig wx cn cx ck cc C ∧ (∀ e, e ∈ l → e.1 ≠ b) ∧ w.heap.size ≤ b
def LowR (w : World) (b7 b9 : Nat) (n9 : Bool) (x9 : Option Addr) (k9 c9 : Nat) (A B : Int) (wx : World) : Prop :=
  ∃ n x k c, Two wx b7 (.bool n) (.slice x k c) ∧ IsBig wx n x k c A ∧ Two wx b9 (.bool n9) (.slice x9 k9 c9) ∧ IsBig wx n9 x9 k9 c9 B ∧ Two wx (w.heap.size + 1 + 1) (.bool false) (.slice none 0 0) ∧ Two wx (w.heap.size + 1 + 1 + 1) (.bool false) (.slice none 0 0) ∧ Below w.heap.size w wx
theorem LX.fr {w wX : World} {l : List (Nat × Value × Value)} (h : LX w l wX) : (∀ e, e ∈ l → e.1 ≠ wX.heap.size) ∧ (∀ e, e ∈ l → e.1 ≠ wX.heap.size + 1) := ⟨h.fresh, h.fresh'⟩

end Go.Proofs.Ythofammjbicogaa
namespace Go.Proofs.Ythofammjbicogaa
open Go.RowKit
set_option linter.unusedSimpArgs false
set_option linter.unusedVariables false

theorem low_good (n d : Int) (hn : IFit n) (hd : IFit d) (h1 : 1 ≤ d) (A B : Int) (hA : A = if n < 0 then -((n.natAbs / Nat.gcd n.natAbs d.natAbs : Nat) : Int) else ((n.natAbs / Nat.gcd n.natAbs d.natAbs : Nat) : Int)) (hB : B = ((d.natAbs / Nat.gcd n.natAbs d.natAbs : Nat) : Int)) :
    (A = n ∧ B = d) ↔ Nat.gcd n.natAbs d.natAbs = 1 := by
  have hg : 0 < Nat.gcd n.natAbs d.natAbs := Nat.gcd_pos_of_pos_right _ (by omega)
  constructor
  · rintro ⟨_, h2⟩
    rw [hB] at h2
    have h3 : d.natAbs / Nat.gcd n.natAbs d.natAbs = d.natAbs := by omega
    rcases Nat.lt_or_ge 1 (Nat.gcd n.natAbs d.natAbs) with h | h
    · have := Nat.div_lt_self (show 0 < d.natAbs by omega) h
      omega
    · omega
  · intro h
    rw [h] at hA hB
    rw [Nat.div_one] at hA hB
    refine ⟨?_, by omega⟩
    rw [hA]; split <;> omega
theorem intB_iff' (p : Int) : intB p = true ↔ IFit p := by unfold intB IFit; simp; omega
theorem IsBig.sign {w : World} {neg : Bool} {ao : Option Addr} {k cap : Nat} {n : Int} (h : IsBig w neg ao k cap n) : neg = decide (n < 0) := by
  obtain ⟨ds, h1, h2, h3, rfl⟩ := h
  cases neg
  · simp [sgn]
  · have : BM.bval ds ≠ 0 := fun e => h3 rfl (h2.eq_nil e)
    simp [sgn]; omega
theorem goodB_iff (n d : Int) (h1 : 1 ≤ d) : goodB n d = true ↔ Nat.gcd n.natAbs d.natAbs = 1 := by
  unfold goodB
  obtain ⟨g, eg⟩ : ∃ g, Nat.gcd n.natAbs d.natAbs = g := ⟨_, rfl⟩
  rw [eg]
  simp [h1]; omega
end Go.Proofs.Ythofammjbicogaa
namespace Go.Proofs.Ythofammjbicogaa
open Go Go.RowKit
section
variable {P : Program} {ops : Array Oper} {Q : Exit → Act → World → Prop} {md : Region.Mode}

/-- Whatever an operation waits for stands ahead of it in the text. -/
def earlier (ops : Array Oper) : Bool := (List.range ops.size).all fun i => ((ops[i]?).map fun o => o.after.all fun e => !Region.binds .any e || decide (e.on < i)).getD true
theorem earlier_spec (h : earlier ops = true) {i : Nat} {o : Oper} (ho : ops[i]? = some o) {e : Edge} (he : e ∈ o.after) (hb : Region.binds .any e = true) : e.on < i := by
  have hlt : i < ops.size := (Array.getElem?_eq_some_iff.1 ho).1
  unfold earlier at h
  have h1 := List.all_eq_true.1 h i (List.mem_range.2 hlt)
  rw [ho] at h1
  simp only [Option.map_some, Option.getD_some, Array.all_eq_true_iff_forall_mem, Bool.or_eq_true, decide_eq_true_eq] at h1
  exact (h1 e he).resolve_left (by simp [hb])
/-- Does operation i wait for operation k, through others too? -/
def anc (ops : Array Oper) : Nat → Nat → Nat → Bool
  | 0, _, _ => false
  | f + 1, i, k => ((ops[i]?).map fun o => o.after.toList.any fun e => Region.binds .any e && (e.on == k || anc ops f e.on k)).getD false
/-- Whatever has come up, all for which it waits has come up. -/
def closed (ops : Array Oper) (listed : Array Bool) : Prop :=
  ∀ i o, ops[i]? = some o → listed.getD i false = true → ∀ e ∈ o.after, Region.binds .any e = true → listed.getD e.on false = true
theorem anc_listed {listed : Array Bool} (hc : closed ops listed) : ∀ (f i k : Nat),
    (∀ o, ops[i]? = some o → ∀ e ∈ o.after, Region.binds .any e = true → listed.getD e.on false = true) → anc ops f i k = true → listed.getD k false = true
  | 0, _, _, _, h => by simp [anc] at h
  | f + 1, i, k, hd, h => by
    unfold anc at h
    cases ho : ops[i]? with
    | none => rw [ho] at h; simp at h
    | some o =>
      rw [ho] at h
      simp only [Option.map_some, Option.getD_some, List.any_eq_true, Array.mem_toList_iff, Bool.and_eq_true, Bool.or_eq_true, beq_iff_eq] at h
      obtain ⟨e, he, hb, h⟩ := h
      have hl := hd o ho e he hb
      rcases h with rfl | h
      · exact hl
      · exact anc_listed hc f e.on k (fun o' ho' => hc e.on o' ho' hl) h
theorem all_listed (h : earlier ops = true) {listed : Array Bool} (hs : listed.size = ops.size) (hr : Region.ready .any ops listed = []) :
    ∀ i, i < ops.size → listed.getD i false = true := by
  intro i
  induction i using Nat.strongRecOn with
  | ind i ih =>
    intro hi
    cases hg : listed.getD i false with
    | true => rfl
    | false =>
      have ho : ops[i]? = some ops[i] := Array.getElem?_eq_getElem hi
      have h1 : i ∈ Region.ready .any ops listed := by
        rw [mem_ready]
        refine ⟨?_, ops[i], ho, fun e he hb => ?_⟩
        · have hl : i < listed.size := by omega
          simp [hl] at hg ⊢
          exact hg
        · have := earlier_spec h ho he hb
          exact ih e.on this (by omega)
      rw [hr] at h1
      cases h1
def upd (vs : Nat → Value) (i : Nat) (v : Value) : Nat → Value := fun k => if k = i then v else vs k
theorem upd_self (vs : Nat → Value) (i : Nat) (v : Value) : upd vs i v i = v := by simp [upd]
theorem upd_ne (vs : Nat → Value) (i : Nat) (v : Value) (k : Nat) (h : k ≠ i) : upd vs i v k = vs k := by simp [upd, h]
theorem set_size (listed : Array Bool) (i : Nat) : (listed.setIfInBounds i true).size = listed.size := by simp
theorem getD_self {listed : Array Bool} {i : Nat} (h : i < listed.size) : (listed.setIfInBounds i true).getD i false = true := by simp [h]
theorem wpAny_inv (he : earlier ops = true) (I : Array Bool → Act → World → Prop)
    (step : ∀ listed a w, listed.size = ops.size → closed ops listed → I listed a w → ∀ i, i ∈ Region.ready .any ops listed → wpOp P ops Q i (I (listed.setIfInBounds i true)) a w)
    (fin : ∀ listed a w, (∀ i, i < ops.size → listed.getD i false = true) → I listed a w → Q .normal a w) :
    ∀ (fuel : Nat) (listed : Array Bool) (a : Act) (w : World), listed.size = ops.size → closed ops listed → listed.toList.count false ≤ fuel → I listed a w → wpAny P .any ops Q fuel listed a w
  | 0, listed, a, w, hs, hc, hf, hI => by
    have h0 : ∀ i, i < ops.size → listed.getD i false = true := by
      intro i hi
      have hl : i < listed.size := by omega
      have h1 := List.count_eq_zero.1 (Nat.le_zero.1 hf)
      cases hg : listed[i] with
      | true => simp [hl, hg]
      | false => exact absurd (by rw [← hg, ← Array.getElem_toList]; exact List.getElem_mem _) h1
    refine ⟨?_, fin listed a w h0 hI⟩
    rw [List.eq_nil_iff_forall_not_mem]
    intro i hi
    obtain ⟨h1, o, ho, _⟩ := mem_ready.1 hi
    have hlt : i < ops.size := (Array.getElem?_eq_some_iff.1 ho).1
    have h2 := h0 i hlt
    have hl : i < listed.size := by omega
    simp [hl] at h1 h2
    rw [h1] at h2; cases h2
  | fuel + 1, listed, a, w, hs, hc, hf, hI => by
    refine ⟨fun hr => fin listed a w (all_listed he hs hr) hI, fun i hi => ?_⟩
    obtain ⟨h1, o, ho, hdep⟩ := mem_ready.1 hi
    have hlt : i < ops.size := (Array.getElem?_eq_some_iff.1 ho).1
    have hl : i < listed.size := by omega
    refine wpOp_mono (fun a' w' h => wpAny_inv he I step fin fuel _ a' w' (by rw [set_size]; exact hs) ?_ ?_ h) (step listed a w hs hc hI i hi)
    · intro j oj hj hjl e hej hb
      by_cases hij : j = i
      · subst hij
        rw [ho] at hj
        obtain rfl := Option.some.inj hj
        exact getD_set_true (hdep e hej hb)
      · rw [getD_set_ne false (fun h => hij h.symm)] at hjl
        exact getD_set_true (hc j oj hj hjl e hej hb)
    · have h2 : listed[i] = false := by simpa [hl] using h1
      have h3 : (listed.setIfInBounds i true).toList.count false + 1 = listed.toList.count false := by
        rw [Array.toList_setIfInBounds, List.count_set (by simpa using hl)]
        have h4 : listed.toList[i]'(by simpa using hl) = false := by simpa using h2
        rw [h4]
        have h5 : 0 < listed.toList.count false := List.count_pos_iff.2 (by rw [← h4]; exact List.getElem_mem _)
        simp only [beq_self_eq_true, if_true]
        have h6 : (true == false) = false := rfl
        rw [h6]
        simp only [Bool.false_eq_true, if_false]
        omega
      omega
/-- The state of a region: which temporaries hold what; what stands in memory. -/
theorem wp_region_each {id : Nat} {a : Act} {w : World} (hm : P.follows .mixedOrders = true) (he : earlier ops = true)
    (fr : (Nat → Value) → Act) (B : World → Prop) (V : Nat → (Nat → Value) → World → Prop) (vs0 : Nat → Value) (ha : fr vs0 = a) (hB : B w.drew)
    (step : ∀ i o, ops[i]? = some o → ∀ vs w, B w → (∀ k, anc ops ops.size i k = true → V k vs w) → ∀ K : Act → World → Prop,
      Shut (∀ v w', B w' → V i (upd vs i v) w' → (∀ j, j ≠ i → anc ops ops.size j i = false → V j vs w → V j (upd vs i v) w') → K (fr (upd vs i v)) w') →
      if Region.wanted o (yielded ops (fr vs).tmps) = true then Oper.wp P o (fr vs) w K Q else K ((fr vs).put o.dst undef) w)
    (fin : ∀ vs w, B w → (∀ i, i < ops.size → V i vs w) → Q .normal (fr vs) w) : (Code.region id ops true).wp P Q a w := by
  refine wp_region_any hm ?_
  refine wpAny_inv he (fun listed a w => ∃ vs, a = fr vs ∧ B w ∧ ∀ i, listed.getD i false = true → V i vs w) ?_ ?_ _ _ _ _ (by simp) ?_ (by simp) ⟨vs0, ha.symm, hB, ?_⟩
  · rintro listed a w hs hc ⟨vs, rfl, hB, hV⟩ i hi
    obtain ⟨h1, o, ho, hdep⟩ := mem_ready.1 hi
    have hlt : i < ops.size := (Array.getElem?_eq_some_iff.1 ho).1
    have hl : i < listed.size := by omega
    have h2 : listed.getD i false = false := by simp [hl] at h1 ⊢; exact h1
    refine wpOp_step ho (fun K hK => ?_)
    refine step i o ho vs w hB (fun k hk => hV k (anc_listed hc _ i k (fun o' ho' => ?_) hk)) K (fun v w' hB' hv hrest => hK _ _ ⟨upd vs i v, rfl, hB', fun j hj => ?_⟩)
    · rw [ho] at ho'
      obtain rfl := Option.some.inj ho'
      exact hdep
    · by_cases hji : j = i
      · subst hji; exact hv
      · rw [getD_set_ne false (fun h => hji h.symm)] at hj
        refine hrest j hji ?_ (hV j hj)
        cases ha : anc ops ops.size j i with
        | false => rfl
        | true =>
          have := anc_listed hc _ j i (fun o' ho' => hc j o' ho' hj) ha
          rw [h2] at this; cases this
  · rintro listed a w hall ⟨vs, rfl, hB, hV⟩
    exact fin vs w hB (fun i hi => hV i (hall i hi))
  · intro i o _ h
    rw [Array.getD_eq_getD_getElem?, Array.getElem?_replicate] at h
    split at h <;> simp at h
  · intro i h
    rw [Array.getD_eq_getD_getElem?, Array.getElem?_replicate] at h
    split at h <;> simp at h
/-- The same, where what is known of a value hangs on no other one, and lasts. -/
theorem wp_region_vals {id : Nat} {a : Act} {w : World} (hm : P.follows .mixedOrders = true) (he : earlier ops = true)
    (fr : (Nat → Value) → Act) (E : World → World → Prop) (B : World → Prop) (V : Nat → Value → World → Prop) (vs0 : Nat → Value) (ha : fr vs0 = a) (hB : B w.drew)
    (hBE : ∀ w w', B w → E w w' → B w') (hVE : ∀ k v w w', B w → V k v w → E w w' → V k v w')
    (step : ∀ i o, ops[i]? = some o → ∀ vs w, B w → (∀ k, anc ops ops.size i k = true → V k (vs k) w) → ∀ K : Act → World → Prop,
      Shut (∀ v w', E w w' → V i v w' → K (fr (upd vs i v)) w') →
      if Region.wanted o (yielded ops (fr vs).tmps) = true then Oper.wp P o (fr vs) w K Q else K ((fr vs).put o.dst undef) w)
    (fin : ∀ vs w, B w → (∀ i, i < ops.size → V i (vs i) w) → Q .normal (fr vs) w) : (Code.region id ops true).wp P Q a w :=
  wp_region_each hm he fr B (fun k vs w => V k (vs k) w) vs0 ha hB
    (fun i o ho vs w hB hd K hK => step i o ho vs w hB hd K (fun v w' hE hv => hK v w' (hBE w w' hB hE) (by rw [upd_self]; exact hv)
      (fun j hj _ h => by rw [upd_ne _ _ _ _ hj]; exact hVE j _ w w' hB h hE)))
    fin
/-- A state into whose temporaries the region's values are put. -/
def puts : List Oper → Nat → (Nat → Value) → Act → Act
  | [], _, _, a => a
  | o :: os, i, vs, a => puts os (i + 1) vs (a.put o.dst (vs i))
def dsts (os : List Oper) : List Tmp := os.filterMap (·.dst)
def nodupB : List Nat → Bool
  | [] => true
  | x :: xs => !xs.contains x && nodupB xs
theorem puts_put_ne : ∀ (os : List Oper) (i : Nat) (vs : Nat → Value) (a : Act) (d : Option Tmp) (v : Value), (∀ t, d = some t → t ∉ dsts os) →
    (puts os i vs a).put d v = puts os i vs (a.put d v)
  | [], _, _, _, _, _, _ => rfl
  | o :: os, i, vs, a, d, v, h => by
    unfold puts
    rw [puts_put_ne os (i + 1) vs _ d v (fun t ht hm => h t ht (by
      unfold dsts at *
      rw [List.filterMap_cons]
      split
      · exact hm
      · exact List.mem_cons_of_mem _ hm))]
    congr 1
    refine Act.put_comm a _ _ fun t ht he => ?_
    refine h t (by rw [he]) ?_
    unfold dsts
    rw [List.filterMap_cons, ht]
    exact List.mem_cons_self ..
theorem put_put (a : Act) (d : Option Tmp) (u v : Value) : (a.put d u).put d v = a.put d v := by
  cases d with
  | none => rfl
  | some t => simp [Act.put]
theorem puts_upd : ∀ (os : List Oper) (i j : Nat) (o : Oper) (vs : Nat → Value) (v : Value) (a : Act), nodupB (dsts os) = true → os[j]? = some o →
    (puts os i vs a).put o.dst v = puts os i (upd vs (i + j) v) a
  | [], _, _, _, _, _, _, _, h => by simp at h
  | o' :: os, i, j, o, vs, v, a, hn, h => by
    have hn' : nodupB (dsts os) = true := by
      unfold dsts at hn ⊢
      rw [List.filterMap_cons] at hn
      split at hn
      · exact hn
      · unfold nodupB at hn; rw [Bool.and_eq_true] at hn; exact hn.2
    cases j with
    | zero =>
      simp only [List.getElem?_cons_zero, Option.some.injEq] at h
      subst h
      unfold puts
      have e0 : i + 0 = i := rfl
      rw [e0, upd_self]
      have e : ∀ (a : Act), puts os (i + 1) (upd vs i v) a = puts os (i + 1) vs a := by
        intro a
        have : ∀ (os : List Oper) (k : Nat) (a : Act), i < k → puts os k (upd vs i v) a = puts os k vs a := by
          intro os
          induction os with
          | nil => intros; rfl
          | cons x xs ih =>
            intro k a hk
            unfold puts
            rw [upd_ne vs i v k (by omega)]
            exact ih (k + 1) _ (by omega)
        exact this os (i + 1) a (by omega)
      rw [e]
      rw [puts_put_ne os (i + 1) vs _ o'.dst v (fun t ht hm => by
        unfold dsts at hn hm
        rw [List.filterMap_cons, ht] at hn
        unfold nodupB at hn
        rw [Bool.and_eq_true] at hn
        have := hn.1
        simp at this
        simp at hm
        obtain ⟨x, hx, hxe⟩ := hm
        exact this x hx hxe)]
      rw [put_put]
    | succ j =>
      simp only [List.getElem?_cons_succ] at h
      unfold puts
      rw [puts_upd os (i + 1) j o vs v _ hn' h]
      rw [upd_ne vs (i + (j + 1)) v i (by omega)]
      rw [show i + 1 + j = i + (j + 1) by omega]
/-- What the temporaries hold before the region. -/
def held (os : List Oper) (a : Act) : Nat → Value := fun i => match os[i]? with | some o => (match o.dst with | some d => a.tmps.getD d undef | none => undef) | none => undef
theorem put_same (a : Act) (d : Option Tmp) : a.put d (match d with | some d => a.tmps.getD d undef | none => undef) = a := by
  cases d with
  | none => rfl
  | some t =>
    unfold Act.put
    simp only
    have : a.tmps.setIfInBounds t (a.tmps.getD t undef) = a.tmps := by
      apply Array.ext_getElem?
      intro i
      rw [Array.getElem?_setIfInBounds]
      split
      · rename_i h
        subst h
        split
        · rename_i h; simp [h]
        · rename_i h; simp at h; simp [Array.getElem?_eq_none h]
      · rfl
    rw [this]
theorem puts_held : ∀ (os : List Oper) (i : Nat) (vs : Nat → Value) (a : Act), (∀ j o, os[j]? = some o → vs (i + j) = (match o.dst with | some d => a.tmps.getD d undef | none => undef)) → puts os i vs a = a
  | [], _, _, _, _ => rfl
  | o :: os, i, vs, a, h => by
    unfold puts
    have h0 := h 0 o rfl
    rw [Nat.add_zero] at h0
    rw [h0, put_same]
    refine puts_held os (i + 1) vs a fun j o' ho' => ?_
    have := h (j + 1) o' (by simpa using ho')
    rw [← this]; congr 1; omega
/-- Each of the operations. -/
def Each (ops : Array Oper) (S : Nat → Oper → Prop) : List Oper → Nat → Prop
  | [], _ => True
  | o :: os, i => S i o ∧ Each ops S os (i + 1)
theorem Each.at {S : Nat → Oper → Prop} : ∀ (os : List Oper) (i : Nat), Each ops S os i → ∀ j o, os[j]? = some o → S (i + j) o
  | [], _, _, _, _, h => by simp at h
  | o' :: os, i, h, j, o, ho => by
    cases j with
    | zero =>
      simp only [List.getElem?_cons_zero, Option.some.injEq] at ho
      subst ho; exact h.1
    | succ j =>
      simp only [List.getElem?_cons_succ] at ho
      have := Each.at os (i + 1) h.2 j o ho
      rwa [show i + 1 + j = i + (j + 1) by omega] at this
/-- A claim on a value lasts, whatever is added to memory. -/
def Stays (R : Value → World → Prop) : Prop := ∀ v w w', R v w → Below w.heap.size w w' → R v w'
/-- What an operation leaves: a value of which something holds; or something holds now of another one's value. -/
inductive Cl
  | any
  | own (R : Value → World → Prop) (h : Stays R)
  | at (j : Nat) (R : Value → World → Prop) (h : Stays R)
def Cl.holds (i : Nat) (vs : Nat → Value) (w : World) : Cl → Prop
  | .any => True
  | .own R _ => R (vs i) w
  | .at j R _ => R (vs j) w
def Cl.looks : Cl → Option Nat
  | .at j _ _ => some j
  | _ => none
theorem Cl.below {i : Nat} {vs : Nat → Value} {w w' : World} (hb : Below w.heap.size w w') : ∀ c : Cl, c.holds i vs w → c.holds i vs w'
  | .any, _ => trivial
  | .own _ h, x => h _ _ _ x hb
  | .at _ _ h, x => h _ _ _ x hb
theorem Cl.upd_ne {k i : Nat} {vs : Nat → Value} {v : Value} {w : World} (hk : k ≠ i) : ∀ c : Cl, c.looks ≠ some i → c.holds k vs w → c.holds k (upd vs i v) w
  | .any, _, _ => trivial
  | .own _ _, _, x => by simp only [Cl.holds, Go.Proofs.Ythofammjbicogaa.upd_ne vs i v k hk] at x ⊢; exact x
  | .at j _ _, h, x => by
    have hj : j ≠ i := fun e => h (by rw [e]; rfl)
    simp only [Cl.holds, Go.Proofs.Ythofammjbicogaa.upd_ne vs i v j hj] at x ⊢; exact x
def claim (cls : List Cl) (k : Nat) (vs : Nat → Value) (w : World) : Prop := (cls.getD k .any).holds k vs w
/-- What a claim looks at comes ahead of its operation. -/
def looksOk (os : List Oper) (ls : List (Option Nat)) : Bool :=
  (List.range os.length).all fun k => match ls.getD k none with | some j => anc os.toArray os.length k j | none => true
theorem looksOk_spec {os : List Oper} {cls : List Cl} (h : looksOk os (cls.map Cl.looks) = true) {k j : Nat} (hk : k < os.length) (hj : (cls.getD k .any).looks = some j) : anc os.toArray os.length k j = true := by
  unfold looksOk at h
  have := List.all_eq_true.1 h k (List.mem_range.2 hk)
  have e : (cls.map Cl.looks).getD k none = (cls.getD k .any).looks := by
    simp only [List.getD, List.getElem?_map]
    cases cls[k]? <;> rfl
  rw [e, hj] at this
  exact this
def isPtr (v : Value) (b : Nat) : Prop := v = .pointer (some ⟨b, 0, none⟩)
/-- One operation: it leaves a value that is as it should be; whatever is known lasts: since nothing that stood is touched (hK; hA where a new box is made), or for each by itself (hL). B holds all along; B0 till an operation of ST has come up. -/
def StepAt (P : Program) (Q : Exit → Act → World → Prop) (os : List Oper) (a : Act) (B : World → Prop) (ST : List Nat) (B0 : World → Prop) (cls : List Cl) (AL : List Nat) (i : Nat) (o : Oper) : Prop :=
  ∀ vs w, B w → ((ST.all fun s => s == i || anc os.toArray os.length s i) = true → B0 w) → (∀ k, anc os.toArray os.length i k = true → claim cls k vs w) →
    (∀ j k, j ≠ k → (AL.contains j && AL.contains k && anc os.toArray os.length i j && anc os.toArray os.length i k) = true → vs j ≠ vs k) →
    (∀ k, (k == i || anc os.toArray os.length k i) = true → vs k = held os a k) → ∀ K : Act → World → Prop,
    Shut (AL.contains i = false → ∀ v w', Below w.heap.size w w' → claim cls i (upd vs i v) w' → K ((puts os 0 vs a).put o.dst v) w') →
    Shut (∀ b w', Below w.heap.size w w' → w.heap.size ≤ b → claim cls i (upd vs i (.pointer (some ⟨b, 0, none⟩))) w' → K ((puts os 0 vs a).put o.dst (.pointer (some ⟨b, 0, none⟩))) w') →
    Shut (AL.contains i = false → ∀ v w', B w' → (ST.contains i = false → B0 w') → claim cls i (upd vs i v) w' → (∀ j, j ≠ i → anc os.toArray os.length j i = false → claim cls j vs w → claim cls j vs w') → K ((puts os 0 vs a).put o.dst v) w') →
    if Region.wanted o (yielded os.toArray (puts os 0 vs a).tmps) = true then Oper.wp P o (puts os 0 vs a) w K Q else K ((puts os 0 vs a).put o.dst undef) w
theorem wp_region_cl {os : List Oper} {id : Nat} {a : Act} {w : World} (B : World → Prop) (ST : List Nat) (B0 : World → Prop) (cls : List Cl) (AL : List Nat)
    (hm : P.follows .mixedOrders = true) (he : earlier os.toArray = true) (hn : nodupB (dsts os) = true) (hU : looksOk os (cls.map Cl.looks) = true) (hB : B w.drew) (hB0 : B0 w.drew)
    (hBE : ∀ w w', B w → Below w.heap.size w w' → B w') (hBE0 : ∀ w w', B w → B0 w → Below w.heap.size w w' → B0 w')
    (hAL : ∀ k vs w, AL.contains k = true → claim cls k vs w → ∃ b, isPtr (vs k) b ∧ b < w.heap.size)
    (step : Each os.toArray (StepAt P Q os a B ST B0 cls AL) os 0)
    (fin : ∀ vs w, B w → (∀ i, i < os.length → claim cls i vs w) → (∀ j k, j ≠ k → j < os.length → k < os.length → (AL.contains j && AL.contains k) = true → vs j ≠ vs k) → Q .normal (puts os 0 vs a) w) :
    (Code.region id os.toArray true).wp P Q a w := by
  have hsz : os.toArray.size = os.length := by simp
  refine wp_region_any hm ?_
  refine wpAny_inv he (fun listed a' w => ∃ vs, a' = puts os 0 vs a ∧ B w ∧ ((∀ s, ST.contains s = true → listed.getD s false = false) → B0 w) ∧ (∀ i, listed.getD i false = true → claim cls i vs w) ∧ (∀ i, listed.getD i false = false → vs i = held os a i) ∧
    (∀ j k, j ≠ k → (AL.contains j && AL.contains k) = true → listed.getD j false = true → listed.getD k false = true → vs j ≠ vs k)) ?_ ?_ _ _ _ _ (by simp) ?_ (by simp)
    ⟨held os a, ?_, hB, fun _ => hB0, ?_, fun _ _ => rfl, ?_⟩
  · rintro listed a' w hs hc ⟨vs, rfl, hB, hS, hV, hold, hne⟩ i hi
    obtain ⟨h1, o, ho, hdep⟩ := mem_ready.1 hi
    have hlt : i < os.toArray.size := (Array.getElem?_eq_some_iff.1 ho).1
    have hl : i < listed.size := by omega
    have h2 : listed.getD i false = false := by simp [hl] at h1 ⊢; exact h1
    have ho' : os[i]? = some o := by simpa using ho
    have hanc : ∀ k, anc os.toArray os.length i k = true → listed.getD k false = true := fun k hk => anc_listed hc _ i k (fun o' ho'' => by
      rw [ho] at ho''
      obtain rfl := Option.some.inj ho''
      exact hdep) hk
    have hnot : ∀ j, listed.getD j false = true → anc os.toArray os.length j i = false := fun j hj => by
      cases ha : anc os.toArray os.length j i with
      | false => rfl
      | true =>
        have := anc_listed hc _ j i (fun o' ho' => hc j o' ho' hj) ha
        rw [h2] at this; cases this
    have hlooks : ∀ j, listed.getD j false = true → (cls.getD j .any).looks ≠ some i := fun j hj e => by
      have hjl : j < os.length := by
        have hjs : j < listed.size := by
          rcases Nat.lt_or_ge j listed.size with h' | h'
          · exact h'
          · rw [Array.getD_eq_getD_getElem?, Array.getElem?_eq_none h'] at hj; cases hj
        omega
      have := looksOk_spec hU hjl e
      rw [hnot j hj] at this; cases this
    have hji : ∀ j, (listed.setIfInBounds i true).getD j false = true → j ≠ i → listed.getD j false = true := fun j hj h => by
      rwa [getD_set_ne false (fun x => h x.symm)] at hj
    have hneU : ∀ v, (AL.contains i = true → ∃ b, v = .pointer (some ⟨b, 0, none⟩) ∧ w.heap.size ≤ b) →
        ∀ j k, j ≠ k → (AL.contains j && AL.contains k) = true → (listed.setIfInBounds i true).getD j false = true → (listed.setIfInBounds i true).getD k false = true → upd vs i v j ≠ upd vs i v k := by
      intro v hv j k hjk hal hj hk
      rw [Bool.and_eq_true] at hal
      by_cases h1 : j = i
      · subst h1
        have hki : k ≠ j := fun h => hjk h.symm
        rw [upd_self, upd_ne vs j v k hki]
        obtain ⟨b, rfl, hb⟩ := hv hal.1
        obtain ⟨b', e', hb'⟩ := hAL k vs w hal.2 (hV k (hji k hk hki))
        unfold isPtr at e'
        rw [e']
        intro e; simp at e <;> omega
      · by_cases h3 : k = i
        · subst h3
          rw [upd_self, upd_ne vs k v j h1]
          obtain ⟨b, rfl, hb⟩ := hv hal.2
          obtain ⟨b', e', hb'⟩ := hAL j vs w hal.1 (hV j (hji j hj h1))
          unfold isPtr at e'
          rw [e']
          intro e; simp at e <;> omega
        · rw [upd_ne vs i v j h1, upd_ne vs i v k h3]
          exact hne j k hjk (by rw [Bool.and_eq_true]; exact hal) (hji j hj h1) (hji k hk h3)
    refine wpOp_step ho (fun K hK => ?_)
    have hs1 := Each.at os 0 step i o ho'
    rw [Nat.zero_add] at hs1
    have hnst : (ST.all fun s => s == i || anc os.toArray os.length s i) = true → ∀ s, ST.contains s = true → listed.getD s false = false := by
      intro h s hs
      have h1 := List.all_eq_true.1 h s (by simpa using hs)
      rw [Bool.or_eq_true] at h1
      rcases h1 with h1 | h1
      · obtain rfl : s = i := by simpa using h1
        exact h2
      · cases hg : listed.getD s false with
        | false => rfl
        | true => rw [hnot s hg] at h1; cases h1
    have hup : (∀ s, ST.contains s = true → (listed.setIfInBounds i true).getD s false = false) → ST.contains i = false ∧ ∀ s, ST.contains s = true → listed.getD s false = false := by
      intro h
      refine ⟨?_, fun s hs => ?_⟩
      · cases hg : ST.contains i with
        | false => rfl
        | true => have := h i hg; rw [getD_self hl] at this; cases this
      · cases hg : listed.getD s false with
        | false => rfl
        | true => have := h s hs; rw [getD_set_true hg] at this; cases this
    have hholdU : ∀ v j, (listed.setIfInBounds i true).getD j false = false → upd vs i v j = held os a j := by
      intro v j hj
      have hji' : j ≠ i := fun e => by subst e; rw [getD_self hl] at hj; cases hj
      rw [upd_ne vs i v j hji']
      rw [getD_set_ne false (fun x => hji' x.symm)] at hj
      exact hold j hj
    have hholdI : ∀ k, (k == i || anc os.toArray os.length k i) = true → vs k = held os a k := by
      intro k hk
      refine hold k ?_
      rw [Bool.or_eq_true] at hk
      rcases hk with h | h
      · obtain rfl : k = i := by simpa using h
        exact h2
      · cases hg : listed.getD k false with
        | false => rfl
        | true => rw [hnot k hg] at h; cases h
    refine hs1 vs w hB (fun h => hS (hnst h)) (fun k hk => hV k (hanc k hk)) (fun j k hjk h => ?_) hholdI K (fun hal v w' hb hv => ?_) (fun b w' hb hbl hv => ?_) (fun hal v w' hB' hB0' hv hr => ?_)
    · simp only [Bool.and_eq_true] at h
      exact hne j k hjk (by rw [Bool.and_eq_true]; exact ⟨h.1.1.1, h.1.1.2⟩) (hanc j h.1.2) (hanc k h.2)
    · rw [puts_upd os 0 i o vs v a hn ho', Nat.zero_add]
      refine hK _ _ ⟨upd vs i v, rfl, hBE w w' hB hb, fun h => hBE0 w w' hB (hS (hup h).2) hb, fun j hj => ?_, hholdU _, hneU v (fun h => by rw [hal] at h; cases h)⟩
      by_cases h : j = i
      · subst h; exact hv
      · exact Cl.upd_ne h _ (hlooks j (hji j hj h)) (Cl.below hb _ (hV j (hji j hj h)))
    · rw [puts_upd os 0 i o vs _ a hn ho', Nat.zero_add]
      refine hK _ _ ⟨upd vs i _, rfl, hBE w w' hB hb, fun h => hBE0 w w' hB (hS (hup h).2) hb, fun j hj => ?_, hholdU _, hneU _ (fun h => ⟨b, rfl, hbl⟩)⟩
      by_cases h : j = i
      · subst h; exact hv
      · exact Cl.upd_ne h _ (hlooks j (hji j hj h)) (Cl.below hb _ (hV j (hji j hj h)))
    · rw [puts_upd os 0 i o vs v a hn ho', Nat.zero_add]
      refine hK _ _ ⟨upd vs i v, rfl, hB', fun h => hB0' (hup h).1, fun j hj => ?_, hholdU _, hneU v (fun h => by rw [hal] at h; cases h)⟩
      by_cases h : j = i
      · subst h; exact hv
      · exact Cl.upd_ne h _ (hlooks j (hji j hj h)) (hr j h (hnot j (hji j hj h)) (hV j (hji j hj h)))
  · rintro listed a' w hall ⟨vs, rfl, hB, hS, hV, _, hne⟩
    rw [hsz] at hall
    exact fin vs w hB (fun i hi => hV i (hall i hi)) (fun j k hjk hj hk hal => hne j k hjk hal (hall j hj) (hall k hk))
  · intro i o _ h
    rw [Array.getD_eq_getD_getElem?, Array.getElem?_replicate] at h
    split at h <;> simp at h
  · refine (puts_held os 0 _ a fun j o ho => ?_).symm
    rw [Nat.zero_add]
    unfold held
    rw [ho]
  · intro i h
    rw [Array.getD_eq_getD_getElem?, Array.getElem?_replicate] at h
    split at h <;> simp at h
  · intro j k _ _ h
    rw [Array.getD_eq_getD_getElem?, Array.getElem?_replicate] at h
    split at h <;> simp at h
/-- The same, where no operation panics. -/
theorem wp_region_calm {os : List Oper} {id : Nat} {a : Act} {w : World} (B : World → Prop) (ST : List Nat) (B0 : World → Prop) (cls : List Cl) (AL : List Nat)
    (hm : P.follows .mixedOrders = true) (he : earlier os.toArray = true) (hn : nodupB (dsts os) = true) (hU : looksOk os (cls.map Cl.looks) = true) (hB : B w.drew) (hB0 : B0 w.drew)
    (hBE : ∀ w w', B w → Below w.heap.size w w' → B w') (hBE0 : ∀ w w', B w → B0 w → Below w.heap.size w w' → B0 w')
    (hAL : ∀ k vs w, AL.contains k = true → claim cls k vs w → ∃ b, isPtr (vs k) b ∧ b < w.heap.size)
    (step : ∀ Q : Exit → Act → World → Prop, Each os.toArray (StepAt P Q os a B ST B0 cls AL) os 0)
    (fin : ∀ vs w, B w → (∀ i, i < os.length → claim cls i vs w) → (∀ j k, j ≠ k → j < os.length → k < os.length → (AL.contains j && AL.contains k) = true → vs j ≠ vs k) → Q .normal (puts os 0 vs a) w) :
    (Code.region id os.toArray true).wp P Q a w :=
  wp_region_cl B ST B0 cls AL hm he hn hU hB hB0 hBE hBE0 hAL (step Q) fin
/-- Each claim but one lasts from one world to another. -/
def KeepAll (i : Nat) (vs : Nat → Value) (w w' : World) : List Cl → Nat → Prop
  | [], _ => True
  | c :: cs, k => (k = i ∨ (c.holds k vs w → c.holds k vs w')) ∧ KeepAll i vs w w' cs (k + 1)
theorem keep_all {i : Nat} {vs : Nat → Value} {w w' : World} : ∀ {cls : List Cl} {k : Nat}, KeepAll i vs w w' cls k → ∀ j, k + j ≠ i → (cls.getD j .any).holds (k + j) vs w → (cls.getD j .any).holds (k + j) vs w'
  | [], _, _, j, _, h => by simp [Cl.holds]
  | c :: cs, k, hk, j, hj, h => by
    cases j with
    | zero => exact (hk.1.resolve_left hj) h
    | succ j =>
      have := keep_all (cls := cs) (k := k + 1) hk.2 j (by omega)
      rw [show k + 1 + j = k + (j + 1) by omega] at this
      exact this h
theorem claims_keep {i : Nat} {vs : Nat → Value} {w w' : World} {cls : List Cl} {p : Nat → Prop} (h : KeepAll i vs w w' cls 0) : ∀ j, j ≠ i → p j → claim cls j vs w → claim cls j vs w' := fun j hj _ hc => by
  have := keep_all h j (by omega)
  rw [Nat.zero_add] at this
  exact this hc
/-- A value is this one. -/
def Is (v : Value) : Cl := .own (fun u _ => u = v) (fun _ _ _ h _ => h)
theorem is_keep {v : Value} {k : Nat} {vs : Nat → Value} {w w' : World} (h : (Is v).holds k vs w) : (Is v).holds k vs w' := h
end
end Go.Proofs.Ythofammjbicogaa
