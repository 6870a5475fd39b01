/-
  The reference's whole numbers, each function by its contract. Fifteenth part: Down, a quotient rounded down and its rest.
-/
import Derived.Test.YthffphcgkmjhbaaBigN
import Derived.Test.YthffphcgkmjhbaaWideE
namespace Go.Proofs.Ythffphcgkmjhbaa
open Go.RowKit
set_option linter.unusedSimpArgs false
set_option linter.unusedVariables false

theorem IsBig.sz {w : World} {neg : Bool} {ao : Option Addr} {k cap : Nat} {n : Int} (h : IsBig w neg ao k cap n) : BM.Sz n k := by
  obtain ⟨ds, h1, h2, h3, rfl⟩ := h
  have := bval_lt' h1
  unfold BM.Sz
  cases neg <;> simpa [sgn] using this
theorem one_new (w : World) : IsBig (w.alloc (.cells #[.int .u64 1] 23)) true (some ⟨w.heap.size, 0, none⟩) 1 1 (-1) := by
  refine ⟨[1], Row.pcs (n := 1) ⟨heap_alloc_new w _, rfl, ?_⟩ (by decide), ?_, (fun _ => by simp), rfl⟩
  · intro d hd; simp at hd; omega
  · intro h; simp
theorem one_at (w : World) (g : Nat) (hg : g = w.heap.size) : IsBig (w.alloc (.cells #[.int .u64 1] 23)) true (some ⟨g, 0, none⟩) 1 1 (-1) := by subst hg; exact one_new w
theorem sgn_ne {w : World} {neg : Bool} {ao : Option Addr} {k cap : Nat} {ds : List Nat} (ht : BM.Trim ds) (h : neg = true → ds ≠ []) : neg = true → BM.bval ds ≠ 0 := fun h1 h2 => h h1 (ht.eq_nil h2)
/-- The six boxes of Down. -/
def DnB (na nb : Bool) (ax bx : Option Addr) (k m ca cb : Nat) (w wr : World) (bq br : Nat) (q1 q2 r1 r2 : Value) : Prop :=
  Two wr w.heap.size (.bool na) (.slice ax k ca) ∧ Two wr (w.heap.size + 1) (.bool nb) (.slice bx m cb) ∧ Two wr (w.heap.size + 1 + 1) (.bool false) (.slice none 0 0) ∧ Two wr (w.heap.size + 1 + 1 + 1) (.bool false) (.slice none 0 0) ∧
    Two wr bq q1 q2 ∧ Two wr br r1 r2 ∧ w.heap.size + 1 + 1 + 1 < bq ∧ bq < br ∧ Below w.heap.size w wr
section
variable {na nb : Bool} {ax bx : Option Addr} {k m ca cb : Nat} {w wr w' : World} {bq br : Nat} {q1 q2 r1 r2 : Value}
theorem DnB.ta (h : DnB na nb ax bx k m ca cb w wr bq br q1 q2 r1 r2) : Two wr w.heap.size (.bool na) (.slice ax k ca) := h.1
theorem DnB.tb (h : DnB na nb ax bx k m ca cb w wr bq br q1 q2 r1 r2) : Two wr (w.heap.size + 1) (.bool nb) (.slice bx m cb) := h.2.1
theorem DnB.t2 (h : DnB na nb ax bx k m ca cb w wr bq br q1 q2 r1 r2) : Two wr (w.heap.size + 1 + 1) (.bool false) (.slice none 0 0) := h.2.2.1
theorem DnB.t3 (h : DnB na nb ax bx k m ca cb w wr bq br q1 q2 r1 r2) : Two wr (w.heap.size + 1 + 1 + 1) (.bool false) (.slice none 0 0) := h.2.2.2.1
theorem DnB.tq (h : DnB na nb ax bx k m ca cb w wr bq br q1 q2 r1 r2) : Two wr bq q1 q2 := h.2.2.2.2.1
theorem DnB.tr (h : DnB na nb ax bx k m ca cb w wr bq br q1 q2 r1 r2) : Two wr br r1 r2 := h.2.2.2.2.2.1
theorem DnB.l1 (h : DnB na nb ax bx k m ca cb w wr bq br q1 q2 r1 r2) : w.heap.size + 1 + 1 + 1 < bq := h.2.2.2.2.2.2.1
theorem DnB.l2 (h : DnB na nb ax bx k m ca cb w wr bq br q1 q2 r1 r2) : bq < br := h.2.2.2.2.2.2.2.1
theorem DnB.bl (h : DnB na nb ax bx k m ca cb w wr bq br q1 q2 r1 r2) : Below w.heap.size w wr := h.2.2.2.2.2.2.2.2
theorem DnB.below (h : DnB na nb ax bx k m ca cb w wr bq br q1 q2 r1 r2) (hb : Below wr.heap.size wr w') : DnB na nb ax bx k m ca cb w w' bq br q1 q2 r1 r2 :=
  ⟨h.ta.below hb, h.tb.below hb, h.t2.below hb, h.t3.below hb, h.tq.below hb, h.tr.below hb, h.l1, h.l2, h.bl.trans (hb.mono h.bl.size)⟩
theorem DnB.alloc (h : DnB na nb ax bx k m ca cb w wr bq br q1 q2 r1 r2) (o : Obj) : DnB na nb ax bx k m ca cb w (wr.alloc o) bq br q1 q2 r1 r2 :=
  ⟨h.ta.alloc o, h.tb.alloc o, h.t2.alloc o, h.t3.alloc o, h.tq.alloc o, h.tr.alloc o, h.l1, h.l2, h.bl.alloc h.bl.size o⟩
theorem DnB.putq (h : DnB na nb ax bx k m ca cb w wr bq br q1 q2 r1 r2) (u v : Value) : DnB na nb ax bx k m ca cb w ((wr.setCell ⟨bq, 0, none⟩ u).setCell ⟨bq, 1, none⟩ v) bq br u v r1 r2 :=
  have h1 := h.l1
  have h2 := h.l2
  ⟨h.ta.put_other (by omega) _ _, h.tb.put_other (by omega) _ _, h.t2.put_other (by omega) _ _, h.t3.put_other (by omega) _ _, h.tq.put _ _, h.tr.put_other (by omega) _ _, h1, h2, BP h.bl (by omega) u v⟩
end
theorem BigRet2.out {n p : Int} {w : World} {e : Ending} {w' : World} (h : BigRet2 n p w e w') : ∃ (qn : Bool) (qa : Option Addr) (qk qc : Nat) (rn : Bool) (ra : Option Addr) (rk rc : Nat), e = .returned (.tuple #[.agg #[.bool qn, .slice qa qk qc], .agg #[.bool rn, .slice ra rk rc]]) ∧ IsBig w' qn qa qk qc n ∧ IsBig w' rn ra rk rc p ∧ Below w.heap.size w w' := h

def Three (na nb : Bool) (ax bx : Option Addr) (k m ca cb : Nat) (w : World) (bq : Nat) (q1 q2 z1 z2 : Value) (wr : World) : Prop :=
  Two wr w.heap.size (.bool na) (.slice ax k ca) ∧ Two wr (w.heap.size + 1) (.bool nb) (.slice bx m cb) ∧ Two wr bq q1 q2 ∧ Two wr (w.heap.size + 1 + 1) z1 z2 ∧ Two wr (w.heap.size + 1 + 1 + 1) (.bool false) (.slice none 0 0)
section
variable {na nb : Bool} {ax bx : Option Addr} {k m ca cb : Nat} {w wr w' : World} {bq : Nat} {q1 q2 z1 z2 : Value}
theorem Three.t1 (h : Three na nb ax bx k m ca cb w bq q1 q2 z1 z2 wr) : Two wr w.heap.size (.bool na) (.slice ax k ca) := h.1
theorem Three.t2 (h : Three na nb ax bx k m ca cb w bq q1 q2 z1 z2 wr) : Two wr (w.heap.size + 1) (.bool nb) (.slice bx m cb) := h.2.1
theorem Three.t3 (h : Three na nb ax bx k m ca cb w bq q1 q2 z1 z2 wr) : Two wr bq q1 q2 := h.2.2.1
theorem Three.t4 (h : Three na nb ax bx k m ca cb w bq q1 q2 z1 z2 wr) : Two wr (w.heap.size + 1 + 1) z1 z2 := h.2.2.2.1
theorem Three.t5 (h : Three na nb ax bx k m ca cb w bq q1 q2 z1 z2 wr) : Two wr (w.heap.size + 1 + 1 + 1) (.bool false) (.slice none 0 0) := h.2.2.2.2
theorem Three.cells6 (h : Three na nb ax bx k m ca cb w bq q1 q2 z1 z2 wr) : wr.cell? ⟨w.heap.size, 0, none⟩ = some (.bool na) ∧ wr.cell? ⟨w.heap.size, 1, none⟩ = some (.slice ax k ca) ∧ wr.cell? ⟨w.heap.size + 1, 0, none⟩ = some (.bool nb) ∧ wr.cell? ⟨w.heap.size + 1, 1, none⟩ = some (.slice bx m cb) ∧ wr.cell? ⟨bq, 0, none⟩ = some q1 ∧ wr.cell? ⟨bq, 1, none⟩ = some q2 := ⟨h.t1.cells.1, h.t1.cells.2.1, h.t2.cells.1, h.t2.cells.2.1, h.t3.cells.1, h.t3.cells.2.1⟩
theorem Three.cells6b (h : Three na nb ax bx k m ca cb w bq q1 q2 z1 z2 wr) (hl : w.heap.size + 1 + 1 + 1 < bq) (u v : Value) (X : World) (hX : X = (wr.setCell ⟨w.heap.size + 1 + 1 + 1, 0, none⟩ u).setCell ⟨w.heap.size + 1 + 1 + 1, 1, none⟩ v) : X.cell? ⟨w.heap.size, 0, none⟩ = some (.bool na) ∧ X.cell? ⟨w.heap.size, 1, none⟩ = some (.slice ax k ca) ∧ X.cell? ⟨w.heap.size + 1, 0, none⟩ = some (.bool nb) ∧ X.cell? ⟨w.heap.size + 1, 1, none⟩ = some (.slice bx m cb) ∧ X.cell? ⟨bq, 0, none⟩ = some q1 ∧ X.cell? ⟨bq, 1, none⟩ = some q2 := by
  subst hX
  have a := h.t1.put_other (c := w.heap.size + 1 + 1 + 1) (by omega) u v
  have b := h.t2.put_other (c := w.heap.size + 1 + 1 + 1) (by omega) u v
  have c := h.t3.put_other (c := w.heap.size + 1 + 1 + 1) (by omega) u v
  exact ⟨a.cells.1, a.cells.2.1, b.cells.1, b.cells.2.1, c.cells.1, c.cells.2.1⟩
theorem Three.drew (h : Three na nb ax bx k m ca cb w bq q1 q2 z1 z2 wr) : Three na nb ax bx k m ca cb w bq q1 q2 z1 z2 wr.drew := h
theorem Three.below (hb : Below wr.heap.size wr w') (h : Three na nb ax bx k m ca cb w bq q1 q2 z1 z2 wr) : Three na nb ax bx k m ca cb w bq q1 q2 z1 z2 w' := ⟨h.t1.below hb, h.t2.below hb, h.t3.below hb, h.t4.below hb, h.t5.below hb⟩
theorem Three.put (h : Three na nb ax bx k m ca cb w bq q1 q2 z1 z2 wr) (hl : w.heap.size + 1 + 1 + 1 < bq) (u v : Value) : Three na nb ax bx k m ca cb w bq q1 q2 u v ((wr.setCell ⟨w.heap.size + 1 + 1, 0, none⟩ u).setCell ⟨w.heap.size + 1 + 1, 1, none⟩ v) :=
  ⟨h.t1.put_other (by omega) _ _, h.t2.put_other (by omega) _ _, h.t3.put_other (by omega) _ _, h.t4.put _ _, h.t5.put_other (by omega) _ _⟩
end

set_option maxRecDepth 100000 in
set_option maxHeartbeats 3200000 in
theorem big_down (na nb : Bool) (ax bx : Option Addr) (k m ca cb : Nat) (A B : Int) (w : World) (ha : IsBig w na ax k ca A) (hb : IsBig w nb bx m cb B) (hk : k ≤ 10000) (hm : m ≤ 10000) (hB : B ≠ 0) :
    Calls Try.prog 33 #[.agg #[.bool na, .slice ax k ca], .agg #[.bool nb, .slice bx m cb]] w (BigRet2 (fq A B) (fr A B) w) := by
  have hA := ha
  have hBB := hb
  have sA := ha.sz
  have sB := hb.sz
  have sF : BM.Sz (fq A B) k := sA.le (fq_abs hB)
  have sFB := sF.mul sB
  obtain ⟨xs, hx, tx, nx, eA⟩ := ha
  obtain ⟨ys, hy, ty, ny, eB⟩ := hb
  have hY : 0 < BM.bval ys := by
    rcases Nat.eq_zero_or_pos (BM.bval ys) with h | h
    · exfalso; apply hB; rw [eB, h]; cases nb <;> rfl
    · exact h
  have hdq := down_q (na := na) (nb := nb) (x := BM.bval xs) (y := BM.bval ys) (fun h1 h2 => nx h1 (tx.eq_nil h2)) (fun h1 h2 => ny h1 (ty.eq_nil h2)) hY
  rw [← eA, ← eB] at hdq
  have hxl := bval_lt' hx
  obtain ⟨F, eF⟩ : ∃ F, F = fq A B := ⟨_, rfl⟩
  have eR : fr A B = A + -(F * B) := by unfold fr; rw [eF, Int.sub_eq_add_neg]
  rw [← eF] at hdq sF sFB ⊢
  rw [eR]
  obtain ⟨q, eq⟩ : ∃ q, q = BM.bval xs / BM.bval ys := ⟨_, rfl⟩
  obtain ⟨r, er⟩ : ∃ r, r = BM.bval xs % BM.bval ys := ⟨_, rfl⟩
  have sq : BM.Sz (q : Int) k := sz_nat (by rw [eq]; exact Nat.lt_of_le_of_lt (Nat.div_le_self _ _) hxl)
  have hdv := big_divided ax bx k m ca cb xs ys
  rw [← eq, ← er] at hdq hdv
  have HQ := Lib.hid hdq
  clear hdq eF eR eq er eA eB hxl nx ny sA
  go_enter Try.func33, Try.ntmps33
  go_wp2_with fail
  refine (hdv _ (hx.keep (by repeat' (first | (with_reducible exact Below.refl _ _) | (with_reducible assumption) | (with_reducible refine below_alloc ?_ _ ?_) | (with_reducible refine below_set _ ?_ ?_) | (with_reducible refine Below.drew ?_) | (with_reducible refine below_dN ?_ _) | (apply below_thenA; assumption) | omega | (simp; done) | (simp; omega) | (simp [*]; done)))) (hy.keep (by repeat' (first | (with_reducible exact Below.refl _ _) | (with_reducible assumption) | (with_reducible refine below_alloc ?_ _ ?_) | (with_reducible refine below_set _ ?_ ?_) | (with_reducible refine Below.drew ?_) | (with_reducible refine below_dN ?_ _) | (apply below_thenA; assumption) | omega | (simp; done) | (simp; omega) | (simp [*]; done)))) tx ty hk hm hY).mono ?_
  clear hdv
  rintro e w1 hRet
  obtain ⟨qn, qa, qk, qc, rn, ra, rk, rc, rfl, hQ, hR, hb1⟩ := hRet.out
  have hz := bz4 (n := w.heap.size) hb1 (by simp)
  have hz1 : w.heap.size + 1 + 1 + 1 < w1.heap.size := by have := hb1.size; simp at this; omega
  have ta := ((((Two.new w (.bool na) (.slice ax k ca) _ rfl).alloc (.cells #[.bool nb, .slice bx m cb] 29)).alloc (.cells #[.bool false, .slice none 0 0] 29)).alloc (.cells #[.bool false, .slice none 0 0] 29)).below hb1
  have tb := (((Two.new (w.alloc (.cells #[.bool na, .slice ax k ca] 29)) (.bool nb) (.slice bx m cb) (w.heap.size + 1) (by simp)).alloc (.cells #[.bool false, .slice none 0 0] 29)).alloc (.cells #[.bool false, .slice none 0 0] 29)).below hb1
  have t2 := ((Two.new ((w.alloc (.cells #[.bool na, .slice ax k ca] 29)).alloc (.cells #[.bool nb, .slice bx m cb] 29)) (.bool false) (.slice none 0 0) (w.heap.size + 1 + 1) (by simp)).alloc (.cells #[.bool false, .slice none 0 0] 29)).below hb1
  have t3 := (Two.new (((w.alloc (.cells #[.bool na, .slice ax k ca] 29)).alloc (.cells #[.bool nb, .slice bx m cb] 29)).alloc (.cells #[.bool false, .slice none 0 0] 29)) (.bool false) (.slice none 0 0) (w.heap.size + 1 + 1 + 1) (by simp)).below hb1
  have hbw : Below w.heap.size w w1 := (by repeat' (first | (with_reducible exact Below.refl _ _) | (with_reducible assumption) | (with_reducible refine below_alloc ?_ _ ?_) | (with_reducible refine below_set _ ?_ ?_) | (with_reducible refine Below.drew ?_) | (with_reducible refine below_dN ?_ _) | (apply below_thenA; assumption) | omega | (simp; done) | (simp; omega) | (simp [*]; done)))
  have D : DnB na nb ax bx k m ca cb w ((w1.alloc (.cells #[.bool qn, .slice qa qk qc] 29)).alloc (.cells #[.bool rn, .slice ra rk rc] 29)) w1.heap.size (w1.heap.size + 1) (.bool qn) (.slice qa qk qc) (.bool rn) (.slice ra rk rc) :=
    ⟨(ta.alloc _).alloc _, (tb.alloc _).alloc _, (t2.alloc _).alloc _, (t3.alloc _).alloc _, (Two.new _ _ _ _ rfl).alloc _, Two.new _ _ _ _ (by simp), hz1, by omega, (by repeat' (first | (with_reducible exact Below.refl _ _) | (with_reducible assumption) | (with_reducible refine below_alloc ?_ _ ?_) | (with_reducible refine below_set _ ?_ ?_) | (with_reducible refine Below.drew ?_) | (with_reducible refine below_dN ?_ _) | (apply below_thenA; assumption) | omega | (simp; done) | (simp; omega) | (simp [*]; done)))⟩
  replace hQ : IsBig ((w1.alloc (.cells #[.bool qn, .slice qa qk qc] 29)).alloc (.cells #[.bool rn, .slice ra rk rc] 29)) qn qa qk qc (q : Int) := hQ.keep (by repeat' (first | (with_reducible exact Below.refl _ _) | (with_reducible assumption) | (with_reducible refine below_alloc ?_ _ ?_) | (with_reducible refine below_set _ ?_ ?_) | (with_reducible refine Below.drew ?_) | (with_reducible refine below_dN ?_ _) | (apply below_thenA; assumption) | omega | (simp; done) | (simp; omega) | (simp [*]; done)))
  replace hR : IsBig ((w1.alloc (.cells #[.bool qn, .slice qa qk qc] 29)).alloc (.cells #[.bool rn, .slice ra rk rc] 29)) rn ra rk rc (r : Int) := hR.keep (by repeat' (first | (with_reducible exact Below.refl _ _) | (with_reducible assumption) | (with_reducible refine below_alloc ?_ _ ?_) | (with_reducible refine below_set _ ?_ ?_) | (with_reducible refine Below.drew ?_) | (with_reducible refine below_dN ?_ _) | (apply below_thenA; assumption) | omega | (simp; done) | (simp; omega) | (simp [*]; done)))
  obtain ⟨p1, p2, p3, p4⟩ := ta.cells
  obtain ⟨p5, p6, p7, p8⟩ := tb.cells
  clear hRet hb1 t2 t3 hbw
  go_upto_if 22 with (fail)
  clear p1 p2 p3 p4 p5 p6 p7 p8 ta tb
  obtain ⟨c, ec⟩ : ∃ c, c = (na == nb) := ⟨_, rfl⟩
  rw [← ec]
  have EC := Lib.hid ec
  clear ec
  go_cut [] from 22 (fun wx => ∃ qn qa qk qc, DnB na nb ax bx k m ca cb w wx w1.heap.size (w1.heap.size + 1) (.bool qn) (.slice qa qk qc) (.bool rn) (.slice ra rk rc) ∧ IsBig wx qn qa qk qc F)
  case first =>
    obtain ⟨rfl, rs, hrs, trs, ers⟩ := hR.nat
    have hrk : (r = 0 → rk = 0) ∧ (0 < r → 0 < rk) := by
      have hl := hrs.len
      refine ⟨fun h => ?_, fun h => ?_⟩
      · have := trs.eq_nil (by omega); rw [this] at hl; simp at hl; omega
      · rcases Nat.eq_zero_or_pos rk with h0 | h0
        · rw [h0] at hl; have : rs = [] := List.eq_nil_of_length_eq_zero hl; rw [this] at ers; simp [BM.bval] at ers; omega
        · exact h0
    have HK := Lib.hid hrk
    have hkq := hQ.le sq
    clear hrk hrs trs ers hR
    obtain ⟨p1, p2, p3, p4⟩ := D.tq.cells
    cases c
    · have hs : na ≠ nb := by have := EC.out; intro h; simp [h] at this
      by_cases h0 : r = 0
      · have e := Lib.hid (HQ.out.2.1 hs h0)
        have hr0 := HK.out.1 h0
        clear hs h0
        subst hr0
        go_wp2_with (go_at_call 40; go_loud (with_reducible refine (big_minus qn qa qk qc _ _ hQ ?_).mono ?_); omega; rintro e w2 ⟨n2, a2, k2, c2, rfl, hI2, hb2⟩; replace D := D.below hb2; obtain ⟨q1, q2, q3, q4⟩ := D.tq.cells; obtain ⟨r1, r2, r3, r4⟩ := D.tr.cells)
        go_meet
        case rel => exact ⟨n2, a2, k2, c2, D.putq _ _, by rw [e.out]; exact IsBig.put hI2 D.tq _ _⟩
      · have e := Lib.hid (HQ.out.2.2 hs (by omega))
        have hr0 := HK.out.2 (by omega)
        clear hs h0
        go_wp2_with (first
          | (go_at_call 40; go_loud (with_reducible refine (big_minus qn qa qk qc _ _ hQ ?_).mono ?_); omega; rintro e w2 ⟨n2, a2, k2, c2, rfl, hI2, hb2⟩; (have hk2 := hI2.le sq.neg); replace D := D.below hb2; obtain ⟨q1, q2, q3, q4⟩ := D.tq.cells; obtain ⟨r1, r2, r3, r4⟩ := D.tr.cells; have hN := IsBig.put hI2 D.tq (.bool n2) (.slice a2 k2 c2); have hD := D.putq (.bool n2) (.slice a2 k2 c2))
          | (go_at_call 39; go_loud (with_reducible refine (big_plus n2 true a2 _ k2 1 c2 1 (-(q : Int)) (-1) _ (hN.keep (by repeat' (first | (with_reducible exact Below.refl _ _) | (with_reducible assumption) | (with_reducible refine below_alloc ?_ _ ?_) | (with_reducible refine below_set _ ?_ ?_) | (with_reducible refine Below.drew ?_) | (with_reducible refine below_dN ?_ _) | (apply below_thenA; assumption) | omega | (simp; done) | (simp; omega) | (simp [*]; done)))) (one_at _ _ (by simp)) ?_ ?_).mono ?_); omega; omega; rintro e w3 ⟨n3, a3, k3, c3, rfl, hI3, hb3⟩; have hD3 := (hD.alloc (.cells #[.int .u64 1] 23)).below hb3; obtain ⟨s1, s2, s3, s4⟩ := hD3.tq.cells))
        go_meet
        case rel => exact ⟨n3, a3, k3, c3, hD3.putq _ _, by rw [e.out]; exact IsBig.put hI3 hD3.tq _ _⟩
    · have e := HQ.out.1 (by have := EC.out; simpa using this.symm)
      rw [← e] at hQ
      clear e
      go_wp2_with fail
      go_meet
      case rel => exact ⟨qn, qa, qk, qc, D, hQ⟩
  case rest =>
    clear D hQ hR
    obtain ⟨qn, qa, qk, qc, D, hQ⟩ := hcut
    have hkq := hQ.le sF
    have hA' := hA.keep D.bl
    have hB' := hBB.keep D.bl
    obtain ⟨p1, p2, p3, p4⟩ := D.ta.cells
    obtain ⟨p5, p6, p7, p8⟩ := D.tb.cells
    obtain ⟨q1, q2, q3, q4⟩ := D.tq.cells
    obtain ⟨r1, r2, r3, r4⟩ := D.t2.cells
    obtain ⟨r5, r6, r7, r8⟩ := D.t3.cells
    have z2 := D.t2
    have z3 := D.t3
    have l1 := D.l1
    have l2 := D.l2
    have lz := D.tr.lt
    have hbl := D.bl
    have T : Three na nb ax bx k m ca cb w w1.heap.size (.bool qn) (.slice qa qk qc) (.bool false) (.slice none 0 0) wc := ⟨D.ta, D.tb, D.tq, D.t2, D.t3⟩
    have n1 : ¬ w1.heap.size = w.heap.size + 1 + 1 := by omega
    have n2 : ¬ w1.heap.size = w.heap.size + 1 + 1 + 1 := by omega
    have g1 : w.heap.size < wc.heap.size := by omega
    have g2 : w.heap.size + 1 < wc.heap.size := by omega
    have g3 : w1.heap.size < wc.heap.size := by omega
    go_wp2_with fail
    go_region_held3 (fun w' => w'.cell? ⟨w.heap.size, 0, none⟩ = some (.bool na) ∧ w'.cell? ⟨w.heap.size, 1, none⟩ = some (.slice ax k ca) ∧ w'.cell? ⟨w.heap.size + 1, 0, none⟩ = some (.bool nb) ∧ w'.cell? ⟨w.heap.size + 1, 1, none⟩ = some (.slice bx m cb) ∧ w'.cell? ⟨w1.heap.size, 0, none⟩ = some (.bool qn) ∧ w'.cell? ⟨w1.heap.size, 1, none⟩ = some (.slice qa qk qc))
      (with_reducible first | exact ⟨p1, p2, p5, p6, q1, q2⟩ | exact T.cells6 | exact (T.put l1 _ _).cells6 | exact (T.put l1 _ _).cells6b l1 _ _ _ rfl | exact T.drew.cells6 | exact (T.put l1 _ _).drew.cells6)
      (first
      | (go_at_call 26; go_loud (with_reducible refine (big_times qn nb qa bx qk m qc cb F B _ (IsBig.keeps hQ (by repeat' (first | (with_reducible exact Keeps.refl _) | (with_reducible refine Keeps.alloc ?_ _) | (with_reducible refine Keeps.drew ?_) | (with_reducible refine Keeps.drewN ?_ _) | (with_reducible refine Keeps.set ?_ _ _ (T := 29) ?_ (by decide)) | (with_reducible exact TyAt.new _ _ _ _ (by simp)) | (with_reducible refine TyAt.set ?_ _ _) | (with_reducible refine TyAt.alloc ?_ _) | (with_reducible refine TyAt.drew ?_) | (with_reducible refine TyAt.drewN ?_ _) | (apply Keeps.below; assumption) | (exact Two.ty (by assumption)) | (apply TyAt.below; rotate_left; assumption)))) (IsBig.keeps hB' (by repeat' (first | (with_reducible exact Keeps.refl _) | (with_reducible refine Keeps.alloc ?_ _) | (with_reducible refine Keeps.drew ?_) | (with_reducible refine Keeps.drewN ?_ _) | (with_reducible refine Keeps.set ?_ _ _ (T := 29) ?_ (by decide)) | (with_reducible exact TyAt.new _ _ _ _ (by simp)) | (with_reducible refine TyAt.set ?_ _ _) | (with_reducible refine TyAt.alloc ?_ _) | (with_reducible refine TyAt.drew ?_) | (with_reducible refine TyAt.drewN ?_ _) | (apply Keeps.below; assumption) | (exact Two.ty (by assumption)) | (apply TyAt.below; rotate_left; assumption)))) ?_ ?_).mono ?_); omega; omega; rintro e w4 hB4; obtain ⟨n4, a4, k4, c4, rfl, hI4, hb4⟩ := hB4.out; have hk4 := hI4.le sFB; obtain ⟨hc4, hf4⟩ := bcell hb4; replace T := Three.below hb4 (by with_reducible first | exact T.drew | exact (T.put l1 _ _).drew | exact T | exact T.put l1 _ _); obtain ⟨p1, p2, p3, p4⟩ := T.t1.cells; obtain ⟨p5, p6, p7, p8⟩ := T.t2.cells; obtain ⟨q1, q2, q3, q4⟩ := T.t3.cells; obtain ⟨r1, r2, r3, r4⟩ := T.t4.cells; obtain ⟨r5, r6, r7, r8⟩ := T.t5.cells)
      | (go_at_call 40; go_loud (with_reducible refine (big_minus n4 a4 k4 c4 (F * B) _ (IsBig.keeps hI4 (by repeat' (first | (with_reducible exact Keeps.refl _) | (with_reducible refine Keeps.alloc ?_ _) | (with_reducible refine Keeps.drew ?_) | (with_reducible refine Keeps.drewN ?_ _) | (with_reducible refine Keeps.set ?_ _ _ (T := 29) ?_ (by decide)) | (with_reducible exact TyAt.new _ _ _ _ (by simp)) | (with_reducible refine TyAt.set ?_ _ _) | (with_reducible refine TyAt.alloc ?_ _) | (with_reducible refine TyAt.drew ?_) | (with_reducible refine TyAt.drewN ?_ _) | (apply Keeps.below; assumption) | (exact Two.ty (by assumption)) | (apply TyAt.below; rotate_left; assumption)))) ?_).mono ?_); omega; rintro e w5 hB5; obtain ⟨n5, a5, k5, c5, rfl, hI5, hb5⟩ := hB5.out; have hk5 := hI5.le sFB.neg; obtain ⟨hc5, hf5⟩ := bcell hb5; replace T := Three.below hb5 (by with_reducible first | exact T.drew | exact (T.put l1 _ _).drew | exact T | exact T.put l1 _ _); obtain ⟨p1, p2, p3, p4⟩ := T.t1.cells; obtain ⟨p5, p6, p7, p8⟩ := T.t2.cells; obtain ⟨q1, q2, q3, q4⟩ := T.t3.cells; obtain ⟨r1, r2, r3, r4⟩ := T.t4.cells; obtain ⟨r5, r6, r7, r8⟩ := T.t5.cells)
      | (go_at_call 39; go_loud (with_reducible refine (big_plus na n5 ax a5 k k5 ca c5 A (-(F * B)) _ (IsBig.keeps hA' (by repeat' (first | (with_reducible exact Keeps.refl _) | (with_reducible refine Keeps.alloc ?_ _) | (with_reducible refine Keeps.drew ?_) | (with_reducible refine Keeps.drewN ?_ _) | (with_reducible refine Keeps.set ?_ _ _ (T := 29) ?_ (by decide)) | (with_reducible exact TyAt.new _ _ _ _ (by simp)) | (with_reducible refine TyAt.set ?_ _ _) | (with_reducible refine TyAt.alloc ?_ _) | (with_reducible refine TyAt.drew ?_) | (with_reducible refine TyAt.drewN ?_ _) | (apply Keeps.below; assumption) | (exact Two.ty (by assumption)) | (apply TyAt.below; rotate_left; assumption)))) (IsBig.keeps hI5 (by repeat' (first | (with_reducible exact Keeps.refl _) | (with_reducible refine Keeps.alloc ?_ _) | (with_reducible refine Keeps.drew ?_) | (with_reducible refine Keeps.drewN ?_ _) | (with_reducible refine Keeps.set ?_ _ _ (T := 29) ?_ (by decide)) | (with_reducible exact TyAt.new _ _ _ _ (by simp)) | (with_reducible refine TyAt.set ?_ _ _) | (with_reducible refine TyAt.alloc ?_ _) | (with_reducible refine TyAt.drew ?_) | (with_reducible refine TyAt.drewN ?_ _) | (apply Keeps.below; assumption) | (exact Two.ty (by assumption)) | (apply TyAt.below; rotate_left; assumption)))) ?_ ?_).mono ?_); omega; omega; rintro e w6 hB6; obtain ⟨n6, a6, k6, c6, rfl, hI6, hb6⟩ := hB6.out; obtain ⟨hc6, hf6⟩ := bcell hb6; replace T := Three.below hb6 (by with_reducible first | exact T.drew | exact (T.put l1 _ _).drew | exact T | exact T.put l1 _ _); obtain ⟨p1, p2, p3, p4⟩ := T.t1.cells; obtain ⟨p5, p6, p7, p8⟩ := T.t2.cells; obtain ⟨q1, q2, q3, q4⟩ := T.t3.cells; obtain ⟨r1, r2, r3, r4⟩ := T.t4.cells; obtain ⟨r5, r6, r7, r8⟩ := T.t5.cells))
    go_wp2_with fail
    have hQ6 := IsBig.keeps hQ (show Keeps wc w6 from (by repeat' (first | (with_reducible exact Keeps.refl _) | (with_reducible refine Keeps.alloc ?_ _) | (with_reducible refine Keeps.drew ?_) | (with_reducible refine Keeps.drewN ?_ _) | (with_reducible refine Keeps.set ?_ _ _ (T := 29) ?_ (by decide)) | (with_reducible exact TyAt.new _ _ _ _ (by simp)) | (with_reducible refine TyAt.set ?_ _ _) | (with_reducible refine TyAt.alloc ?_ _) | (with_reducible refine TyAt.drew ?_) | (with_reducible refine TyAt.drewN ?_ _) | (apply Keeps.below; assumption) | (exact Two.ty (by assumption)) | (apply TyAt.below; rotate_left; assumption))))
    have hN := IsBig.put (IsBig.put hQ6 T.t4 (.bool qn) (.slice qa qk qc)) (T.put l1 (.bool qn) (.slice qa qk qc)).t5 (.bool n6) (.slice a6 k6 c6)
    have hO := IsBig.put (IsBig.put hI6 T.t4 (.bool qn) (.slice qa qk qc)) (T.put l1 (.bool qn) (.slice qa qk qc)).t5 (.bool n6) (.slice a6 k6 c6)
    have hl : Below w.heap.size w w6 := below_step (below_step (below_step hbl (below_undrew hb4)) hb5) hb6
    have hL := BP (BP hl (b := w.heap.size + 1 + 1) (by omega) (.bool qn) (.slice qa qk qc)) (b := w.heap.size + 1 + 1 + 1) (by omega) (.bool n6) (.slice a6 k6 c6)
    (go_light; simp [bodyPost, results, Try.results33, go_sem, *])
    exact ⟨qn, qa, qk, qc, n6, a6, k6, c6, rfl, hN, hO, hL⟩
end Go.Proofs.Ythffphcgkmjhbaa
