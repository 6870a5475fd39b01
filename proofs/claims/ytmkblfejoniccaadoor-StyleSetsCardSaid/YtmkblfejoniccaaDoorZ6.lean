/-
  The reference's whole numbers, each function by its contract. Fourteenth part: divided, a quotient of sizes.
-/
/-
  The reference's whole numbers, each function by its contract. Fifteenth part: Down, a quotient rounded down and its rest.
-/
/-
  The functions of package fixed, each by its contract. Third part: Part and Scale whatever they are given; Try over a closure that stores a number; the reference's Part.
-/
/-
  The reference of layer 2, each function by its contract. First part: Common, the greatest common divisor.
-/
/-
  The reference of layer 2, each function by its contract. Second part: size, Ints; boxes by a list.
-/
import Derived.Test.YtmkblfejoniccaaDoorZ5
import Derived.Test.YtmkblfejoniccaaDoorZ2
import Derived.Test.YtmkblfejoniccaaDoorZ3
import Derived.Test.YtmkblfejoniccaaDoorZ1
namespace Go.Proofs.YtmkblfejoniccaaDoor
open Go.RowKit
set_option linter.unusedSimpArgs false
set_option linter.unusedVariables false

theorem IsBig.nat {w : World} {neg : Bool} {ao : Option Addr} {k cap n : Nat} (h : IsBig w neg ao k cap ((n : Nat) : Int)) : neg = false ∧ ∃ ds, Pcs w ao k cap ds ∧ BM.Trim ds ∧ BM.bval ds = n := by
  obtain ⟨ds, h1, h2, h3, h4⟩ := h
  cases neg
  · exact ⟨rfl, ds, h1, h2, by simp [sgn] at h4; omega⟩
  · exfalso
    have := h3 rfl
    apply this
    apply h2.eq_nil
    simp [sgn] at h4
    omega
theorem big_sizes_at (ao bo : Option Addr) (k m cap cap' : Nat) (xs ys : List Nat) (z : Int) (w : World) (ha : Pcs w ao k cap xs) (hb : Pcs w bo m cap' ys) (ta : BM.Trim xs) (tb : BM.Trim ys) (hk : k ≤ 1000000) (hm : m ≤ 1000000) (hz : cmpN (BM.bval xs) (BM.bval ys) = z) :
    Calls Tryd.prog 64 #[.slice ao k cap, .slice bo m cap'] w fun e w' => e = .returned (.int .i64 z) ∧ Below w.heap.size w w' := by
  subst hz; exact big_sizes ao bo k m cap cap' xs ys w ha hb ta tb hk hm
theorem bval_lt' {w : World} {ao : Option Addr} {k cap : Nat} {ds : List Nat} (h : Pcs w ao k cap ds) : BM.bval ds < 65536 ^ k := by
  have := BM.bval_lt h.dig; rwa [h.len] at this
theorem sz_nat {n k : Nat} (h : n < 65536 ^ k) : BM.Sz (n : Int) k := by unfold BM.Sz; simpa using h
theorem sz_two {n m k : Nat} (h : n < 65536 ^ k) (hm : m ≤ 2 * n + 1) : BM.Sz (m : Int) (k + 1) := by
  unfold BM.Sz; rw [Nat.pow_succ]; simp; omega
theorem seen_le {H d s : Nat} (hd : d < 65536) (hs : s ≤ 16) : BM.seen H d s ≤ d + 65536 * H := by
  induction s with
  | zero => rw [BM.seen_end]; omega
  | succ s ih =>
    have := ih (by omega)
    have := BM.seen_step H d s (by omega)
    omega
/-- The six boxes of divided. -/
def DB (ax bx : Option Addr) (k m ca cb : Nat) (w wr : World) (q1 q2 r1 r2 : Value) : Prop :=
  Two wr w.heap.size (.bool false) (.slice ax k ca) ∧ Two wr (w.heap.size + 1) (.bool false) (.slice bx m cb) ∧ Two wr (w.heap.size + 1 + 1) (.bool false) (.slice none 0 0) ∧ Two wr (w.heap.size + 1 + 1 + 1) (.bool false) (.slice none 0 0) ∧ Two wr (w.heap.size + 1 + 1 + 1 + 1) q1 q2 ∧ Two wr (w.heap.size + 1 + 1 + 1 + 1 + 1) r1 r2 ∧ Below w.heap.size w wr
section
variable {ax bx : Option Addr} {k m ca cb : Nat} {w wr w' : World} {q1 q2 r1 r2 : Value}
theorem DB.ta (h : DB ax bx k m ca cb w wr q1 q2 r1 r2) : Two wr w.heap.size (.bool false) (.slice ax k ca) := h.1
theorem DB.tb (h : DB ax bx k m ca cb w wr q1 q2 r1 r2) : Two wr (w.heap.size + 1) (.bool false) (.slice bx m cb) := h.2.1
theorem DB.t2 (h : DB ax bx k m ca cb w wr q1 q2 r1 r2) : Two wr (w.heap.size + 1 + 1) (.bool false) (.slice none 0 0) := h.2.2.1
theorem DB.t3 (h : DB ax bx k m ca cb w wr q1 q2 r1 r2) : Two wr (w.heap.size + 1 + 1 + 1) (.bool false) (.slice none 0 0) := h.2.2.2.1
theorem DB.tq (h : DB ax bx k m ca cb w wr q1 q2 r1 r2) : Two wr (w.heap.size + 1 + 1 + 1 + 1) q1 q2 := h.2.2.2.2.1
theorem DB.tr (h : DB ax bx k m ca cb w wr q1 q2 r1 r2) : Two wr (w.heap.size + 1 + 1 + 1 + 1 + 1) r1 r2 := h.2.2.2.2.2.1
theorem DB.bl (h : DB ax bx k m ca cb w wr q1 q2 r1 r2) : Below w.heap.size w wr := h.2.2.2.2.2.2
theorem DB.below (h : DB ax bx k m ca cb w wr q1 q2 r1 r2) (hb : Below wr.heap.size wr w') : DB ax bx k m ca cb w w' q1 q2 r1 r2 :=
  ⟨h.ta.below hb, h.tb.below hb, h.t2.below hb, h.t3.below hb, h.tq.below hb, h.tr.below hb, h.bl.trans (hb.mono h.bl.size)⟩
theorem BP {w w' : World} {B b : Nat} (h : Below B w w') (hb : B ≤ b) (u v : Value) : Below B w ((w'.setCell ⟨b, 0, none⟩ u).setCell ⟨b, 1, none⟩ v) :=
  (h.setCell (p := ⟨b, 0, none⟩) hb u).setCell (p := ⟨b, 1, none⟩) hb v
theorem DB.putr (h : DB ax bx k m ca cb w wr q1 q2 r1 r2) (u v : Value) : DB ax bx k m ca cb w ((wr.setCell ⟨w.heap.size + 1 + 1 + 1 + 1 + 1, 0, none⟩ u).setCell ⟨w.heap.size + 1 + 1 + 1 + 1 + 1, 1, none⟩ v) q1 q2 u v :=
  ⟨h.ta.put_other (by omega) _ _, h.tb.put_other (by omega) _ _, h.t2.put_other (by omega) _ _, h.t3.put_other (by omega) _ _, h.tq.put_other (by omega) _ _, h.tr.put _ _, BP h.bl (by omega) u v⟩
theorem DB.putq (h : DB ax bx k m ca cb w wr q1 q2 r1 r2) (u v : Value) : DB ax bx k m ca cb w ((wr.setCell ⟨w.heap.size + 1 + 1 + 1 + 1, 0, none⟩ u).setCell ⟨w.heap.size + 1 + 1 + 1 + 1, 1, none⟩ v) u v r1 r2 :=
  ⟨h.ta.put_other (by omega) _ _, h.tb.put_other (by omega) _ _, h.t2.put_other (by omega) _ _, h.t3.put_other (by omega) _ _, h.tq.put _ _, h.tr.put_other (by omega) _ _, BP h.bl (by omega) u v⟩
theorem DB.cA (h : DB ax bx k m ca cb w wr q1 q2 r1 r2) : wr.cell? ⟨w.heap.size, 0, none⟩ = some (.bool false) ∧ wr.cell? ⟨w.heap.size, 1, none⟩ = some (.slice ax k ca) ∧ wr.frozen? ⟨w.heap.size, 0, none⟩ = false ∧ wr.frozen? ⟨w.heap.size, 1, none⟩ = false := h.ta.cells
theorem DB.cB (h : DB ax bx k m ca cb w wr q1 q2 r1 r2) : wr.cell? ⟨w.heap.size + 1, 0, none⟩ = some (.bool false) ∧ wr.cell? ⟨w.heap.size + 1, 1, none⟩ = some (.slice bx m cb) ∧ wr.frozen? ⟨w.heap.size + 1, 0, none⟩ = false ∧ wr.frozen? ⟨w.heap.size + 1, 1, none⟩ = false := h.tb.cells
theorem DB.cq (h : DB ax bx k m ca cb w wr q1 q2 r1 r2) : wr.cell? ⟨w.heap.size + 1 + 1 + 1 + 1, 0, none⟩ = some q1 ∧ wr.cell? ⟨w.heap.size + 1 + 1 + 1 + 1, 1, none⟩ = some q2 ∧ wr.frozen? ⟨w.heap.size + 1 + 1 + 1 + 1, 0, none⟩ = false ∧ wr.frozen? ⟨w.heap.size + 1 + 1 + 1 + 1, 1, none⟩ = false := h.tq.cells
theorem DB.cr (h : DB ax bx k m ca cb w wr q1 q2 r1 r2) : wr.cell? ⟨w.heap.size + 1 + 1 + 1 + 1 + 1, 0, none⟩ = some r1 ∧ wr.cell? ⟨w.heap.size + 1 + 1 + 1 + 1 + 1, 1, none⟩ = some r2 ∧ wr.frozen? ⟨w.heap.size + 1 + 1 + 1 + 1 + 1, 0, none⟩ = false ∧ wr.frozen? ⟨w.heap.size + 1 + 1 + 1 + 1 + 1, 1, none⟩ = false := h.tr.cells
end
/-- The boxes, the quotient so far, the rest so far. -/
def DQ (ax bx : Option Addr) (k m ca cb : Nat) (w : World) (qv rv : Nat) (wr : World) : Prop :=
  ∃ (qn : Bool) (qa : Option Addr) (qk qc : Nat) (rn : Bool) (ra : Option Addr) (rk rc : Nat), DB ax bx k m ca cb w wr (.bool qn) (.slice qa qk qc) (.bool rn) (.slice ra rk rc) ∧ IsBig wr qn qa qk qc ((qv : Nat) : Int) ∧ IsBig wr rn ra rk rc ((rv : Nat) : Int)
def DivOut (ax bx : Option Addr) (k m ca cb : Nat) (xs : List Nat) (B : Nat) (w : World) (g : Nat) (s8 : Value) (wr : World) : Prop :=
  ∃ (j qv rv : Nat), j ≤ k ∧ g = j ∧ s8 = .int .i64 ((j : Int) - 1) ∧ qv * B + rv = BM.bval (xs.drop j) ∧ rv < B ∧ DQ ax bx k m ca cb w qv rv wr
def DivIn (ax bx : Option Addr) (k m ca cb : Nat) (H d B : Nat) (w : World) (g : Nat) (s9 : Value) (wr : World) : Prop :=
  ∃ (s qv rv : Nat), s ≤ 16 ∧ g = s ∧ s9 = .int .u64 (((2 ^ s / 2 : Nat) : Int)) ∧ qv * B + rv = BM.seen H d s ∧ rv < B ∧ DQ ax bx k m ca cb w qv rv wr
/-- Two whole numbers are given back. -/
def BigRet2 (n p : Int) (w : World) (e : Ending) (w' : World) : Prop :=
  ∃ (qn : Bool) (qa : Option Addr) (qk qc : Nat) (rn : Bool) (ra : Option Addr) (rk rc : Nat), e = .returned (.tuple #[.agg #[.bool qn, .slice qa qk qc], .agg #[.bool rn, .slice ra rk rc]]) ∧ IsBig w' qn qa qk qc n ∧ IsBig w' rn ra rk rc p ∧ Below w.heap.size w w'

set_option maxRecDepth 100000 in
set_option maxHeartbeats 3200000 in
theorem big_divided (ax bx : Option Addr) (k m ca cb : Nat) (xs ys : List Nat) (w : World) (hx : Pcs w ax k ca xs) (hy : Pcs w bx m cb ys) (tx : BM.Trim xs) (ty : BM.Trim ys) (hk : k ≤ 10000) (hm : m ≤ 10000) (hB : 0 < BM.bval ys) :
    Calls Tryd.prog 101 #[.agg #[.bool false, .slice ax k ca], .agg #[.bool false, .slice bx m cb]] w (BigRet2 ((BM.bval xs / BM.bval ys : Nat) : Int) ((BM.bval xs % BM.bval ys : Nat) : Int) w) := by
  have LX := Lib.hid hx.len
  have hxl := bval_lt' hx
  have hyl := bval_lt' hy
  have hB' := hB
  obtain ⟨B, eB⟩ : ∃ B, B = BM.bval ys := ⟨_, rfl⟩
  have hyB : ∀ w', Below w.heap.size w w' → IsBig w' true bx m cb (-(B : Int)) := fun w' h => ⟨ys, hy.keep h, ty, (fun _ e => by rw [e] at hB'; simp [BM.bval] at hB'), by rw [eB]; rfl⟩
  have EB := Lib.hid eB
  rw [← eB] at hB hyl
  have hyl := Lib.hid hyl
  have hxl := Lib.hid hxl
  clear eB hB'
  rw [← EB.out]
  obtain ⟨Q, eQ⟩ : ∃ Q, Q = BM.bval xs / B := ⟨_, rfl⟩
  obtain ⟨R, eR⟩ : ∃ R, R = BM.bval xs % B := ⟨_, rfl⟩
  rw [← eQ, ← eR]
  have EQ := Lib.hid eQ
  have ER := Lib.hid eR
  clear eQ eR
  go_enter Tryd.func101, Tryd.ntmps101
  go_wp2_with fail
  go_loopg [8] k (fun g s8 wr => DivOut ax bx k m ca cb xs B w g s8 wr)
  case atStart =>
    refine ⟨k, 0, 0, by omega, rfl, rfl, ?_, hB, ?_⟩
    · rw [List.drop_eq_nil_of_le (by rw [LX.out]; omega)]; simp [BM.bval]
    · refine ⟨false, none, 0, 0, false, none, 0, 0, ⟨?_, ?_, ?_, ?_, ?_, ?_, (by repeat' (first | (with_reducible exact Below.refl _ _) | (with_reducible assumption) | (with_reducible refine below_alloc ?_ _ ?_) | (with_reducible refine below_set _ ?_ ?_) | (with_reducible refine Below.drew ?_) | (with_reducible refine below_dN ?_ _) | (apply below_thenA; assumption) | omega | (simp; done) | (simp; omega) | (simp [*]; done)))⟩, ⟨[], Pcs.nil _, BM.Trim.nil, (fun h => by cases h), rfl⟩, ⟨[], Pcs.nil _, BM.Trim.nil, (fun h => by cases h), rfl⟩⟩
      · exact ((((((Two.new w _ _ _ rfl).alloc _).alloc _).alloc _).alloc _).alloc _)
      · exact (((((Two.new _ _ _ _ (by simp)).alloc _).alloc _).alloc _).alloc _)
      · exact ((((Two.new _ _ _ _ (by simp)).alloc _).alloc _).alloc _)
      · exact (((Two.new _ _ _ _ (by simp)).alloc _).alloc _)
      · exact ((Two.new _ _ _ _ (by simp)).alloc _)
      · exact (Two.new _ _ _ _ (by simp))
  case round =>
    obtain ⟨j, qv, rv, hj, rfl, rfl, hv, hr, hDQ⟩ := hrel
    by_cases hj0 : gk = 0
    · subst hj0
      obtain ⟨e1, e2⟩ := BM.div_end hv hr
      simp only [List.drop_zero] at e1 e2
      obtain rfl : qv = Q := by rw [EQ.out]; exact e1
      obtain rfl : rv = R := by rw [ER.out]; exact e2
      clear hv hr e1 e2 hB
      obtain ⟨qn, qa, qk, qc, rn, ra, rk, rc, D, hQ, hR⟩ := hDQ
      obtain ⟨p1, p2, p3, p4⟩ := D.cq
      obtain ⟨p5, p6, p7, p8⟩ := D.cr
      obtain ⟨t1, t2, t3, t4⟩ := D.t2.cells
      obtain ⟨t5, t6, t7, t8⟩ := D.t3.cells
      have z2 := D.t2
      have z3 := D.t3
      have hbl := D.bl
      go_wp2_with fail
      go_region
      all_goals
        go_wp2_with fail
        (go_light; simp [bodyPost, results, Tryd.results101, go_sem, *])
        exact ⟨qn, qa, qk, qc, rn, ra, rk, rc, rfl, IsBig.keeps hQ (by repeat' (first | (with_reducible exact Keeps.refl _) | (with_reducible refine Keeps.alloc ?_ _) | (with_reducible refine Keeps.drew ?_) | (with_reducible refine Keeps.drewN ?_ _) | (with_reducible refine Keeps.set ?_ _ _ (T := 41) ?_ (by decide)) | (with_reducible exact TyAt.new _ _ _ _ (by simp)) | (with_reducible refine TyAt.set ?_ _ _) | (with_reducible refine TyAt.alloc ?_ _) | (with_reducible refine TyAt.drew ?_) | (with_reducible refine TyAt.drewN ?_ _) | (apply Keeps.below; assumption) | (exact Two.ty (by assumption)) | (apply TyAt.below; rotate_left; assumption))), IsBig.keeps hR (by repeat' (first | (with_reducible exact Keeps.refl _) | (with_reducible refine Keeps.alloc ?_ _) | (with_reducible refine Keeps.drew ?_) | (with_reducible refine Keeps.drewN ?_ _) | (with_reducible refine Keeps.set ?_ _ _ (T := 41) ?_ (by decide)) | (with_reducible exact TyAt.new _ _ _ _ (by simp)) | (with_reducible refine TyAt.set ?_ _ _) | (with_reducible refine TyAt.alloc ?_ _) | (with_reducible refine TyAt.drew ?_) | (with_reducible refine TyAt.drewN ?_ _) | (apply Keeps.below; assumption) | (exact Two.ty (by assumption)) | (apply TyAt.below; rotate_left; assumption))), (by repeat' (first | (with_reducible exact Below.refl _ _) | (with_reducible assumption) | (with_reducible refine below_alloc ?_ _ ?_) | (with_reducible refine below_set _ ?_ ?_) | (with_reducible refine Below.drew ?_) | (with_reducible refine below_dN ?_ _) | (apply below_thenA; assumption) | omega | (simp; done) | (simp; omega) | (simp [*]; done)))⟩
    · obtain ⟨i, rfl⟩ : ∃ i, gk = i + 1 := ⟨gk - 1, by omega⟩
      have hi : i < xs.length := by rw [LX.out]; omega
      obtain ⟨d, ed⟩ : ∃ d, d = xs.getD i 0 := ⟨_, rfl⟩
      have dx : d < 65536 := by rw [ed]; exact hx.dig.getD i
      obtain ⟨H, eH⟩ : ∃ H, H = BM.bval (xs.drop (i + 1)) := ⟨_, rfl⟩
      have hend : d + 65536 * H = BM.bval (xs.drop i) := by
        rw [BM.bval_drop xs i hi, eH, ed]; simp [List.getD, hi]
      have hN : d + 65536 * H < 65536 ^ k := by rw [hend]; exact Nat.lt_of_le_of_lt (bval_drop_le xs i (by omega)) hxl.out
      have hst : qv * B + rv = BM.seen H d 16 := by rw [BM.seen_top _ _ dx, hv, eH]
      have HE := Lib.hid hend
      have HN := Lib.hid hN
      have ED := Lib.hid ed
      have HS := Lib.hid hst
      have HR := Lib.hid hr
      clear hend hN ed hst hr hv eH
      rw [show ((i + 1 : Nat) : Int) - 1 = (i : Int) by omega]
      have j1 : (0 : Int) ≤ (i : Int) := by omega
      go_wp2_with fail
      obtain ⟨wo, rfl⟩ : ∃ wo : World, wo = wr := ⟨_, rfl⟩
      go_loopg [9] 16 (fun g s9 wr => DivIn ax bx k m ca cb H d B w g s9 wr)
      case atStart =>
        exact ⟨16, qv, rv, by omega, rfl, rfl, HS.out, HR.out, hDQ⟩
      case round =>
        clear hDQ HS HR
        obtain ⟨s, qv, rv, hs, rfl, rfl, hv, hr, hDQ⟩ := hrel
        by_cases hs0 : gk = 0
        · subst hs0
          have HV := Lib.hid hv
          have HR := Lib.hid hr
          clear hv hr
          go_wp2_with fail
          go_roundg i
          case measure => omega
          case rel => exact ⟨i, qv, rv, by omega, rfl, by go_num, by rw [HV.out, BM.seen_end, HE.out], HR.out, hDQ⟩
        · obtain ⟨s, rfl⟩ : ∃ s, gk = s + 1 := ⟨gk - 1, by omega⟩
          rw [BM.half_pow]
          obtain ⟨b, eb⟩ : ∃ b, b = 2 ^ s := ⟨_, rfl⟩
          obtain ⟨c, ec⟩ : ∃ c, c = d / b % 2 := ⟨_, rfl⟩
          have hc2 : c < 2 := by rw [ec]; exact BM.bit_lt _ _
          have hb0 : 0 < b := by rw [eb]; exact Nat.pow_pos (by decide)
          have hb1 : b ≤ 32768 := by rw [eb]; exact Nat.pow_le_pow_right (by decide) (show s ≤ 15 by omega)
          have hstep := BM.seen_step H d s (by omega)
          rw [← eb, ← ec, ← hv] at hstep
          have hds := BM.div_step rfl hr hc2 (q := qv)
          have hle := seen_le (H := H) (s := s + 1) dx hs
          rw [← hv] at hle
          have hqB : qv ≤ qv * B := Nat.le_mul_of_pos_right _ hB
          have hq : qv < 65536 ^ k := Nat.lt_of_le_of_lt (by omega) HN.out
          have hr2 : rv < 65536 ^ m := Nat.lt_trans hr hyl.out
          have sq := sz_nat hq
          have sr := sz_nat hr2
          have sq2 := sz_two hq (show 2 * qv ≤ 2 * qv + 1 by omega)
          have sr2 := sz_two hr2 (show 2 * rv ≤ 2 * rv + 1 by omega)
          have srt := sz_two hr2 (show 2 * rv + c ≤ 2 * rv + 1 by omega)
          have HD := Lib.hid hds
          have HST := Lib.hid hstep
          have EC := Lib.hid ec
          have EBB := Lib.hid eb
          have HR := Lib.hid hr
          clear hds hstep hle hqB hq hr2 hv eb ec hr
          rw [← EBB.out]
          go_wp2_with fail
          go_cut [] from 18 to 53 (fun wx => DQ ax bx k m ca cb w qv (2 * rv) wx)
          case first =>
            obtain ⟨qn, qa, qk, qc, rn, ra, rk, rc, D, hQ, hR⟩ := hDQ
            have hkr := hR.le sr
            have EV : Hid (((2 * rv : Nat) : Int) = (rv : Int) * 2) := Lib.hid (by omega)
            obtain ⟨p1, p2, p3, p4⟩ := D.cr
            go_region_with (first
              | (go_at_call 67; with_reducible refine (big_ofu2 _).mono ?_; rintro e w2 hB2; obtain ⟨n2, a2, k2, c2, rfl, hI2, hb2⟩ := hB2.out; replace hb2 := below_undrew hb2; have hk2 := hI2.le (BM.Sz.u64 (n := 2) (by omega) (by omega)); have D2 := D.below hb2; obtain ⟨q1, q2, q3, q4⟩ := D2.cr)
              | (go_at_call 25; with_reducible refine (big_times rn n2 ra a2 rk k2 rc c2 _ 2 _ (hR.keep hb2) hI2 ?_ ?_).mono ?_; omega; omega; rintro e w3 hB3; obtain ⟨n3, a3, k3, c3, rfl, hI3, hb3⟩ := hB3.out; have D3 := D2.below hb3; obtain ⟨r1, r2, r3, r4⟩ := D3.cr))
            all_goals
              have hD := D3.putr (.bool n3) (.slice a3 k3 c3)
              have hN := IsBig.put hI3 D3.tr (.bool n3) (.slice a3 k3 c3)
              have hO := IsBig.put ((hQ.keep hb2).keep hb3) D3.tr (.bool n3) (.slice a3 k3 c3)
              clear p1 p2 p3 p4 q1 q2 q3 q4 r1 r2 r3 r4
              go_wp2_with fail
              go_meet
              case rel => exact ⟨qn, qa, qk, qc, n3, a3, k3, c3, hD, hO, by rw [EV.out]; exact hN⟩
          case rest =>
            clear hDQ
            obtain ⟨qn, qa, qk, qc, rn, ra, rk, rc, D, hQ, hR⟩ := hcut
            go_wp2_with fail
            go_cut [] from 18 to 53 (fun wx => DQ ax bx k m ca cb w (2 * qv) (2 * rv) wx)
            case first =>
              have hkq := hQ.le sq
              have EV : Hid (((2 * qv : Nat) : Int) = (qv : Int) * 2) := Lib.hid (by omega)
              obtain ⟨p1, p2, p3, p4⟩ := D.cq
              go_region_with (first
                | (go_at_call 67; with_reducible refine (big_ofu2 _).mono ?_; rintro e w2 hB2; obtain ⟨n2, a2, k2, c2, rfl, hI2, hb2⟩ := hB2.out; replace hb2 := below_undrew hb2; have hk2 := hI2.le (BM.Sz.u64 (n := 2) (by omega) (by omega)); have D2 := D.below hb2; obtain ⟨q1, q2, q3, q4⟩ := D2.cq)
                | (go_at_call 25; with_reducible refine (big_times qn n2 qa a2 qk k2 qc c2 _ 2 _ (hQ.keep hb2) hI2 ?_ ?_).mono ?_; omega; omega; rintro e w3 hB3; obtain ⟨n3, a3, k3, c3, rfl, hI3, hb3⟩ := hB3.out; have D3 := D2.below hb3; obtain ⟨r1, r2, r3, r4⟩ := D3.cq))
              all_goals
                have hD := D3.putq (.bool n3) (.slice a3 k3 c3)
                have hN := IsBig.put hI3 D3.tq (.bool n3) (.slice a3 k3 c3)
                have hO := IsBig.put ((hR.keep hb2).keep hb3) D3.tq (.bool n3) (.slice a3 k3 c3)
                clear p1 p2 p3 p4 q1 q2 q3 q4 r1 r2 r3 r4
                go_wp2_with fail
                go_meet
                case rel => exact ⟨n3, a3, k3, c3, rn, ra, rk, rc, hD, by rw [EV.out]; exact hN, hO⟩
            case rest =>
              clear D hQ hR
              obtain ⟨qn, qa, qk, qc, rn, ra, rk, rc, D, hQ, hR⟩ := hcut
              obtain ⟨gx, eax, hcx, hgx⟩ := (hx.keep D.bl).cell i (by omega)
              rw [← ED.out] at hcx
              obtain ⟨p1, p2, p3, p4⟩ := D.cA
              rw [eax] at p2
              clear eax
              have ecI : (IntKind.u64.wrap ((d : Int) / (b : Int))).tmod 2 = (c : Int) := by
                have h1 : d / b ≤ d := Nat.div_le_self _ _
                obtain ⟨v, ev⟩ : ∃ v, v = d / b := ⟨_, rfl⟩
                rw [← Int.natCast_ediv, EC.out, ← ev, IntKind.wrap_u64, Int.emod_eq_of_lt (by omega) (by omega), Int.tmod_eq_emod_of_nonneg (by omega)]; simp
              have ix : (i : Int) < (k : Int) := by omega
              go_upto_if 36 with (fail)
              go_cut [] from 18 to 53 (fun wx => DQ ax bx k m ca cb w (2 * qv) (2 * rv + c) wx)
              case first =>
                have hkr := hR.le sr2
                clear hcx p1 p2 p3 p4 ecI
                rcases (by omega : c = 0 ∨ c = 1) with rfl | rfl
                · go_wp2_with fail
                  go_meet
                  case rel => exact ⟨qn, qa, qk, qc, rn, ra, rk, rc, D, hQ, hR⟩
                · have EV : Hid (((2 * rv + 1 : Nat) : Int) = ((2 * rv : Nat) : Int) + 1) := Lib.hid (by omega)
                  go_wp2_with fail
                  obtain ⟨p1, p2, p3, p4⟩ := D.cr
                  go_region_with (first
                    | (go_at_call 67; with_reducible refine (big_ofu1 _).mono ?_; rintro e w2 hB2; obtain ⟨n2, a2, k2, c2, rfl, hI2, hb2⟩ := hB2.out; replace hb2 := below_undrew hb2; have hk2 := hI2.le (BM.Sz.u64 (n := 1) (by omega) (by omega)); have D2 := D.below hb2; obtain ⟨q1, q2, q3, q4⟩ := D2.cr)
                    | (go_at_call 61; with_reducible refine (big_plus rn n2 ra a2 rk k2 rc c2 _ 1 _ (hR.keep hb2) hI2 ?_ ?_).mono ?_; omega; omega; rintro e w3 hB3; obtain ⟨n3, a3, k3, c3, rfl, hI3, hb3⟩ := hB3.out; have D3 := D2.below hb3; obtain ⟨r1, r2, r3, r4⟩ := D3.cr))
                  all_goals
                    have hD := D3.putr (.bool n3) (.slice a3 k3 c3)
                    have hN := IsBig.put hI3 D3.tr (.bool n3) (.slice a3 k3 c3)
                    have hO := IsBig.put ((hQ.keep hb2).keep hb3) D3.tr (.bool n3) (.slice a3 k3 c3)
                    clear p1 p2 p3 p4 q1 q2 q3 q4 r1 r2 r3 r4
                    go_wp2_with fail
                    go_meet
                    case rel => exact ⟨qn, qa, qk, qc, n3, a3, k3, c3, hD, hO, by rw [EV.out]; exact hN⟩
              case rest =>
                clear D hQ hR hcx p1 p2 p3 p4 ecI
                obtain ⟨qn, qa, qk, qc, rn, ra, rk, rc, D, hQ, hR⟩ := hcut
                obtain ⟨rfl, rs, hrs, trs, ers⟩ := hR.nat
                obtain ⟨z, ez⟩ : ∃ z, cmpN (BM.bval rs) (BM.bval ys) = z := ⟨_, rfl⟩
                have hkr := hR.le srt
                have hz : (B ≤ 2 * rv + c → 0 ≤ z) ∧ (2 * rv + c < B → ¬ 0 ≤ z) := by
                  rw [← ez, ← EB.out, ers]
                  refine ⟨fun h => ?_, fun h => ?_⟩
                  · rcases Nat.lt_or_eq_of_le h with h | h
                    · rw [cmpN_gt h]; decide
                    · rw [cmpN_eq h.symm]; decide
                  · rw [cmpN_lt h]; decide
                have HZ := Lib.hid hz
                clear hz
                obtain ⟨p1, p2, p3, p4⟩ := D.cr
                obtain ⟨p5, p6, p7, p8⟩ := D.cB
                go_upto_if 45 with (go_at_call 64; with_reducible refine (big_sizes_at ra bx rk m rc cb rs ys z _ hrs (hy.keep D.bl) trs ty ?_ ?_ ez).mono ?_; omega; omega; rintro e w4 ⟨rfl, hb4⟩)
                replace D := D.below hb4
                replace hQ := hQ.keep hb4
                replace hR := hR.keep hb4
                clear p1 p2 p3 p4 p5 p6 p7 p8 hb4 hrs
                obtain ⟨q', r', HP⟩ : ∃ q' r', q' * B + r' = BM.seen H d s ∧ r' < B ∧ ((B ≤ 2 * rv + c ∧ q' = 2 * qv + 1 ∧ r' + B = 2 * rv + c) ∨ (2 * rv + c < B ∧ q' = 2 * qv ∧ r' = 2 * rv + c)) := by
                  rw [HST.out]
                  rcases Nat.lt_or_ge (2 * rv + c) B with h | h
                  · exact ⟨2 * qv, 2 * rv + c, HD.out.2 h, h, .inr ⟨h, rfl, rfl⟩⟩
                  · exact ⟨2 * qv + 1, 2 * rv + c - B, (HD.out.1 h).1, (HD.out.1 h).2, .inl ⟨h, rfl, by omega⟩⟩
                have HPP := Lib.hid HP
                clear HP
                have HR2 : ∃ x, x = 0 := ⟨0, rfl⟩
                clear HR2
                · rcases HPP.out.2.2 with ⟨hcmp, rfl, hr'⟩ | ⟨hcmp, rfl, rfl⟩
                  · have hz := HZ.out.1 hcmp
                    have hYB := hyB _ D.bl
                    have EW : Hid (((2 * rv + c : Nat) : Int) + -(B : Int) = ((r' : Nat) : Int)) := Lib.hid (by omega)
                    have hkq := hQ.le sq2
                    obtain ⟨p1, p2, p3, p4⟩ := D.cr
                    obtain ⟨p5, p6, p7, p8⟩ := D.cB
                    clear hcmp hr'
                    go_wp2_with (go_at_call 61; go_loud (with_reducible refine (big_plus false true ra bx rk m rc cb _ _ _ hR hYB ?_ ?_).mono ?_); omega; omega; rintro e w5 ⟨n5, a5, k5, c5, rfl, hI5, hb5⟩; replace D := D.below hb5; replace hQ := hQ.keep hb5; obtain ⟨r1, r2, r3, r4⟩ := D.cr)
                    rw [EW.out] at hI5
                    have hD := D.putr (.bool n5) (.slice a5 k5 c5)
                    have hN := IsBig.put hI5 D.tr (.bool n5) (.slice a5 k5 c5)
                    have hO := IsBig.put hQ D.tr (.bool n5) (.slice a5 k5 c5)
                    clear p1 p2 p3 p4 p5 p6 p7 p8 r1 r2 r3 r4 D hQ hR hI5 hb5 hYB
                    obtain ⟨W, eW⟩ : ∃ W, W = (w5.setCell ⟨w.heap.size + 1 + 1 + 1 + 1 + 1, 0, none⟩ (.bool n5)).setCell ⟨w.heap.size + 1 + 1 + 1 + 1 + 1, 1, none⟩ (.slice a5 k5 c5) := ⟨_, rfl⟩
                    rw [← eW] at hD hN hO ⊢
                    clear eW
                    have D := hD
                    have hQ := hO
                    have hR := hN
                    clear hD hO hN
                    have EV : Hid (((2 * qv + 1 : Nat) : Int) = ((2 * qv : Nat) : Int) + 1) := Lib.hid (by omega)
                    obtain ⟨p1, p2, p3, p4⟩ := D.cq
                    go_region_with (first
                      | (go_at_call 67; with_reducible refine (big_ofu1 _).mono ?_; rintro e w2 hB2; obtain ⟨n2, a2, k2, c2, rfl, hI2, hb2⟩ := hB2.out; replace hb2 := below_undrew hb2; have hk2 := hI2.le (BM.Sz.u64 (n := 1) (by omega) (by omega)); have D2 := D.below hb2; obtain ⟨q1, q2, q3, q4⟩ := D2.cq)
                      | (go_at_call 61; with_reducible refine (big_plus qn n2 qa a2 qk k2 qc c2 _ 1 _ (hQ.keep hb2) hI2 ?_ ?_).mono ?_; omega; omega; rintro e w3 hB3; obtain ⟨n3, a3, k3, c3, rfl, hI3, hb3⟩ := hB3.out; have D3 := D2.below hb3; obtain ⟨r1, r2, r3, r4⟩ := D3.cq))
                    all_goals
                      have hD := D3.putq (.bool n3) (.slice a3 k3 c3)
                      have hN := IsBig.put hI3 D3.tq (.bool n3) (.slice a3 k3 c3)
                      have hO := IsBig.put ((hR.keep hb2).keep hb3) D3.tq (.bool n3) (.slice a3 k3 c3)
                      clear p1 p2 p3 p4 q1 q2 q3 q4 r1 r2 r3 r4
                      go_wp2_with fail
                      go_roundg s
                      case measure => omega
                      case rel => exact ⟨s, _, r', by omega, rfl, by rw [EBB.out]; go_num, HPP.out.1, HPP.out.2.1, ⟨n3, a3, k3, c3, n5, a5, k5, c5, hD, by rw [EV.out]; exact hN, hO⟩⟩
                  · have hz := HZ.out.2 hcmp
                    clear hcmp
                    go_wp2_with fail
                    go_roundg s
                    case measure => omega
                    case rel => exact ⟨s, _, _, by omega, rfl, by rw [EBB.out]; go_num, HPP.out.1, HPP.out.2.1, ⟨qn, qa, qk, qc, _, ra, rk, rc, D, hQ, hR⟩⟩
end Go.Proofs.YtmkblfejoniccaaDoor
namespace Go.Proofs.YtmkblfejoniccaaDoor
open Go.RowKit
set_option linter.unusedSimpArgs false
set_option linter.unusedVariables false

theorem IsBig.sz {w : World} {neg : Bool} {ao : Option Addr} {k cap : Nat} {n : Int} (h : IsBig w neg ao k cap n) : BM.Sz n k := by
  obtain ⟨ds, h1, h2, h3, rfl⟩ := h
  have := bval_lt' h1
  unfold BM.Sz
  cases neg <;> simpa [sgn] using this
theorem one_new (w : World) : IsBig (w.alloc (.cells #[.int .u64 1] 22)) true (some ⟨w.heap.size, 0, none⟩) 1 1 (-1) := by
  refine ⟨[1], Row.pcs (n := 1) ⟨heap_alloc_new w _, rfl, ?_⟩ (by decide), ?_, (fun _ => by simp), rfl⟩
  · intro d hd; simp at hd; omega
  · intro h; simp
theorem one_at (w : World) (g : Nat) (hg : g = w.heap.size) : IsBig (w.alloc (.cells #[.int .u64 1] 22)) true (some ⟨g, 0, none⟩) 1 1 (-1) := by subst hg; exact one_new w
theorem sgn_ne {w : World} {neg : Bool} {ao : Option Addr} {k cap : Nat} {ds : List Nat} (ht : BM.Trim ds) (h : neg = true → ds ≠ []) : neg = true → BM.bval ds ≠ 0 := fun h1 h2 => h h1 (ht.eq_nil h2)
/-- The six boxes of Down. -/
def DnB (na nb : Bool) (ax bx : Option Addr) (k m ca cb : Nat) (w wr : World) (bq br : Nat) (q1 q2 r1 r2 : Value) : Prop :=
  Two wr w.heap.size (.bool na) (.slice ax k ca) ∧ Two wr (w.heap.size + 1) (.bool nb) (.slice bx m cb) ∧ Two wr (w.heap.size + 1 + 1) (.bool false) (.slice none 0 0) ∧ Two wr (w.heap.size + 1 + 1 + 1) (.bool false) (.slice none 0 0) ∧
    Two wr bq q1 q2 ∧ Two wr br r1 r2 ∧ w.heap.size + 1 + 1 + 1 < bq ∧ bq < br ∧ Below w.heap.size w wr
section
variable {na nb : Bool} {ax bx : Option Addr} {k m ca cb : Nat} {w wr w' : World} {bq br : Nat} {q1 q2 r1 r2 : Value}
theorem DnB.ta (h : DnB na nb ax bx k m ca cb w wr bq br q1 q2 r1 r2) : Two wr w.heap.size (.bool na) (.slice ax k ca) := h.1
theorem DnB.tb (h : DnB na nb ax bx k m ca cb w wr bq br q1 q2 r1 r2) : Two wr (w.heap.size + 1) (.bool nb) (.slice bx m cb) := h.2.1
theorem DnB.t2 (h : DnB na nb ax bx k m ca cb w wr bq br q1 q2 r1 r2) : Two wr (w.heap.size + 1 + 1) (.bool false) (.slice none 0 0) := h.2.2.1
theorem DnB.t3 (h : DnB na nb ax bx k m ca cb w wr bq br q1 q2 r1 r2) : Two wr (w.heap.size + 1 + 1 + 1) (.bool false) (.slice none 0 0) := h.2.2.2.1
theorem DnB.tq (h : DnB na nb ax bx k m ca cb w wr bq br q1 q2 r1 r2) : Two wr bq q1 q2 := h.2.2.2.2.1
theorem DnB.tr (h : DnB na nb ax bx k m ca cb w wr bq br q1 q2 r1 r2) : Two wr br r1 r2 := h.2.2.2.2.2.1
theorem DnB.l1 (h : DnB na nb ax bx k m ca cb w wr bq br q1 q2 r1 r2) : w.heap.size + 1 + 1 + 1 < bq := h.2.2.2.2.2.2.1
theorem DnB.l2 (h : DnB na nb ax bx k m ca cb w wr bq br q1 q2 r1 r2) : bq < br := h.2.2.2.2.2.2.2.1
theorem DnB.bl (h : DnB na nb ax bx k m ca cb w wr bq br q1 q2 r1 r2) : Below w.heap.size w wr := h.2.2.2.2.2.2.2.2
theorem DnB.below (h : DnB na nb ax bx k m ca cb w wr bq br q1 q2 r1 r2) (hb : Below wr.heap.size wr w') : DnB na nb ax bx k m ca cb w w' bq br q1 q2 r1 r2 :=
  ⟨h.ta.below hb, h.tb.below hb, h.t2.below hb, h.t3.below hb, h.tq.below hb, h.tr.below hb, h.l1, h.l2, h.bl.trans (hb.mono h.bl.size)⟩
theorem DnB.alloc (h : DnB na nb ax bx k m ca cb w wr bq br q1 q2 r1 r2) (o : Obj) : DnB na nb ax bx k m ca cb w (wr.alloc o) bq br q1 q2 r1 r2 :=
  ⟨h.ta.alloc o, h.tb.alloc o, h.t2.alloc o, h.t3.alloc o, h.tq.alloc o, h.tr.alloc o, h.l1, h.l2, h.bl.alloc h.bl.size o⟩
theorem DnB.putq (h : DnB na nb ax bx k m ca cb w wr bq br q1 q2 r1 r2) (u v : Value) : DnB na nb ax bx k m ca cb w ((wr.setCell ⟨bq, 0, none⟩ u).setCell ⟨bq, 1, none⟩ v) bq br u v r1 r2 :=
  have h1 := h.l1
  have h2 := h.l2
  ⟨h.ta.put_other (by omega) _ _, h.tb.put_other (by omega) _ _, h.t2.put_other (by omega) _ _, h.t3.put_other (by omega) _ _, h.tq.put _ _, h.tr.put_other (by omega) _ _, h1, h2, BP h.bl (by omega) u v⟩
end
theorem BigRet2.out {n p : Int} {w : World} {e : Ending} {w' : World} (h : BigRet2 n p w e w') : ∃ (qn : Bool) (qa : Option Addr) (qk qc : Nat) (rn : Bool) (ra : Option Addr) (rk rc : Nat), e = .returned (.tuple #[.agg #[.bool qn, .slice qa qk qc], .agg #[.bool rn, .slice ra rk rc]]) ∧ IsBig w' qn qa qk qc n ∧ IsBig w' rn ra rk rc p ∧ Below w.heap.size w w' := h

def Three (na nb : Bool) (ax bx : Option Addr) (k m ca cb : Nat) (w : World) (bq : Nat) (q1 q2 z1 z2 : Value) (wr : World) : Prop :=
  Two wr w.heap.size (.bool na) (.slice ax k ca) ∧ Two wr (w.heap.size + 1) (.bool nb) (.slice bx m cb) ∧ Two wr bq q1 q2 ∧ Two wr (w.heap.size + 1 + 1) z1 z2 ∧ Two wr (w.heap.size + 1 + 1 + 1) (.bool false) (.slice none 0 0)
section
variable {na nb : Bool} {ax bx : Option Addr} {k m ca cb : Nat} {w wr w' : World} {bq : Nat} {q1 q2 z1 z2 : Value}
theorem Three.t1 (h : Three na nb ax bx k m ca cb w bq q1 q2 z1 z2 wr) : Two wr w.heap.size (.bool na) (.slice ax k ca) := h.1
theorem Three.t2 (h : Three na nb ax bx k m ca cb w bq q1 q2 z1 z2 wr) : Two wr (w.heap.size + 1) (.bool nb) (.slice bx m cb) := h.2.1
theorem Three.t3 (h : Three na nb ax bx k m ca cb w bq q1 q2 z1 z2 wr) : Two wr bq q1 q2 := h.2.2.1
theorem Three.t4 (h : Three na nb ax bx k m ca cb w bq q1 q2 z1 z2 wr) : Two wr (w.heap.size + 1 + 1) z1 z2 := h.2.2.2.1
theorem Three.t5 (h : Three na nb ax bx k m ca cb w bq q1 q2 z1 z2 wr) : Two wr (w.heap.size + 1 + 1 + 1) (.bool false) (.slice none 0 0) := h.2.2.2.2
theorem Three.cells6 (h : Three na nb ax bx k m ca cb w bq q1 q2 z1 z2 wr) : wr.cell? ⟨w.heap.size, 0, none⟩ = some (.bool na) ∧ wr.cell? ⟨w.heap.size, 1, none⟩ = some (.slice ax k ca) ∧ wr.cell? ⟨w.heap.size + 1, 0, none⟩ = some (.bool nb) ∧ wr.cell? ⟨w.heap.size + 1, 1, none⟩ = some (.slice bx m cb) ∧ wr.cell? ⟨bq, 0, none⟩ = some q1 ∧ wr.cell? ⟨bq, 1, none⟩ = some q2 := ⟨h.t1.cells.1, h.t1.cells.2.1, h.t2.cells.1, h.t2.cells.2.1, h.t3.cells.1, h.t3.cells.2.1⟩
theorem Three.cells6b (h : Three na nb ax bx k m ca cb w bq q1 q2 z1 z2 wr) (hl : w.heap.size + 1 + 1 + 1 < bq) (u v : Value) (X : World) (hX : X = (wr.setCell ⟨w.heap.size + 1 + 1 + 1, 0, none⟩ u).setCell ⟨w.heap.size + 1 + 1 + 1, 1, none⟩ v) : X.cell? ⟨w.heap.size, 0, none⟩ = some (.bool na) ∧ X.cell? ⟨w.heap.size, 1, none⟩ = some (.slice ax k ca) ∧ X.cell? ⟨w.heap.size + 1, 0, none⟩ = some (.bool nb) ∧ X.cell? ⟨w.heap.size + 1, 1, none⟩ = some (.slice bx m cb) ∧ X.cell? ⟨bq, 0, none⟩ = some q1 ∧ X.cell? ⟨bq, 1, none⟩ = some q2 := by
  subst hX
  have a := h.t1.put_other (c := w.heap.size + 1 + 1 + 1) (by omega) u v
  have b := h.t2.put_other (c := w.heap.size + 1 + 1 + 1) (by omega) u v
  have c := h.t3.put_other (c := w.heap.size + 1 + 1 + 1) (by omega) u v
  exact ⟨a.cells.1, a.cells.2.1, b.cells.1, b.cells.2.1, c.cells.1, c.cells.2.1⟩
theorem Three.drew (h : Three na nb ax bx k m ca cb w bq q1 q2 z1 z2 wr) : Three na nb ax bx k m ca cb w bq q1 q2 z1 z2 wr.drew := h
theorem Three.below (hb : Below wr.heap.size wr w') (h : Three na nb ax bx k m ca cb w bq q1 q2 z1 z2 wr) : Three na nb ax bx k m ca cb w bq q1 q2 z1 z2 w' := ⟨h.t1.below hb, h.t2.below hb, h.t3.below hb, h.t4.below hb, h.t5.below hb⟩
theorem Three.put (h : Three na nb ax bx k m ca cb w bq q1 q2 z1 z2 wr) (hl : w.heap.size + 1 + 1 + 1 < bq) (u v : Value) : Three na nb ax bx k m ca cb w bq q1 q2 u v ((wr.setCell ⟨w.heap.size + 1 + 1, 0, none⟩ u).setCell ⟨w.heap.size + 1 + 1, 1, none⟩ v) :=
  ⟨h.t1.put_other (by omega) _ _, h.t2.put_other (by omega) _ _, h.t3.put_other (by omega) _ _, h.t4.put _ _, h.t5.put_other (by omega) _ _⟩
end

set_option maxRecDepth 100000 in
set_option maxHeartbeats 3200000 in
theorem big_down (na nb : Bool) (ax bx : Option Addr) (k m ca cb : Nat) (A B : Int) (w : World) (ha : IsBig w na ax k ca A) (hb : IsBig w nb bx m cb B) (hk : k ≤ 10000) (hm : m ≤ 10000) (hB : B ≠ 0) :
    Calls Tryd.prog 68 #[.agg #[.bool na, .slice ax k ca], .agg #[.bool nb, .slice bx m cb]] w (BigRet2 (fq A B) (fr A B) w) := by
  have hA := ha
  have hBB := hb
  have sA := ha.sz
  have sB := hb.sz
  have sF : BM.Sz (fq A B) k := sA.le (fq_abs hB)
  have sFB := sF.mul sB
  obtain ⟨xs, hx, tx, nx, eA⟩ := ha
  obtain ⟨ys, hy, ty, ny, eB⟩ := hb
  have hY : 0 < BM.bval ys := by
    rcases Nat.eq_zero_or_pos (BM.bval ys) with h | h
    · exfalso; apply hB; rw [eB, h]; cases nb <;> rfl
    · exact h
  have hdq := down_q (na := na) (nb := nb) (x := BM.bval xs) (y := BM.bval ys) (fun h1 h2 => nx h1 (tx.eq_nil h2)) (fun h1 h2 => ny h1 (ty.eq_nil h2)) hY
  rw [← eA, ← eB] at hdq
  have hxl := bval_lt' hx
  obtain ⟨F, eF⟩ : ∃ F, F = fq A B := ⟨_, rfl⟩
  have eR : fr A B = A + -(F * B) := by unfold fr; rw [eF, Int.sub_eq_add_neg]
  rw [← eF] at hdq sF sFB ⊢
  rw [eR]
  obtain ⟨q, eq⟩ : ∃ q, q = BM.bval xs / BM.bval ys := ⟨_, rfl⟩
  obtain ⟨r, er⟩ : ∃ r, r = BM.bval xs % BM.bval ys := ⟨_, rfl⟩
  have sq : BM.Sz (q : Int) k := sz_nat (by rw [eq]; exact Nat.lt_of_le_of_lt (Nat.div_le_self _ _) hxl)
  have hdv := big_divided ax bx k m ca cb xs ys
  rw [← eq, ← er] at hdq hdv
  have HQ := Lib.hid hdq
  clear hdq eF eR eq er eA eB hxl nx ny sA
  go_enter Tryd.func68, Tryd.ntmps68
  go_wp2_with fail
  refine (hdv _ (hx.keep (by repeat' (first | (with_reducible exact Below.refl _ _) | (with_reducible assumption) | (with_reducible refine below_alloc ?_ _ ?_) | (with_reducible refine below_set _ ?_ ?_) | (with_reducible refine Below.drew ?_) | (with_reducible refine below_dN ?_ _) | (apply below_thenA; assumption) | omega | (simp; done) | (simp; omega) | (simp [*]; done)))) (hy.keep (by repeat' (first | (with_reducible exact Below.refl _ _) | (with_reducible assumption) | (with_reducible refine below_alloc ?_ _ ?_) | (with_reducible refine below_set _ ?_ ?_) | (with_reducible refine Below.drew ?_) | (with_reducible refine below_dN ?_ _) | (apply below_thenA; assumption) | omega | (simp; done) | (simp; omega) | (simp [*]; done)))) tx ty hk hm hY).mono ?_
  clear hdv
  rintro e w1 hRet
  obtain ⟨qn, qa, qk, qc, rn, ra, rk, rc, rfl, hQ, hR, hb1⟩ := hRet.out
  have hz := bz4 (n := w.heap.size) hb1 (by simp)
  have hz1 : w.heap.size + 1 + 1 + 1 < w1.heap.size := by have := hb1.size; simp at this; omega
  have ta := ((((Two.new w (.bool na) (.slice ax k ca) _ rfl).alloc (.cells #[.bool nb, .slice bx m cb] 41)).alloc (.cells #[.bool false, .slice none 0 0] 41)).alloc (.cells #[.bool false, .slice none 0 0] 41)).below hb1
  have tb := (((Two.new (w.alloc (.cells #[.bool na, .slice ax k ca] 41)) (.bool nb) (.slice bx m cb) (w.heap.size + 1) (by simp)).alloc (.cells #[.bool false, .slice none 0 0] 41)).alloc (.cells #[.bool false, .slice none 0 0] 41)).below hb1
  have t2 := ((Two.new ((w.alloc (.cells #[.bool na, .slice ax k ca] 41)).alloc (.cells #[.bool nb, .slice bx m cb] 41)) (.bool false) (.slice none 0 0) (w.heap.size + 1 + 1) (by simp)).alloc (.cells #[.bool false, .slice none 0 0] 41)).below hb1
  have t3 := (Two.new (((w.alloc (.cells #[.bool na, .slice ax k ca] 41)).alloc (.cells #[.bool nb, .slice bx m cb] 41)).alloc (.cells #[.bool false, .slice none 0 0] 41)) (.bool false) (.slice none 0 0) (w.heap.size + 1 + 1 + 1) (by simp)).below hb1
  have hbw : Below w.heap.size w w1 := (by repeat' (first | (with_reducible exact Below.refl _ _) | (with_reducible assumption) | (with_reducible refine below_alloc ?_ _ ?_) | (with_reducible refine below_set _ ?_ ?_) | (with_reducible refine Below.drew ?_) | (with_reducible refine below_dN ?_ _) | (apply below_thenA; assumption) | omega | (simp; done) | (simp; omega) | (simp [*]; done)))
  have D : DnB na nb ax bx k m ca cb w ((w1.alloc (.cells #[.bool qn, .slice qa qk qc] 41)).alloc (.cells #[.bool rn, .slice ra rk rc] 41)) w1.heap.size (w1.heap.size + 1) (.bool qn) (.slice qa qk qc) (.bool rn) (.slice ra rk rc) :=
    ⟨(ta.alloc _).alloc _, (tb.alloc _).alloc _, (t2.alloc _).alloc _, (t3.alloc _).alloc _, (Two.new _ _ _ _ rfl).alloc _, Two.new _ _ _ _ (by simp), hz1, by omega, (by repeat' (first | (with_reducible exact Below.refl _ _) | (with_reducible assumption) | (with_reducible refine below_alloc ?_ _ ?_) | (with_reducible refine below_set _ ?_ ?_) | (with_reducible refine Below.drew ?_) | (with_reducible refine below_dN ?_ _) | (apply below_thenA; assumption) | omega | (simp; done) | (simp; omega) | (simp [*]; done)))⟩
  replace hQ : IsBig ((w1.alloc (.cells #[.bool qn, .slice qa qk qc] 41)).alloc (.cells #[.bool rn, .slice ra rk rc] 41)) qn qa qk qc (q : Int) := hQ.keep (by repeat' (first | (with_reducible exact Below.refl _ _) | (with_reducible assumption) | (with_reducible refine below_alloc ?_ _ ?_) | (with_reducible refine below_set _ ?_ ?_) | (with_reducible refine Below.drew ?_) | (with_reducible refine below_dN ?_ _) | (apply below_thenA; assumption) | omega | (simp; done) | (simp; omega) | (simp [*]; done)))
  replace hR : IsBig ((w1.alloc (.cells #[.bool qn, .slice qa qk qc] 41)).alloc (.cells #[.bool rn, .slice ra rk rc] 41)) rn ra rk rc (r : Int) := hR.keep (by repeat' (first | (with_reducible exact Below.refl _ _) | (with_reducible assumption) | (with_reducible refine below_alloc ?_ _ ?_) | (with_reducible refine below_set _ ?_ ?_) | (with_reducible refine Below.drew ?_) | (with_reducible refine below_dN ?_ _) | (apply below_thenA; assumption) | omega | (simp; done) | (simp; omega) | (simp [*]; done)))
  obtain ⟨p1, p2, p3, p4⟩ := ta.cells
  obtain ⟨p5, p6, p7, p8⟩ := tb.cells
  clear hRet hb1 t2 t3 hbw
  go_upto_if 22 with (fail)
  clear p1 p2 p3 p4 p5 p6 p7 p8 ta tb
  obtain ⟨c, ec⟩ : ∃ c, c = (na == nb) := ⟨_, rfl⟩
  rw [← ec]
  have EC := Lib.hid ec
  clear ec
  go_cut [] from 22 (fun wx => ∃ qn qa qk qc, DnB na nb ax bx k m ca cb w wx w1.heap.size (w1.heap.size + 1) (.bool qn) (.slice qa qk qc) (.bool rn) (.slice ra rk rc) ∧ IsBig wx qn qa qk qc F)
  case first =>
    obtain ⟨rfl, rs, hrs, trs, ers⟩ := hR.nat
    have hrk : (r = 0 → rk = 0) ∧ (0 < r → 0 < rk) := by
      have hl := hrs.len
      refine ⟨fun h => ?_, fun h => ?_⟩
      · have := trs.eq_nil (by omega); rw [this] at hl; simp at hl; omega
      · rcases Nat.eq_zero_or_pos rk with h0 | h0
        · rw [h0] at hl; have : rs = [] := List.eq_nil_of_length_eq_zero hl; rw [this] at ers; simp [BM.bval] at ers; omega
        · exact h0
    have HK := Lib.hid hrk
    have hkq := hQ.le sq
    clear hrk hrs trs ers hR
    obtain ⟨p1, p2, p3, p4⟩ := D.tq.cells
    cases c
    · have hs : na ≠ nb := by have := EC.out; intro h; simp [h] at this
      by_cases h0 : r = 0
      · have e := Lib.hid (HQ.out.2.1 hs h0)
        have hr0 := HK.out.1 h0
        clear hs h0
        subst hr0
        go_wp2_with (go_at_call 63; go_loud (with_reducible refine (big_minus qn qa qk qc _ _ hQ ?_).mono ?_); omega; rintro e w2 ⟨n2, a2, k2, c2, rfl, hI2, hb2⟩; replace D := D.below hb2; obtain ⟨q1, q2, q3, q4⟩ := D.tq.cells; obtain ⟨r1, r2, r3, r4⟩ := D.tr.cells)
        go_meet
        case rel => exact ⟨n2, a2, k2, c2, D.putq _ _, by rw [e.out]; exact IsBig.put hI2 D.tq _ _⟩
      · have e := Lib.hid (HQ.out.2.2 hs (by omega))
        have hr0 := HK.out.2 (by omega)
        clear hs h0
        go_wp2_with (first
          | (go_at_call 63; go_loud (with_reducible refine (big_minus qn qa qk qc _ _ hQ ?_).mono ?_); omega; rintro e w2 ⟨n2, a2, k2, c2, rfl, hI2, hb2⟩; (have hk2 := hI2.le sq.neg); replace D := D.below hb2; obtain ⟨q1, q2, q3, q4⟩ := D.tq.cells; obtain ⟨r1, r2, r3, r4⟩ := D.tr.cells; have hN := IsBig.put hI2 D.tq (.bool n2) (.slice a2 k2 c2); have hD := D.putq (.bool n2) (.slice a2 k2 c2))
          | (go_at_call 61; go_loud (with_reducible refine (big_plus n2 true a2 _ k2 1 c2 1 (-(q : Int)) (-1) _ (hN.keep (by repeat' (first | (with_reducible exact Below.refl _ _) | (with_reducible assumption) | (with_reducible refine below_alloc ?_ _ ?_) | (with_reducible refine below_set _ ?_ ?_) | (with_reducible refine Below.drew ?_) | (with_reducible refine below_dN ?_ _) | (apply below_thenA; assumption) | omega | (simp; done) | (simp; omega) | (simp [*]; done)))) (one_at _ _ (by simp)) ?_ ?_).mono ?_); omega; omega; rintro e w3 ⟨n3, a3, k3, c3, rfl, hI3, hb3⟩; have hD3 := (hD.alloc (.cells #[.int .u64 1] 22)).below hb3; obtain ⟨s1, s2, s3, s4⟩ := hD3.tq.cells))
        go_meet
        case rel => exact ⟨n3, a3, k3, c3, hD3.putq _ _, by rw [e.out]; exact IsBig.put hI3 hD3.tq _ _⟩
    · have e := HQ.out.1 (by have := EC.out; simpa using this.symm)
      rw [← e] at hQ
      clear e
      go_wp2_with fail
      go_meet
      case rel => exact ⟨qn, qa, qk, qc, D, hQ⟩
  case rest =>
    clear D hQ hR
    obtain ⟨qn, qa, qk, qc, D, hQ⟩ := hcut
    have hkq := hQ.le sF
    have hA' := hA.keep D.bl
    have hB' := hBB.keep D.bl
    obtain ⟨p1, p2, p3, p4⟩ := D.ta.cells
    obtain ⟨p5, p6, p7, p8⟩ := D.tb.cells
    obtain ⟨q1, q2, q3, q4⟩ := D.tq.cells
    obtain ⟨r1, r2, r3, r4⟩ := D.t2.cells
    obtain ⟨r5, r6, r7, r8⟩ := D.t3.cells
    have z2 := D.t2
    have z3 := D.t3
    have l1 := D.l1
    have l2 := D.l2
    have lz := D.tr.lt
    have hbl := D.bl
    have T : Three na nb ax bx k m ca cb w w1.heap.size (.bool qn) (.slice qa qk qc) (.bool false) (.slice none 0 0) wc := ⟨D.ta, D.tb, D.tq, D.t2, D.t3⟩
    have n1 : ¬ w1.heap.size = w.heap.size + 1 + 1 := by omega
    have n2 : ¬ w1.heap.size = w.heap.size + 1 + 1 + 1 := by omega
    have g1 : w.heap.size < wc.heap.size := by omega
    have g2 : w.heap.size + 1 < wc.heap.size := by omega
    have g3 : w1.heap.size < wc.heap.size := by omega
    go_wp2_with fail
    go_region_held3 (fun w' => w'.cell? ⟨w.heap.size, 0, none⟩ = some (.bool na) ∧ w'.cell? ⟨w.heap.size, 1, none⟩ = some (.slice ax k ca) ∧ w'.cell? ⟨w.heap.size + 1, 0, none⟩ = some (.bool nb) ∧ w'.cell? ⟨w.heap.size + 1, 1, none⟩ = some (.slice bx m cb) ∧ w'.cell? ⟨w1.heap.size, 0, none⟩ = some (.bool qn) ∧ w'.cell? ⟨w1.heap.size, 1, none⟩ = some (.slice qa qk qc))
      (with_reducible first | exact ⟨p1, p2, p5, p6, q1, q2⟩ | exact T.cells6 | exact (T.put l1 _ _).cells6 | exact (T.put l1 _ _).cells6b l1 _ _ _ rfl | exact T.drew.cells6 | exact (T.put l1 _ _).drew.cells6)
      (first
      | (go_at_call 25; go_loud (with_reducible refine (big_times qn nb qa bx qk m qc cb F B _ (IsBig.keeps hQ (by repeat' (first | (with_reducible exact Keeps.refl _) | (with_reducible refine Keeps.alloc ?_ _) | (with_reducible refine Keeps.drew ?_) | (with_reducible refine Keeps.drewN ?_ _) | (with_reducible refine Keeps.set ?_ _ _ (T := 41) ?_ (by decide)) | (with_reducible exact TyAt.new _ _ _ _ (by simp)) | (with_reducible refine TyAt.set ?_ _ _) | (with_reducible refine TyAt.alloc ?_ _) | (with_reducible refine TyAt.drew ?_) | (with_reducible refine TyAt.drewN ?_ _) | (apply Keeps.below; assumption) | (exact Two.ty (by assumption)) | (apply TyAt.below; rotate_left; assumption)))) (IsBig.keeps hB' (by repeat' (first | (with_reducible exact Keeps.refl _) | (with_reducible refine Keeps.alloc ?_ _) | (with_reducible refine Keeps.drew ?_) | (with_reducible refine Keeps.drewN ?_ _) | (with_reducible refine Keeps.set ?_ _ _ (T := 41) ?_ (by decide)) | (with_reducible exact TyAt.new _ _ _ _ (by simp)) | (with_reducible refine TyAt.set ?_ _ _) | (with_reducible refine TyAt.alloc ?_ _) | (with_reducible refine TyAt.drew ?_) | (with_reducible refine TyAt.drewN ?_ _) | (apply Keeps.below; assumption) | (exact Two.ty (by assumption)) | (apply TyAt.below; rotate_left; assumption)))) ?_ ?_).mono ?_); omega; omega; rintro e w4 hB4; obtain ⟨n4, a4, k4, c4, rfl, hI4, hb4⟩ := hB4.out; have hk4 := hI4.le sFB; obtain ⟨hc4, hf4⟩ := bcell hb4; replace T := Three.below hb4 (by with_reducible first | exact T.drew | exact (T.put l1 _ _).drew | exact T | exact T.put l1 _ _); obtain ⟨p1, p2, p3, p4⟩ := T.t1.cells; obtain ⟨p5, p6, p7, p8⟩ := T.t2.cells; obtain ⟨q1, q2, q3, q4⟩ := T.t3.cells; obtain ⟨r1, r2, r3, r4⟩ := T.t4.cells; obtain ⟨r5, r6, r7, r8⟩ := T.t5.cells)
      | (go_at_call 63; go_loud (with_reducible refine (big_minus n4 a4 k4 c4 (F * B) _ (IsBig.keeps hI4 (by repeat' (first | (with_reducible exact Keeps.refl _) | (with_reducible refine Keeps.alloc ?_ _) | (with_reducible refine Keeps.drew ?_) | (with_reducible refine Keeps.drewN ?_ _) | (with_reducible refine Keeps.set ?_ _ _ (T := 41) ?_ (by decide)) | (with_reducible exact TyAt.new _ _ _ _ (by simp)) | (with_reducible refine TyAt.set ?_ _ _) | (with_reducible refine TyAt.alloc ?_ _) | (with_reducible refine TyAt.drew ?_) | (with_reducible refine TyAt.drewN ?_ _) | (apply Keeps.below; assumption) | (exact Two.ty (by assumption)) | (apply TyAt.below; rotate_left; assumption)))) ?_).mono ?_); omega; rintro e w5 hB5; obtain ⟨n5, a5, k5, c5, rfl, hI5, hb5⟩ := hB5.out; have hk5 := hI5.le sFB.neg; obtain ⟨hc5, hf5⟩ := bcell hb5; replace T := Three.below hb5 (by with_reducible first | exact T.drew | exact (T.put l1 _ _).drew | exact T | exact T.put l1 _ _); obtain ⟨p1, p2, p3, p4⟩ := T.t1.cells; obtain ⟨p5, p6, p7, p8⟩ := T.t2.cells; obtain ⟨q1, q2, q3, q4⟩ := T.t3.cells; obtain ⟨r1, r2, r3, r4⟩ := T.t4.cells; obtain ⟨r5, r6, r7, r8⟩ := T.t5.cells)
      | (go_at_call 61; go_loud (with_reducible refine (big_plus na n5 ax a5 k k5 ca c5 A (-(F * B)) _ (IsBig.keeps hA' (by repeat' (first | (with_reducible exact Keeps.refl _) | (with_reducible refine Keeps.alloc ?_ _) | (with_reducible refine Keeps.drew ?_) | (with_reducible refine Keeps.drewN ?_ _) | (with_reducible refine Keeps.set ?_ _ _ (T := 41) ?_ (by decide)) | (with_reducible exact TyAt.new _ _ _ _ (by simp)) | (with_reducible refine TyAt.set ?_ _ _) | (with_reducible refine TyAt.alloc ?_ _) | (with_reducible refine TyAt.drew ?_) | (with_reducible refine TyAt.drewN ?_ _) | (apply Keeps.below; assumption) | (exact Two.ty (by assumption)) | (apply TyAt.below; rotate_left; assumption)))) (IsBig.keeps hI5 (by repeat' (first | (with_reducible exact Keeps.refl _) | (with_reducible refine Keeps.alloc ?_ _) | (with_reducible refine Keeps.drew ?_) | (with_reducible refine Keeps.drewN ?_ _) | (with_reducible refine Keeps.set ?_ _ _ (T := 41) ?_ (by decide)) | (with_reducible exact TyAt.new _ _ _ _ (by simp)) | (with_reducible refine TyAt.set ?_ _ _) | (with_reducible refine TyAt.alloc ?_ _) | (with_reducible refine TyAt.drew ?_) | (with_reducible refine TyAt.drewN ?_ _) | (apply Keeps.below; assumption) | (exact Two.ty (by assumption)) | (apply TyAt.below; rotate_left; assumption)))) ?_ ?_).mono ?_); omega; omega; rintro e w6 hB6; obtain ⟨n6, a6, k6, c6, rfl, hI6, hb6⟩ := hB6.out; obtain ⟨hc6, hf6⟩ := bcell hb6; replace T := Three.below hb6 (by with_reducible first | exact T.drew | exact (T.put l1 _ _).drew | exact T | exact T.put l1 _ _); obtain ⟨p1, p2, p3, p4⟩ := T.t1.cells; obtain ⟨p5, p6, p7, p8⟩ := T.t2.cells; obtain ⟨q1, q2, q3, q4⟩ := T.t3.cells; obtain ⟨r1, r2, r3, r4⟩ := T.t4.cells; obtain ⟨r5, r6, r7, r8⟩ := T.t5.cells))
    go_wp2_with fail
    have hQ6 := IsBig.keeps hQ (show Keeps wc w6 from (by repeat' (first | (with_reducible exact Keeps.refl _) | (with_reducible refine Keeps.alloc ?_ _) | (with_reducible refine Keeps.drew ?_) | (with_reducible refine Keeps.drewN ?_ _) | (with_reducible refine Keeps.set ?_ _ _ (T := 41) ?_ (by decide)) | (with_reducible exact TyAt.new _ _ _ _ (by simp)) | (with_reducible refine TyAt.set ?_ _ _) | (with_reducible refine TyAt.alloc ?_ _) | (with_reducible refine TyAt.drew ?_) | (with_reducible refine TyAt.drewN ?_ _) | (apply Keeps.below; assumption) | (exact Two.ty (by assumption)) | (apply TyAt.below; rotate_left; assumption))))
    have hN := IsBig.put (IsBig.put hQ6 T.t4 (.bool qn) (.slice qa qk qc)) (T.put l1 (.bool qn) (.slice qa qk qc)).t5 (.bool n6) (.slice a6 k6 c6)
    have hO := IsBig.put (IsBig.put hI6 T.t4 (.bool qn) (.slice qa qk qc)) (T.put l1 (.bool qn) (.slice qa qk qc)).t5 (.bool n6) (.slice a6 k6 c6)
    have hl : Below w.heap.size w w6 := below_step (below_step (below_step hbl (below_undrew hb4)) hb5) hb6
    have hL := BP (BP hl (b := w.heap.size + 1 + 1) (by omega) (.bool qn) (.slice qa qk qc)) (b := w.heap.size + 1 + 1 + 1) (by omega) (.bool n6) (.slice a6 k6 c6)
    (go_light; simp [bodyPost, results, Tryd.results68, go_sem, *])
    exact ⟨qn, qa, qk, qc, n6, a6, k6, c6, rfl, hN, hO, hL⟩
end Go.Proofs.YtmkblfejoniccaaDoor
namespace Go.Proofs.YtmkblfejoniccaaDoor
open Go.RowKit
set_option linter.unusedSimpArgs false
set_option linter.unusedVariables false

/-- A number, or a giving up. -/
def Gives (n c : Int) (w : World) (e : Ending) (w' : World) : Prop := (c = 0 → e = .returned (.int .i64 n)) ∧ (c ≠ 0 → e = .panicked (gave c)) ∧ Below w.heap.size w w'
def partE (a n d : Int) : Int := if d = 0 then 3 else if lenB (fq (a * n) d) then 0 else 2
def partN (a n d : Int) : Int := if d = 0 then 0 else if lenB (fq (a * n) d) then fq (a * n) d else 0
theorem lenB_iff (X : Int) : lenB X = true ↔ LenB X := by unfold lenB LenB; simp
theorem fix_part_any (a n d : Int) (ha : IFit a) (hn : IFit n) (hd : IFit d) (w : World) :
    Calls Tryd.prog 107 #[.int .i64 a, .int .i64 n, .int .i64 d] w (Gives (partN a n d) (partE a n d) w) := by
  unfold Gives partN partE
  by_cases h0 : d = 0
  · subst h0
    refine (fix_part_zero a n w).mono fun e w' h => ?_
    obtain ⟨rfl, rfl⟩ := h
    exact ⟨fun h => by simp at h, fun _ => by simp, Below.refl _ _⟩
  · simp only [if_neg h0]
    cases hl : lenB (fq (a * n) d)
    · exact (fix_part_no a n d ha hn hd h0 (fun h => by rw [(lenB_iff _).2 h] at hl; cases hl) w).mono fun e w' h => ⟨fun h => by simp at h, fun _ => h.1, h.2⟩
    · exact (fix_part a n d ha hn hd h0 ((lenB_iff _).1 hl) w).mono fun e w' h => ⟨fun _ => h.1, fun h => by simp at h, h.2⟩
def scaleE (n p q : Int) : Int := if goodB p q then partE n p q else 1
def scaleN (n p q : Int) : Int := if goodB p q then partN n p q else 0
theorem goodB_pos {p q : Int} (h : goodB p q = true) : 1 ≤ q := by unfold goodB at h; simp at h; omega
set_option maxRecDepth 100000 in
set_option maxHeartbeats 1600000 in
theorem fix_scale (n p q : Int) (hn : IFit n) (hp : IFit p) (hq : IFit q) (w : World) :
    Calls Tryd.prog 82 #[.int .i64 n, .agg #[.int .i64 p, .int .i64 q]] w (Gives (scaleN n p q) (scaleE n p q) w) := by
  have DN := fun W => rat_down n p q hn hp hq W
  have t := Rx.new w (.int .i64 p) (.int .i64 q) _ rfl
  have hB : Below w.heap.size w (w.alloc (.cells #[.int .i64 p, .int .i64 q] 25)) := (by repeat' (first | (with_reducible exact Below.refl _ _) | (with_reducible assumption) | (with_reducible refine below_alloc ?_ _ ?_) | (with_reducible refine below_set _ ?_ ?_) | (with_reducible refine Below.drew ?_) | (with_reducible refine below_dN ?_ _) | (apply below_thenA; assumption) | omega | (simp; done) | (simp; omega) | (simp [*]; done)))
  obtain ⟨p1, p2, p3, p4⟩ := t.cells
  unfold scaleN scaleE partN partE
  cases hg : goodB p q
  · have D1 := fun W => (DN W).mono fun _ _ h => (⟨h.1 hg, h.2.2.2⟩ : _ ∧ _)
    clear DN hg hn hp hq
    go_enter Tryd.func82, Tryd.ntmps82
    go_wp2_with fail
    refine (D1 _).mono ?_
    rintro e w1 ⟨rfl, hb1⟩
    replace hB := hB.trans (hb1.mono hB.size)
    go_wp2_with (go_at_call 105; with_reducible refine (fix_fail 1 (by decide) _).mono ?_; rintro e w2 ⟨rfl, rfl⟩)
    simp [bodyPost, Gives]
    exact hB
  · have hq1 := goodB_pos hg
    have h0 : ¬ q = 0 := by omega
    simp only [if_neg h0]
    by_cases hf : IFit (fq (n * p) q)
    · have D1 := fun W => (DN W).mono fun _ _ h => (⟨h.2.1 hg hf, h.2.2.2⟩ : _ ∧ _)
      cases hl : lenB (fq (n * p) q)
      · have OF := fun W => fix_of_no (fq (n * p) q) hf (fun h => by rw [(lenB_iff _).2 h] at hl; cases hl) W
        obtain ⟨F, eF⟩ : ∃ F, fq (n * p) q = F := ⟨_, rfl⟩
        rw [eF] at D1 OF
        clear DN hg hn hp hq eF hl hf hq1 h0
        go_enter Tryd.func82, Tryd.ntmps82
        go_wp2_with fail
        refine (D1 _).mono ?_
        rintro e w1 ⟨rfl, hb1⟩
        replace hB := hB.trans (hb1.mono hB.size)
        go_wp2_with (first
          | (go_at_call 105; with_reducible refine (fix_fail0 _).mono ?_; rintro e w2 ⟨rfl, rfl⟩)
          | (go_at_call 106; with_reducible refine (OF _).mono ?_; rintro e w2 ⟨rfl, rfl⟩))
        simp [bodyPost, Gives]
        exact hB
      · have OF := fun W => fix_of (fq (n * p) q) hf ((lenB_iff _).1 hl) W
        obtain ⟨F, eF⟩ : ∃ F, fq (n * p) q = F := ⟨_, rfl⟩
        rw [eF] at D1 OF ⊢
        clear DN hg hn hp hq eF hl hf hq1 h0
        go_enter Tryd.func82, Tryd.ntmps82
        go_wp2_with fail
        refine (D1 _).mono ?_
        rintro e w1 ⟨rfl, hb1⟩
        replace hB := hB.trans (hb1.mono hB.size)
        go_wp2_with (first
          | (go_at_call 105; with_reducible refine (fix_fail0 _).mono ?_; rintro e w2 ⟨rfl, rfl⟩)
          | (go_at_call 106; with_reducible refine (OF _).mono ?_; rintro e w2 ⟨rfl, rfl⟩))
        go_ret
        exact ⟨fun _ => rfl, fun h => absurd rfl h, hB⟩
    · have D1 := fun W => (DN W).mono fun _ _ h => (⟨h.2.2.1 hg hf, h.2.2.2⟩ : _ ∧ _)
      have hl : lenB (fq (n * p) q) = false := by
        rw [Bool.eq_false_iff]; intro h; exact hf ((lenB_iff _).1 h).fit
      rw [hl]
      clear DN hg hn hp hq hl hf hq1 h0
      go_enter Tryd.func82, Tryd.ntmps82
      go_wp2_with fail
      refine (D1 _).mono ?_
      rintro e w1 ⟨rfl, hb1⟩
      replace hB := hB.trans (hb1.mono hB.size)
      go_wp2_with (go_at_call 105; with_reducible refine (fix_fail2 _).mono ?_; rintro e w2 ⟨rfl, rfl⟩)
      simp [bodyPost, Gives]
      exact hB
theorem fix_px_any (a : Int) (ha : IFit a) (w : World) : Calls Tryd.prog 83 #[.int .i64 a] w (Gives (partN a 64 1) (partE a 64 1) w) := by
  have PT := fun W => fix_part_any a 64 1 ha (by unfold IFit; omega) (by unfold IFit; omega) W
  unfold partN partE at PT ⊢
  obtain ⟨F, eF⟩ : ∃ F, fq (a * 64) 1 = F := ⟨_, rfl⟩
  rw [eF] at PT ⊢
  simp only [if_neg (show ¬ (1 : Int) = 0 by decide)] at PT ⊢
  clear eF
  cases hl : lenB F
  · rw [hl] at PT
    clear hl
    go_enter Tryd.func83, Tryd.ntmps83
    go_wp2_with fail
    refine (PT _).mono ?_
    rintro e w1 ⟨_, h, hb1⟩
    obtain rfl := h (by decide)
    simp [bodyPost, Gives]
    exact hb1
  · rw [hl] at PT
    clear hl
    go_enter Tryd.func83, Tryd.ntmps83
    go_wp2_with fail
    refine (PT _).mono ?_
    rintro e w1 ⟨h, _, hb1⟩
    obtain rfl := h rfl
    go_wp2_with fail
    go_ret
    exact ⟨fun _ => rfl, fun h => absurd rfl h, hb1⟩
/-- A closure that puts a number into a block's cell, or gives up. -/
def Puts (b off : Nat) (n c : Int) (w : World) (e : Ending) (w' : World) : Prop :=
  (c = 0 → e = .returned (.tuple #[]) ∧ ∃ w3, Below w.heap.size w w3 ∧ w' = w3.setCell ⟨b, off, none⟩ (.int .i64 n)) ∧ (c ≠ 0 → e = .panicked (gave c) ∧ Below w.heap.size w w')
theorem try_puts (F : Nat) (cap : Array Value) (b off : Nat) (n c : Int) (w : World) (cs : Array Value) (T : TypeId) (hb : Blk w b cs T) (hen : ∀ w, (callFunc F cap).run Tryd.prog w = .ok (.enter F cap) w)
    (h : ∀ W, Below w.heap.size w W → Calls Tryd.prog F cap W (Puts b off n c W)) :
    Calls Tryd.prog 34 #[.func (.func F) #[] cap] w fun e w' => e = .returned (.int .i64 c) ∧ But b w w' ∧ Blk w' b (if c = 0 then cs.setIfInBounds off (.int .i64 n) else cs) T := by
  have hlt := hb.lt
  have o1 : Blk (w.alloc (.cells #[.int .i64 0] 26)) w.heap.size #[.int .i64 0] 26 := Blk.new w _ _ _ rfl
  have b1 := hb.alloc (.cells #[.int .i64 0] 26)
  refine (fix_try F cap w (fun c' w1 => c' = c ∧ But b (w.alloc (.cells #[.int .i64 0] 26)) w1 ∧ Blk w1 b (if c = 0 then cs.setIfInBounds off (.int .i64 n) else cs) T) hen ((h _ (by repeat' (first | (with_reducible exact Below.refl _ _) | (with_reducible assumption) | (with_reducible refine below_alloc ?_ _ ?_) | (with_reducible refine below_set _ ?_ ?_) | (with_reducible refine Below.drew ?_) | (with_reducible refine below_dN ?_ _) | (apply below_thenA; assumption) | omega | (simp; done) | (simp; omega) | (simp [*]; done)))).mono fun e w1 x => ?_)).mono fun e w' x => ?_
  · by_cases hc : c = 0
    · obtain ⟨rfl, w3, hb3, rfl⟩ := x.1 hc
      have o3 := (o1.below hb3).other (c := b) (by omega) off (.int .i64 n)
      refine ⟨o3.cell 0 _ rfl, o3.free 0, .inl ⟨rfl, hc.symm, (But.of hb3).trans (But.set _ _ _), ?_⟩⟩
      rw [if_pos hc]
      exact (b1.below hb3).set _ _
    · obtain ⟨rfl, hb3⟩ := x.2 hc
      have o3 := o1.below hb3
      refine ⟨o3.cell 0 _ rfl, o3.free 0, .inr ⟨c, rfl, rfl, But.of hb3, ?_⟩⟩
      rw [if_neg hc]
      exact b1.below hb3
  · obtain ⟨c', w1, ⟨rfl, hbut, hblk⟩, rfl, rfl⟩ := x
    refine ⟨rfl, ((But.of (b := b) (show Below w.heap.size w (w.alloc (.cells #[.int .i64 0] 26)) from (by repeat' (first | (with_reducible exact Below.refl _ _) | (with_reducible assumption) | (with_reducible refine below_alloc ?_ _ ?_) | (with_reducible refine below_set _ ?_ ?_) | (with_reducible refine Below.drew ?_) | (with_reducible refine below_dN ?_ _) | (apply below_thenA; assumption) | omega | (simp; done) | (simp; omega) | (simp [*]; done))))).trans hbut).setNew (Nat.le_refl _) _ _, hblk.other (by omega) _ _⟩
/-- Try over a closure that turns some old blocks. -/
theorem try_blks (F : Nat) (cap : Array Value) (c : Int) (L : List (Nat × Array Value × TypeId)) (w : World) (hl : ∀ e, e ∈ L → e.1 < w.heap.size) (hen : ∀ w, (callFunc F cap).run Tryd.prog w = .ok (.enter F cap) w)
    (h : ∀ W, Below w.heap.size w W → Calls Tryd.prog F cap W fun e W' => (c = 0 → e = .returned (.tuple #[])) ∧ (c ≠ 0 → e = .panicked (gave c)) ∧ BlkL W' L ∧ ButL (L.map (·.1)) W W') :
    Calls Tryd.prog 34 #[.func (.func F) #[] cap] w fun e w' => e = .returned (.int .i64 c) ∧ BlkL w' L ∧ ButL (L.map (·.1)) w w' := by
  have o1 : Blk (w.alloc (.cells #[.int .i64 0] 26)) w.heap.size #[.int .i64 0] 26 := Blk.new w _ _ _ rfl
  have hnew : w.heap.size ∉ L.map (·.1) := fun hm => by
    obtain ⟨e, he, e2⟩ := List.mem_map.1 hm
    have := hl e he
    omega
  refine (fix_try F cap w (fun c' w1 => c' = c ∧ BlkL w1 L ∧ ButL (L.map (·.1)) (w.alloc (.cells #[.int .i64 0] 26)) w1) hen ((h _ (by repeat' (first | (with_reducible exact Below.refl _ _) | (with_reducible assumption) | (with_reducible refine below_alloc ?_ _ ?_) | (with_reducible refine below_set _ ?_ ?_) | (with_reducible refine Below.drew ?_) | (with_reducible refine below_dN ?_ _) | (apply below_thenA; assumption) | omega | (simp; done) | (simp; omega) | (simp [*]; done)))).mono fun e w1 x => ?_)).mono fun e w' x => ?_
  · obtain ⟨x1, x2, x3, x4⟩ := x
    have o3 := o1.butl x4 hnew
    refine ⟨o3.cell 0 _ rfl, o3.free 0, ?_⟩
    by_cases hc : c = 0
    · exact .inl ⟨x1 hc, hc.symm, x3, x4⟩
    · exact .inr ⟨c, x2 hc, rfl, x3, x4⟩
  · obtain ⟨c', w1, ⟨rfl, hblk, hbut⟩, rfl, rfl⟩ := x
    refine ⟨rfl, fun e he => (hblk e he).other (Nat.ne_of_lt (hl e he)) _ _, ((ButL.of (l := L.map (·.1)) (show Below w.heap.size w (w.alloc (.cells #[.int .i64 0] 26)) from (by repeat' (first | (with_reducible exact Below.refl _ _) | (with_reducible assumption) | (with_reducible refine below_alloc ?_ _ ?_) | (with_reducible refine below_set _ ?_ ?_) | (with_reducible refine Below.drew ?_) | (with_reducible refine below_dN ?_ _) | (apply below_thenA; assumption) | omega | (simp; done) | (simp; omega) | (simp [*]; done))))).trans hbut).setNew (Nat.le_refl _) _ _⟩
set_option maxRecDepth 100000 in
set_option maxHeartbeats 3200000 in
theorem ref4_part (a n d : Int) (ha : IFit a) (hn : IFit n) (hd : IFit d) (w : World) :
    Calls Tryd.prog 86 #[.int .i64 a, .int .i64 n, .int .i64 d] w fun e w' => e = .returned (.tuple #[.int .i64 (partN a n d), .int .i64 (partE a n d)]) ∧ Below w.heap.size w w' := by
  unfold partN partE
  by_cases h0 : d = 0
  · subst h0
    simp only [if_true]
    clear ha hn hd
    go_enter Tryd.func86, Tryd.ntmps86
    go_wp2_with fail
    go_ret2
    exact ⟨rfl, Below.refl _ _⟩
  · simp only [if_neg h0]
    have hd0 : (d == 0) = false := by simp [h0]
    obtain ⟨x1, x2⟩ := ha
    obtain ⟨n1, n2⟩ := hn
    obtain ⟨d1, d2⟩ := hd
    have sx := BM.Sz.i64 x1 x2
    have sn := BM.Sz.i64 n1 n2
    have sd := BM.Sz.i64 d1 d2
    have sxn := BM.Sz.mul sx sn
    have sF : BM.Sz (fq (a * n) d) (4 + 4) := sxn.le (fq_abs h0)
    have DN := fun na nb ax bx k m ca cb W (h1 : IsBig W na ax k ca (a * n)) (h2 : IsBig W nb bx m cb d) hk hm => big_down na nb ax bx k m ca cb (a * n) d W h1 h2 hk hm h0
    obtain ⟨F, eF⟩ : ∃ F, fq (a * n) d = F := ⟨_, rfl⟩
    obtain ⟨R, eR⟩ : ∃ R, fr (a * n) d = R := ⟨_, rfl⟩
    rw [eF, eR] at DN
    rw [eF] at sF ⊢
    have TL := fun neg ao k cap W h hk => ref_told neg ao k cap F W h hk
    obtain ⟨V, eV⟩ : ∃ V : Int, (if lenB F then F else 0) = V := ⟨_, rfl⟩
    obtain ⟨E, eE⟩ : ∃ E : Int, (if lenB F then 0 else 2) = E := ⟨_, rfl⟩
    rw [eV, eE] at TL ⊢
    clear eF eR h0 eV eE
    go_enter Tryd.func86, Tryd.ntmps86
    go_wp2_with fail
    refine (big_of a x1 x2 _).mono ?_
    rintro e w1 ⟨a1, a2, a3, a4, rfl, I1, hB⟩
    go_wp2_with fail
    refine (big_of n n1 n2 _).mono ?_
    rintro e w2 ⟨b1, b2, b3, b4, rfl, I2, hb2⟩
    replace hB := hB.trans (hb2.mono hB.size)
    replace I1 := I1.keep hb2
    have k1 := I1.le sx
    have k2 := I2.le sn
    go_wp2_with fail
    refine (big_times a1 b1 a2 b2 a3 b3 a4 b4 a n _ I1 I2 (by omega) (by omega)).mono ?_
    rintro e w3 ⟨c1, c2, c3, c4, rfl, I3, hb3⟩
    replace hB := hB.trans (hb3.mono hB.size)
    go_wp2_with fail
    refine (big_of d d1 d2 _).mono ?_
    rintro e w4 ⟨f1, f2, f3, f4, rfl, I4, hb4⟩
    replace hB := hB.trans (hb4.mono hB.size)
    replace I3 := I3.keep hb4
    have k3 := I3.le sxn
    have k4 := I4.le sd
    clear I1 I2 hb2 hb3 hb4
    go_wp2_with fail
    refine (DN c1 f1 c2 f2 c3 f3 c4 f4 _ I3 I4 (by omega) (by omega)).mono ?_
    rintro e w5 hR
    obtain ⟨qn, qa, qk, qc, rn, ra, rk, rc, rfl, IQ, IR, hb5⟩ := hR.out
    replace hB := hB.trans (hb5.mono hB.size)
    have kq := IQ.le sF
    clear hR hb5 I3 I4 DN IR
    go_wp2_with fail
    refine (TL qn qa qk qc _ (IQ.keep (by repeat' (first | (with_reducible exact Below.refl _ _) | (with_reducible assumption) | (with_reducible refine below_alloc ?_ _ ?_) | (with_reducible refine below_set _ ?_ ?_) | (with_reducible refine Below.drew ?_) | (with_reducible refine below_dN ?_ _) | (apply below_thenA; assumption) | omega | (simp; done) | (simp; omega) | (simp [*]; done)))) (by omega)).mono ?_
    rintro e w6 ⟨rfl, hb6⟩
    have hz5 := hB.size
    have hB2 : Below w.heap.size w ((w5.alloc (.cells #[.bool qn, .slice qa qk qc] 41)).alloc (.cells #[.bool rn, .slice ra rk rc] 41)) := (by repeat' (first | (with_reducible exact Below.refl _ _) | (with_reducible assumption) | (with_reducible refine below_alloc ?_ _ ?_) | (with_reducible refine below_set _ ?_ ?_) | (with_reducible refine Below.drew ?_) | (with_reducible refine below_dN ?_ _) | (apply below_thenA; assumption) | omega | (simp; done) | (simp; omega) | (simp [*]; done)))
    replace hB := hB2.trans (hb6.mono hB2.size)
    go_wp2_with fail
    go_ret2
    exact ⟨rfl, hB⟩
end Go.Proofs.YtmkblfejoniccaaDoor
namespace Go.Proofs.YtmkblfejoniccaaDoor
open Go.RowKit
set_option linter.unusedSimpArgs false
set_option linter.unusedVariables false

theorem IsBig.lenpos {w : World} {neg : Bool} {ao : Option Addr} {k cap y : Nat} (h : IsBig w neg ao k cap ((y : Nat) : Int)) : (y = 0 → k = 0) ∧ (0 < y → 0 < k) := by
  obtain ⟨_, ds, h1, h2, h3⟩ := h.nat
  have hl := h1.len
  refine ⟨fun e => ?_, fun e => ?_⟩
  · have := h2.eq_nil (by omega); rw [this] at hl; simp at hl; omega
  · rcases Nat.eq_zero_or_pos k with h0 | h0
    · rw [h0] at hl; have : ds = [] := List.eq_nil_of_length_eq_zero hl; rw [this] at h3; simp [BM.bval] at h3; omega
    · exact h0
theorem fr_nat (x y : Nat) (hy : 0 < y) : fr (x : Int) (y : Int) = ((x % y : Nat) : Int) := by
  rw [fr_pos (by omega)]; simp
/-- The three boxes of Common. -/
def CmB (w : World) (a1 a2 b1 b2 : Value) (wr : World) : Prop :=
  Two wr w.heap.size a1 a2 ∧ Two wr (w.heap.size + 1) b1 b2 ∧ Two wr (w.heap.size + 1 + 1) (.bool false) (.slice none 0 0) ∧ Below w.heap.size w wr
section
variable {w wr w' : World} {a1 a2 b1 b2 : Value}
theorem CmB.ta (h : CmB w a1 a2 b1 b2 wr) : Two wr w.heap.size a1 a2 := h.1
theorem CmB.tb (h : CmB w a1 a2 b1 b2 wr) : Two wr (w.heap.size + 1) b1 b2 := h.2.1
theorem CmB.tc (h : CmB w a1 a2 b1 b2 wr) : Two wr (w.heap.size + 1 + 1) (.bool false) (.slice none 0 0) := h.2.2.1
theorem CmB.bl (h : CmB w a1 a2 b1 b2 wr) : Below w.heap.size w wr := h.2.2.2
theorem CmB.alloc (h : CmB w a1 a2 b1 b2 wr) (o : Obj) : CmB w a1 a2 b1 b2 (wr.alloc o) := ⟨h.ta.alloc o, h.tb.alloc o, h.tc.alloc o, h.bl.alloc h.bl.size o⟩
theorem CmB.drew (h : CmB w a1 a2 b1 b2 wr) : CmB w a1 a2 b1 b2 wr.drew := ⟨h.ta, h.tb, h.tc, h.bl.drew⟩
theorem CmB.below (h : CmB w a1 a2 b1 b2 wr) (hb : Below wr.heap.size wr w') : CmB w a1 a2 b1 b2 w' := ⟨h.ta.below hb, h.tb.below hb, h.tc.below hb, h.bl.trans (hb.mono h.bl.size)⟩
theorem CmB.puts (h : CmB w a1 a2 b1 b2 wr) (c1 c2 d1 d2 : Value) :
    CmB w c1 c2 d1 d2 ((((wr.setCell ⟨w.heap.size, 0, none⟩ c1).setCell ⟨w.heap.size, 1, none⟩ c2).setCell ⟨w.heap.size + 1, 0, none⟩ d1).setCell ⟨w.heap.size + 1, 1, none⟩ d2) :=
  ⟨(h.ta.put c1 c2).put_other (by omega) d1 d2, (h.tb.put_other (by omega) c1 c2).put d1 d2, (h.tc.put_other (by omega) c1 c2).put_other (by omega) d1 d2, BP (BP h.bl (by omega) c1 c2) (by omega) d1 d2⟩
theorem CmB.big (h : CmB w a1 a2 b1 b2 wr) (c1 c2 d1 d2 : Value) {neg : Bool} {ao : Option Addr} {k cap : Nat} {n : Int} (hI : IsBig wr neg ao k cap n) :
    IsBig ((((wr.setCell ⟨w.heap.size, 0, none⟩ c1).setCell ⟨w.heap.size, 1, none⟩ c2).setCell ⟨w.heap.size + 1, 0, none⟩ d1).setCell ⟨w.heap.size + 1, 1, none⟩ d2) neg ao k cap n :=
  IsBig.put (IsBig.put hI h.ta c1 c2) (h.tb.put_other (by omega) c1 c2) d1 d2
end
def ComRel (G K : Nat) (w : World) (g : Nat) (wr : World) : Prop :=
  ∃ (x y : Nat) (na : Bool) (xa : Option Addr) (ka ca : Nat) (nb : Bool) (xb : Option Addr) (kb cb : Nat), g = y ∧ x < 65536 ^ K ∧ y < 65536 ^ K ∧ Nat.gcd x y = G ∧
    CmB w (.bool na) (.slice xa ka ca) (.bool nb) (.slice xb kb cb) wr ∧ IsBig wr na xa ka ca ((x : Nat) : Int) ∧ IsBig wr nb xb kb cb ((y : Nat) : Int)

set_option maxRecDepth 100000 in
set_option maxHeartbeats 3200000 in
theorem ref_common (na nb : Bool) (xa xb : Option Addr) (ka kb ca cb x y K : Nat) (w : World) (ha : IsBig w na xa ka ca ((x : Nat) : Int)) (hb : IsBig w nb xb kb cb ((y : Nat) : Int)) (hx : x < 65536 ^ K) (hy : y < 65536 ^ K) (hK : K ≤ 10000) :
    Calls Tryd.prog 92 #[.agg #[.bool na, .slice xa ka ca], .agg #[.bool nb, .slice xb kb cb]] w (BigRet ((Nat.gcd x y : Nat) : Int) w) := by
  obtain ⟨G, eG⟩ : ∃ G, Nat.gcd x y = G := ⟨_, rfl⟩
  rw [eG]
  have EG := Lib.hid eG
  have HX := Lib.hid hx
  have HY := Lib.hid hy
  clear eG hx hy
  go_enter Tryd.func92, Tryd.ntmps92
  go_wp2_with fail
  go_loopg [] y (fun g wr => ComRel G K w g wr)
  case atStart =>
    exact ⟨x, y, na, xa, ka, ca, nb, xb, kb, cb, rfl, HX.out, HY.out, EG.out, ⟨((Two.new w _ _ _ rfl).alloc _).alloc _, (Two.new _ _ _ _ (by simp)).alloc _, Two.new _ _ _ _ (by simp), (by repeat' (first | (with_reducible exact Below.refl _ _) | (with_reducible assumption) | (with_reducible refine below_alloc ?_ _ ?_) | (with_reducible refine below_set _ ?_ ?_) | (with_reducible refine Below.drew ?_) | (with_reducible refine below_dN ?_ _) | (apply below_thenA; assumption) | omega | (simp; done) | (simp; omega) | (simp [*]; done)))⟩, ha.keep (by repeat' (first | (with_reducible exact Below.refl _ _) | (with_reducible assumption) | (with_reducible refine below_alloc ?_ _ ?_) | (with_reducible refine below_set _ ?_ ?_) | (with_reducible refine Below.drew ?_) | (with_reducible refine below_dN ?_ _) | (apply below_thenA; assumption) | omega | (simp; done) | (simp; omega) | (simp [*]; done))), hb.keep (by repeat' (first | (with_reducible exact Below.refl _ _) | (with_reducible assumption) | (with_reducible refine below_alloc ?_ _ ?_) | (with_reducible refine below_set _ ?_ ?_) | (with_reducible refine Below.drew ?_) | (with_reducible refine below_dN ?_ _) | (apply below_thenA; assumption) | omega | (simp; done) | (simp; omega) | (simp [*]; done)))⟩
  case round =>
    clear ha hb HX HY EG
    obtain ⟨x, y, na, xa, ka, ca, nb, xb, kb, cb, rfl, hx, hy, hg, D, hA, hB⟩ := hrel
    have hlen := hB.lenpos
    have HG := Lib.hid hg
    have HY := Lib.hid hy
    have sx := sz_nat hx
    have sy := sz_nat hy
    have hka := hA.le sx
    have hkb := hB.le sy
    clear hg hy
    by_cases h0 : gk = 0
    · have hk0 := hlen.1 h0
      have e : x = G := by have := HG.out; rw [h0, Nat.gcd_zero_right] at this; exact this
      subst hk0
      subst e
      clear hlen
      obtain ⟨p1, p2, p3, p4⟩ := D.ta.cells
      obtain ⟨p5, p6, p7, p8⟩ := D.tb.cells
      obtain ⟨q1, q2, q3, q4⟩ := D.tc.cells
      have hN := IsBig.put hA D.tc (.bool na) (.slice xa ka ca)
      have hL := BP D.bl (b := w.heap.size + 1 + 1) (by omega) (.bool na) (.slice xa ka ca)
      go_wp2_with fail
      (go_light; simp [bodyPost, results, Tryd.results92, go_sem, *])
      exact ⟨na, xa, ka, ca, rfl, hN, hL⟩
    · have hk0 := hlen.2 (by omega)
      have hp : 0 < gk := by omega
      clear hlen
      have DN := fun W (h1 : IsBig W na xa ka ca ((x : Nat) : Int)) (h2 : IsBig W nb xb kb cb ((gk : Nat) : Int)) => big_down na nb xa xb ka kb ca cb ((x : Nat) : Int) ((gk : Nat) : Int) W h1 h2 (by omega) (by omega) (by omega)
      rw [fr_nat x gk hp] at DN
      obtain ⟨r, er⟩ : ∃ r, x % gk = r := ⟨_, rfl⟩
      rw [er] at DN
      have hr : r < gk := by rw [← er]; exact Nat.mod_lt _ hp
      have HR : Hid (Nat.gcd gk r = G) := Lib.hid (by rw [← HG.out, ← er, Nat.gcd_comm x]; exact (Nat.gcd_comm _ _).trans (Nat.gcd_rec _ _).symm)
      clear er
      obtain ⟨p1, p2, p3, p4⟩ := D.ta.cells
      obtain ⟨p5, p6, p7, p8⟩ := D.tb.cells
      go_wp2_with fail
      refine (DN _ hA hB).mono ?_
      rintro e w5 hRet
      obtain ⟨qn, qa, qk, qc, rn, ra, rk, rc, rfl, hQ, hRr, hb5⟩ := hRet.out
      have D5 := D.below hb5
      have hD := (((D5.puts (.bool nb) (.slice xb kb cb) (.bool rn) (.slice ra rk rc)).alloc (.cells #[.bool qn, .slice qa qk qc] 41)).alloc (.cells #[.bool rn, .slice ra rk rc] 41)).drew
      have hN := IsBig.keeps (D5.big (.bool nb) (.slice xb kb cb) (.bool rn) (.slice ra rk rc) (hB.keep hb5)) (Keeps.drew (Keeps.alloc (Keeps.alloc (Keeps.refl _) (.cells #[.bool qn, .slice qa qk qc] 41)) (.cells #[.bool rn, .slice ra rk rc] 41)))
      have hO := IsBig.keeps (D5.big (.bool nb) (.slice xb kb cb) (.bool rn) (.slice ra rk rc) hRr) (Keeps.drew (Keeps.alloc (Keeps.alloc (Keeps.refl _) (.cells #[.bool qn, .slice qa qk qc] 41)) (.cells #[.bool rn, .slice ra rk rc] 41)))
      have t5 := (D.below hb5).ta
      have t6 := (D.below hb5).tb
      have l6 := t6.lt
      clear p1 p2 p3 p4 p5 p6 p7 p8 DN hRet
      obtain ⟨p1, p2, p3, p4⟩ := t5.cells
      obtain ⟨p5, p6, p7, p8⟩ := t6.cells
      have g1 : w.heap.size < w5.heap.size := by omega
      go_wp2_with fail
      go_region
      all_goals
        go_wp2_with fail
        go_roundg r
        case measure => exact hr
        case rel => exact ⟨gk, r, nb, xb, kb, cb, rn, ra, rk, rc, rfl, HY.out, Nat.lt_trans hr HY.out, HR.out, hD, hN, hO⟩
end Go.Proofs.YtmkblfejoniccaaDoor
namespace Go.Proofs.YtmkblfejoniccaaDoor
open Go.RowKit
set_option linter.unusedSimpArgs false
set_option linter.unusedVariables false

theorem IsBig.abs {w : World} {neg : Bool} {ao : Option Addr} {k cap : Nat} {n : Int} (h : IsBig w neg ao k cap n) : IsBig w false ao k cap ((n.natAbs : Nat) : Int) := by
  obtain ⟨ds, h1, h2, h3, rfl⟩ := h
  exact ⟨ds, h1, h2, (fun e => by cases e), by cases neg <;> simp [sgn]⟩
set_option maxRecDepth 100000 in
set_option maxHeartbeats 1600000 in
theorem ref_size (neg : Bool) (ao : Option Addr) (k cap : Nat) (w : World) :
    Calls Tryd.prog 93 #[.agg #[.bool neg, .slice ao k cap]] w fun e w' => e = .returned (.agg #[.bool false, .slice ao k cap]) ∧ Below w.heap.size w w' := by
  have t0 : Two (w.alloc (.cells #[.bool neg, .slice ao k cap] 41)) w.heap.size (.bool neg) (.slice ao k cap) := Two.new w _ _ _ rfl
  obtain ⟨q1, q2, q3, q4⟩ := t0.cells
  go_enter Tryd.func93, Tryd.ntmps93
  go_wp2_with fail
  (go_light; simp [bodyPost, results, Tryd.results93, go_sem, *])
  exact (by repeat' (first | (with_reducible exact Below.refl _ _) | (with_reducible assumption) | (with_reducible refine below_alloc ?_ _ ?_) | (with_reducible refine below_set _ ?_ ?_) | (with_reducible refine Below.drew ?_) | (with_reducible refine below_dN ?_ _) | (apply below_thenA; assumption) | omega | (simp; done) | (simp; omega) | (simp [*]; done)))
set_option maxRecDepth 100000 in
set_option maxHeartbeats 1600000 in
theorem ref_ints (na nb : Bool) (xa xb : Option Addr) (ka kb ca cb : Nat) (X Y : Int) (w : World) (ha : IsBig w na xa ka ca X) (hb : IsBig w nb xb kb cb Y) (h1 : ka ≤ 100000) (h2 : kb ≤ 100000) :
    Calls Tryd.prog 52 #[.agg #[.bool na, .slice xa ka ca], .agg #[.bool nb, .slice xb kb cb]] w fun e w' =>
      e = .returned (.tuple #[.int .i64 (intV X), .int .i64 (intV Y), .bool (intB X && intB Y)]) ∧ Below w.heap.size w w' := by
  have IX := fun W (hW : IsBig W na xa ka ca X) => big_int na xa ka ca X W hW h1
  have IY := fun W (hW : IsBig W nb xb kb cb Y) => big_int nb xb kb cb Y W hW h2
  obtain ⟨V, eV⟩ : ∃ V, intV X = V := ⟨_, rfl⟩
  obtain ⟨U, eU⟩ : ∃ U, intV Y = U := ⟨_, rfl⟩
  obtain ⟨B, eB⟩ : ∃ B, intB X = B := ⟨_, rfl⟩
  obtain ⟨C, eC⟩ : ∃ C, intB Y = C := ⟨_, rfl⟩
  rw [eV, eB] at IX
  rw [eU, eC] at IY
  rw [eV, eU, eB, eC]
  clear eV eU eB eC
  have t0 := (Two.new w (.bool na) (.slice xa ka ca) _ rfl).alloc (.cells #[.bool nb, .slice xb kb cb] 41)
  have t1 := Two.new (w.alloc (.cells #[.bool na, .slice xa ka ca] 41)) (.bool nb) (.slice xb kb cb) (w.heap.size + 1) (by simp)
  have hA : IsBig ((w.alloc (.cells #[.bool na, .slice xa ka ca] 41)).alloc (.cells #[.bool nb, .slice xb kb cb] 41)) na xa ka ca X := ha.keep (by repeat' (first | (with_reducible exact Below.refl _ _) | (with_reducible assumption) | (with_reducible refine below_alloc ?_ _ ?_) | (with_reducible refine below_set _ ?_ ?_) | (with_reducible refine Below.drew ?_) | (with_reducible refine below_dN ?_ _) | (apply below_thenA; assumption) | omega | (simp; done) | (simp; omega) | (simp [*]; done)))
  have hB : IsBig ((w.alloc (.cells #[.bool na, .slice xa ka ca] 41)).alloc (.cells #[.bool nb, .slice xb kb cb] 41)) nb xb kb cb Y := hb.keep (by repeat' (first | (with_reducible exact Below.refl _ _) | (with_reducible assumption) | (with_reducible refine below_alloc ?_ _ ?_) | (with_reducible refine below_set _ ?_ ?_) | (with_reducible refine Below.drew ?_) | (with_reducible refine below_dN ?_ _) | (apply below_thenA; assumption) | omega | (simp; done) | (simp; omega) | (simp [*]; done)))
  have hW : Below w.heap.size w ((w.alloc (.cells #[.bool na, .slice xa ka ca] 41)).alloc (.cells #[.bool nb, .slice xb kb cb] 41)) := (by repeat' (first | (with_reducible exact Below.refl _ _) | (with_reducible assumption) | (with_reducible refine below_alloc ?_ _ ?_) | (with_reducible refine below_set _ ?_ ?_) | (with_reducible refine Below.drew ?_) | (with_reducible refine below_dN ?_ _) | (apply below_thenA; assumption) | omega | (simp; done) | (simp; omega) | (simp [*]; done)))
  obtain ⟨q1, q2, q3, q4⟩ := t0.cells
  go_enter Tryd.func52, Tryd.ntmps52
  go_wp2_with fail
  refine (IX _ hA).mono ?_
  rintro e w1 ⟨rfl, hb1⟩
  replace t1 := t1.below hb1
  replace hB := hB.keep hb1
  replace hW := hW.trans (hb1.mono hW.size)
  clear q1 q2 q3 q4
  obtain ⟨q1, q2, q3, q4⟩ := t1.cells
  go_wp2_with fail
  refine (IY _ hB).mono ?_
  rintro e w2 ⟨rfl, hb2⟩
  replace hW := hW.trans (hb2.mono hW.size)
  cases B
  · go_wp2_with fail
    (go_light; simp [bodyPost, results, Tryd.results52, go_sem, *])
  · go_wp2_with fail
    (go_light; simp [bodyPost, results, Tryd.results52, go_sem, *])
/-- Boxes of two cells, by a list. -/
def LX (w : World) (l : List (Nat × Value × Value)) (wX : World) : Prop := (∀ e, e ∈ l → Two wX e.1 e.2.1 e.2.2) ∧ Below w.heap.size w wX
section
variable {w wX w' : World} {l : List (Nat × Value × Value)}
theorem LX.get (h : LX w l wX) {b : Nat} {x y : Value} (hm : (b, x, y) ∈ l) : Two wX b x y := h.1 _ hm
theorem LX.bl (h : LX w l wX) : Below w.heap.size w wX := h.2
theorem LX.alloc (h : LX w l wX) (o : Obj) : LX w l (wX.alloc o) := ⟨fun e he => (h.1 e he).alloc o, h.bl.alloc h.bl.size o⟩
theorem LX.drew (h : LX w l wX) : LX w l wX.drew := ⟨fun e he => h.1 e he, h.bl.drew⟩
theorem LX.below (hb : Below wX.heap.size wX w') (h : LX w l wX) : LX w l w' := ⟨fun e he => (h.1 e he).below hb, h.bl.trans (hb.mono h.bl.size)⟩
theorem LX.set (h : LX w l wX) (c o : Nat) (v : Value) (hc : ∀ e, e ∈ l → e.1 ≠ c) (hb : w.heap.size ≤ c) : LX w l (wX.setCell ⟨c, o, none⟩ v) :=
  ⟨fun e he => (Below.heap_setCell _ _ _ _ (hc e he)).trans (h.1 e he), h.bl.setCell (p := ⟨c, o, none⟩) hb v⟩
theorem LX.fresh (h : LX w l wX) : ∀ e, e ∈ l → e.1 ≠ wX.heap.size := fun e he => Nat.ne_of_lt (h.1 e he).lt
theorem LX.fresh' (h : LX w l wX) : ∀ e, e ∈ l → e.1 ≠ wX.heap.size + 1 := fun e he => Nat.ne_of_lt (Nat.lt_succ_of_lt (h.1 e he).lt)
theorem LX.add (h : LX w l wX) {b : Nat} {x y : Value} (t : Two wX b x y) : LX w ((b, x, y) :: l) wX :=
  ⟨fun e he => (List.mem_cons.1 he).elim (fun x => by subst x; exact t) (fun x => h.1 e x), h.bl⟩
theorem LX.nil (hb : Below w.heap.size w wX) : LX w [] wX := ⟨fun e he => absurd he (List.not_mem_nil), hb⟩
end
end Go.Proofs.YtmkblfejoniccaaDoor
