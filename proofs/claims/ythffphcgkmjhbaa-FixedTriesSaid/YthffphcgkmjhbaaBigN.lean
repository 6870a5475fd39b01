/-
  The reference's whole numbers, each function by its contract. Fourteenth part: divided, a quotient of sizes.
-/
import Derived.Test.YthffphcgkmjhbaaBigM
import Derived.Test.YthffphcgkmjhbaaBigDivMath
namespace Go.Proofs.Ythffphcgkmjhbaa
open Go.RowKit
set_option linter.unusedSimpArgs false
set_option linter.unusedVariables false

theorem IsBig.nat {w : World} {neg : Bool} {ao : Option Addr} {k cap n : Nat} (h : IsBig w neg ao k cap ((n : Nat) : Int)) : neg = false ∧ ∃ ds, Pcs w ao k cap ds ∧ BM.Trim ds ∧ BM.bval ds = n := by
  obtain ⟨ds, h1, h2, h3, h4⟩ := h
  cases neg
  · exact ⟨rfl, ds, h1, h2, by simp [sgn] at h4; omega⟩
  · exfalso
    have := h3 rfl
    apply this
    apply h2.eq_nil
    simp [sgn] at h4
    omega
theorem big_sizes_at (ao bo : Option Addr) (k m cap cap' : Nat) (xs ys : List Nat) (z : Int) (w : World) (ha : Pcs w ao k cap xs) (hb : Pcs w bo m cap' ys) (ta : BM.Trim xs) (tb : BM.Trim ys) (hk : k ≤ 1000000) (hm : m ≤ 1000000) (hz : cmpN (BM.bval xs) (BM.bval ys) = z) :
    Calls Try.prog 105 #[.slice ao k cap, .slice bo m cap'] w fun e w' => e = .returned (.int .i64 z) ∧ Below w.heap.size w w' := by
  subst hz; exact big_sizes ao bo k m cap cap' xs ys w ha hb ta tb hk hm
theorem bval_lt' {w : World} {ao : Option Addr} {k cap : Nat} {ds : List Nat} (h : Pcs w ao k cap ds) : BM.bval ds < 65536 ^ k := by
  have := BM.bval_lt h.dig; rwa [h.len] at this
theorem sz_nat {n k : Nat} (h : n < 65536 ^ k) : BM.Sz (n : Int) k := by unfold BM.Sz; simpa using h
theorem sz_two {n m k : Nat} (h : n < 65536 ^ k) (hm : m ≤ 2 * n + 1) : BM.Sz (m : Int) (k + 1) := by
  unfold BM.Sz; rw [Nat.pow_succ]; simp; omega
theorem seen_le {H d s : Nat} (hd : d < 65536) (hs : s ≤ 16) : BM.seen H d s ≤ d + 65536 * H := by
  induction s with
  | zero => rw [BM.seen_end]; omega
  | succ s ih =>
    have := ih (by omega)
    have := BM.seen_step H d s (by omega)
    omega
/-- The six boxes of divided. -/
def DB (ax bx : Option Addr) (k m ca cb : Nat) (w wr : World) (q1 q2 r1 r2 : Value) : Prop :=
  Two wr w.heap.size (.bool false) (.slice ax k ca) ∧ Two wr (w.heap.size + 1) (.bool false) (.slice bx m cb) ∧ Two wr (w.heap.size + 1 + 1) (.bool false) (.slice none 0 0) ∧ Two wr (w.heap.size + 1 + 1 + 1) (.bool false) (.slice none 0 0) ∧ Two wr (w.heap.size + 1 + 1 + 1 + 1) q1 q2 ∧ Two wr (w.heap.size + 1 + 1 + 1 + 1 + 1) r1 r2 ∧ Below w.heap.size w wr
section
variable {ax bx : Option Addr} {k m ca cb : Nat} {w wr w' : World} {q1 q2 r1 r2 : Value}
theorem DB.ta (h : DB ax bx k m ca cb w wr q1 q2 r1 r2) : Two wr w.heap.size (.bool false) (.slice ax k ca) := h.1
theorem DB.tb (h : DB ax bx k m ca cb w wr q1 q2 r1 r2) : Two wr (w.heap.size + 1) (.bool false) (.slice bx m cb) := h.2.1
theorem DB.t2 (h : DB ax bx k m ca cb w wr q1 q2 r1 r2) : Two wr (w.heap.size + 1 + 1) (.bool false) (.slice none 0 0) := h.2.2.1
theorem DB.t3 (h : DB ax bx k m ca cb w wr q1 q2 r1 r2) : Two wr (w.heap.size + 1 + 1 + 1) (.bool false) (.slice none 0 0) := h.2.2.2.1
theorem DB.tq (h : DB ax bx k m ca cb w wr q1 q2 r1 r2) : Two wr (w.heap.size + 1 + 1 + 1 + 1) q1 q2 := h.2.2.2.2.1
theorem DB.tr (h : DB ax bx k m ca cb w wr q1 q2 r1 r2) : Two wr (w.heap.size + 1 + 1 + 1 + 1 + 1) r1 r2 := h.2.2.2.2.2.1
theorem DB.bl (h : DB ax bx k m ca cb w wr q1 q2 r1 r2) : Below w.heap.size w wr := h.2.2.2.2.2.2
theorem DB.below (h : DB ax bx k m ca cb w wr q1 q2 r1 r2) (hb : Below wr.heap.size wr w') : DB ax bx k m ca cb w w' q1 q2 r1 r2 :=
  ⟨h.ta.below hb, h.tb.below hb, h.t2.below hb, h.t3.below hb, h.tq.below hb, h.tr.below hb, h.bl.trans (hb.mono h.bl.size)⟩
theorem BP {w w' : World} {B b : Nat} (h : Below B w w') (hb : B ≤ b) (u v : Value) : Below B w ((w'.setCell ⟨b, 0, none⟩ u).setCell ⟨b, 1, none⟩ v) :=
  (h.setCell (p := ⟨b, 0, none⟩) hb u).setCell (p := ⟨b, 1, none⟩) hb v
theorem DB.putr (h : DB ax bx k m ca cb w wr q1 q2 r1 r2) (u v : Value) : DB ax bx k m ca cb w ((wr.setCell ⟨w.heap.size + 1 + 1 + 1 + 1 + 1, 0, none⟩ u).setCell ⟨w.heap.size + 1 + 1 + 1 + 1 + 1, 1, none⟩ v) q1 q2 u v :=
  ⟨h.ta.put_other (by omega) _ _, h.tb.put_other (by omega) _ _, h.t2.put_other (by omega) _ _, h.t3.put_other (by omega) _ _, h.tq.put_other (by omega) _ _, h.tr.put _ _, BP h.bl (by omega) u v⟩
theorem DB.putq (h : DB ax bx k m ca cb w wr q1 q2 r1 r2) (u v : Value) : DB ax bx k m ca cb w ((wr.setCell ⟨w.heap.size + 1 + 1 + 1 + 1, 0, none⟩ u).setCell ⟨w.heap.size + 1 + 1 + 1 + 1, 1, none⟩ v) u v r1 r2 :=
  ⟨h.ta.put_other (by omega) _ _, h.tb.put_other (by omega) _ _, h.t2.put_other (by omega) _ _, h.t3.put_other (by omega) _ _, h.tq.put _ _, h.tr.put_other (by omega) _ _, BP h.bl (by omega) u v⟩
theorem DB.cA (h : DB ax bx k m ca cb w wr q1 q2 r1 r2) : wr.cell? ⟨w.heap.size, 0, none⟩ = some (.bool false) ∧ wr.cell? ⟨w.heap.size, 1, none⟩ = some (.slice ax k ca) ∧ wr.frozen? ⟨w.heap.size, 0, none⟩ = false ∧ wr.frozen? ⟨w.heap.size, 1, none⟩ = false := h.ta.cells
theorem DB.cB (h : DB ax bx k m ca cb w wr q1 q2 r1 r2) : wr.cell? ⟨w.heap.size + 1, 0, none⟩ = some (.bool false) ∧ wr.cell? ⟨w.heap.size + 1, 1, none⟩ = some (.slice bx m cb) ∧ wr.frozen? ⟨w.heap.size + 1, 0, none⟩ = false ∧ wr.frozen? ⟨w.heap.size + 1, 1, none⟩ = false := h.tb.cells
theorem DB.cq (h : DB ax bx k m ca cb w wr q1 q2 r1 r2) : wr.cell? ⟨w.heap.size + 1 + 1 + 1 + 1, 0, none⟩ = some q1 ∧ wr.cell? ⟨w.heap.size + 1 + 1 + 1 + 1, 1, none⟩ = some q2 ∧ wr.frozen? ⟨w.heap.size + 1 + 1 + 1 + 1, 0, none⟩ = false ∧ wr.frozen? ⟨w.heap.size + 1 + 1 + 1 + 1, 1, none⟩ = false := h.tq.cells
theorem DB.cr (h : DB ax bx k m ca cb w wr q1 q2 r1 r2) : wr.cell? ⟨w.heap.size + 1 + 1 + 1 + 1 + 1, 0, none⟩ = some r1 ∧ wr.cell? ⟨w.heap.size + 1 + 1 + 1 + 1 + 1, 1, none⟩ = some r2 ∧ wr.frozen? ⟨w.heap.size + 1 + 1 + 1 + 1 + 1, 0, none⟩ = false ∧ wr.frozen? ⟨w.heap.size + 1 + 1 + 1 + 1 + 1, 1, none⟩ = false := h.tr.cells
end
/-- The boxes, the quotient so far, the rest so far. -/
def DQ (ax bx : Option Addr) (k m ca cb : Nat) (w : World) (qv rv : Nat) (wr : World) : Prop :=
  ∃ (qn : Bool) (qa : Option Addr) (qk qc : Nat) (rn : Bool) (ra : Option Addr) (rk rc : Nat), DB ax bx k m ca cb w wr (.bool qn) (.slice qa qk qc) (.bool rn) (.slice ra rk rc) ∧ IsBig wr qn qa qk qc ((qv : Nat) : Int) ∧ IsBig wr rn ra rk rc ((rv : Nat) : Int)
def DivOut (ax bx : Option Addr) (k m ca cb : Nat) (xs : List Nat) (B : Nat) (w : World) (g : Nat) (s8 : Value) (wr : World) : Prop :=
  ∃ (j qv rv : Nat), j ≤ k ∧ g = j ∧ s8 = .int .i64 ((j : Int) - 1) ∧ qv * B + rv = BM.bval (xs.drop j) ∧ rv < B ∧ DQ ax bx k m ca cb w qv rv wr
def DivIn (ax bx : Option Addr) (k m ca cb : Nat) (H d B : Nat) (w : World) (g : Nat) (s9 : Value) (wr : World) : Prop :=
  ∃ (s qv rv : Nat), s ≤ 16 ∧ g = s ∧ s9 = .int .u64 (((2 ^ s / 2 : Nat) : Int)) ∧ qv * B + rv = BM.seen H d s ∧ rv < B ∧ DQ ax bx k m ca cb w qv rv wr
/-- Two whole numbers are given back. -/
def BigRet2 (n p : Int) (w : World) (e : Ending) (w' : World) : Prop :=
  ∃ (qn : Bool) (qa : Option Addr) (qk qc : Nat) (rn : Bool) (ra : Option Addr) (rk rc : Nat), e = .returned (.tuple #[.agg #[.bool qn, .slice qa qk qc], .agg #[.bool rn, .slice ra rk rc]]) ∧ IsBig w' qn qa qk qc n ∧ IsBig w' rn ra rk rc p ∧ Below w.heap.size w w'

set_option maxRecDepth 100000 in
set_option maxHeartbeats 3200000 in
theorem big_divided (ax bx : Option Addr) (k m ca cb : Nat) (xs ys : List Nat) (w : World) (hx : Pcs w ax k ca xs) (hy : Pcs w bx m cb ys) (tx : BM.Trim xs) (ty : BM.Trim ys) (hk : k ≤ 10000) (hm : m ≤ 10000) (hB : 0 < BM.bval ys) :
    Calls Try.prog 104 #[.agg #[.bool false, .slice ax k ca], .agg #[.bool false, .slice bx m cb]] w (BigRet2 ((BM.bval xs / BM.bval ys : Nat) : Int) ((BM.bval xs % BM.bval ys : Nat) : Int) w) := by
  have LX := Lib.hid hx.len
  have hxl := bval_lt' hx
  have hyl := bval_lt' hy
  have hB' := hB
  obtain ⟨B, eB⟩ : ∃ B, B = BM.bval ys := ⟨_, rfl⟩
  have hyB : ∀ w', Below w.heap.size w w' → IsBig w' true bx m cb (-(B : Int)) := fun w' h => ⟨ys, hy.keep h, ty, (fun _ e => by rw [e] at hB'; simp [BM.bval] at hB'), by rw [eB]; rfl⟩
  have EB := Lib.hid eB
  rw [← eB] at hB hyl
  have hyl := Lib.hid hyl
  have hxl := Lib.hid hxl
  clear eB hB'
  rw [← EB.out]
  obtain ⟨Q, eQ⟩ : ∃ Q, Q = BM.bval xs / B := ⟨_, rfl⟩
  obtain ⟨R, eR⟩ : ∃ R, R = BM.bval xs % B := ⟨_, rfl⟩
  rw [← eQ, ← eR]
  have EQ := Lib.hid eQ
  have ER := Lib.hid eR
  clear eQ eR
  go_enter Try.func104, Try.ntmps104
  go_wp2_with fail
  go_loopg [8] k (fun g s8 wr => DivOut ax bx k m ca cb xs B w g s8 wr)
  case atStart =>
    refine ⟨k, 0, 0, by omega, rfl, rfl, ?_, hB, ?_⟩
    · rw [List.drop_eq_nil_of_le (by rw [LX.out]; omega)]; simp [BM.bval]
    · refine ⟨false, none, 0, 0, false, none, 0, 0, ⟨?_, ?_, ?_, ?_, ?_, ?_, (by repeat' (first | (with_reducible exact Below.refl _ _) | (with_reducible assumption) | (with_reducible refine below_alloc ?_ _ ?_) | (with_reducible refine below_set _ ?_ ?_) | (with_reducible refine Below.drew ?_) | (with_reducible refine below_dN ?_ _) | (apply below_thenA; assumption) | omega | (simp; done) | (simp; omega) | (simp [*]; done)))⟩, ⟨[], Pcs.nil _, BM.Trim.nil, (fun h => by cases h), rfl⟩, ⟨[], Pcs.nil _, BM.Trim.nil, (fun h => by cases h), rfl⟩⟩
      · exact ((((((Two.new w _ _ _ rfl).alloc _).alloc _).alloc _).alloc _).alloc _)
      · exact (((((Two.new _ _ _ _ (by simp)).alloc _).alloc _).alloc _).alloc _)
      · exact ((((Two.new _ _ _ _ (by simp)).alloc _).alloc _).alloc _)
      · exact (((Two.new _ _ _ _ (by simp)).alloc _).alloc _)
      · exact ((Two.new _ _ _ _ (by simp)).alloc _)
      · exact (Two.new _ _ _ _ (by simp))
  case round =>
    obtain ⟨j, qv, rv, hj, rfl, rfl, hv, hr, hDQ⟩ := hrel
    by_cases hj0 : gk = 0
    · subst hj0
      obtain ⟨e1, e2⟩ := BM.div_end hv hr
      simp only [List.drop_zero] at e1 e2
      obtain rfl : qv = Q := by rw [EQ.out]; exact e1
      obtain rfl : rv = R := by rw [ER.out]; exact e2
      clear hv hr e1 e2 hB
      obtain ⟨qn, qa, qk, qc, rn, ra, rk, rc, D, hQ, hR⟩ := hDQ
      obtain ⟨p1, p2, p3, p4⟩ := D.cq
      obtain ⟨p5, p6, p7, p8⟩ := D.cr
      obtain ⟨t1, t2, t3, t4⟩ := D.t2.cells
      obtain ⟨t5, t6, t7, t8⟩ := D.t3.cells
      have z2 := D.t2
      have z3 := D.t3
      have hbl := D.bl
      go_wp2_with fail
      go_region
      all_goals
        go_wp2_with fail
        (go_light; simp [bodyPost, results, Try.results104, go_sem, *])
        exact ⟨qn, qa, qk, qc, rn, ra, rk, rc, rfl, IsBig.keeps hQ (by repeat' (first | (with_reducible exact Keeps.refl _) | (with_reducible refine Keeps.alloc ?_ _) | (with_reducible refine Keeps.drew ?_) | (with_reducible refine Keeps.drewN ?_ _) | (with_reducible refine Keeps.set ?_ _ _ (T := 29) ?_ (by decide)) | (with_reducible exact TyAt.new _ _ _ _ (by simp)) | (with_reducible refine TyAt.set ?_ _ _) | (with_reducible refine TyAt.alloc ?_ _) | (with_reducible refine TyAt.drew ?_) | (with_reducible refine TyAt.drewN ?_ _) | (apply Keeps.below; assumption) | (exact Two.ty (by assumption)) | (apply TyAt.below; rotate_left; assumption))), IsBig.keeps hR (by repeat' (first | (with_reducible exact Keeps.refl _) | (with_reducible refine Keeps.alloc ?_ _) | (with_reducible refine Keeps.drew ?_) | (with_reducible refine Keeps.drewN ?_ _) | (with_reducible refine Keeps.set ?_ _ _ (T := 29) ?_ (by decide)) | (with_reducible exact TyAt.new _ _ _ _ (by simp)) | (with_reducible refine TyAt.set ?_ _ _) | (with_reducible refine TyAt.alloc ?_ _) | (with_reducible refine TyAt.drew ?_) | (with_reducible refine TyAt.drewN ?_ _) | (apply Keeps.below; assumption) | (exact Two.ty (by assumption)) | (apply TyAt.below; rotate_left; assumption))), (by repeat' (first | (with_reducible exact Below.refl _ _) | (with_reducible assumption) | (with_reducible refine below_alloc ?_ _ ?_) | (with_reducible refine below_set _ ?_ ?_) | (with_reducible refine Below.drew ?_) | (with_reducible refine below_dN ?_ _) | (apply below_thenA; assumption) | omega | (simp; done) | (simp; omega) | (simp [*]; done)))⟩
    · obtain ⟨i, rfl⟩ : ∃ i, gk = i + 1 := ⟨gk - 1, by omega⟩
      have hi : i < xs.length := by rw [LX.out]; omega
      obtain ⟨d, ed⟩ : ∃ d, d = xs.getD i 0 := ⟨_, rfl⟩
      have dx : d < 65536 := by rw [ed]; exact hx.dig.getD i
      obtain ⟨H, eH⟩ : ∃ H, H = BM.bval (xs.drop (i + 1)) := ⟨_, rfl⟩
      have hend : d + 65536 * H = BM.bval (xs.drop i) := by
        rw [BM.bval_drop xs i hi, eH, ed]; simp [List.getD, hi]
      have hN : d + 65536 * H < 65536 ^ k := by rw [hend]; exact Nat.lt_of_le_of_lt (bval_drop_le xs i (by omega)) hxl.out
      have hst : qv * B + rv = BM.seen H d 16 := by rw [BM.seen_top _ _ dx, hv, eH]
      have HE := Lib.hid hend
      have HN := Lib.hid hN
      have ED := Lib.hid ed
      have HS := Lib.hid hst
      have HR := Lib.hid hr
      clear hend hN ed hst hr hv eH
      rw [show ((i + 1 : Nat) : Int) - 1 = (i : Int) by omega]
      have j1 : (0 : Int) ≤ (i : Int) := by omega
      go_wp2_with fail
      obtain ⟨wo, rfl⟩ : ∃ wo : World, wo = wr := ⟨_, rfl⟩
      go_loopg [9] 16 (fun g s9 wr => DivIn ax bx k m ca cb H d B w g s9 wr)
      case atStart =>
        exact ⟨16, qv, rv, by omega, rfl, rfl, HS.out, HR.out, hDQ⟩
      case round =>
        clear hDQ HS HR
        obtain ⟨s, qv, rv, hs, rfl, rfl, hv, hr, hDQ⟩ := hrel
        by_cases hs0 : gk = 0
        · subst hs0
          have HV := Lib.hid hv
          have HR := Lib.hid hr
          clear hv hr
          go_wp2_with fail
          go_roundg i
          case measure => omega
          case rel => exact ⟨i, qv, rv, by omega, rfl, by go_num, by rw [HV.out, BM.seen_end, HE.out], HR.out, hDQ⟩
        · obtain ⟨s, rfl⟩ : ∃ s, gk = s + 1 := ⟨gk - 1, by omega⟩
          rw [BM.half_pow]
          obtain ⟨b, eb⟩ : ∃ b, b = 2 ^ s := ⟨_, rfl⟩
          obtain ⟨c, ec⟩ : ∃ c, c = d / b % 2 := ⟨_, rfl⟩
          have hc2 : c < 2 := by rw [ec]; exact BM.bit_lt _ _
          have hb0 : 0 < b := by rw [eb]; exact Nat.pow_pos (by decide)
          have hb1 : b ≤ 32768 := by rw [eb]; exact Nat.pow_le_pow_right (by decide) (show s ≤ 15 by omega)
          have hstep := BM.seen_step H d s (by omega)
          rw [← eb, ← ec, ← hv] at hstep
          have hds := BM.div_step rfl hr hc2 (q := qv)
          have hle := seen_le (H := H) (s := s + 1) dx hs
          rw [← hv] at hle
          have hqB : qv ≤ qv * B := Nat.le_mul_of_pos_right _ hB
          have hq : qv < 65536 ^ k := Nat.lt_of_le_of_lt (by omega) HN.out
          have hr2 : rv < 65536 ^ m := Nat.lt_trans hr hyl.out
          have sq := sz_nat hq
          have sr := sz_nat hr2
          have sq2 := sz_two hq (show 2 * qv ≤ 2 * qv + 1 by omega)
          have sr2 := sz_two hr2 (show 2 * rv ≤ 2 * rv + 1 by omega)
          have srt := sz_two hr2 (show 2 * rv + c ≤ 2 * rv + 1 by omega)
          have HD := Lib.hid hds
          have HST := Lib.hid hstep
          have EC := Lib.hid ec
          have EBB := Lib.hid eb
          have HR := Lib.hid hr
          clear hds hstep hle hqB hq hr2 hv eb ec hr
          rw [← EBB.out]
          go_wp2_with fail
          go_cut [] from 18 to 53 (fun wx => DQ ax bx k m ca cb w qv (2 * rv) wx)
          case first =>
            obtain ⟨qn, qa, qk, qc, rn, ra, rk, rc, D, hQ, hR⟩ := hDQ
            have hkr := hR.le sr
            have EV : Hid (((2 * rv : Nat) : Int) = (rv : Int) * 2) := Lib.hid (by omega)
            obtain ⟨p1, p2, p3, p4⟩ := D.cr
            go_region_with (first
              | (go_at_call 98; with_reducible refine (big_ofu2 _).mono ?_; rintro e w2 hB2; obtain ⟨n2, a2, k2, c2, rfl, hI2, hb2⟩ := hB2.out; replace hb2 := below_undrew hb2; have hk2 := hI2.le (BM.Sz.u64 (n := 2) (by omega) (by omega)); have D2 := D.below hb2; obtain ⟨q1, q2, q3, q4⟩ := D2.cr)
              | (go_at_call 26; with_reducible refine (big_times rn n2 ra a2 rk k2 rc c2 _ 2 _ (hR.keep hb2) hI2 ?_ ?_).mono ?_; omega; omega; rintro e w3 hB3; obtain ⟨n3, a3, k3, c3, rfl, hI3, hb3⟩ := hB3.out; have D3 := D2.below hb3; obtain ⟨r1, r2, r3, r4⟩ := D3.cr))
            all_goals
              have hD := D3.putr (.bool n3) (.slice a3 k3 c3)
              have hN := IsBig.put hI3 D3.tr (.bool n3) (.slice a3 k3 c3)
              have hO := IsBig.put ((hQ.keep hb2).keep hb3) D3.tr (.bool n3) (.slice a3 k3 c3)
              clear p1 p2 p3 p4 q1 q2 q3 q4 r1 r2 r3 r4
              go_wp2_with fail
              go_meet
              case rel => exact ⟨qn, qa, qk, qc, n3, a3, k3, c3, hD, hO, by rw [EV.out]; exact hN⟩
          case rest =>
            clear hDQ
            obtain ⟨qn, qa, qk, qc, rn, ra, rk, rc, D, hQ, hR⟩ := hcut
            go_wp2_with fail
            go_cut [] from 18 to 53 (fun wx => DQ ax bx k m ca cb w (2 * qv) (2 * rv) wx)
            case first =>
              have hkq := hQ.le sq
              have EV : Hid (((2 * qv : Nat) : Int) = (qv : Int) * 2) := Lib.hid (by omega)
              obtain ⟨p1, p2, p3, p4⟩ := D.cq
              go_region_with (first
                | (go_at_call 98; with_reducible refine (big_ofu2 _).mono ?_; rintro e w2 hB2; obtain ⟨n2, a2, k2, c2, rfl, hI2, hb2⟩ := hB2.out; replace hb2 := below_undrew hb2; have hk2 := hI2.le (BM.Sz.u64 (n := 2) (by omega) (by omega)); have D2 := D.below hb2; obtain ⟨q1, q2, q3, q4⟩ := D2.cq)
                | (go_at_call 26; with_reducible refine (big_times qn n2 qa a2 qk k2 qc c2 _ 2 _ (hQ.keep hb2) hI2 ?_ ?_).mono ?_; omega; omega; rintro e w3 hB3; obtain ⟨n3, a3, k3, c3, rfl, hI3, hb3⟩ := hB3.out; have D3 := D2.below hb3; obtain ⟨r1, r2, r3, r4⟩ := D3.cq))
              all_goals
                have hD := D3.putq (.bool n3) (.slice a3 k3 c3)
                have hN := IsBig.put hI3 D3.tq (.bool n3) (.slice a3 k3 c3)
                have hO := IsBig.put ((hR.keep hb2).keep hb3) D3.tq (.bool n3) (.slice a3 k3 c3)
                clear p1 p2 p3 p4 q1 q2 q3 q4 r1 r2 r3 r4
                go_wp2_with fail
                go_meet
                case rel => exact ⟨n3, a3, k3, c3, rn, ra, rk, rc, hD, by rw [EV.out]; exact hN, hO⟩
            case rest =>
              clear D hQ hR
              obtain ⟨qn, qa, qk, qc, rn, ra, rk, rc, D, hQ, hR⟩ := hcut
              obtain ⟨gx, eax, hcx, hgx⟩ := (hx.keep D.bl).cell i (by omega)
              rw [← ED.out] at hcx
              obtain ⟨p1, p2, p3, p4⟩ := D.cA
              rw [eax] at p2
              clear eax
              have ecI : (IntKind.u64.wrap ((d : Int) / (b : Int))).tmod 2 = (c : Int) := by
                have h1 : d / b ≤ d := Nat.div_le_self _ _
                obtain ⟨v, ev⟩ : ∃ v, v = d / b := ⟨_, rfl⟩
                rw [← Int.natCast_ediv, EC.out, ← ev, IntKind.wrap_u64, Int.emod_eq_of_lt (by omega) (by omega), Int.tmod_eq_emod_of_nonneg (by omega)]; simp
              have ix : (i : Int) < (k : Int) := by omega
              go_upto_if 36 with (fail)
              go_cut [] from 18 to 53 (fun wx => DQ ax bx k m ca cb w (2 * qv) (2 * rv + c) wx)
              case first =>
                have hkr := hR.le sr2
                clear hcx p1 p2 p3 p4 ecI
                rcases (by omega : c = 0 ∨ c = 1) with rfl | rfl
                · go_wp2_with fail
                  go_meet
                  case rel => exact ⟨qn, qa, qk, qc, rn, ra, rk, rc, D, hQ, hR⟩
                · have EV : Hid (((2 * rv + 1 : Nat) : Int) = ((2 * rv : Nat) : Int) + 1) := Lib.hid (by omega)
                  go_wp2_with fail
                  obtain ⟨p1, p2, p3, p4⟩ := D.cr
                  go_region_with (first
                    | (go_at_call 98; with_reducible refine (big_ofu1 _).mono ?_; rintro e w2 hB2; obtain ⟨n2, a2, k2, c2, rfl, hI2, hb2⟩ := hB2.out; replace hb2 := below_undrew hb2; have hk2 := hI2.le (BM.Sz.u64 (n := 1) (by omega) (by omega)); have D2 := D.below hb2; obtain ⟨q1, q2, q3, q4⟩ := D2.cr)
                    | (go_at_call 39; with_reducible refine (big_plus rn n2 ra a2 rk k2 rc c2 _ 1 _ (hR.keep hb2) hI2 ?_ ?_).mono ?_; omega; omega; rintro e w3 hB3; obtain ⟨n3, a3, k3, c3, rfl, hI3, hb3⟩ := hB3.out; have D3 := D2.below hb3; obtain ⟨r1, r2, r3, r4⟩ := D3.cr))
                  all_goals
                    have hD := D3.putr (.bool n3) (.slice a3 k3 c3)
                    have hN := IsBig.put hI3 D3.tr (.bool n3) (.slice a3 k3 c3)
                    have hO := IsBig.put ((hQ.keep hb2).keep hb3) D3.tr (.bool n3) (.slice a3 k3 c3)
                    clear p1 p2 p3 p4 q1 q2 q3 q4 r1 r2 r3 r4
                    go_wp2_with fail
                    go_meet
                    case rel => exact ⟨qn, qa, qk, qc, n3, a3, k3, c3, hD, hO, by rw [EV.out]; exact hN⟩
              case rest =>
                clear D hQ hR hcx p1 p2 p3 p4 ecI
                obtain ⟨qn, qa, qk, qc, rn, ra, rk, rc, D, hQ, hR⟩ := hcut
                obtain ⟨rfl, rs, hrs, trs, ers⟩ := hR.nat
                obtain ⟨z, ez⟩ : ∃ z, cmpN (BM.bval rs) (BM.bval ys) = z := ⟨_, rfl⟩
                have hkr := hR.le srt
                have hz : (B ≤ 2 * rv + c → 0 ≤ z) ∧ (2 * rv + c < B → ¬ 0 ≤ z) := by
                  rw [← ez, ← EB.out, ers]
                  refine ⟨fun h => ?_, fun h => ?_⟩
                  · rcases Nat.lt_or_eq_of_le h with h | h
                    · rw [cmpN_gt h]; decide
                    · rw [cmpN_eq h.symm]; decide
                  · rw [cmpN_lt h]; decide
                have HZ := Lib.hid hz
                clear hz
                obtain ⟨p1, p2, p3, p4⟩ := D.cr
                obtain ⟨p5, p6, p7, p8⟩ := D.cB
                go_upto_if 45 with (go_at_call 105; with_reducible refine (big_sizes_at ra bx rk m rc cb rs ys z _ hrs (hy.keep D.bl) trs ty ?_ ?_ ez).mono ?_; omega; omega; rintro e w4 ⟨rfl, hb4⟩)
                replace D := D.below hb4
                replace hQ := hQ.keep hb4
                replace hR := hR.keep hb4
                clear p1 p2 p3 p4 p5 p6 p7 p8 hb4 hrs
                obtain ⟨q', r', HP⟩ : ∃ q' r', q' * B + r' = BM.seen H d s ∧ r' < B ∧ ((B ≤ 2 * rv + c ∧ q' = 2 * qv + 1 ∧ r' + B = 2 * rv + c) ∨ (2 * rv + c < B ∧ q' = 2 * qv ∧ r' = 2 * rv + c)) := by
                  rw [HST.out]
                  rcases Nat.lt_or_ge (2 * rv + c) B with h | h
                  · exact ⟨2 * qv, 2 * rv + c, HD.out.2 h, h, .inr ⟨h, rfl, rfl⟩⟩
                  · exact ⟨2 * qv + 1, 2 * rv + c - B, (HD.out.1 h).1, (HD.out.1 h).2, .inl ⟨h, rfl, by omega⟩⟩
                have HPP := Lib.hid HP
                clear HP
                have HR2 : ∃ x, x = 0 := ⟨0, rfl⟩
                clear HR2
                · rcases HPP.out.2.2 with ⟨hcmp, rfl, hr'⟩ | ⟨hcmp, rfl, rfl⟩
                  · have hz := HZ.out.1 hcmp
                    have hYB := hyB _ D.bl
                    have EW : Hid (((2 * rv + c : Nat) : Int) + -(B : Int) = ((r' : Nat) : Int)) := Lib.hid (by omega)
                    have hkq := hQ.le sq2
                    obtain ⟨p1, p2, p3, p4⟩ := D.cr
                    obtain ⟨p5, p6, p7, p8⟩ := D.cB
                    clear hcmp hr'
                    go_wp2_with (go_at_call 39; go_loud (with_reducible refine (big_plus false true ra bx rk m rc cb _ _ _ hR hYB ?_ ?_).mono ?_); omega; omega; rintro e w5 ⟨n5, a5, k5, c5, rfl, hI5, hb5⟩; replace D := D.below hb5; replace hQ := hQ.keep hb5; obtain ⟨r1, r2, r3, r4⟩ := D.cr)
                    rw [EW.out] at hI5
                    have hD := D.putr (.bool n5) (.slice a5 k5 c5)
                    have hN := IsBig.put hI5 D.tr (.bool n5) (.slice a5 k5 c5)
                    have hO := IsBig.put hQ D.tr (.bool n5) (.slice a5 k5 c5)
                    clear p1 p2 p3 p4 p5 p6 p7 p8 r1 r2 r3 r4 D hQ hR hI5 hb5 hYB
                    obtain ⟨W, eW⟩ : ∃ W, W = (w5.setCell ⟨w.heap.size + 1 + 1 + 1 + 1 + 1, 0, none⟩ (.bool n5)).setCell ⟨w.heap.size + 1 + 1 + 1 + 1 + 1, 1, none⟩ (.slice a5 k5 c5) := ⟨_, rfl⟩
                    rw [← eW] at hD hN hO ⊢
                    clear eW
                    have D := hD
                    have hQ := hO
                    have hR := hN
                    clear hD hO hN
                    have EV : Hid (((2 * qv + 1 : Nat) : Int) = ((2 * qv : Nat) : Int) + 1) := Lib.hid (by omega)
                    obtain ⟨p1, p2, p3, p4⟩ := D.cq
                    go_region_with (first
                      | (go_at_call 98; with_reducible refine (big_ofu1 _).mono ?_; rintro e w2 hB2; obtain ⟨n2, a2, k2, c2, rfl, hI2, hb2⟩ := hB2.out; replace hb2 := below_undrew hb2; have hk2 := hI2.le (BM.Sz.u64 (n := 1) (by omega) (by omega)); have D2 := D.below hb2; obtain ⟨q1, q2, q3, q4⟩ := D2.cq)
                      | (go_at_call 39; with_reducible refine (big_plus qn n2 qa a2 qk k2 qc c2 _ 1 _ (hQ.keep hb2) hI2 ?_ ?_).mono ?_; omega; omega; rintro e w3 hB3; obtain ⟨n3, a3, k3, c3, rfl, hI3, hb3⟩ := hB3.out; have D3 := D2.below hb3; obtain ⟨r1, r2, r3, r4⟩ := D3.cq))
                    all_goals
                      have hD := D3.putq (.bool n3) (.slice a3 k3 c3)
                      have hN := IsBig.put hI3 D3.tq (.bool n3) (.slice a3 k3 c3)
                      have hO := IsBig.put ((hR.keep hb2).keep hb3) D3.tq (.bool n3) (.slice a3 k3 c3)
                      clear p1 p2 p3 p4 q1 q2 q3 q4 r1 r2 r3 r4
                      go_wp2_with fail
                      go_roundg s
                      case measure => omega
                      case rel => exact ⟨s, _, r', by omega, rfl, by rw [EBB.out]; go_num, HPP.out.1, HPP.out.2.1, ⟨n3, a3, k3, c3, n5, a5, k5, c5, hD, by rw [EV.out]; exact hN, hO⟩⟩
                  · have hz := HZ.out.2 hcmp
                    clear hcmp
                    go_wp2_with fail
                    go_roundg s
                    case measure => omega
                    case rel => exact ⟨s, _, _, by omega, rfl, by rw [EBB.out]; go_num, HPP.out.1, HPP.out.2.1, ⟨qn, qa, qk, qc, _, ra, rk, rc, D, hQ, hR⟩⟩
end Go.Proofs.Ythffphcgkmjhbaa
