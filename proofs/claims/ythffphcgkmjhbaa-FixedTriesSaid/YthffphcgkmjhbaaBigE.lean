/-
  The reference's whole numbers, each function by its contract. Fifth part: Plus of two signs.
-/
import Derived.Test.YthffphcgkmjhbaaBigD
namespace Go.Proofs.Ythffphcgkmjhbaa
open Go.RowKit
set_option linter.unusedSimpArgs false
set_option linter.unusedVariables false

/-- One step of taking away. -/
theorem sub_step {xs ys ds : List Nat} {j c d c' : Nat} (hl : ds.length = j) (h : BM.bval ds + BM.bval (ys.take j) = BM.bval (xs.take j) + 65536 ^ j * c) (hs : c + d + ys.getD j 0 = xs.getD j 0 + 65536 * c') :
    BM.bval (ds ++ [d]) + BM.bval (ys.take (j + 1)) = BM.bval (xs.take (j + 1)) + 65536 ^ (j + 1) * c' := by
  rw [BM.bval_snoc, hl, Nat.pow_succ, Nat.mul_assoc, bval_take_getD, bval_take_getD]
  have e : 65536 ^ j * (c + d + ys.getD j 0) = 65536 ^ j * (xs.getD j 0 + 65536 * c') := by rw [hs]
  rw [Nat.mul_add, Nat.mul_add, Nat.mul_add] at e
  omega
def SubRel (na nb : Bool) (ax bx : Option Addr) (k m ca cb : Nat) (xs ys : List Nat) (w : World) (g : Nat) (s9 s10 s11 : Value) (wr : World) : Prop :=
  ∃ (j c : Nat) (ds : List Nat) (ao : Option Addr) (cap : Nat), j ≤ k ∧ g = k - j ∧ s11 = .int .i64 ((j : Int)) ∧ s10 = .int .u64 ((c : Int)) ∧ s9 = .slice ao j cap ∧ c ≤ 1 ∧
    Two wr w.heap.size (.bool na) (.slice ax k ca) ∧ Two wr (w.heap.size + 1) (.bool nb) (.slice bx m cb) ∧ Two wr (w.heap.size + 1 + 1) (.bool false) (.slice none 0 0) ∧
    Own wr w.heap.size ao j cap ds ∧ BM.bval ds + BM.bval (ys.take j) = BM.bval (xs.take j) + 65536 ^ j * c ∧ Below w.heap.size w wr
theorem sgn_sub (neg : Bool) {a b d : Nat} (h : d + b = a) : sgn neg d = sgn neg a + sgn (!neg) b := by cases neg <;> simp [sgn] <;> omega

set_option maxRecDepth 100000 in
set_option maxHeartbeats 1600000 in
theorem big_plus_sub (na nb : Bool) (hn : nb = !na) (ax bx : Option Addr) (k m ca cb : Nat) (xs ys : List Nat) (w : World) (hx : Pcs w ax k ca xs) (hy : Pcs w bx m cb ys) (tx : BM.Trim xs) (ty : BM.Trim ys) (hle : BM.bval ys ≤ BM.bval xs) (hk : k ≤ 100000) (hm : m ≤ 100000) :
    Calls Try.prog 39 #[.agg #[.bool na, .slice ax k ca], .agg #[.bool nb, .slice bx m cb]] w (BigRet (sgn na (BM.bval xs) + sgn nb (BM.bval ys)) w) := by
  obtain ⟨i0, hi, hz0, hz1, hz2⟩ := info_parts (show (Try.prog.info? 23).map (fun i => (i.zero, i.size, i.bytes)) = some (some (.int .u64 0), 1, 8) by kernel_rfl)
  have LX := Lib.hid hx.len
  have LY := Lib.hid hy.len
  have hmk : m ≤ k := by
    rcases Nat.lt_or_ge k m with h | h
    · have := BM.len_lt_bval hx.dig ty (by rw [hx.len, hy.len]; exact h); omega
    · exact h
  have hbb : (na == nb) = false := by rw [hn]; cases na <;> rfl
  have HN := Lib.hid hn
  clear hn
  have HLE := Lib.hid hle
  clear hle
  have hcm : 0 ≤ cmpN (BM.bval xs) (BM.bval ys) := by
    rcases Nat.lt_or_ge (BM.bval ys) (BM.bval xs) with h | h
    · rw [cmpN_gt h]; decide
    · rw [cmpN_eq (by have := HLE.out; omega)]; decide
  have sx := hx.shape
  have sy := hy.shape
  have tt0 : Two (((w.alloc (.cells #[.bool na, .slice ax k ca] 29)).alloc (.cells #[.bool nb, .slice bx m cb] 29)).alloc (.cells #[.bool false, .slice none 0 0] 29)) w.heap.size (.bool na) (.slice ax k ca) := ((Two.new _ _ _ _ rfl).alloc _).alloc _
  have tt1 : Two (((w.alloc (.cells #[.bool na, .slice ax k ca] 29)).alloc (.cells #[.bool nb, .slice bx m cb] 29)).alloc (.cells #[.bool false, .slice none 0 0] 29)) (w.heap.size + 1) (.bool nb) (.slice bx m cb) := (Two.new _ _ _ _ (by simp)).alloc _
  have tt2 : Two (((w.alloc (.cells #[.bool na, .slice ax k ca] 29)).alloc (.cells #[.bool nb, .slice bx m cb] 29)).alloc (.cells #[.bool false, .slice none 0 0] 29)) (w.heap.size + 1 + 1) (.bool false) (.slice none 0 0) := Two.new _ _ _ _ (by simp)
  have hxW := hx.keep (w' := ((w.alloc (.cells #[.bool na, .slice ax k ca] 29)).alloc (.cells #[.bool nb, .slice bx m cb] 29)).alloc (.cells #[.bool false, .slice none 0 0] 29)) (by repeat' (first | (with_reducible exact Below.refl _ _) | (with_reducible assumption) | (with_reducible refine below_alloc ?_ _ ?_) | (with_reducible refine below_set _ ?_ ?_) | (with_reducible refine Below.drew ?_) | (with_reducible refine below_dN ?_ _) | (apply below_thenA; assumption) | omega | (simp; done) | (simp; omega) | (simp [*]; done)))
  have hyW := hy.keep (w' := ((w.alloc (.cells #[.bool na, .slice ax k ca] 29)).alloc (.cells #[.bool nb, .slice bx m cb] 29)).alloc (.cells #[.bool false, .slice none 0 0] 29)) (by repeat' (first | (with_reducible exact Below.refl _ _) | (with_reducible assumption) | (with_reducible refine below_alloc ?_ _ ?_) | (with_reducible refine below_set _ ?_ ?_) | (with_reducible refine Below.drew ?_) | (with_reducible refine below_dN ?_ _) | (apply below_thenA; assumption) | omega | (simp; done) | (simp; omega) | (simp [*]; done)))
  go_enter Try.func39, Try.ntmps39
  go_wp2_with fail
  refine (big_sizes ax bx k m ca cb xs ys _ hxW hyW tx ty (by omega) (by omega)).mono ?_
  rintro e w1 ⟨rfl, hb1⟩
  have u0 := tt0.below hb1
  have u1 := tt1.below hb1
  have u2 := tt2.below hb1
  have hbw : Below w.heap.size w w1 := (by repeat' (first | (with_reducible exact Below.refl _ _) | (with_reducible assumption) | (with_reducible refine below_alloc ?_ _ ?_) | (with_reducible refine below_set _ ?_ ?_) | (with_reducible refine Below.drew ?_) | (with_reducible refine below_dN ?_ _) | (apply below_thenA; assumption) | omega | (simp; done) | (simp; omega) | (simp [*]; done)))
  clear tt0 tt1 tt2 hxW hyW hb1
  obtain ⟨p1, p2, p3, p4⟩ := u0.cells
  obtain ⟨p5, p6, p7, p8⟩ := u1.cells
  obtain ⟨p9, p10, p11, p12⟩ := u2.cells
  go_wp2_with fail
  clear p1 p2 p3 p4 p5 p6 p7 p8 p9 p10 p11 p12
  go_loopg [9, 10, 11] k (fun g s9 s10 s11 wr => SubRel na nb ax bx k m ca cb xs ys w g s9 s10 s11 wr)
  case atStart =>
    exact ⟨0, 0, [], none, 0, by omega, by omega, rfl, rfl, rfl, by omega, u0, u1, u2, Own.nil _ _, by simp [BM.bval], hbw⟩
  case round =>
    clear u0 u1 u2 hbw
    obtain ⟨j, c, ds, ao, cap, hj, rfl, rfl, rfl, rfl, hc, t0, t1, t2, ho, hv, hbl⟩ := hrel
    have HV := Lib.hid hv
    clear hv
    have hsh := ho.pcs.shape
    have l2 := t2.lt
    by_cases lx : j < k
    · by_cases ly : j < m
      · obtain ⟨gy, rfl, hcy, hgy⟩ := (hy.keep hbl).cell j (by omega)
        have dy := hy.dig.getD j
        have iy : (j : Int) < (m : Int) := by omega
        obtain ⟨gx, rfl, hcx, hgx⟩ := (hx.keep hbl).cell j (by omega)
        have dx := hx.dig.getD j
        have ix : (j : Int) < (k : Int) := by omega
        obtain ⟨x, ex⟩ : ∃ x, x = xs.getD j 0 := ⟨_, rfl⟩
        obtain ⟨y, ey⟩ : ∃ y, y = ys.getD j 0 := ⟨_, rfl⟩
        rw [← ex] at hcx dx
        rw [← ey] at hcy dy
        by_cases hlt : x < c + y
        · have hlt' : (x : Int) < (c : Int) + (y : Int) := by omega
          obtain ⟨d, hd⟩ : ∃ d, d = x + 65536 - (c + y) := ⟨_, rfl⟩
          have HDL := Lib.hid (show d < 65536 by omega)
          have hdi : ((d : Nat) : Int) = (x : Int) + 65536 - ((c : Int) + (y : Int)) := by omega
          have HS := Lib.hid (sub_step (d := d) (c' := 1) ho.2.1 HV.out (by rw [← ex, ← ey]; omega))
          have HDI := Lib.hid hdi
          clear ex ey hd hdi hlt
          obtain ⟨p1, p2, p3, p4⟩ := t0.cells
          obtain ⟨p5, p6, p7, p8⟩ := t1.cells
          obtain ⟨p9, p10, p11, p12⟩ := t2.cells
          have hdi := HDI.out.symm
          go_wp2_with (at_builtin; refine wpList_append_own _ rfl _ _ 27 rfl w.heap.size 23 i0 (.int .u64 0) 1 8 Try.underlying27 hi hz0 hz1 hz2 rfl (by decide) _ _ _ rfl (ho.1.alloc _) ⟨wr.heap.size, 0, none⟩ 1 1 [.int .u64 (((d : Nat) : Int))] rfl rfl (one_cell _ _ _) (one_one _) (by unfold maxLen; omega) (by omega) (by simp; omega) ?_)
          intro v' w1 hown' hgrow _
          obtain ⟨ao', cap', rfl, ho', hT, hB⟩ := ho.grown HDL.out (by omega) hown' hgrow
          have t0' := hT _ _ _ t0
          have t1' := hT _ _ _ t1
          have t2' := hT _ _ _ t2
          have hbl' := hB _ _ (Nat.le_refl _) hbl
          clear hown' hgrow hT hB
          go_wp2
          go_roundg (k - (j + 1))
          case measure => omega
          case rel => exact ⟨j + 1, 1, ds ++ [d], ao', cap', by omega, rfl, by go_num, by go_num, rfl, by omega, t0', t1', t2', ho', HS.out, hbl'⟩
        · have hlt' : ¬ (x : Int) < (c : Int) + (y : Int) := by omega
          obtain ⟨d, hd⟩ : ∃ d, d = x - (c + y) := ⟨_, rfl⟩
          have HDL := Lib.hid (show d < 65536 by omega)
          have hdi : ((d : Nat) : Int) = (x : Int) - ((c : Int) + (y : Int)) := by omega
          have HS := Lib.hid (sub_step (d := d) (c' := 0) ho.2.1 HV.out (by rw [← ex, ← ey]; omega))
          have HDI := Lib.hid hdi
          clear ex ey hd hdi hlt
          obtain ⟨p1, p2, p3, p4⟩ := t0.cells
          obtain ⟨p5, p6, p7, p8⟩ := t1.cells
          obtain ⟨p9, p10, p11, p12⟩ := t2.cells
          have hdi := HDI.out.symm
          go_wp2_with (at_builtin; refine wpList_append_own _ rfl _ _ 27 rfl w.heap.size 23 i0 (.int .u64 0) 1 8 Try.underlying27 hi hz0 hz1 hz2 rfl (by decide) _ _ _ rfl (ho.1.alloc _) ⟨wr.heap.size, 0, none⟩ 1 1 [.int .u64 (((d : Nat) : Int))] rfl rfl (one_cell _ _ _) (one_one _) (by unfold maxLen; omega) (by omega) (by simp; omega) ?_)
          intro v' w1 hown' hgrow _
          obtain ⟨ao', cap', rfl, ho', hT, hB⟩ := ho.grown HDL.out (by omega) hown' hgrow
          have t0' := hT _ _ _ t0
          have t1' := hT _ _ _ t1
          have t2' := hT _ _ _ t2
          have hbl' := hB _ _ (Nat.le_refl _) hbl
          clear hown' hgrow hT hB
          go_wp2
          go_roundg (k - (j + 1))
          case measure => omega
          case rel => exact ⟨j + 1, 0, ds ++ [d], ao', cap', by omega, rfl, by go_num, by go_num, rfl, by omega, t0', t1', t2', ho', HS.out, hbl'⟩
      · have zy := getD_past (show ys.length ≤ j by rw [LY.out]; omega)
        have iy : ¬ (j : Int) < (m : Int) := by omega
        obtain ⟨gx, rfl, hcx, hgx⟩ := (hx.keep hbl).cell j (by omega)
        have dx := hx.dig.getD j
        have ix : (j : Int) < (k : Int) := by omega
        obtain ⟨x, ex⟩ : ∃ x, x = xs.getD j 0 := ⟨_, rfl⟩
        obtain ⟨y, ey⟩ : ∃ y, y = ys.getD j 0 := ⟨_, rfl⟩
        rw [← ex] at hcx dx
        rw [← ey] at zy
        by_cases hlt : x < c
        · have hlt' : (x : Int) < (c : Int) := by omega
          obtain ⟨d, hd⟩ : ∃ d, d = x + 65536 - (c) := ⟨_, rfl⟩
          have HDL := Lib.hid (show d < 65536 by omega)
          have hdi : ((d : Nat) : Int) = (x : Int) + 65536 - ((c : Int)) := by omega
          have HS := Lib.hid (sub_step (d := d) (c' := 1) ho.2.1 HV.out (by rw [← ex, ← ey]; omega))
          have HDI := Lib.hid hdi
          clear ex ey hd hdi hlt zy
          obtain ⟨p1, p2, p3, p4⟩ := t0.cells
          obtain ⟨p5, p6, p7, p8⟩ := t1.cells
          obtain ⟨p9, p10, p11, p12⟩ := t2.cells
          have hdi := HDI.out.symm
          go_wp2_with (at_builtin; refine wpList_append_own _ rfl _ _ 27 rfl w.heap.size 23 i0 (.int .u64 0) 1 8 Try.underlying27 hi hz0 hz1 hz2 rfl (by decide) _ _ _ rfl (ho.1.alloc _) ⟨wr.heap.size, 0, none⟩ 1 1 [.int .u64 (((d : Nat) : Int))] rfl rfl (one_cell _ _ _) (one_one _) (by unfold maxLen; omega) (by omega) (by simp; omega) ?_)
          intro v' w1 hown' hgrow _
          obtain ⟨ao', cap', rfl, ho', hT, hB⟩ := ho.grown HDL.out (by omega) hown' hgrow
          have t0' := hT _ _ _ t0
          have t1' := hT _ _ _ t1
          have t2' := hT _ _ _ t2
          have hbl' := hB _ _ (Nat.le_refl _) hbl
          clear hown' hgrow hT hB
          go_wp2
          go_roundg (k - (j + 1))
          case measure => omega
          case rel => exact ⟨j + 1, 1, ds ++ [d], ao', cap', by omega, rfl, by go_num, by go_num, rfl, by omega, t0', t1', t2', ho', HS.out, hbl'⟩
        · have hlt' : ¬ (x : Int) < (c : Int) := by omega
          obtain ⟨d, hd⟩ : ∃ d, d = x - (c) := ⟨_, rfl⟩
          have HDL := Lib.hid (show d < 65536 by omega)
          have hdi : ((d : Nat) : Int) = (x : Int) - ((c : Int)) := by omega
          have HS := Lib.hid (sub_step (d := d) (c' := 0) ho.2.1 HV.out (by rw [← ex, ← ey]; omega))
          have HDI := Lib.hid hdi
          clear ex ey hd hdi hlt zy
          obtain ⟨p1, p2, p3, p4⟩ := t0.cells
          obtain ⟨p5, p6, p7, p8⟩ := t1.cells
          obtain ⟨p9, p10, p11, p12⟩ := t2.cells
          have hdi := HDI.out.symm
          go_wp2_with (at_builtin; refine wpList_append_own _ rfl _ _ 27 rfl w.heap.size 23 i0 (.int .u64 0) 1 8 Try.underlying27 hi hz0 hz1 hz2 rfl (by decide) _ _ _ rfl (ho.1.alloc _) ⟨wr.heap.size, 0, none⟩ 1 1 [.int .u64 (((d : Nat) : Int))] rfl rfl (one_cell _ _ _) (one_one _) (by unfold maxLen; omega) (by omega) (by simp; omega) ?_)
          intro v' w1 hown' hgrow _
          obtain ⟨ao', cap', rfl, ho', hT, hB⟩ := ho.grown HDL.out (by omega) hown' hgrow
          have t0' := hT _ _ _ t0
          have t1' := hT _ _ _ t1
          have t2' := hT _ _ _ t2
          have hbl' := hB _ _ (Nat.le_refl _) hbl
          clear hown' hgrow hT hB
          go_wp2
          go_roundg (k - (j + 1))
          case measure => omega
          case rel => exact ⟨j + 1, 0, ds ++ [d], ao', cap', by omega, rfl, by go_num, by go_num, rfl, by omega, t0', t1', t2', ho', HS.out, hbl'⟩
    · have e := HV.out
      obtain rfl : j = k := by omega
      have lx0 := LX.out
      have ly0 := LY.out
      rw [List.take_of_length_le (l := xs) (by omega), List.take_of_length_le (l := ys) (by omega)] at e
      have hlt := BM.bval_lt ho.2.2
      rw [ho.2.1] at hlt
      have hc0 : c = 0 := by
        rcases Nat.eq_zero_or_pos c with h | h
        · exact h
        · have : 65536 ^ j * 1 ≤ 65536 ^ j * c := Nat.mul_le_mul_left _ h
          have := HLE.out
          omega
      rw [hc0, Nat.mul_zero, Nat.add_zero] at e
      have E := Lib.hid (sgn_sub na e)
      clear e hlt hc0
      have ix : ¬ (j : Int) < (j : Int) := by omega
      obtain ⟨p1, p2, p3, p4⟩ := t0.cells
      obtain ⟨p5, p6, p7, p8⟩ := t1.cells
      obtain ⟨p9, p10, p11, p12⟩ := t2.cells
      go_wp2_with fail
      refine (big_trim na ao j cap ds _ ho.pcs (by omega)).mono ?_
      rintro e w1 ⟨neg1, ao1, k1, cap1, rfl, hI, hb1⟩
      obtain ⟨hc1, hf1⟩ := bcell hb1
      have hz1 := bz3 (n := w.heap.size) hb1 (by have := t2.lt; omega)
      have t2' := t2.below hb1
      obtain ⟨r1, r2, r3, r4⟩ := t2'.cells
      rw [E.out, ← HN.out] at hI
      go_wp2_with fail
      (go_light; simp [bodyPost, results, Try.results39, go_sem, *])
      exact ⟨neg1, ao1, k1, cap1, rfl, IsBig.keeps hI (by repeat' (first | (with_reducible exact Keeps.refl _) | (with_reducible refine Keeps.alloc ?_ _) | (with_reducible refine Keeps.drew ?_) | (with_reducible refine Keeps.drewN ?_ _) | (with_reducible refine Keeps.set ?_ _ _ (T := 29) ?_ (by decide)) | (with_reducible exact TyAt.new _ _ _ _ (by simp)) | (with_reducible refine TyAt.set ?_ _ _) | (with_reducible refine TyAt.alloc ?_ _) | (with_reducible refine TyAt.drew ?_) | (with_reducible refine TyAt.drewN ?_ _) | (apply Keeps.below; assumption) | (exact Two.ty (by assumption)) | (apply TyAt.below; rotate_left; assumption))), (by repeat' (first | (with_reducible exact Below.refl _ _) | (with_reducible assumption) | (with_reducible refine below_alloc ?_ _ ?_) | (with_reducible refine below_set _ ?_ ?_) | (with_reducible refine Below.drew ?_) | (with_reducible refine below_dN ?_ _) | (apply below_thenA; assumption) | omega | (simp; done) | (simp; omega) | (simp [*]; done)))⟩
end Go.Proofs.Ythffphcgkmjhbaa
