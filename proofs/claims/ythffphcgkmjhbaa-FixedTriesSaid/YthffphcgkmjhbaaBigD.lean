/-
  The reference's whole numbers, each function by its contract. Fourth part: Plus.
-/
import Derived.Test.YthffphcgkmjhbaaBigC
namespace Go.Proofs.Ythffphcgkmjhbaa
open Go.RowKit
set_option linter.unusedSimpArgs false
set_option linter.unusedVariables false

theorem one_cell (w : World) (x : Value) (T : TypeId) : ∀ (j : Nat) (u : Value), [x][j]? = some u → (w.alloc (.cells #[x] T)).cell? ((⟨w.heap.size, 0, none⟩ : Addr).add j) = some u := by
  intro j u hj
  match j, hj with
  | 0, hj => simp at hj; subst hj; simp [Addr.add]
theorem one_one (n : Int) : ∀ u ∈ [Value.int .u64 n], u.oneCell' = true := by
  intro u hu; simp at hu; subst hu; rfl
theorem bval_take_getD (xs : List Nat) (j : Nat) : BM.bval (xs.take (j + 1)) = BM.bval (xs.take j) + 65536 ^ j * xs.getD j 0 := by
  by_cases h : j < xs.length
  · rw [BM.bval_take_succ xs j h]
    simp [List.getD, h]
  · rw [List.take_of_length_le (by omega), List.take_of_length_le (by omega)]
    simp [List.getD, List.getElem?_eq_none (show xs.length ≤ j by omega)]
theorem getD_past {xs : List Nat} {j : Nat} (h : xs.length ≤ j) : xs.getD j 0 = 0 := by
  simp [List.getD, List.getElem?_eq_none h]
/-- One step of adding. -/
theorem plus_step {xs ys ds : List Nat} {j c s : Nat} (hl : ds.length = j) (h : BM.bval ds + 65536 ^ j * c = BM.bval (xs.take j) + BM.bval (ys.take j)) (hs : s = c + xs.getD j 0 + ys.getD j 0) :
    BM.bval (ds ++ [s % 65536]) + 65536 ^ (j + 1) * (s / 65536) = BM.bval (xs.take (j + 1)) + BM.bval (ys.take (j + 1)) := by
  rw [BM.bval_snoc, hl, Nat.pow_succ, Nat.mul_assoc, Nat.add_assoc, ← Nat.mul_add, Nat.mod_add_div, bval_take_getD, bval_take_getD, hs, Nat.mul_add, Nat.mul_add]
  omega

def PlusRel (neg : Bool) (ax bx : Option Addr) (k m ca cb : Nat) (xs ys : List Nat) (w : World) (g : Nat) (s5 s6 s7 : Value) (wr : World) : Prop :=
  ∃ (j c : Nat) (ds : List Nat) (ao : Option Addr) (cap : Nat), g = max k m + 1 - j ∧ s7 = .int .i64 ((j : Int)) ∧ s6 = .int .u64 ((c : Int)) ∧ s5 = .slice ao j cap ∧ c ≤ 1 ∧ (max k m < j → c = 0 ∧ j = max k m + 1) ∧
    Two wr w.heap.size (.bool neg) (.slice ax k ca) ∧ Two wr (w.heap.size + 1) (.bool neg) (.slice bx m cb) ∧ Two wr (w.heap.size + 1 + 1) (.bool false) (.slice none 0 0) ∧
    Own wr w.heap.size ao j cap ds ∧ BM.bval ds + 65536 ^ j * c = BM.bval (xs.take j) + BM.bval (ys.take j) ∧ Below w.heap.size w wr

theorem sgn_add (neg : Bool) (a b : Nat) : sgn neg (a + b) = sgn neg a + sgn neg b := by cases neg <;> simp [sgn] <;> omega

set_option maxRecDepth 100000 in
set_option maxHeartbeats 1600000 in
theorem big_plus_same (neg : Bool) (ax bx : Option Addr) (k m ca cb : Nat) (a b : Int) (w : World) (ha : IsBig w neg ax k ca a) (hb : IsBig w neg bx m cb b) (hk : k ≤ 100000) (hm : m ≤ 100000) :
    Calls Try.prog 39 #[.agg #[.bool neg, .slice ax k ca], .agg #[.bool neg, .slice bx m cb]] w (BigRet (a + b) w) := by
  obtain ⟨xs, hx, tx, nx, rfl⟩ := ha
  obtain ⟨ys, hy, ty, ny, rfl⟩ := hb
  obtain ⟨i0, hi, hz0, hz1, hz2⟩ := info_parts (show (Try.prog.info? 23).map (fun i => (i.zero, i.size, i.bytes)) = some (some (.int .u64 0), 1, 8) by kernel_rfl)
  have LX := Lib.hid hx.len
  have LY := Lib.hid hy.len
  have hbb : (neg == neg) = true := by simp
  have sx := hx.shape
  have sy := hy.shape
  go_enter Try.func39, Try.ntmps39
  go_wp2
  go_loopg [5, 6, 7] (max k m + 1) (fun g s5 s6 s7 wr => PlusRel neg ax bx k m ca cb xs ys w g s5 s6 s7 wr)
  case atStart =>
    refine ⟨0, 0, [], none, 0, by omega, rfl, rfl, rfl, by omega, fun h => by omega, ?_, ?_, ?_, Own.nil _ _, by simp [BM.bval], (by repeat' (first | (with_reducible exact Below.refl _ _) | (with_reducible assumption) | (with_reducible refine below_alloc ?_ _ ?_) | (with_reducible refine below_set _ ?_ ?_) | (with_reducible refine Below.drew ?_) | (with_reducible refine below_dN ?_ _) | (apply below_thenA; assumption) | omega | (simp; done) | (simp; omega) | (simp [*]; done)))⟩
    · exact ((Two.new _ _ _ _ rfl).alloc _).alloc _
    · exact (Two.new _ _ _ _ (by simp)).alloc _
    · exact Two.new _ _ _ _ (by simp)
  case round =>
    obtain ⟨j, c, ds, ao, cap, rfl, rfl, rfl, rfl, hc, hend, t0, t1, t2, ho, hv, hbl⟩ := hrel
    have HV := Lib.hid hv
    have HE := Lib.hid hend
    clear hv hend
    have hsh := ho.pcs.shape
    have l2 := t2.lt
    by_cases lx : j < k
    · by_cases ly : j < m
      · obtain ⟨gx, rfl, hcx, hgx⟩ := (hx.keep hbl).cell j (by omega)
        have dx := hx.dig.getD j
        have ix : (j : Int) < (k : Int) := by omega
        obtain ⟨gy, rfl, hcy, hgy⟩ := (hy.keep hbl).cell j (by omega)
        have dy := hy.dig.getD j
        have iy : (j : Int) < (m : Int) := by omega
        obtain ⟨x, ex⟩ : ∃ x, x = xs.getD j 0 := ⟨_, rfl⟩
        obtain ⟨y, ey⟩ : ∃ y, y = ys.getD j 0 := ⟨_, rfl⟩
        rw [← ex] at hcx dx
        rw [← ey] at hcy dy
        have HS := Lib.hid (plus_step (s := c + x + y) ho.2.1 HV.out (by rw [← ex, ← ey] <;> omega))
        clear ex ey
        obtain ⟨p1, p2, p3, p4⟩ := t0.cells
        obtain ⟨p5, p6, p7, p8⟩ := t1.cells
        obtain ⟨p9, p10, p11, p12⟩ := t2.cells
        have lgx : gx < wr.heap.size := by omega
        go_wp2_with (at_builtin; refine wpList_append_own _ rfl _ _ 27 rfl w.heap.size 23 i0 (.int .u64 0) 1 8 Try.underlying27 hi hz0 hz1 hz2 rfl (by decide) _ _ _ rfl (ho.1.alloc _) ⟨wr.heap.size, 0, none⟩ 1 1 [.int .u64 ((((c + x + y) % 65536 : Nat) : Int))] rfl rfl (one_cell _ _ _) (one_one _) (by unfold maxLen; omega) (by omega) (by simp; omega) ?_)
        intro v' w1 hown' hgrow _
        obtain ⟨ao', cap', rfl, ho', hT, hB⟩ := ho.grown (Nat.mod_lt (c + x + y) (by decide)) (by omega) hown' hgrow
        have t0' := hT _ _ _ t0
        have t1' := hT _ _ _ t1
        have t2' := hT _ _ _ t2
        have hbl' := hB _ _ (Nat.le_refl _) hbl
        clear hown' hgrow hT hB
        go_wp2
        go_roundg (max k m + 1 - (j + 1))
        case measure => omega
        case rel => exact ⟨j + 1, (c + x + y) / 65536, ds ++ [(c + x + y) % 65536], ao', cap', by omega, by go_num, by go_num, rfl, by omega, fun h => by omega, t0', t1', t2', ho', HS.out, hbl'⟩
      · obtain ⟨gx, rfl, hcx, hgx⟩ := (hx.keep hbl).cell j (by omega)
        have dx := hx.dig.getD j
        have ix : (j : Int) < (k : Int) := by omega
        have zy := getD_past (show ys.length ≤ j by rw [LY.out]; omega)
        have iy : ¬ (j : Int) < (m : Int) := by omega
        obtain ⟨x, ex⟩ : ∃ x, x = xs.getD j 0 := ⟨_, rfl⟩
        obtain ⟨y, ey⟩ : ∃ y, y = ys.getD j 0 := ⟨_, rfl⟩
        rw [← ex] at hcx dx
        rw [← ey] at zy
        have HS := Lib.hid (plus_step (s := c + x) ho.2.1 HV.out (by rw [← ex, ← ey] <;> omega))
        clear ex ey zy
        obtain ⟨p1, p2, p3, p4⟩ := t0.cells
        obtain ⟨p5, p6, p7, p8⟩ := t1.cells
        obtain ⟨p9, p10, p11, p12⟩ := t2.cells
        have lgx : gx < wr.heap.size := by omega
        go_wp2_with (at_builtin; refine wpList_append_own _ rfl _ _ 27 rfl w.heap.size 23 i0 (.int .u64 0) 1 8 Try.underlying27 hi hz0 hz1 hz2 rfl (by decide) _ _ _ rfl (ho.1.alloc _) ⟨wr.heap.size, 0, none⟩ 1 1 [.int .u64 ((((c + x) % 65536 : Nat) : Int))] rfl rfl (one_cell _ _ _) (one_one _) (by unfold maxLen; omega) (by omega) (by simp; omega) ?_)
        intro v' w1 hown' hgrow _
        obtain ⟨ao', cap', rfl, ho', hT, hB⟩ := ho.grown (Nat.mod_lt (c + x) (by decide)) (by omega) hown' hgrow
        have t0' := hT _ _ _ t0
        have t1' := hT _ _ _ t1
        have t2' := hT _ _ _ t2
        have hbl' := hB _ _ (Nat.le_refl _) hbl
        clear hown' hgrow hT hB
        go_wp2
        go_roundg (max k m + 1 - (j + 1))
        case measure => omega
        case rel => exact ⟨j + 1, (c + x) / 65536, ds ++ [(c + x) % 65536], ao', cap', by omega, by go_num, by go_num, rfl, by omega, fun h => by omega, t0', t1', t2', ho', HS.out, hbl'⟩
    · by_cases ly : j < m
      · have zx := getD_past (show xs.length ≤ j by rw [LX.out]; omega)
        have ix : ¬ (j : Int) < (k : Int) := by omega
        obtain ⟨gy, rfl, hcy, hgy⟩ := (hy.keep hbl).cell j (by omega)
        have dy := hy.dig.getD j
        have iy : (j : Int) < (m : Int) := by omega
        obtain ⟨x, ex⟩ : ∃ x, x = xs.getD j 0 := ⟨_, rfl⟩
        obtain ⟨y, ey⟩ : ∃ y, y = ys.getD j 0 := ⟨_, rfl⟩
        rw [← ex] at zx
        rw [← ey] at hcy dy
        have HS := Lib.hid (plus_step (s := c + y) ho.2.1 HV.out (by rw [← ex, ← ey] <;> omega))
        clear ex ey zx
        obtain ⟨p1, p2, p3, p4⟩ := t0.cells
        obtain ⟨p5, p6, p7, p8⟩ := t1.cells
        obtain ⟨p9, p10, p11, p12⟩ := t2.cells
        go_wp2_with (at_builtin; refine wpList_append_own _ rfl _ _ 27 rfl w.heap.size 23 i0 (.int .u64 0) 1 8 Try.underlying27 hi hz0 hz1 hz2 rfl (by decide) _ _ _ rfl (ho.1.alloc _) ⟨wr.heap.size, 0, none⟩ 1 1 [.int .u64 ((((c + y) % 65536 : Nat) : Int))] rfl rfl (one_cell _ _ _) (one_one _) (by unfold maxLen; omega) (by omega) (by simp; omega) ?_)
        intro v' w1 hown' hgrow _
        obtain ⟨ao', cap', rfl, ho', hT, hB⟩ := ho.grown (Nat.mod_lt (c + y) (by decide)) (by omega) hown' hgrow
        have t0' := hT _ _ _ t0
        have t1' := hT _ _ _ t1
        have t2' := hT _ _ _ t2
        have hbl' := hB _ _ (Nat.le_refl _) hbl
        clear hown' hgrow hT hB
        go_wp2
        go_roundg (max k m + 1 - (j + 1))
        case measure => omega
        case rel => exact ⟨j + 1, (c + y) / 65536, ds ++ [(c + y) % 65536], ao', cap', by omega, by go_num, by go_num, rfl, by omega, fun h => by omega, t0', t1', t2', ho', HS.out, hbl'⟩
      · by_cases hc0 : c = 0
        · subst hc0
          have e := HV.out
          rw [Nat.mul_zero, Nat.add_zero, List.take_of_length_le (by rw [LX.out]; omega), List.take_of_length_le (by rw [LY.out]; omega)] at e
          have E := Lib.hid e
          clear e
          have ix : ¬ (j : Int) < (k : Int) := by omega
          have iy : ¬ (j : Int) < (m : Int) := by omega
          have hj : j ≤ 100001 := by
            rcases Nat.lt_or_ge (max k m) j with h | h
            · have := (HE.out h).2; omega
            · omega
          obtain ⟨p1, p2, p3, p4⟩ := t0.cells
          obtain ⟨p5, p6, p7, p8⟩ := t1.cells
          obtain ⟨p9, p10, p11, p12⟩ := t2.cells
          go_wp2_with fail
          refine (big_trim neg ao j cap ds _ ho.pcs (by omega)).mono ?_
          rintro e w1 ⟨neg1, ao1, k1, cap1, rfl, hI, hb1⟩
          obtain ⟨hc1, hf1⟩ := bcell hb1
          have hz1 := bz3 (n := w.heap.size) hb1 (by have := t2.lt; omega)
          have t2' := t2.below hb1
          obtain ⟨r1, r2, r3, r4⟩ := t2'.cells
          rw [E.out, sgn_add] at hI
          go_wp2_with fail
          (go_light; simp [bodyPost, results, Try.results39, go_sem, *])
          exact ⟨neg1, ao1, k1, cap1, rfl, IsBig.keeps hI (by repeat' (first | (with_reducible exact Keeps.refl _) | (with_reducible refine Keeps.alloc ?_ _) | (with_reducible refine Keeps.drew ?_) | (with_reducible refine Keeps.drewN ?_ _) | (with_reducible refine Keeps.set ?_ _ _ (T := 29) ?_ (by decide)) | (with_reducible exact TyAt.new _ _ _ _ (by simp)) | (with_reducible refine TyAt.set ?_ _ _) | (with_reducible refine TyAt.alloc ?_ _) | (with_reducible refine TyAt.drew ?_) | (with_reducible refine TyAt.drewN ?_ _) | (apply Keeps.below; assumption) | (exact Two.ty (by assumption)) | (apply TyAt.below; rotate_left; assumption))), (by repeat' (first | (with_reducible exact Below.refl _ _) | (with_reducible assumption) | (with_reducible refine below_alloc ?_ _ ?_) | (with_reducible refine below_set _ ?_ ?_) | (with_reducible refine Below.drew ?_) | (with_reducible refine below_dN ?_ _) | (apply below_thenA; assumption) | omega | (simp; done) | (simp; omega) | (simp [*]; done)))⟩
        · have hj : j ≤ 100001 := by
            rcases Nat.lt_or_ge (max k m) j with h | h
            · have := (HE.out h).2; omega
            · omega
          have hje : ¬ max k m < j := fun h => hc0 (HE.out h).1
          have zx := getD_past (show xs.length ≤ j by rw [LX.out]; omega)
          have ix : ¬ (j : Int) < (k : Int) := by omega
          have zy := getD_past (show ys.length ≤ j by rw [LY.out]; omega)
          have iy : ¬ (j : Int) < (m : Int) := by omega
          have hc1 : (0 : Int) < (c : Int) := by omega
          obtain ⟨x, ex⟩ : ∃ x, x = xs.getD j 0 := ⟨_, rfl⟩
          obtain ⟨y, ey⟩ : ∃ y, y = ys.getD j 0 := ⟨_, rfl⟩
          rw [← ex] at zx
          rw [← ey] at zy
          have HS := Lib.hid (plus_step (s := c) ho.2.1 HV.out (by rw [← ex, ← ey] <;> omega))
          clear ex ey zx zy
          obtain ⟨p1, p2, p3, p4⟩ := t0.cells
          obtain ⟨p5, p6, p7, p8⟩ := t1.cells
          obtain ⟨p9, p10, p11, p12⟩ := t2.cells
          go_wp2_with (at_builtin; refine wpList_append_own _ rfl _ _ 27 rfl w.heap.size 23 i0 (.int .u64 0) 1 8 Try.underlying27 hi hz0 hz1 hz2 rfl (by decide) _ _ _ rfl (ho.1.alloc _) ⟨wr.heap.size, 0, none⟩ 1 1 [.int .u64 ((((c) % 65536 : Nat) : Int))] rfl rfl (one_cell _ _ _) (one_one _) (by unfold maxLen; omega) (by omega) (by simp; omega) ?_)
          intro v' w1 hown' hgrow _
          obtain ⟨ao', cap', rfl, ho', hT, hB⟩ := ho.grown (Nat.mod_lt (c) (by decide)) (by omega) hown' hgrow
          have t0' := hT _ _ _ t0
          have t1' := hT _ _ _ t1
          have t2' := hT _ _ _ t2
          have hbl' := hB _ _ (Nat.le_refl _) hbl
          clear hown' hgrow hT hB
          go_wp2
          go_roundg (max k m + 1 - (j + 1))
          case measure => omega
          case rel => exact ⟨j + 1, (c) / 65536, ds ++ [(c) % 65536], ao', cap', by omega, by go_num, by go_num, rfl, by omega, fun h => by omega, t0', t1', t2', ho', HS.out, hbl'⟩
end Go.Proofs.Ythffphcgkmjhbaa
