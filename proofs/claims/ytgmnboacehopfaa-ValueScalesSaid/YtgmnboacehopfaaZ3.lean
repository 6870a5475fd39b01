/-
  The reference's whole numbers, each function by its contract. Twelfth part: Fits.
-/
/-
  The reference's whole numbers, each function by its contract. Thirteenth part: Int.
-/
/-
  The functions of package wide, each by its contract: what it returns for whatever it is given.
-/
/-
  The functions of package wide, each by its contract: what it returns for whatever it is given. Second part.
-/
/-
  The functions of package wide, each by its contract: what it returns for whatever it is given. Third part.
-/
/-
  Plain facts on the division of a number of two words by one of one word, by digits of half a word.
-/
/-
  math/bits.Div64 where the upper word isn't 0: by digits of half a word.
-/
/-
  The functions of package wide, each by its contract: Div and MulDiv.
-/
import Derived.Test.YtgmnboacehopfaaZ2
import Derived.Deep.RegionHeld3
import Derived.Test.YtgmnboacehopfaaZ1
import Derived.Test.YtgmnboacehopfaaShelf
import Derived.Deep.DeepCutAuto
import Derived.Deep.CutBlock
import Derived.Deep.CutRange
namespace Go.Proofs.Ytgmnboacehopfaa
open Go.RowKit
set_option linter.unusedSimpArgs false
set_option linter.unusedVariables false

theorem below_step {a w w' : World} (h : Below a.heap.size a w) (h' : Below w.heap.size w w') : Below a.heap.size a w' := h.trans (h'.mono h.size)
def fitsB (X : Int) : Bool := decide (-170141183460469231731687303715884105728 ≤ X) && decide (X < 170141183460469231731687303715884105728)
theorem fitsB_lo {X : Int} (h : cmpI X (-170141183460469231731687303715884105728) < 0) : fitsB X = false := by
  unfold cmpI at h
  unfold fitsB
  have : X < -170141183460469231731687303715884105728 := by
    by_cases h1 : X < -170141183460469231731687303715884105728
    · exact h1
    · rw [if_neg h1] at h; split at h <;> omega
  simp; omega
theorem fitsB_hi {X : Int} (h : 0 ≤ cmpI X (-170141183460469231731687303715884105728)) : fitsB X = decide (cmpI X 170141183460469231731687303715884105728 < 0) := by
  unfold cmpI at *
  unfold fitsB
  have : -170141183460469231731687303715884105728 ≤ X := by
    by_cases h1 : X < -170141183460469231731687303715884105728
    · rw [if_pos h1] at h; omega
    · omega
  by_cases h2 : X < 170141183460469231731687303715884105728
  · simp [h2, this]
  · simp [h2]; split <;> simp

end Go.Proofs.Ytgmnboacehopfaa
namespace Go.Proofs.Ytgmnboacehopfaa
open Go.RowKit
set_option linter.unusedSimpArgs false
set_option linter.unusedVariables false

def intB (X : Int) : Bool := decide (-9223372036854775808 ≤ X) && decide (X < 9223372036854775808)
/-- The int, or 0. -/
def intV (X : Int) : Int := if intB X then X else 0
theorem intB_lo {X : Int} (h : cmpI X (-9223372036854775808) < 0) : intB X = false := by
  unfold cmpI at h
  unfold intB
  have : X < -9223372036854775808 := by
    by_cases h1 : X < -9223372036854775808
    · exact h1
    · rw [if_neg h1] at h; split at h <;> omega
  simp; omega
theorem intB_hi {X : Int} (h : 0 ≤ cmpI X (-9223372036854775808)) : intB X = decide (cmpI X 9223372036854775808 < 0) := by
  unfold cmpI at *
  unfold intB
  have : -9223372036854775808 ≤ X := by
    by_cases h1 : X < -9223372036854775808
    · rw [if_pos h1] at h; omega
    · omega
  by_cases h2 : X < 9223372036854775808
  · simp [h2, this]
  · simp [h2]; split <;> simp
theorem intB_fit {X : Int} (h : intB X = true) : -9223372036854775808 ≤ X ∧ X ≤ 9223372036854775807 := by
  unfold intB at h; simp at h; omega
theorem bval_drop_le (ds : List Nat) (j : Nat) (hj : j ≤ ds.length) : BM.bval (ds.drop j) ≤ BM.bval ds := by
  rw [BM.bval_split ds j hj]
  have : 1 * BM.bval (ds.drop j) ≤ 65536 ^ j * BM.bval (ds.drop j) := Nat.mul_le_mul_right _ (Nat.pow_pos (by decide))
  omega
def IntRel (neg : Bool) (ao : Option Addr) (k cap : Nat) (ds : List Nat) (w : World) (g : Nat) (s5 s6 : Value) (wr : World) : Prop :=
  ∃ (j v : Nat), j ≤ k ∧ g = j ∧ s6 = .int .i64 ((j : Int) - 1) ∧ v = BM.bval (ds.drop j) ∧ s5 = .int .i64 (sgn neg v) ∧
    Two wr w.heap.size (.bool neg) (.slice ao k cap) ∧ Below w.heap.size w wr

set_option maxRecDepth 100000 in
set_option maxHeartbeats 1600000 in
theorem big_int (neg : Bool) (ao : Option Addr) (k cap : Nat) (X : Int) (w : World) (h : IsBig w neg ao k cap X) (hk : k ≤ 100000) :
    Calls Try.prog 52 #[.agg #[.bool neg, .slice ao k cap]] w fun e w' => e = .returned (.tuple #[.int .i64 (intV X), .bool (intB X)]) ∧ Below w.heap.size w w' := by
  obtain ⟨P, eP'⟩ : ∃ P : Int, P = 9223372036854775808 := ⟨_, rfl⟩
  have eP : P = ((2 ^ 63 : Nat) : Int) := by rw [eP']; decide
  have hp1 : 63 ≤ 3000 := by omega
  have sP : BM.Sz P 4 := by rw [eP']; unfold BM.Sz; decide
  obtain ⟨c1, e1⟩ : ∃ c1, c1 = cmpI X (-P) := ⟨_, rfl⟩
  obtain ⟨c2, e2⟩ : ∃ c2, c2 = cmpI X P := ⟨_, rfl⟩
  have E1 := Lib.hid e1.symm
  have E2 := Lib.hid e2.symm
  have hA : c1 < 0 → intB X = false := fun h => intB_lo (by rw [← eP', ← e1]; exact h)
  have hB : 0 ≤ c1 → intB X = decide (c2 < 0) := fun h => by rw [intB_hi (by rw [← eP', ← e1]; exact h), ← eP', ← e2]
  have t0 : Two (w.alloc (.cells #[.bool neg, .slice ao k cap] 100)) w.heap.size (.bool neg) (.slice ao k cap) := Two.new w _ _ _ rfl
  clear eP' e1 e2
  by_cases hc : 0 ≤ c1
  · have hB' := Lib.hid (hB hc)
    have hcn : ¬ c1 < 0 := by omega
    have hd : decide (c1 < 0) = false := by simp [hcn]
    clear hA hB
    by_cases hc2 : c2 < 0
    · have hd2 : decide (0 ≤ c2) = false := by simp; omega
      have hV : intB X = true := by rw [hB'.out]; simp [hc2]
      have hfit := intB_fit hV
      have HVV := Lib.hid hV
      have HV2 := Lib.hid (show intV X = X by unfold intV; rw [hV]; rfl)
      clear hV
      have h' := h
      obtain ⟨ds, h1, h2, h3, hXe⟩ := h'
      have HX := Lib.hid hXe
      clear hXe
      have LD := Lib.hid h1.len
      have HF := Lib.hid hfit
      clear hfit
      go_enter Try.func52, Try.ntmps52
      go_wp2_with fail
      refine (big_power_lit 63 63 rfl hp1 P eP _).mono ?_
      rintro e w1 ⟨n1, a1, k1, c1', rfl, hI1, hb1⟩
      replace t0 := t0.below hb1
      go_wp2_with fail
      refine (big_minus n1 a1 k1 c1' P _ hI1 (by have := hI1.le sP; omega)).mono ?_
      rintro e w2 ⟨m3, b3, j3, d3, rfl, hM, hb2⟩
      replace t0 := t0.below hb2
      have hM' := hM.keep (w' := w2.alloc (.cells #[.bool m3, .slice b3 j3 d3] 100)) (by repeat' (first | (with_reducible exact Below.refl _ _) | (with_reducible assumption) | (with_reducible refine below_alloc ?_ _ ?_) | (with_reducible refine below_set _ ?_ ?_) | (with_reducible refine Below.drew ?_) | (with_reducible refine below_dN ?_ _) | (apply below_thenA; assumption) | omega | (simp; done) | (simp; omega) | (simp [*]; done)))
      have hx2 := (((h.keep (w' := w.alloc (.cells #[.bool neg, .slice ao k cap] 100)) (by repeat' (first | (with_reducible exact Below.refl _ _) | (with_reducible assumption) | (with_reducible refine below_alloc ?_ _ ?_) | (with_reducible refine below_set _ ?_ ?_) | (with_reducible refine Below.drew ?_) | (with_reducible refine below_dN ?_ _) | (apply below_thenA; assumption) | omega | (simp; done) | (simp; omega) | (simp [*]; done)))).keep hb1).keep hb2).keep (w' := w2.alloc (.cells #[.bool m3, .slice b3 j3 d3] 100)) (by repeat' (first | (with_reducible exact Below.refl _ _) | (with_reducible assumption) | (with_reducible refine below_alloc ?_ _ ?_) | (with_reducible refine below_set _ ?_ ?_) | (with_reducible refine Below.drew ?_) | (with_reducible refine below_dN ?_ _) | (apply below_thenA; assumption) | omega | (simp; done) | (simp; omega) | (simp [*]; done)))
      have hs1 : w.heap.size + 1 ≤ w1.heap.size := by have := hb1.size; simpa using this
      have hs2 := hb2.size
      have hB2 : Below w.heap.size w (w2.alloc (.cells #[.bool m3, .slice b3 j3 d3] 100)) := (by repeat' (first | (with_reducible exact Below.refl _ _) | (with_reducible assumption) | (with_reducible refine below_alloc ?_ _ ?_) | (with_reducible refine below_set _ ?_ ?_) | (with_reducible refine Below.drew ?_) | (with_reducible refine below_dN ?_ _) | (apply below_thenA; assumption) | omega | (simp; done) | (simp; omega) | (simp [*]; done)))
      replace t0 := t0.alloc (.cells #[.bool m3, .slice b3 j3 d3] 100)
      have t1 : Two (w2.alloc (.cells #[.bool m3, .slice b3 j3 d3] 100)) w2.heap.size (.bool m3) (.slice b3 j3 d3) := Two.new w2 _ _ _ rfl
      have hq : Below (w2.alloc (.cells #[.bool m3, .slice b3 j3 d3] 100)).heap.size (w2.alloc (.cells #[.bool m3, .slice b3 j3 d3] 100)) (w2.alloc (.cells #[.bool m3, .slice b3 j3 d3] 100)) := Below.refl _ _
      have hfin : ∀ w', Below (w2.alloc (.cells #[.bool m3, .slice b3 j3 d3] 100)).heap.size (w2.alloc (.cells #[.bool m3, .slice b3 j3 d3] 100)) w' → Below w.heap.size w w' := fun w' h' => hB2.trans (h'.mono hB2.size)
      clear hb1 hb2 hB2 hI1 hM hs1 hs2
      have hM := hM'
      have hx := hx2
      clear hM' hx2
      obtain ⟨q1, q2, q3, q4⟩ := t0.cells
      obtain ⟨r1, r2, r3, r4⟩ := t1.cells
      go_wp2_with fail
      go_region_held3 (fun w' => w'.cell? ⟨w.heap.size, 0, none⟩ = some (.bool neg) ∧ w'.cell? ⟨w.heap.size, 1, none⟩ = some (.slice ao k cap) ∧ w'.cell? ⟨w2.heap.size, 0, none⟩ = some (.bool m3) ∧ w'.cell? ⟨w2.heap.size, 1, none⟩ = some (.slice b3 j3 d3))
        (first | exact ⟨q1, q2, r1, r2⟩ | go_keep)
        (first
        | (go_at_call 69; with_reducible refine (big_power_lit 63 63 rfl hp1 P eP _).mono ?_; rintro e w4 hB2; obtain ⟨n2, a2, k2, c2', rfl, hI2, hb2⟩ := hB2.out; (try replace hb2 := below_undrew hb2); replace hq := below_step hq hb2; replace t0 := t0.below hb2; replace t1 := t1.below hb2; obtain ⟨q1, q2, q3, q4⟩ := t0.cells; obtain ⟨r1, r2, r3, r4⟩ := t1.cells)
        | (go_at_call 51; with_reducible refine (big_cmp neg m3 ao b3 k j3 cap d3 X (-P) _ (hx.keep (Below.drew hq)) (hM.keep (Below.drew hq)) ?_ ?_).mono ?_; omega; (have := hM.le sP.neg; omega); rintro e w5 ⟨rfl, hb4⟩; rw [E1.out]; (try replace hb4 := below_undrew hb4); replace hq := below_step hq hb4; replace t0 := t0.below hb4; replace t1 := t1.below hb4; obtain ⟨q1, q2, q3, q4⟩ := t0.cells; obtain ⟨r1, r2, r3, r4⟩ := t1.cells)
        | (go_at_call 51; with_reducible refine (big_cmp neg n2 ao a2 k k2 cap c2' X P _ (hx.keep hq) hI2 ?_ ?_).mono ?_; omega; (have := hI2.le sP; omega); rintro e w6 ⟨rfl, hb4⟩; rw [E2.out]; (try replace hb4 := below_undrew hb4); replace hq := below_step hq hb4; replace t0 := t0.below hb4; replace t1 := t1.below hb4; obtain ⟨q1, q2, q3, q4⟩ := t0.cells; obtain ⟨r1, r2, r3, r4⟩ := t1.cells))
      clear q1 q2 q3 q4 r1 r2 r3 r4 t1
      replace hq := hfin _ hq
      obtain ⟨q1, q2, q3, q4⟩ := t0.cells
      go_wp2_with fail
      go_loopg [5, 6] k (fun g s5 s6 wr => IntRel neg ao k cap ds w g s5 s6 wr)
      case atStart =>
        refine ⟨k, 0, by omega, rfl, rfl, ?_, ?_, t0, hq⟩
        · rw [List.drop_eq_nil_of_le (by rw [LD.out]; omega)]; rfl
        · cases neg <;> rfl
      case round =>
        clear t0 q1 q2 q3 q4 hq hfin hx hM
        obtain ⟨j, v, hj, rfl, rfl, hv, rfl, t0, hq⟩ := hrel
        have HV := Lib.hid hv
        clear hv
        obtain ⟨q1, q2, q3, q4⟩ := t0.cells
        by_cases hj0 : gk = 0
        · subst hj0
          have e : v = BM.bval ds := by rw [HV.out]; rfl
          subst e
          go_wp2_with fail
          go_ret2
          exact ⟨by rw [HVV.out, HV2.out, HX.out]; rfl, hq⟩
        · obtain ⟨g, rfl, hcx, hgx⟩ := (h1.keep hq).cell (gk - 1) (by omega)
          have dx := h1.dig.getD (gk - 1)
          obtain ⟨x, ex⟩ : ∃ x, x = ds.getD (gk - 1) 0 := ⟨_, rfl⟩
          rw [← ex] at hcx dx
          have hl : gk - 1 < ds.length := by rw [LD.out]; omega
          have hst : x + 65536 * v = BM.bval (ds.drop (gk - 1)) := by
            rw [BM.bval_drop ds (gk - 1) hl, show gk - 1 + 1 = gk by omega, HV.out, ex]
            simp [List.getD, hl]
          have hle := bval_drop_le ds (gk - 1) (by omega)
          have HST := Lib.hid hst
          have hj1 : 0 < gk := by omega
          have i1 : 0 ≤ (gk : Int) - 1 := by omega
          have i2 : (gk : Int) - 1 < (k : Int) := by omega
          have ei : ((gk - 1 : Nat) : Int) = (gk : Int) - 1 := by omega
          rw [← hst] at hle
          clear ex hst
          cases neg
          · have hb : x + 65536 * v ≤ 9223372036854775807 := by
              have := HF.out.2; rw [HX.out] at this; unfold sgn at this; simp at this; omega
            simp only [sgn, Bool.false_eq_true, if_false] at *
            clear hle
            go_wp2_with fail
            go_roundg (gk - 1)
            case measure => omega
            case rel => exact ⟨gk - 1, x + 65536 * v, by omega, rfl, by go_num, HST.out, by simp only [sgn, Bool.false_eq_true, if_false]; go_num, t0, hq⟩
          · have hb : x + 65536 * v ≤ 9223372036854775808 := by
              have := HF.out.1; rw [HX.out] at this; unfold sgn at this; simp at this; omega
            simp only [sgn, if_true] at *
            clear hle
            go_wp2_with fail
            go_roundg (gk - 1)
            case measure => omega
            case rel => exact ⟨gk - 1, x + 65536 * v, by omega, rfl, by go_num, HST.out, by simp only [sgn, if_true]; go_num, t0, hq⟩
    · have hd2 : decide (0 ≤ c2) = true := by simp; omega
      have hV : intB X = false := by rw [hB'.out]; simp [hc2]
      have HVV := Lib.hid hV
      have HV2 := Lib.hid (show intV X = 0 by unfold intV; rw [hV]; rfl)
      clear hV
      go_enter Try.func52, Try.ntmps52
      go_wp2_with fail
      refine (big_power_lit 63 63 rfl hp1 P eP _).mono ?_
      rintro e w1 ⟨n1, a1, k1, c1', rfl, hI1, hb1⟩
      replace t0 := t0.below hb1
      go_wp2_with fail
      refine (big_minus n1 a1 k1 c1' P _ hI1 (by have := hI1.le sP; omega)).mono ?_
      rintro e w2 ⟨m3, b3, j3, d3, rfl, hM, hb2⟩
      replace t0 := t0.below hb2
      have hM' := hM.keep (w' := w2.alloc (.cells #[.bool m3, .slice b3 j3 d3] 100)) (by repeat' (first | (with_reducible exact Below.refl _ _) | (with_reducible assumption) | (with_reducible refine below_alloc ?_ _ ?_) | (with_reducible refine below_set _ ?_ ?_) | (with_reducible refine Below.drew ?_) | (with_reducible refine below_dN ?_ _) | (apply below_thenA; assumption) | omega | (simp; done) | (simp; omega) | (simp [*]; done)))
      have hx2 := (((h.keep (w' := w.alloc (.cells #[.bool neg, .slice ao k cap] 100)) (by repeat' (first | (with_reducible exact Below.refl _ _) | (with_reducible assumption) | (with_reducible refine below_alloc ?_ _ ?_) | (with_reducible refine below_set _ ?_ ?_) | (with_reducible refine Below.drew ?_) | (with_reducible refine below_dN ?_ _) | (apply below_thenA; assumption) | omega | (simp; done) | (simp; omega) | (simp [*]; done)))).keep hb1).keep hb2).keep (w' := w2.alloc (.cells #[.bool m3, .slice b3 j3 d3] 100)) (by repeat' (first | (with_reducible exact Below.refl _ _) | (with_reducible assumption) | (with_reducible refine below_alloc ?_ _ ?_) | (with_reducible refine below_set _ ?_ ?_) | (with_reducible refine Below.drew ?_) | (with_reducible refine below_dN ?_ _) | (apply below_thenA; assumption) | omega | (simp; done) | (simp; omega) | (simp [*]; done)))
      have hs1 : w.heap.size + 1 ≤ w1.heap.size := by have := hb1.size; simpa using this
      have hs2 := hb2.size
      have hB2 : Below w.heap.size w (w2.alloc (.cells #[.bool m3, .slice b3 j3 d3] 100)) := (by repeat' (first | (with_reducible exact Below.refl _ _) | (with_reducible assumption) | (with_reducible refine below_alloc ?_ _ ?_) | (with_reducible refine below_set _ ?_ ?_) | (with_reducible refine Below.drew ?_) | (with_reducible refine below_dN ?_ _) | (apply below_thenA; assumption) | omega | (simp; done) | (simp; omega) | (simp [*]; done)))
      replace t0 := t0.alloc (.cells #[.bool m3, .slice b3 j3 d3] 100)
      have t1 : Two (w2.alloc (.cells #[.bool m3, .slice b3 j3 d3] 100)) w2.heap.size (.bool m3) (.slice b3 j3 d3) := Two.new w2 _ _ _ rfl
      have hq : Below (w2.alloc (.cells #[.bool m3, .slice b3 j3 d3] 100)).heap.size (w2.alloc (.cells #[.bool m3, .slice b3 j3 d3] 100)) (w2.alloc (.cells #[.bool m3, .slice b3 j3 d3] 100)) := Below.refl _ _
      have hfin : ∀ w', Below (w2.alloc (.cells #[.bool m3, .slice b3 j3 d3] 100)).heap.size (w2.alloc (.cells #[.bool m3, .slice b3 j3 d3] 100)) w' → Below w.heap.size w w' := fun w' h' => hB2.trans (h'.mono hB2.size)
      clear hb1 hb2 hB2 hI1 hM hs1 hs2
      have hM := hM'
      have hx := hx2
      clear hM' hx2
      obtain ⟨q1, q2, q3, q4⟩ := t0.cells
      obtain ⟨r1, r2, r3, r4⟩ := t1.cells
      go_wp2_with fail
      go_region_held3 (fun w' => w'.cell? ⟨w.heap.size, 0, none⟩ = some (.bool neg) ∧ w'.cell? ⟨w.heap.size, 1, none⟩ = some (.slice ao k cap) ∧ w'.cell? ⟨w2.heap.size, 0, none⟩ = some (.bool m3) ∧ w'.cell? ⟨w2.heap.size, 1, none⟩ = some (.slice b3 j3 d3))
        (first | exact ⟨q1, q2, r1, r2⟩ | go_keep)
        (first
        | (go_at_call 69; with_reducible refine (big_power_lit 63 63 rfl hp1 P eP _).mono ?_; rintro e w4 hB2; obtain ⟨n2, a2, k2, c2', rfl, hI2, hb2⟩ := hB2.out; (try replace hb2 := below_undrew hb2); replace hq := below_step hq hb2; replace t0 := t0.below hb2; replace t1 := t1.below hb2; obtain ⟨q1, q2, q3, q4⟩ := t0.cells; obtain ⟨r1, r2, r3, r4⟩ := t1.cells)
        | (go_at_call 51; with_reducible refine (big_cmp neg m3 ao b3 k j3 cap d3 X (-P) _ (hx.keep (Below.drew hq)) (hM.keep (Below.drew hq)) ?_ ?_).mono ?_; omega; (have := hM.le sP.neg; omega); rintro e w5 ⟨rfl, hb4⟩; rw [E1.out]; (try replace hb4 := below_undrew hb4); replace hq := below_step hq hb4; replace t0 := t0.below hb4; replace t1 := t1.below hb4; obtain ⟨q1, q2, q3, q4⟩ := t0.cells; obtain ⟨r1, r2, r3, r4⟩ := t1.cells)
        | (go_at_call 51; with_reducible refine (big_cmp neg n2 ao a2 k k2 cap c2' X P _ (hx.keep hq) hI2 ?_ ?_).mono ?_; omega; (have := hI2.le sP; omega); rintro e w6 ⟨rfl, hb4⟩; rw [E2.out]; (try replace hb4 := below_undrew hb4); replace hq := below_step hq hb4; replace t0 := t0.below hb4; replace t1 := t1.below hb4; obtain ⟨q1, q2, q3, q4⟩ := t0.cells; obtain ⟨r1, r2, r3, r4⟩ := t1.cells))
      go_wp2_with fail
      go_ret2
      exact ⟨by rw [HVV.out, HV2.out]; rfl, hfin _ hq⟩
  · have hV := hA (by omega)
    have HVV := Lib.hid hV
    have HV2 := Lib.hid (show intV X = 0 by unfold intV; rw [hV]; rfl)
    clear hV
    have hcn : c1 < 0 := by omega
    have hd : decide (c1 < 0) = true := by simp [hcn]
    clear hA hB
    go_enter Try.func52, Try.ntmps52
    go_wp2_with fail
    refine (big_power_lit 63 63 rfl hp1 P eP _).mono ?_
    rintro e w1 ⟨n1, a1, k1, c1', rfl, hI1, hb1⟩
    replace t0 := t0.below hb1
    go_wp2_with fail
    refine (big_minus n1 a1 k1 c1' P _ hI1 (by have := hI1.le sP; omega)).mono ?_
    rintro e w2 ⟨m3, b3, j3, d3, rfl, hM, hb2⟩
    replace t0 := t0.below hb2
    have hM' := hM.keep (w' := w2.alloc (.cells #[.bool m3, .slice b3 j3 d3] 100)) (by repeat' (first | (with_reducible exact Below.refl _ _) | (with_reducible assumption) | (with_reducible refine below_alloc ?_ _ ?_) | (with_reducible refine below_set _ ?_ ?_) | (with_reducible refine Below.drew ?_) | (with_reducible refine below_dN ?_ _) | (apply below_thenA; assumption) | omega | (simp; done) | (simp; omega) | (simp [*]; done)))
    have hx2 := (((h.keep (w' := w.alloc (.cells #[.bool neg, .slice ao k cap] 100)) (by repeat' (first | (with_reducible exact Below.refl _ _) | (with_reducible assumption) | (with_reducible refine below_alloc ?_ _ ?_) | (with_reducible refine below_set _ ?_ ?_) | (with_reducible refine Below.drew ?_) | (with_reducible refine below_dN ?_ _) | (apply below_thenA; assumption) | omega | (simp; done) | (simp; omega) | (simp [*]; done)))).keep hb1).keep hb2).keep (w' := w2.alloc (.cells #[.bool m3, .slice b3 j3 d3] 100)) (by repeat' (first | (with_reducible exact Below.refl _ _) | (with_reducible assumption) | (with_reducible refine below_alloc ?_ _ ?_) | (with_reducible refine below_set _ ?_ ?_) | (with_reducible refine Below.drew ?_) | (with_reducible refine below_dN ?_ _) | (apply below_thenA; assumption) | omega | (simp; done) | (simp; omega) | (simp [*]; done)))
    have hs1 : w.heap.size + 1 ≤ w1.heap.size := by have := hb1.size; simpa using this
    have hs2 := hb2.size
    have hB2 : Below w.heap.size w (w2.alloc (.cells #[.bool m3, .slice b3 j3 d3] 100)) := (by repeat' (first | (with_reducible exact Below.refl _ _) | (with_reducible assumption) | (with_reducible refine below_alloc ?_ _ ?_) | (with_reducible refine below_set _ ?_ ?_) | (with_reducible refine Below.drew ?_) | (with_reducible refine below_dN ?_ _) | (apply below_thenA; assumption) | omega | (simp; done) | (simp; omega) | (simp [*]; done)))
    replace t0 := t0.alloc (.cells #[.bool m3, .slice b3 j3 d3] 100)
    have t1 : Two (w2.alloc (.cells #[.bool m3, .slice b3 j3 d3] 100)) w2.heap.size (.bool m3) (.slice b3 j3 d3) := Two.new w2 _ _ _ rfl
    have hq : Below (w2.alloc (.cells #[.bool m3, .slice b3 j3 d3] 100)).heap.size (w2.alloc (.cells #[.bool m3, .slice b3 j3 d3] 100)) (w2.alloc (.cells #[.bool m3, .slice b3 j3 d3] 100)) := Below.refl _ _
    have hfin : ∀ w', Below (w2.alloc (.cells #[.bool m3, .slice b3 j3 d3] 100)).heap.size (w2.alloc (.cells #[.bool m3, .slice b3 j3 d3] 100)) w' → Below w.heap.size w w' := fun w' h' => hB2.trans (h'.mono hB2.size)
    clear hb1 hb2 hB2 hI1 hM hs1 hs2
    have hM := hM'
    have hx := hx2
    clear hM' hx2
    obtain ⟨q1, q2, q3, q4⟩ := t0.cells
    obtain ⟨r1, r2, r3, r4⟩ := t1.cells
    go_wp2_with fail
    go_region_with (first
        | (go_at_call 69; with_reducible refine (big_power_lit 63 63 rfl hp1 P eP _).mono ?_; rintro e w4 hB2; obtain ⟨n2, a2, k2, c2', rfl, hI2, hb2⟩ := hB2.out; (try replace hb2 := below_undrew hb2); replace hq := below_step hq hb2; replace t0 := t0.below hb2; replace t1 := t1.below hb2; obtain ⟨q1, q2, q3, q4⟩ := t0.cells; obtain ⟨r1, r2, r3, r4⟩ := t1.cells)
        | (go_at_call 51; with_reducible refine (big_cmp neg m3 ao b3 k j3 cap d3 X (-P) _ (hx.keep (Below.drew hq)) (hM.keep (Below.drew hq)) ?_ ?_).mono ?_; omega; (have := hM.le sP.neg; omega); rintro e w5 ⟨rfl, hb4⟩; rw [E1.out]; (try replace hb4 := below_undrew hb4); replace hq := below_step hq hb4; replace t0 := t0.below hb4; replace t1 := t1.below hb4; obtain ⟨q1, q2, q3, q4⟩ := t0.cells; obtain ⟨r1, r2, r3, r4⟩ := t1.cells)
        | (go_at_call 51; with_reducible refine (big_cmp neg n2 ao a2 k k2 cap c2' X P _ (hx.keep hq) hI2 ?_ ?_).mono ?_; omega; (have := hI2.le sP; omega); rintro e w6 ⟨rfl, hb4⟩; rw [E2.out]; (try replace hb4 := below_undrew hb4); replace hq := below_step hq hb4; replace t0 := t0.below hb4; replace t1 := t1.below hb4; obtain ⟨q1, q2, q3, q4⟩ := t0.cells; obtain ⟨r1, r2, r3, r4⟩ := t1.cells))
    all_goals
      go_wp2_with fail
      go_ret2
      exact ⟨by rw [HVV.out, HV2.out]; rfl, hfin _ hq⟩
end Go.Proofs.Ytgmnboacehopfaa
namespace Go.Proofs.Ytgmnboacehopfaa
open Go.RowKit

set_option maxHeartbeats 400000 in
theorem mul64_any (x y : Nat) (hx : x < 18446744073709551616) (hy : y < 18446744073709551616) (w : World) :
    Calls Try.prog 79 #[.int .u64 x, .int .u64 y] w fun e w' => e = .returned (.tuple #[.int .u64 ((x * y / 18446744073709551616 : Nat) : Int), .int .u64 ((x * y % 18446744073709551616 : Nat) : Int)]) ∧ w = w' := by
  obtain ⟨bd, bt, bw, hhi⟩ := Lib.mul64_hi x y hx hy
  have ba := Lib.half_mul_le (a := x / 4294967296) (b := y / 4294967296) (by omega) (by omega)
  have bb := Lib.half_mul_le (a := x / 4294967296) (b := y % 4294967296) (by omega) (by omega)
  have bc := Lib.half_mul_le (a := x % 4294967296) (b := y / 4294967296) (by omega) (by omega)
  have ba' : x / 4294967296 * (y / 4294967296) < 18446744073709551616 := by omega
  have bb' : x / 4294967296 * (y % 4294967296) < 18446744073709551616 := by omega
  have bc' : x % 4294967296 * (y / 4294967296) < 18446744073709551616 := by omega
  have bh1 : x / 4294967296 * (y / 4294967296) + (x / 4294967296 * (y % 4294967296) + x % 4294967296 * (y % 4294967296) / 4294967296) / 4294967296 < 18446744073709551616 := by omega
  have bh : x / 4294967296 * (y / 4294967296) + (x / 4294967296 * (y % 4294967296) + x % 4294967296 * (y % 4294967296) / 4294967296) / 4294967296 + ((x / 4294967296 * (y % 4294967296) + x % 4294967296 * (y % 4294967296) / 4294967296) % 4294967296 + x % 4294967296 * (y / 4294967296)) / 4294967296 < 18446744073709551616 := by omega
  go_enter Try.func79, Try.ntmps79
  go_wp2
  simp only [Mul64.maskN x hx, Mul64.maskN y hy, Mul64.divN, Mul64.mulN, Mul64.addN, Mul64.wrapN _ bd, Mul64.wrapN _ bb', Mul64.wrapN _ bt, Mul64.maskN _ bt, Mul64.wrapN _ bc', Mul64.wrapN _ bw, Mul64.wrapN _ ba', Mul64.wrapN _ bh1, Mul64.wrapN _ bh, Mul64.wrapM (x * y)]
  rw [hhi]
  go_ret2
  exact ⟨rfl, rfl⟩

theorem wide_of (n : Int) (h1 : -9223372036854775808 ≤ n) (h2 : n ≤ 9223372036854775807) (w : World) :
    Calls Try.prog 68 #[.int .i64 n] w fun e w' => e = .returned (.agg #[.int .i64 (n / 18446744073709551616), .int .u64 (n % 18446744073709551616)]) ∧ Below w.heap.size w w' := by
  go_enter Try.func68, Try.ntmps68
  go_wp2
  simp [bodyPost, results, Try.results68, go_sem]
  exact ⟨⟨by omega, by rw [IntKind.wrap_u64]⟩, (by repeat' (first | (with_reducible exact Below.refl _ _) | (with_reducible assumption) | (with_reducible refine below_alloc ?_ _ ?_) | (with_reducible refine below_set _ ?_ ?_) | (with_reducible refine Below.drew ?_) | (with_reducible refine below_dN ?_ _) | (apply below_thenA; assumption) | omega | (simp; done) | (simp; omega) | (simp [*]; done)))⟩

/-- What Add and Neg answer. -/
def WAns (n : Int) (B : Nat) (w : World) (e : Ending) (w' : World) : Prop :=
  (WFit n → e = .returned (.tuple #[.agg #[.int .i64 (n / 18446744073709551616), .int .u64 (n % 18446744073709551616)], .bool true])) ∧ (¬ WFit n → e = .returned (.tuple #[.agg #[.int .i64 0, .int .u64 0], .bool false])) ∧ Below B w w'
def cmp3 (a b : Int) : Int := if a < b then -1 else if b < a then 1 else 0
theorem ret_wb {h l h' l' : Int} {b : Bool} (e1 : h = h') (e2 : l = l') : Ending.returned (.tuple #[.agg #[.int .i64 h, .int .u64 l], .bool b]) = .returned (.tuple #[.agg #[.int .i64 (h'), .int .u64 (l')], .bool b]) := by rw [e1, e2]
theorem not_dec {p q : Prop} [Decidable p] [Decidable q] : ((!decide p == decide q) = true) ↔ (¬ p ↔ q) := by
  by_cases p <;> by_cases q <;> simp [*]
theorem not_dec' {p q : Prop} [Decidable p] [Decidable q] : ((!decide p == decide q) = false) ↔ ¬ (¬ p ↔ q) := by
  by_cases p <;> by_cases q <;> simp [*]

set_option maxRecDepth 100000 in
set_option maxHeartbeats 400000 in
theorem wide_add (a b h1 l1 h2 l2 : Int) (ha : Wd h1 l1 a) (hb : Wd h2 l2 b) (w : World) :
    Calls Try.prog 67 #[.agg #[.int .i64 h1, .int .u64 l1], .agg #[.int .i64 h2, .int .u64 l2]] w (WAns (a + b) w.heap.size w) := by
  obtain ⟨a1, a2, a3, a4, a5⟩ := ha
  obtain ⟨b1, b2, b3, b4, b5⟩ := hb
  have A1 := add64_0 l1 l2 a3 b3
  have A2 := add64 (IntKind.u64.wrap h1) (IntKind.u64.wrap h2) ((l1 + l2) / 18446744073709551616) (u64n _) (u64n _) (by omega) (by omega)
  have A5 := Lib.hid a5
  have B5 := Lib.hid b5
  clear a5 b5
  go_enter Try.func67, Try.ntmps67
  go_wp2
  all_goals
    simp [bodyPost, results, Try.results67, go_sem]
    go_light
    clear A1 A2
    have a5 := A5.out; have b5 := B5.out
    clear A5 B5
    simp only [IntKind.wrap_u64, wrap64, not_dec, not_dec'] at *
    refine ⟨fun h => ?_, fun h => ?_, (by repeat' (first | (with_reducible exact Below.refl _ _) | (with_reducible assumption) | (with_reducible refine below_alloc ?_ _ ?_) | (with_reducible refine below_set _ ?_ ?_) | (with_reducible refine Below.drew ?_) | (with_reducible refine below_dN ?_ _) | (apply below_thenA; assumption) | omega | (simp; done) | (simp; omega) | (simp [*]; done)))⟩
    all_goals unfold WFit at h
    all_goals first
      | (exfalso; omega)
      | (refine ret_wb ?_ ?_ <;> omega)

theorem mul64_int (x y : Int) (hx0 : 0 ≤ x) (hx : x < 18446744073709551616) (hy0 : 0 ≤ y) (hy : y < 18446744073709551616) (w : World) :
    Calls Try.prog 79 #[.int .u64 x, .int .u64 y] w fun e w' => e = .returned (.tuple #[.int .u64 (x * y / 18446744073709551616), .int .u64 (x * y % 18446744073709551616)]) ∧ w = w' := by
  obtain ⟨x, rfl⟩ := Int.eq_ofNat_of_zero_le hx0
  obtain ⟨y, rfl⟩ := Int.eq_ofNat_of_zero_le hy0
  simpa using mul64_any x y (by omega) (by omega) w
theorem mul_bound (a b : Int) (a1 : -9223372036854775808 ≤ a) (a2 : a ≤ 9223372036854775807) (b1 : -9223372036854775808 ≤ b) (b2 : b ≤ 9223372036854775807) :
    -85070591730234615865843651857942052864 ≤ a * b ∧ a * b ≤ 85070591730234615865843651857942052864 := by
  have h := Nat.mul_le_mul (show a.natAbs ≤ 9223372036854775808 by omega) (show b.natAbs ≤ 9223372036854775808 by omega)
  rw [← Int.natAbs_mul] at h
  omega
theorem wrap_pos {n : Int} (h : 0 ≤ n) (h2 : n ≤ 9223372036854775807) : IntKind.u64.wrap n = n := by rw [IntKind.wrap_u64]; omega
theorem wrap_neg {n : Int} (h : n < 0) (h2 : -9223372036854775808 ≤ n) : IntKind.u64.wrap n = n + 18446744073709551616 := by rw [IntKind.wrap_u64]; omega
theorem u64lt (n : Int) : IntKind.u64.wrap n < 18446744073709551616 := by rw [IntKind.wrap_u64]; omega

set_option maxRecDepth 100000 in
set_option maxHeartbeats 400000 in
theorem wide_mul (a b : Int) (a1 : -9223372036854775808 ≤ a) (a2 : a ≤ 9223372036854775807) (b1 : -9223372036854775808 ≤ b) (b2 : b ≤ 9223372036854775807) (w : World) :
    Calls Try.prog 64 #[.int .i64 a, .int .i64 b] w fun e w' => e = .returned (.agg #[.int .i64 ((a * b) / 18446744073709551616), .int .u64 ((a * b) % 18446744073709551616)]) ∧ Below w.heap.size w w' := by
  by_cases ha : a < 0 <;> by_cases hb : b < 0
  all_goals
    go_enter Try.func64, Try.ntmps64
    go_wp2_with (go_at_call 79; refine (mul64_int _ _ (by first | omega | exact u64n _) (by first | omega | exact u64lt _) (by first | omega | exact u64n _) (by first | omega | exact u64lt _) _).mono ?_; rintro e w' ⟨rfl, rfl⟩)
    simp [bodyPost, results, Try.results64, go_sem]
    go_light
    have hm := mul_bound a b a1 a2 b1 b2
    refine ⟨?_, (by repeat' (first | (with_reducible exact Below.refl _ _) | (with_reducible assumption) | (with_reducible refine below_alloc ?_ _ ?_) | (with_reducible refine below_set _ ?_ ?_) | (with_reducible refine Below.drew ?_) | (with_reducible refine below_dN ?_ _) | (apply below_thenA; assumption) | omega | (simp; done) | (simp; omega) | (simp [*]; done)))⟩
    try rw [wrap_neg ha a1]
    try rw [wrap_neg hb b1]
    simp only [IntKind.wrap_u64, wrap64, Int.add_mul, Int.mul_add]
    generalize a * b = p at *
    omega
end Go.Proofs.Ytgmnboacehopfaa
namespace Go.Proofs.Ytgmnboacehopfaa
open Go.RowKit
set_option linter.unusedSimpArgs false
set_option linter.unusedVariables false

/-- What turned answers. -/
def WTurn (n : Int) (B : Nat) (w : World) (e : Ending) (w' : World) : Prop :=
  (WFit (-n) → e = .returned (.agg #[.int .i64 ((-n) / 18446744073709551616), .int .u64 ((-n) % 18446744073709551616)])) ∧ (¬ WFit (-n) → e = .returned (.agg #[.int .i64 (-9223372036854775808), .int .u64 0])) ∧ Below B w w'
theorem ret_w {h l h' l' : Int} (e1 : h = h') (e2 : l = l') : Ending.returned (.agg #[.int .i64 h, .int .u64 l]) = .returned (.agg #[.int .i64 (h'), .int .u64 (l')]) := by rw [e1, e2]
set_option maxRecDepth 100000 in
set_option maxHeartbeats 400000 in
theorem wide_turned (a hi lo : Int) (ha : Wd hi lo a) (w : World) :
    Calls Try.prog 83 #[.agg #[.int .i64 hi, .int .u64 lo]] w (WTurn a w.heap.size w) := by
  obtain ⟨a1, a2, a3, a4, a5⟩ := ha
  have A5 := Lib.hid a5
  clear a5
  have hs : IntKind.u64.signed = false := rfl
  have hm : IntKind.u64.max = 18446744073709551615 := rfl
  have N1 := u64_not lo a3 a4
  have N2 := u64_not (IntKind.u64.wrap hi) (u64n _) (u64le _)
  have A1 := add64_x0 (18446744073709551615 - lo) 1 (by omega) (by decide) (by decide)
  have A2 := add64_x0 (18446744073709551615 - IntKind.u64.wrap hi) ((18446744073709551615 - lo + 1) / 18446744073709551616) (by have := u64le hi; omega) (by omega) (by omega)
  go_enter Try.func83, Try.ntmps83
  go_wp2
  simp [bodyPost, results, Try.results83, go_sem]
  go_light
  clear N1 N2 A1 A2 hs hm
  have a5 := A5.out
  simp only [IntKind.wrap_u64, wrap64] at *
  refine ⟨fun h => ?_, fun h => ?_, (by repeat' (first | (with_reducible exact Below.refl _ _) | (with_reducible assumption) | (with_reducible refine below_alloc ?_ _ ?_) | (with_reducible refine below_set _ ?_ ?_) | (with_reducible refine Below.drew ?_) | (with_reducible refine below_dN ?_ _) | (apply below_thenA; assumption) | omega | (simp; done) | (simp; omega) | (simp [*]; done)))⟩
  all_goals unfold WFit at h
  all_goals (refine ret_w ?_ ?_ <;> omega)

theorem wide_turned_fit (a hi lo : Int) (ha : Wd hi lo a) (hf : WFit (-a)) (w : World) :
    Calls Try.prog 83 #[.agg #[.int .i64 hi, .int .u64 lo]] w fun e w' => e = .returned (.agg #[.int .i64 ((-a) / 18446744073709551616), .int .u64 ((-a) % 18446744073709551616)]) ∧ Below w.heap.size w w' :=
  (wide_turned a hi lo ha w).mono fun _ _ h => ⟨h.1 hf, h.2.2⟩
theorem wide_turned_min (a hi lo : Int) (ha : Wd hi lo a) (hf : ¬ WFit (-a)) (w : World) :
    Calls Try.prog 83 #[.agg #[.int .i64 hi, .int .u64 lo]] w fun e w' => e = .returned (.agg #[.int .i64 (-9223372036854775808), .int .u64 0]) ∧ Below w.heap.size w w' :=
  (wide_turned a hi lo ha w).mono fun _ _ h => ⟨h.2.1 hf, h.2.2⟩

def orI (x y : Int) : Int := if x = 0 then y else x
theorem cmp3_or {a b h1 l1 h2 l2 : Int} (ha : Wd h1 l1 a) (hb : Wd h2 l2 b) : orI (cmp3 h1 h2) (cmp3 l1 l2) = cmp3 a b := by
  unfold orI
  obtain ⟨a1, a2, a3, a4, a5⟩ := ha
  obtain ⟨b1, b2, b3, b4, b5⟩ := hb
  unfold cmp3
  by_cases x1 : h1 < h2
  · rw [if_pos x1, if_neg (by decide), if_pos (by omega)]
  · by_cases x2 : h2 < h1
    · rw [if_neg x1, if_pos x2, if_neg (by decide), if_neg (by omega), if_pos (by omega)]
    · rw [if_neg x1, if_neg x2, if_pos rfl]
      by_cases x3 : l1 < l2
      · rw [if_pos x3, if_pos (by omega)]
      · by_cases x4 : l2 < l1
        · rw [if_neg x3, if_pos x4, if_neg (by omega), if_pos (by omega)]
        · rw [if_neg x3, if_neg x4, if_neg (by omega), if_neg (by omega)]

end Go.Proofs.Ytgmnboacehopfaa
namespace Go.Proofs.Ytgmnboacehopfaa
open Go.RowKit
set_option linter.unusedSimpArgs false
set_option linter.unusedVariables false

/-- Is it an int? -/
def IFit (n : Int) : Prop := -9223372036854775808 ≤ n ∧ n ≤ 9223372036854775807
def IAns (n : Int) (B : Nat) (w : World) (e : Ending) (w' : World) : Prop :=
  (IFit n → e = .returned (.tuple #[.int .i64 n, .bool true])) ∧ (¬ IFit n → e = .returned (.tuple #[.int .i64 0, .bool false])) ∧ Below B w w'
theorem ret_ib {h h' : Int} {b : Bool} (e1 : h = h') : Ending.returned (.tuple #[.int .i64 h, .bool b]) = .returned (.tuple #[.int .i64 (h'), .bool b]) := by rw [e1]
theorem bne_t {a b : Int} : ((a != b) = true) ↔ ¬ a = b := by simp
theorem bne_f {a b : Int} : ((a != b) = false) ↔ a = b := by simp

set_option maxRecDepth 100000 in
set_option maxHeartbeats 400000 in
theorem wide_int (a hi lo : Int) (ha : Wd hi lo a) (w : World) :
    Calls Try.prog 65 #[.agg #[.int .i64 hi, .int .u64 lo]] w (IAns a w.heap.size w) := by
  obtain ⟨a1, a2, a3, a4, a5⟩ := ha
  have A5 := Lib.hid a5
  clear a5
  go_enter Try.func65, Try.ntmps65
  go_wp2
  all_goals
    simp [bodyPost, results, Try.results65, go_sem]
    go_light
    have a5 := A5.out
    simp only [wrap64, bne_t, bne_f] at *
    refine ⟨fun h => ?_, fun h => ?_, (by repeat' (first | (with_reducible exact Below.refl _ _) | (with_reducible assumption) | (with_reducible refine below_alloc ?_ _ ?_) | (with_reducible refine below_set _ ?_ ?_) | (with_reducible refine Below.drew ?_) | (with_reducible refine below_dN ?_ _) | (apply below_thenA; assumption) | omega | (simp; done) | (simp; omega) | (simp [*]; done)))⟩
    all_goals unfold IFit at *
    all_goals first
      | (exfalso; omega)
      | (refine ret_ib ?_; omega)
theorem wide_int_fit (a hi lo : Int) (ha : Wd hi lo a) (hf : IFit a) (w : World) :
    Calls Try.prog 65 #[.agg #[.int .i64 hi, .int .u64 lo]] w fun e w' => e = .returned (.tuple #[.int .i64 a, .bool true]) ∧ Below w.heap.size w w' :=
  (wide_int a hi lo ha w).mono fun _ _ h => ⟨h.1 hf, h.2.2⟩
theorem wide_int_no (a hi lo : Int) (ha : Wd hi lo a) (hf : ¬ IFit a) (w : World) :
    Calls Try.prog 65 #[.agg #[.int .i64 hi, .int .u64 lo]] w fun e w' => e = .returned (.tuple #[.int .i64 0, .bool false]) ∧ Below w.heap.size w w' :=
  (wide_int a hi lo ha w).mono fun _ _ h => ⟨h.2.1 hf, h.2.2⟩

def absI (n : Int) : Int := n.natAbs
theorem ret_uu {h l h' l' : Int} (e1 : h = h') (e2 : l = l') : Ending.returned (.tuple #[.int .u64 h, .int .u64 l]) = .returned (.tuple #[.int .u64 (h'), .int .u64 (l')]) := by rw [e1, e2]
set_option maxRecDepth 100000 in
set_option maxHeartbeats 400000 in
theorem wide_size (a hi lo : Int) (ha : Wd hi lo a) (w : World) :
    Calls Try.prog 81 #[.agg #[.int .i64 hi, .int .u64 lo]] w fun e w' => e = .returned (.tuple #[.int .u64 (absI a / 18446744073709551616), .int .u64 (absI a % 18446744073709551616)]) ∧ Below w.heap.size w w' := by
  have hA := ha
  obtain ⟨a1, a2, a3, a4, a5⟩ := ha
  have A5 := Lib.hid a5
  clear a5
  by_cases h0 : hi < 0
  · by_cases hf : WFit (-a)
    all_goals
      go_enter Try.func81, Try.ntmps81
      go_wp2_with (first | (go_at_call 83; (with_reducible refine (wide_turned_fit a hi lo hA hf _).mono ?_); rintro e w' ⟨rfl, hb'⟩; obtain ⟨hc', hf'⟩ := bcell hb'; have hz' := bz1 (n := w.heap.size) hb' (by (try simp) <;> omega); have hs' := hb'.size; (try simp at hs'); (try (have hs2' := Nat.lt_of_succ_le hs'))) | (go_at_call 83; (with_reducible refine (wide_turned_min a hi lo hA hf _).mono ?_); rintro e w' ⟨rfl, hb'⟩; obtain ⟨hc', hf'⟩ := bcell hb'; have hz' := bz1 (n := w.heap.size) hb' (by (try simp) <;> omega); have hs' := hb'.size; (try simp at hs'); (try (have hs2' := Nat.lt_of_succ_le hs'))))
      go_quiet (fail)
      go_wp2
      go_ret2
      go_light
      have a5 := A5.out
      unfold WFit at hf
      exact ⟨ret_uu (by unfold absI; (try rw [IntKind.wrap_u64]); omega) (by unfold absI; omega), (by repeat' (first | (with_reducible exact Below.refl _ _) | (with_reducible assumption) | (with_reducible refine below_alloc ?_ _ ?_) | (with_reducible refine below_set _ ?_ ?_) | (with_reducible refine Below.drew ?_) | (with_reducible refine below_dN ?_ _) | (apply below_thenA; assumption) | omega | (simp; done) | (simp; omega) | (simp [*]; done)))⟩
  · go_enter Try.func81, Try.ntmps81
    go_wp2
    go_quiet (fail)
    go_wp2
    go_ret2
    go_light
    have a5 := A5.out
    exact ⟨ret_uu (by unfold absI; (try rw [IntKind.wrap_u64]); omega) (by unfold absI; omega), (by repeat' (first | (with_reducible exact Below.refl _ _) | (with_reducible assumption) | (with_reducible refine below_alloc ?_ _ ?_) | (with_reducible refine below_set _ ?_ ?_) | (with_reducible refine Below.drew ?_) | (with_reducible refine below_dN ?_ _) | (apply below_thenA; assumption) | omega | (simp; done) | (simp; omega) | (simp [*]; done)))⟩
end Go.Proofs.Ytgmnboacehopfaa
set_option linter.unusedVariables false
namespace Go.Proofs.Ytgmnboacehopfaa.KD
/-- Where a guessed digit stands: too great just where the test says so. -/
theorem test_iff {q r U d y1 y0 : Int} (hi : q * y1 + r = U) :
    q * (y1 * 4294967296 + y0) ≤ U * 4294967296 + d ↔ q * y0 ≤ r * 4294967296 + d := by
  subst hi
  rw [Int.mul_add, ← Int.mul_assoc, Int.add_mul]
  omega
theorem dl (U y k : Int) (hy : 0 < y) (h : U < k * y) : U / y < k := Int.ediv_lt_of_lt_mul hy h
theorem guess_le {U y1 y0 : Int} (h1 : 2147483648 ≤ y1) (h0 : y0 < 4294967296) (hU : U < y1 * 4294967296 + y0) : U / y1 ≤ 4294967297 := by
  have h0 : U < 4294967298 * y1 := by omega
  have h := dl U y1 4294967298 (by omega) h0
  exact Int.le_of_lt_add_one h
theorem guess_ge {U d y1 y0 : Int} (h1 : 0 < y1) (h0 : 0 ≤ y0) (hU : 0 ≤ U) (hd0 : 0 ≤ d) (hd : d < 4294967296) : (U * 4294967296 + d) / (y1 * 4294967296 + y0) ≤ U / y1 := by
  have hQ := Int.ediv_mul_le (U * 4294967296 + d) (b := y1 * 4294967296 + y0) (by omega)
  have hQ0 : 0 ≤ (U * 4294967296 + d) / (y1 * 4294967296 + y0) := Int.ediv_nonneg (by omega) (by omega)
  generalize (U * 4294967296 + d) / (y1 * 4294967296 + y0) = Q at *
  rw [Int.mul_add, ← Int.mul_assoc] at hQ
  have := Int.mul_nonneg hQ0 h0
  exact (Int.le_ediv_iff_mul_le h1).2 (by omega)
theorem digit_lt {U d Y : Int} (hY : 0 < Y) (hU : U < Y) (hd : d < 4294967296) : (U * 4294967296 + d) / Y < 4294967296 :=
  dl _ _ _ hY (by omega)
theorem digit_of {q r U d y1 y0 : Int} (hY : 0 < y1 * 4294967296 + y0) (hi : q * y1 + r = U) (hge : (U * 4294967296 + d) / (y1 * 4294967296 + y0) ≤ q) (ht : q * y0 ≤ r * 4294967296 + d) :
    q = (U * 4294967296 + d) / (y1 * 4294967296 + y0) :=
  Int.le_antisymm ((Int.le_ediv_iff_mul_le hY).2 ((test_iff (d := d) (y0 := y0) hi).2 ht)) hge
theorem digit_step {q r U d y1 y0 : Int} (hY : 0 < y1 * 4294967296 + y0) (hi : q * y1 + r = U) (ht : r * 4294967296 + d < q * y0) :
    (U * 4294967296 + d) / (y1 * 4294967296 + y0) ≤ q - 1 := by
  have h : ¬ q * (y1 * 4294967296 + y0) ≤ U * 4294967296 + d := fun h => by
    have := (test_iff (d := d) (y0 := y0) hi).1 h
    omega
  exact Int.le_sub_one_of_lt (Int.ediv_lt_of_lt_mul hY (Int.lt_of_not_ge h))
theorem digit_big {q r U d y1 y0 : Int} (hY : 0 < y1 * 4294967296 + y0) (h00 : 0 ≤ y0) (h0 : y0 < 4294967296) (hi : q * y1 + r = U) (hd : 0 ≤ d) (hq : q ≤ 4294967296) (hr : 4294967296 ≤ r) (hge : (U * 4294967296 + d) / (y1 * 4294967296 + y0) ≤ q) :
    q = (U * 4294967296 + d) / (y1 * 4294967296 + y0) := by
  refine digit_of hY hi hge ?_
  have h1 : q * y0 ≤ 4294967296 * y0 := Int.mul_le_mul_of_nonneg_right hq h00
  omega
theorem step_inv {q r U y1 : Int} (hi : q * y1 + r = U) : (q - 1) * y1 + (r + y1) = U := by
  rw [Int.sub_mul]; omega
/-- The words put together. -/
theorem whole_aux {U a b Y Q R : Int} (hY : 0 < Y) (h : Y * Q + R = U * 4294967296 + a) :
    (U * 18446744073709551616 + (a * 4294967296 + b)) / Y = Q * 4294967296 + (R * 4294967296 + b) / Y ∧
    (U * 18446744073709551616 + (a * 4294967296 + b)) % Y = (R * 4294967296 + b) % Y := by
  have e : U * 18446744073709551616 + (a * 4294967296 + b) = R * 4294967296 + b + Y * (Q * 4294967296) := by
    have : Y * (Q * 4294967296) = (Y * Q) * 4294967296 := (Int.mul_assoc _ _ _).symm
    omega
  rw [e, Int.add_mul_ediv_left _ _ (by omega), Int.add_mul_emod_self_left]
  exact ⟨Int.add_comm _ _, rfl⟩
theorem whole {U a b Y : Int} (hY : 0 < Y) :
    (U * 18446744073709551616 + (a * 4294967296 + b)) / Y = (U * 4294967296 + a) / Y * 4294967296 + ((U * 4294967296 + a) % Y * 4294967296 + b) / Y ∧
    (U * 18446744073709551616 + (a * 4294967296 + b)) % Y = ((U * 4294967296 + a) % Y * 4294967296 + b) % Y :=
  whole_aux hY (Int.mul_ediv_add_emod _ Y)
/-- Both shifted alike. -/
theorem unshift (x y : Int) (p : Int) (hp : 0 < p) : x * p / (y * p) = x / y ∧ x * p % (y * p) / p = x % y := by
  refine ⟨Int.mul_ediv_mul_of_pos_left _ _ hp, ?_⟩
  rw [Int.mul_comm x, Int.mul_comm y, Int.mul_emod_mul_of_pos _ _ hp, Int.mul_comm, Int.mul_ediv_cancel _ (by omega)]
/-- A guess on its way down to the digit. -/
def KInv (Y y1 U d q r : Int) : Prop := q * y1 + r = U ∧ 0 ≤ q ∧ 0 ≤ r ∧ r < 4294967296 ∧ q ≤ 4294967297 ∧ (U * 4294967296 + d) / Y ≤ q
theorem KInv.start {Y y1 y0 U d : Int} (hY : y1 * 4294967296 + y0 = Y) (h1 : 2147483648 ≤ y1) (h1b : y1 < 4294967296) (h00 : 0 ≤ y0) (h0 : y0 < 4294967296) (hU0 : 0 ≤ U) (hU : U < Y) (hd0 : 0 ≤ d) (hd : d < 4294967296) : KInv Y y1 U d (U / y1) (U - U / y1 * y1) := by
  subst hY
  have e := Int.mul_ediv_add_emod U y1
  have l := Int.emod_lt_of_pos U (show 0 < y1 by omega)
  have l0 := Int.emod_nonneg U (show y1 ≠ 0 by omega)
  rw [Int.mul_comm] at e
  exact ⟨by omega, Int.ediv_nonneg hU0 (by omega), by omega, by omega, guess_le h1 h0 hU, guess_ge (by omega) h00 hU0 hd0 hd⟩
theorem KInv.pos {Y y1 U d q r : Int} (h : KInv Y y1 U d q r) (hq : 4294967296 ≤ q) (hY : 0 < Y) (hU : U < Y) (hd : d < 4294967296) : (U * 4294967296 + d) / Y ≤ q - 1 := by
  have := digit_lt hY hU hd
  omega
theorem KInv.test {Y y1 y0 U d q r : Int} (h : KInv Y y1 U d q r) (hY : y1 * 4294967296 + y0 = Y) (h1 : 0 < y1) (h0 : 0 ≤ y0) (hd : 0 ≤ d) (ht : 4294967296 * r + d < q * y0) : (U * 4294967296 + d) / Y ≤ q - 1 ∧ 1 ≤ q := by
  subst hY
  refine ⟨digit_step (by omega) h.1 (by omega), ?_⟩
  obtain ⟨_, hq0, hr0, _, _, _⟩ := h
  rcases Int.lt_or_le 0 q with hp | hp
  · exact hp
  · have : q = 0 := by omega
    subst this
    simp at ht
    omega
theorem KInv.done {Y y1 y0 U d q r : Int} (h : KInv Y y1 U d q r) (hY : y1 * 4294967296 + y0 = Y) (h1 : 0 < y1) (h0 : 0 ≤ y0) (ht : ¬ 4294967296 * r + d < q * y0) : q = (U * 4294967296 + d) / Y := by
  subst hY
  exact digit_of (by omega) h.1 h.2.2.2.2.2 (by omega)
theorem KInv.next {Y y1 U d q r : Int} (h : KInv Y y1 U d q r) (h1 : 0 ≤ y1) (hp : 1 ≤ q) (hq : (U * 4294967296 + d) / Y ≤ q - 1) (hr : r + y1 < 4294967296) : KInv Y y1 U d (q - 1) (r + y1) := by
  obtain ⟨hi, hq0, hr0, _, hq1, _⟩ := h
  exact ⟨step_inv hi, by omega, by omega, hr, by omega, hq⟩
theorem KInv.big {Y y1 y0 U d q r : Int} (h : KInv Y y1 U d q r) (hY : y1 * 4294967296 + y0 = Y) (h1 : 0 < y1) (h00 : 0 ≤ y0) (h0 : y0 < 4294967296) (hd : 0 ≤ d) (hp : 1 ≤ q) (hq : (U * 4294967296 + d) / Y ≤ q - 1) (hr : 4294967296 ≤ r + y1) : q - 1 = (U * 4294967296 + d) / Y := by
  subst hY
  obtain ⟨hi, hq0, hr0, _, hq1, _⟩ := h
  exact digit_big (by omega) h00 h0 (step_inv hi) hd (by omega) hr hq
theorem mul_lt {q y : Int} (hq0 : 0 ≤ q) (hq : q < 4294967296) (hy0 : 0 ≤ y) (hy : y < 4294967296) : q * y ≤ 18446744065119617025 :=
  Int.mul_le_mul (show q ≤ 4294967295 by omega) (show y ≤ 4294967295 by omega) hy0 (by decide)
end Go.Proofs.Ytgmnboacehopfaa.KD
namespace Go.Proofs.Ytgmnboacehopfaa
open Go.RowKit
set_option linter.unusedSimpArgs false
set_option linter.unusedVariables false
def lzN (y : Int) : Nat := 64 - Lib.bitLen y.toNat
theorem lz_any (y : Int) (s : Nat) (h0 : 0 ≤ y) (h1 : y ≤ 18446744073709551615) (hs : lzN y = s) (w : World) :
    Calls Try.prog 84 #[.int .u64 y] w fun e w' => e = .returned (.int .i64 ((s : Int))) ∧ w = w' := by
  refine (Try.bits_LeadingZeros64 y w h0 h1).mono ?_
  rintro e w' ⟨rfl, rfl⟩
  have h := Lib.bitLen_le y.toNat 64 (by omega) (by omega)
  refine ⟨ret_int ?_, rfl⟩
  subst hs
  unfold lzN
  omega

set_option maxRecDepth 100000 in
set_option maxHeartbeats 1000000 in
theorem div64_walk (hi lo y : Int) (s : Nat) (hs : lzN y = s) (h0 : 0 < hi) (h1 : hi < y) (h2 : y ≤ 18446744073709551615) (l0 : 0 ≤ lo) (l1 : lo ≤ 18446744073709551615) (s63 : s ≤ 63)
    (Y y1 y0 U L d1 d0 Q1 R1 Q0 R0 : Int)
    (E1 : IntKind.u64.wrap (y * 2 ^ s) = Y) (E2 : Y / 4294967296 = y1) (E3 : bits .and .u64 Y 4294967295 = y0)
    (E4 : bits .or .u64 (IntKind.u64.wrap (hi * 2 ^ s)) (lo / 2 ^ (64 - s)) = U) (E5 : IntKind.u64.wrap (lo * 2 ^ s) = L) (E6 : L / 4294967296 = d1) (E7 : bits .and .u64 L 4294967295 = d0)
    (y1a : 2147483648 ≤ y1) (y1b : y1 < 4294967296) (y0a : 0 ≤ y0) (y0b : y0 < 4294967296) (hY : Hid (y1 * 4294967296 + y0 = Y)) (U0 : 0 ≤ U) (hU : U < Y) (Y0 : 0 < Y) (Yb : Y ≤ 18446744073709551615) (L0 : 0 ≤ L) (Lb : L ≤ 18446744073709551615) (d1a : 0 ≤ d1) (d1b : d1 < 4294967296) (d0a : 0 ≤ d0) (d0b : d0 < 4294967296)
    (E9 : U / y1 * y1 ≤ U) (E9' : 0 ≤ U / y1 * y1) (q0a : 0 ≤ U / y1) (q0b : U / y1 ≤ 4294967297)
    (HQ1 : Hid (Q1 = (U * 4294967296 + d1) / Y)) (Q1a : 0 ≤ Q1) (Q1b : Q1 < 4294967296)
    (E10 : IntKind.u64.wrap (IntKind.u64.wrap (IntKind.u64.wrap (U * 4294967296) + d1) - IntKind.u64.wrap (Q1 * Y)) = R1) (R1a : 0 ≤ R1) (R1b : R1 < Y)
    (E12 : R1 / y1 * y1 ≤ R1) (E12' : 0 ≤ R1 / y1 * y1) (p0a : 0 ≤ R1 / y1) (p0b : R1 / y1 ≤ 4294967297)
    (HQ0 : Hid (Q0 = (R1 * 4294967296 + d0) / Y)) (Q0a : 0 ≤ Q0) (Q0b : Q0 < 4294967296)
    (E13 : IntKind.u64.wrap (IntKind.u64.wrap (IntKind.u64.wrap (R1 * 4294967296) + d0) - IntKind.u64.wrap (Q0 * Y)) = R0) (R0a : 0 ≤ R0) (R0b : R0 < Y)
    (w : World) :
    Calls Try.prog 82 #[.int .u64 hi, .int .u64 lo, .int .u64 y] w fun e w' => e = .returned (.tuple #[.int .u64 (Q1 * 4294967296 + Q0), .int .u64 (R0 / 2 ^ s)]) ∧ w = w' := by
  have H := Lib.hid hs
  clear hs
  go_enter Try.func82, Try.ntmps82
  go_upto_block 0 with (go_at_call 84; refine (lz_any y s (by omega) (by omega) H.out _).mono ?_; rintro e w' ⟨rfl, rfl⟩)
  go_cut [15, 16] from 67 to 85 (fun a b wx => a = .int .u64 Q1 ∧ wx = w)
  case first =>
    go_wp2_with fail
    go_loop [15, 16] (fun a b => ∃ q r : Int, a = .int .u64 q ∧ b = .int .u64 r ∧ KD.KInv Y y1 U d1 q r) (fun a _ => (intOf a).toNat)
    case atStart =>
      exact ⟨U / y1, U - U / y1 * y1, rfl, rfl, by exact KD.KInv.start hY.out (by omega) (by omega) (by omega) (by omega) (by omega) (by omega) (by omega) (by omega)⟩
    case round =>
      obtain ⟨q, r, rfl, rfl, hI⟩ := hrel
      obtain ⟨_, hq0, hr0, hr, hq, _⟩ := id hI
      rename_i hx1 hx2
      clear hx1 hx2
      by_cases hq2 : 4294967296 ≤ q
      · have hg := hI.pos (by omega) (by omega) (by omega) (by omega)
        have HG := Lib.hid hg
        clear hg
        by_cases hr2 : 4294967296 ≤ r + y1
        · go_wp2
          go_meet
          have := hI.big hY.out (by omega) (by omega) (by omega) (by omega) (by omega) HG.out (by omega)
          have e := HQ1.out
          exact ⟨by rw [e, ← this], rfl⟩
        · go_wp2
          go_round
          case rel => exact ⟨q - 1, r + y1, rfl, rfl, hI.next (by omega) (by omega) HG.out (by omega)⟩
          case measure => simp [intOf]; omega
      · have hm1 := KD.mul_lt (q := q) (y := y0) (by omega) (by omega) (by omega) (by omega)
        have hm0 : 0 ≤ q * y0 := Int.mul_nonneg (by omega) (by omega)
        by_cases ht : 4294967296 * r + d1 < q * y0
        · obtain ⟨hg, hp⟩ := hI.test hY.out (by omega) (by omega) (by omega) ht
          have HG := Lib.hid hg
          clear hg
          by_cases hr2 : 4294967296 ≤ r + y1
          · go_wp2
            go_meet
            have := hI.big hY.out (by omega) (by omega) (by omega) (by omega) hp HG.out (by omega)
            have e := HQ1.out
            exact ⟨by rw [e, ← this], rfl⟩
          · go_wp2
            go_round
            case rel => exact ⟨q - 1, r + y1, rfl, rfl, hI.next (by omega) hp HG.out (by omega)⟩
            case measure => simp [intOf]; omega
        · have HD := Lib.hid (hI.done hY.out (by omega) (by omega) ht)
          go_wp2
          go_meet
          have e := HQ1.out
          exact ⟨by rw [e, ← HD.out], rfl⟩
  case rest =>
    obtain ⟨rfl, rfl⟩ := hcut
    go_upto_block 2 with (fail)
    go_cut [18, 16] from 102 to 120 (fun a b wx => a = .int .u64 Q0 ∧ wx = wc)
    case first =>
      go_wp2_with fail
      go_loop [18, 16] (fun a b => ∃ q r : Int, a = .int .u64 q ∧ b = .int .u64 r ∧ KD.KInv Y y1 R1 d0 q r) (fun a _ => (intOf a).toNat)
      case atStart =>
        exact ⟨R1 / y1, R1 - R1 / y1 * y1, rfl, rfl, by exact KD.KInv.start hY.out (by omega) (by omega) (by omega) (by omega) (by omega) (by omega) (by omega) (by omega)⟩
      case round =>
        obtain ⟨q, r, rfl, rfl, hI⟩ := hrel
        obtain ⟨_, hq0, hr0, hr, hq, _⟩ := id hI
        rename_i hx1 hx2
        clear hx1 hx2
        by_cases hq2 : 4294967296 ≤ q
        · have hg := hI.pos (by omega) (by omega) (by omega) (by omega)
          have HG := Lib.hid hg
          clear hg
          by_cases hr2 : 4294967296 ≤ r + y1
          · go_wp2
            go_meet
            have := hI.big hY.out (by omega) (by omega) (by omega) (by omega) (by omega) HG.out (by omega)
            have e := HQ0.out
            exact ⟨by rw [e, ← this], rfl⟩
          · go_wp2
            go_round
            case rel => exact ⟨q - 1, r + y1, rfl, rfl, hI.next (by omega) (by omega) HG.out (by omega)⟩
            case measure => simp [intOf]; omega
        · have hm1 := KD.mul_lt (q := q) (y := y0) (by omega) (by omega) (by omega) (by omega)
          have hm0 : 0 ≤ q * y0 := Int.mul_nonneg (by omega) (by omega)
          by_cases ht : 4294967296 * r + d0 < q * y0
          · obtain ⟨hg, hp⟩ := hI.test hY.out (by omega) (by omega) (by omega) ht
            have HG := Lib.hid hg
            clear hg
            by_cases hr2 : 4294967296 ≤ r + y1
            · go_wp2
              go_meet
              have := hI.big hY.out (by omega) (by omega) (by omega) (by omega) hp HG.out (by omega)
              have e := HQ0.out
              exact ⟨by rw [e, ← this], rfl⟩
            · go_wp2
              go_round
              case rel => exact ⟨q - 1, r + y1, rfl, rfl, hI.next (by omega) hp HG.out (by omega)⟩
              case measure => simp [intOf]; omega
          · have HD := Lib.hid (hI.done hY.out (by omega) (by omega) ht)
            go_wp2
            go_meet
            have e := HQ0.out
            exact ⟨by rw [e, ← HD.out], rfl⟩
    case rest =>
      obtain ⟨rfl, rfl⟩ := hcut
      go_wp2_with fail
      go_ret2
      exact ⟨rfl, rfl⟩

theorem bitLen_gt (n : Nat) (h : n < 2 ^ 64) : n < 2 ^ Lib.bitLen n := by
  rcases Nat.lt_or_ge n (2 ^ Lib.bitLen n) with hl | hl
  · exact hl
  · have e := Lib.bitLen_shift _ n hl h
    have hp : 0 < n / 2 ^ Lib.bitLen n := Nat.div_pos hl (Nat.two_pow_pos _)
    have hd : n / 2 ^ Lib.bitLen n ≤ n := Nat.div_le_self ..
    have := Lib.bitLen_half (n / 2 ^ Lib.bitLen n) (by omega) (by omega)
    omega
theorem bitLen_ge (n : Nat) (h0 : n ≠ 0) (h : n < 2 ^ 64) : 2 ^ (Lib.bitLen n - 1) ≤ n := by
  rcases Nat.lt_or_ge n (2 ^ (Lib.bitLen n - 1)) with hl | hl
  · have h1 := Lib.bitLen_le n 64 (by decide) h
    have h2 := Lib.bitLen_half n h0 h
    have := Lib.bitLen_le n (Lib.bitLen n - 1) (by omega) hl
    omega
  · exact hl
theorem lz_spec (y : Int) (s : Nat) (h0 : 0 < y) (h1 : y ≤ 18446744073709551615) (hs : lzN y = s) : s ≤ 63 ∧ 9223372036854775808 ≤ y * 2 ^ s ∧ y * 2 ^ s < 18446744073709551616 := by
  obtain ⟨n, rfl⟩ := Int.eq_ofNat_of_zero_le (show 0 ≤ y by omega)
  unfold lzN at hs
  simp only [Int.toNat_natCast] at hs
  have hn : n < 2 ^ 64 := by omega
  have a := bitLen_gt n hn
  have b := bitLen_ge n (by omega) hn
  have c := Lib.bitLen_half n (by omega) hn
  have d := Lib.bitLen_le n 64 (by decide) hn
  generalize Lib.bitLen n = L at *
  have e1 : n * 2 ^ s < 2 ^ L * 2 ^ s := Nat.mul_lt_mul_of_pos_right a (Nat.two_pow_pos _)
  have e2 : 2 ^ (L - 1) * 2 ^ s ≤ n * 2 ^ s := Nat.mul_le_mul_right _ b
  rw [← Nat.pow_add] at e1 e2
  rw [show L + s = 64 by omega] at e1
  rw [show L - 1 + s = 63 by omega] at e2
  refine ⟨by omega, ?_, ?_⟩
  · have : ((2 ^ 63 : Nat) : Int) ≤ ((n * 2 ^ s : Nat) : Int) := by exact_mod_cast e2
    rw [Int.natCast_mul, Int.natCast_pow] at this
    exact this
  · have : ((n * 2 ^ s : Nat) : Int) < ((2 ^ 64 : Nat) : Int) := by exact_mod_cast e1
    rw [Int.natCast_mul, Int.natCast_pow] at this
    exact this
theorem wraps_u64 (n : Int) (h₀ : 0 ≤ n) (h₁ : n < 2 ^ 64) : IntKind.u64.wrap n = n := by rw [IntKind.wrap_u64]; omega
theorem mask32 (x : Int) (h0 : 0 ≤ x) (h1 : x < 18446744073709551616) : bits .and .u64 x 4294967295 = x % 4294967296 :=
  bits_mask .u64 64 (by decide) wraps_u64 32 (by decide) x h0 h1
/-- A word shifted, and the first bits of the next one. -/
theorem shift_join (hi lo : Int) (s : Nat) (h63 : s ≤ 63) (h0 : 0 ≤ hi) (h1 : hi * 2 ^ s < 18446744073709551616) (l0 : 0 ≤ lo) (l1 : lo < 18446744073709551616) :
    bits .or .u64 (hi * 2 ^ s) (lo / 2 ^ (64 - s)) = (hi * 18446744073709551616 + lo) * 2 ^ s / 18446744073709551616 ∧ lo * 2 ^ s % 18446744073709551616 = (hi * 18446744073709551616 + lo) * 2 ^ s % 18446744073709551616 := by
  have hp : (0 : Int) < 2 ^ s := Int.pow_pos (by decide)
  have hq : (0 : Int) < 2 ^ (64 - s) := Int.pow_pos (by decide)
  have hpq : (2 : Int) ^ (64 - s) * 2 ^ s = 18446744073709551616 := by
    rw [← Int.pow_add, show 64 - s + s = 64 by omega]; rfl
  have hlt : lo / 2 ^ (64 - s) < 2 ^ s := Int.ediv_lt_of_lt_mul hq (by rw [Int.mul_comm, hpq]; exact l1)
  have hnn : 0 ≤ lo / 2 ^ (64 - s) := Int.ediv_nonneg l0 (by omega)
  have hle : (2 : Int) ^ s ≤ 2 ^ 64 := by
    have : (2 : Nat) ^ s ≤ 2 ^ 64 := Nat.pow_le_pow_right (by decide) (by omega)
    exact_mod_cast this
  have hj := bits_join .u64 64 (by decide) wraps_u64 s (hi * 2 ^ s) (lo / 2 ^ (64 - s)) (Int.mul_nonneg h0 (by omega)) (Int.mul_emod_left _ _) h1 hnn hlt (by omega)
  rw [hj]
  have e : (hi * 18446744073709551616 + lo) * 2 ^ s = lo * 2 ^ s + 18446744073709551616 * (hi * 2 ^ s) := by
    rw [Int.add_mul, Int.mul_right_comm]
    omega
  rw [e, Int.add_mul_ediv_left _ _ (by decide), Int.add_mul_emod_self_left]
  refine ⟨?_, rfl⟩
  rw [← hpq, Int.mul_ediv_mul_of_pos_left _ _ hp]
  omega

set_option maxHeartbeats 400000 in
theorem div64_hi (hi lo y : Int) (h0 : 0 < hi) (h1 : hi < y) (h2 : y ≤ 18446744073709551615) (l0 : 0 ≤ lo) (l1 : lo ≤ 18446744073709551615) (w : World) :
    Calls Try.prog 82 #[.int .u64 hi, .int .u64 lo, .int .u64 y] w fun e w' => e = .returned (.tuple #[.int .u64 ((hi * 18446744073709551616 + lo) / y), .int .u64 ((hi * 18446744073709551616 + lo) % y)]) ∧ w = w' := by
  obtain ⟨s, hs⟩ : ∃ s, lzN y = s := ⟨_, rfl⟩
  obtain ⟨s63, ya, yb⟩ := lz_spec y s (by omega) h2 hs
  have hp : (0 : Int) < 2 ^ s := Int.pow_pos (by decide)
  have hhi : (hi + 1) * 2 ^ s ≤ y * 2 ^ s := Int.mul_le_mul_of_nonneg_right (by omega) (by omega)
  rw [Int.add_mul] at hhi
  obtain ⟨hU, hL⟩ := shift_join hi lo s s63 (by omega) (by omega) l0 (by omega)
  obtain ⟨u1, u2⟩ := KD.unshift (hi * 18446744073709551616 + lo) y (2 ^ s) hp
  have hlt : (hi * 18446744073709551616 + lo) * 2 ^ s < y * 2 ^ s * 18446744073709551616 := by
    have : (hi * 18446744073709551616 + lo + 1) * 2 ^ s ≤ y * 18446744073709551616 * 2 ^ s := Int.mul_le_mul_of_nonneg_right (by omega) (by omega)
    rw [Int.add_mul, Int.mul_right_comm y] at this
    omega
  have hnn : 0 ≤ (hi * 18446744073709551616 + lo) * 2 ^ s := Int.mul_nonneg (by omega) (by omega)
  have hh0 : 0 ≤ hi * 2 ^ s := Int.mul_nonneg (by omega) (by omega)
  have hl0 : 0 ≤ lo * 2 ^ s := Int.mul_nonneg (by omega) (by omega)
  have hm0 : hi * 2 ^ s < 18446744073709551616 := by omega
  generalize hY : y * 2 ^ s = Y at *
  generalize hX : (hi * 18446744073709551616 + lo) * 2 ^ s = X at *
  rw [← u1, ← u2]
  have hY1 : 2147483648 ≤ Y / 4294967296 := by omega
  have dm := fun x : Int => Int.mul_ediv_add_emod x 4294967296
  have kw := KD.whole (U := X / 18446744073709551616) (a := X % 18446744073709551616 / 4294967296) (b := X % 18446744073709551616 % 4294967296) (Y := Y) (by omega)
  have e : X / 18446744073709551616 * 18446744073709551616 + (X % 18446744073709551616 / 4294967296 * 4294967296 + X % 18446744073709551616 % 4294967296) = X := by omega
  rw [e] at kw
  rw [kw.1, kw.2]
  have hUY : X / 18446744073709551616 < Y := Int.ediv_lt_of_lt_mul (by decide) hlt
  have wr : ∀ U d : Int, 0 ≤ U → U < Y → 0 ≤ d → d < 4294967296 → IntKind.u64.wrap (IntKind.u64.wrap (IntKind.u64.wrap (U * 4294967296) + d) - IntKind.u64.wrap ((U * 4294967296 + d) / Y * Y)) = (U * 4294967296 + d) % Y := by
    intro U d a1 a2 a3 a4
    have h1 := Int.mul_ediv_add_emod (U * 4294967296 + d) Y
    have h2 := Int.emod_lt_of_pos (U * 4294967296 + d) (show 0 < Y by omega)
    have h3 := Int.emod_nonneg (U * 4294967296 + d) (show Y ≠ 0 by omega)
    rw [Int.mul_comm] at h1
    generalize (U * 4294967296 + d) / Y * Y = p at *
    simp only [IntKind.wrap_u64]
    omega
  have nn : ∀ U d : Int, 0 ≤ U → U < Y → 0 ≤ d → 0 ≤ (U * 4294967296 + d) / Y := fun U d a1 a2 a3 => Int.ediv_nonneg (by omega) (by omega)
  have gl : ∀ U : Int, 0 ≤ U → U < Y → U / (Y / 4294967296) * (Y / 4294967296) ≤ U ∧ 0 ≤ U / (Y / 4294967296) * (Y / 4294967296) ∧ 0 ≤ U / (Y / 4294967296) ∧ U / (Y / 4294967296) ≤ 4294967297 := by
    intro U a1 a2
    have hq : 0 ≤ U / (Y / 4294967296) := Int.ediv_nonneg a1 (by omega)
    exact ⟨Int.ediv_mul_le _ (by omega), Int.mul_nonneg hq (by omega), hq, KD.guess_le (y0 := Y % 4294967296) hY1 (by omega) (by omega)⟩
  have U0 : 0 ≤ X / 18446744073709551616 := by omega
  have d10 : 0 ≤ X % 18446744073709551616 / 4294967296 := by omega
  have d11 : X % 18446744073709551616 / 4294967296 < 4294967296 := by omega
  have d00 : 0 ≤ X % 18446744073709551616 % 4294967296 := by omega
  have d01 : X % 18446744073709551616 % 4294967296 < 4294967296 := by omega
  have R0 := Int.emod_nonneg (X / 18446744073709551616 * 4294967296 + X % 18446744073709551616 / 4294967296) (show Y ≠ 0 by omega)
  have R1 := Int.emod_lt_of_pos (X / 18446744073709551616 * 4294967296 + X % 18446744073709551616 / 4294967296) (show 0 < Y by omega)
  have g1 := gl _ U0 hUY
  have g2 := gl _ R0 R1
  exact div64_walk hi lo y s hs h0 h1 h2 l0 l1 s63 Y (Y / 4294967296) (Y % 4294967296) (X / 18446744073709551616) (X % 18446744073709551616) (X % 18446744073709551616 / 4294967296) (X % 18446744073709551616 % 4294967296)
    _ _ _ _
    (by rw [hY, wraps_u64 _ (by omega) (by omega)]) rfl (mask32 _ (by omega) (by omega))
    (by rw [wraps_u64 _ hh0 hm0]; exact hU) (by rw [IntKind.wrap_u64]; exact hL) rfl (mask32 _ (by omega) (by omega))
    hY1 (by omega) (by omega) (by omega) (by show _ = _; omega) U0 hUY (by omega) (by omega) (by omega) (by omega) d10 d11 d00 d01
    g1.1 g1.2.1 g1.2.2.1 g1.2.2.2
    rfl (nn _ _ U0 hUY d10) (KD.digit_lt (by omega) hUY d11)
    (wr _ _ U0 hUY d10 d11) R0 R1
    g2.1 g2.2.1 g2.2.2.1 g2.2.2.2
    rfl (nn _ _ R0 R1 d00) (KD.digit_lt (by omega) R1 d01)
    (wr _ _ R0 R1 d00 d01) (Int.emod_nonneg _ (by omega)) (Int.emod_lt_of_pos _ (by omega)) w

set_option maxRecDepth 100000 in
set_option maxHeartbeats 400000 in
theorem div64_any (hi lo y : Int) (h0 : 0 ≤ hi) (h1 : hi < y) (h2 : y ≤ 18446744073709551615) (l0 : 0 ≤ lo) (l1 : lo ≤ 18446744073709551615) (w : World) :
    Calls Try.prog 82 #[.int .u64 hi, .int .u64 lo, .int .u64 y] w fun e w' => e = .returned (.tuple #[.int .u64 ((hi * 18446744073709551616 + lo) / y), .int .u64 ((hi * 18446744073709551616 + lo) % y)]) ∧ Below w.heap.size w w' := by
  by_cases hz : hi = 0
  · subst hz
    have hy : (y == 0) = false := by simp; omega
    go_enter Try.func82, Try.ntmps82
    go_wp2_with fail
    go_quiet (fail)
    go_wp2
    go_ret2
    exact ⟨ret_uu (by simp) (by simp), (by repeat' (first | (with_reducible exact Below.refl _ _) | (with_reducible assumption) | (with_reducible refine below_alloc ?_ _ ?_) | (with_reducible refine below_set _ ?_ ?_) | (with_reducible refine Below.drew ?_) | (with_reducible refine below_dN ?_ _) | (apply below_thenA; assumption) | omega | (simp; done) | (simp; omega) | (simp [*]; done)))⟩
  · refine (div64_hi hi lo y (by omega) h1 h2 l0 l1 w).mono ?_
    rintro e w' ⟨rfl, rfl⟩
    exact ⟨rfl, Below.refl _ _⟩
end Go.Proofs.Ytgmnboacehopfaa
namespace Go.Proofs.Ytgmnboacehopfaa
open Go.RowKit
set_option linter.unusedSimpArgs false
set_option linter.unusedVariables false

/-- The quotient rounded down, and the rest. -/
def fq (a d : Int) : Int := if d < 0 then (-a) / (-d) else a / d
def fr (a d : Int) : Int := a - fq a d * d
theorem fr_pos {a d : Int} (h : 0 < d) : fr a d = a % d := by
  have := Int.mul_ediv_add_emod a d
  unfold fr fq
  rw [if_neg (by omega), Int.mul_comm]
  omega
theorem fr_neg {a d : Int} (h : d < 0) : fr a d = -((-a) % (-d)) := by
  have := Int.mul_ediv_add_emod (-a) (-d)
  unfold fr fq
  rw [if_pos h, Int.mul_comm]
  rw [Int.neg_mul] at this
  omega
theorem absI_div {a d : Int} (hd : d ≠ 0) : fq a d * absI d + (absI a / absI d) * absI d = fq a d * absI d + (absI a / absI d) * absI d := rfl
/-- By size: of one sign the quotient of sizes, else it with the other sign, and one less where there is a rest. -/
theorem fq_size {a d : Int} (hd : d ≠ 0) :
    ((a < 0 ↔ d < 0) → fq a d = absI a / absI d ∧ fr a d = if d < 0 then -(absI a % absI d) else absI a % absI d) ∧
    (¬ (a < 0 ↔ d < 0) → absI a % absI d = 0 → fq a d = -(absI a / absI d) ∧ fr a d = 0) ∧
    (¬ (a < 0 ↔ d < 0) → 0 < absI a % absI d → fq a d = -(absI a / absI d + 1) ∧ fr a d = if d < 0 then -(absI d - absI a % absI d) else absI d - absI a % absI d) := by
  have div_of : ∀ x y q : Int, 0 < y → q * y ≤ x → x < q * y + y → x / y = q := by
    intro x y q hy h1 h2
    refine Int.le_antisymm (Int.le_of_lt_add_one (Int.ediv_lt_of_lt_mul hy ?_)) ((Int.le_ediv_iff_mul_le hy).2 h1)
    rw [Int.add_mul]; omega
  have key : ∀ x y : Int, 0 < y → x / y * y + x % y = x ∧ 0 ≤ x % y ∧ x % y < y := fun x y h =>
    ⟨by have := Int.mul_ediv_add_emod x y; rw [Int.mul_comm] at this; exact this, Int.emod_nonneg _ (by omega), Int.emod_lt_of_pos _ h⟩
  rcases Int.lt_or_lt_of_ne hd with hn | hp
  · have ed : absI d = -d := by unfold absI; omega
    unfold fr fq
    rw [if_pos hn, ed]
    rcases Int.lt_or_le a 0 with ha | ha
    · have ea : absI a = -a := by unfold absI; omega
      rw [ea, if_pos hn]
      obtain ⟨k1, k2, k3⟩ := key (-a) (-d) (by omega)
      rw [Int.mul_neg] at k1
      exact ⟨fun _ => ⟨rfl, by omega⟩, fun h => absurd ⟨fun _ => hn, fun _ => ha⟩ h, fun h => absurd ⟨fun _ => hn, fun _ => ha⟩ h⟩
    · have ea : absI a = a := by unfold absI; omega
      rw [ea, if_pos hn]
      obtain ⟨k1, k2, k3⟩ := key a (-d) (by omega)
      rw [Int.mul_neg] at k1
      refine ⟨fun h => absurd (h.2 hn) (by omega), fun _ hz => ?_, fun _ hz => ?_⟩
      · rw [div_of (-a) (-d) (-(a / -d)) (by omega) (by rw [Int.neg_mul_neg]; omega) (by rw [Int.neg_mul_neg]; omega)]
        exact ⟨rfl, by rw [Int.neg_mul]; omega⟩
      · rw [div_of (-a) (-d) (-(a / -d + 1)) (by omega) (by rw [Int.neg_mul_neg, Int.add_mul]; omega) (by rw [Int.neg_mul_neg, Int.add_mul]; omega)]
        exact ⟨rfl, by rw [Int.neg_mul, Int.add_mul]; omega⟩
  · have ed : absI d = d := by unfold absI; omega
    have nn : ¬ d < 0 := by omega
    unfold fr fq
    rw [if_neg nn, if_neg nn, if_neg nn, ed]
    rcases Int.lt_or_le a 0 with ha | ha
    · have ea : absI a = -a := by unfold absI; omega
      rw [ea]
      obtain ⟨k1, k2, k3⟩ := key (-a) d hp
      refine ⟨fun h => absurd (h.1 ha) nn, fun _ hz => ?_, fun _ hz => ?_⟩
      · rw [div_of a d (-(-a / d)) hp (by rw [Int.neg_mul]; omega) (by rw [Int.neg_mul]; omega)]
        exact ⟨rfl, by rw [Int.neg_mul]; omega⟩
      · rw [div_of a d (-(-a / d + 1)) hp (by rw [Int.neg_mul, Int.add_mul]; omega) (by rw [Int.neg_mul, Int.add_mul]; omega)]
        exact ⟨rfl, by rw [Int.neg_mul, Int.add_mul]; omega⟩
    · have ea : absI a = a := by unfold absI; omega
      rw [ea]
      obtain ⟨k1, k2, k3⟩ := key a d hp
      exact ⟨fun _ => ⟨rfl, by omega⟩, fun h => absurd ⟨fun h => absurd h (by omega), fun h => absurd h nn⟩ h, fun h => absurd ⟨fun h => absurd h (by omega), fun h => absurd h nn⟩ h⟩

theorem wide_turned_to (m hi lo : Int) (h1 : -9223372036854775808 ≤ hi) (h2 : hi ≤ 9223372036854775807) (h3 : 0 ≤ lo) (h4 : lo ≤ 18446744073709551615)
    (h : hi * 18446744073709551616 + lo = m ∨ hi * 18446744073709551616 + lo = m - 340282366920938463463374607431768211456) (hf : WFit (-m)) (w : World) :
    Calls Try.prog 83 #[.agg #[.int .i64 hi, .int .u64 lo]] w fun e w' => e = .returned (.agg #[.int .i64 ((-m) / 18446744073709551616), .int .u64 ((-m) % 18446744073709551616)]) ∧ Below w.heap.size w w' := by
  refine (wide_turned _ hi lo ⟨h1, h2, h3, h4, rfl⟩ w).mono ?_
  rintro e w' ⟨r1, r2, r3⟩
  unfold WFit at *
  refine ⟨?_, r3⟩
  rcases h with h | h
  · rw [h] at r1
    exact r1 hf
  · rw [r2 (by omega)]
    exact ret_w (by omega) (by omega)

/-- What Div answers. -/
def DZero : Ending := .returned (.tuple #[.agg #[.int .i64 0, .int .u64 0], .int .i64 0, .bool false])
def DAns (a d : Int) (B : Nat) (w : World) (e : Ending) (w' : World) : Prop :=
  (d = 0 → e = DZero) ∧ (d ≠ 0 → WFit (fq a d) → e = .returned (.tuple #[.agg #[.int .i64 ((fq a d) / 18446744073709551616), .int .u64 ((fq a d) % 18446744073709551616)], .int .i64 (fr a d), .bool true])) ∧ (d ≠ 0 → ¬ WFit (fq a d) → e = DZero) ∧ Below B w w'
theorem ret_wib {h l r h' l' r' : Int} {b : Bool} (e1 : h = h') (e2 : l = l') (e3 : r = r') : Ending.returned (.tuple #[.agg #[.int .i64 h, .int .u64 l], .int .i64 r, .bool b]) = .returned (.tuple #[.agg #[.int .i64 (h'), .int .u64 (l')], .int .i64 (r'), .bool b]) := by rw [e1, e2, e3]
-- WALK
set_option maxRecDepth 100000 in
set_option maxHeartbeats 1000000 in
theorem wide_div_walkR (a d hi lo : Int) (hA : Wd hi lo a) (d1 : -9223372036854775808 ≤ d) (d2 : d ≤ 9223372036854775807) (hd : d ≠ 0)
    (Ah Al D qh hm ql R : Int) (EA : absI a / 18446744073709551616 = Ah) (EB : absI a % 18446744073709551616 = Al) (ED : absI d % 18446744073709551616 = D)
    (E1 : Ah / D = qh) (E2 : Ah % D = hm) (E3 : (hm * 18446744073709551616 + Al) / D = ql) (E4 : (hm * 18446744073709551616 + Al) % D = R)
    (A0 : 0 ≤ Ah) (A1 : Ah ≤ 9223372036854775808) (L0 : 0 ≤ Al) (L1 : Al ≤ 18446744073709551615) (D0 : 1 ≤ D) (D1 : D ≤ 9223372036854775808)
    (q0 : 0 ≤ qh) (q1 : qh ≤ 9223372036854775808) (m0 : 0 ≤ hm) (m1 : hm < D) (l0 : 0 ≤ ql) (l1 : ql ≤ 18446744073709551615) (r0 : 0 ≤ R) (r1 : R < D)
    (HQ : Hid (absI a / absI d = qh * 18446744073709551616 + ql)) (HR : Hid (absI a % absI d = R)) (HD : Hid (absI d = D))
    (HS : Hid (R = 0 ∨ qh ≤ 4611686018427387904)) (HB : Hid (qh * 18446744073709551616 + ql ≤ 170141183460469231731687303715884105728)) (h3 : 0 < R) (w : World) :
    Calls Try.prog 78 #[.agg #[.int .i64 hi, .int .u64 lo], .int .i64 d] w (DAns a d w.heap.size w) := by
  obtain ⟨a1, a2, a3, a4, a5⟩ := id hA
  have A5 := Lib.hid a5
  clear a5
  have hD : Wd (d / 18446744073709551616) (d % 18446744073709551616) d := Wd.of (by unfold WFit; omega)
  have HA := Lib.hid hA
  have HDd := Lib.hid hD
  clear hA hD
  have dz : (d == 0) = false := by simpa using hd
  have A1 := add64_0 ql 1 l0 (by decide)
  have hq : qh ≤ 4611686018427387904 := by rcases HS.out with h | h <;> omega
  by_cases h1 : hi < 0 <;> by_cases h2 : d < 0
  all_goals
    go_enter Try.func78, Try.ntmps78
    go_wp2_with (first
      | (go_at_call 81; (with_reducible refine (wide_size a hi lo HA.out _).mono ?_); rintro e w' ⟨rfl, hb'⟩; obtain ⟨hc', hf'⟩ := bcell hb'; have hz' := bz2 (n := w.heap.size) hb' (by (try simp) <;> omega); have hs' := hb'.size; (try simp at hs'); (try (have hs2' := Nat.lt_of_succ_le hs')))
      | (go_at_call 81; (with_reducible refine (wide_size d _ _ HDd.out _).mono ?_); rintro e w' ⟨rfl, hb'⟩; obtain ⟨hc', hf'⟩ := bcell hb'; have hz' := bz2 (n := w.heap.size) hb' (by (try simp) <;> omega); have hs' := hb'.size; (try simp at hs'); (try (have hs2' := Nat.lt_of_succ_le hs')))
      | (go_at_call 68; (with_reducible refine (wide_of d d1 d2 _).mono ?_); rintro e w' ⟨rfl, hb'⟩; obtain ⟨hc', hf'⟩ := bcell hb'; have hz' := bz2 (n := w.heap.size) hb' (by (try simp) <;> omega); have hs' := hb'.size; (try simp at hs'); (try (have hs2' := Nat.lt_of_succ_le hs')))
      | (go_at_call 82; (with_reducible refine (div64_any hm Al D m0 m1 (by omega) L0 L1 _).mono ?_); rintro e w' ⟨rfl, hb'⟩; obtain ⟨hc', hf'⟩ := bcell hb'; have hz' := bz2 (n := w.heap.size) hb' (by (try simp) <;> omega); have hs' := hb'.size; (try simp at hs'); (try (have hs2' := Nat.lt_of_succ_le hs')))
      | (go_at_call 83; (with_reducible refine (wide_turned_to (qh * 18446744073709551616 + ql + 1) (qh + (ql + 1) / 18446744073709551616) ((ql + 1) % 18446744073709551616) (by omega) (by omega) (by omega) (by omega) (by omega) (by unfold WFit; omega) _).mono ?_); rintro e w' ⟨rfl, hb'⟩; obtain ⟨hc', hf'⟩ := bcell hb'; have hz' := bz2 (n := w.heap.size) hb' (by (try simp) <;> omega); have hs' := hb'.size; (try simp at hs'); (try (have hs2' := Nat.lt_of_succ_le hs'))))
    all_goals
      (go_light; simp [bodyPost, results, Try.results78, go_sem, *])
      go_light
      have a5 := A5.out
      have ed := HD.out
      have hB := HB.out
      obtain ⟨f1, f2, f3⟩ := fq_size (a := a) hd
      rw [HQ.out, HR.out] at f1 f2 f3
      rw [HD.out] at f3
      first | rw [if_pos (show d < 0 by omega)] at f1 f3 | rw [if_neg (show ¬ d < 0 by omega)] at f1 f3
      refine ⟨fun h => absurd h hd, fun _ h => ?_, fun _ h => ?_, (by repeat' (first | (with_reducible exact Below.refl _ _) | (with_reducible assumption) | (with_reducible refine below_alloc ?_ _ ?_) | (with_reducible refine below_set _ ?_ ?_) | (with_reducible refine Below.drew ?_) | (with_reducible refine below_dN ?_ _) | (apply below_thenA; assumption) | omega | (simp; done) | (simp; omega) | (simp [*]; done)))⟩
      all_goals
        unfold WFit at h
        by_cases hs : (a < 0 ↔ d < 0)
        · obtain ⟨e1, e2⟩ := f1 hs
          rw [e1] at h
          (try rw [e1]); (try rw [e2])
          first | done | (exfalso; omega) | (refine ret_wib ?_ ?_ ?_ <;> omega) | rfl
        · obtain ⟨e1, e2⟩ := f3 hs h3
          rw [e1] at h
          (try rw [e1]); (try rw [e2])
          first | done | (exfalso; omega) | (refine ret_wib ?_ ?_ ?_ <;> omega) | rfl

set_option maxRecDepth 100000 in
set_option maxHeartbeats 1000000 in
theorem wide_div_walk0 (a d hi lo : Int) (hA : Wd hi lo a) (d1 : -9223372036854775808 ≤ d) (d2 : d ≤ 9223372036854775807) (hd : d ≠ 0)
    (Ah Al D qh hm ql R : Int) (EA : absI a / 18446744073709551616 = Ah) (EB : absI a % 18446744073709551616 = Al) (ED : absI d % 18446744073709551616 = D)
    (E1 : Ah / D = qh) (E2 : Ah % D = hm) (E3 : (hm * 18446744073709551616 + Al) / D = ql) (E4 : (hm * 18446744073709551616 + Al) % D = R)
    (A0 : 0 ≤ Ah) (A1 : Ah ≤ 9223372036854775808) (L0 : 0 ≤ Al) (L1 : Al ≤ 18446744073709551615) (D0 : 1 ≤ D) (D1 : D ≤ 9223372036854775808)
    (q0 : 0 ≤ qh) (q1 : qh ≤ 9223372036854775808) (m0 : 0 ≤ hm) (m1 : hm < D) (l0 : 0 ≤ ql) (l1 : ql ≤ 18446744073709551615) (r0 : 0 ≤ R) (r1 : R < D)
    (HQ : Hid (absI a / absI d = qh * 18446744073709551616 + ql)) (HR : Hid (absI a % absI d = R)) (HD : Hid (absI d = D))
    (HS : Hid (R = 0 ∨ qh ≤ 4611686018427387904)) (HB : Hid (qh * 18446744073709551616 + ql ≤ 170141183460469231731687303715884105728)) (h3 : ¬ 0 < R) (w : World) :
    Calls Try.prog 78 #[.agg #[.int .i64 hi, .int .u64 lo], .int .i64 d] w (DAns a d w.heap.size w) := by
  obtain ⟨a1, a2, a3, a4, a5⟩ := id hA
  have A5 := Lib.hid a5
  clear a5
  have hD : Wd (d / 18446744073709551616) (d % 18446744073709551616) d := Wd.of (by unfold WFit; omega)
  have HA := Lib.hid hA
  have HDd := Lib.hid hD
  clear hA hD
  have dz : (d == 0) = false := by simpa using hd
  have A1 := add64_0 ql 1 l0 (by decide)
  have hR : R = 0 := by omega
  have HR0 := Lib.hid hR
  clear hR
  by_cases h1 : hi < 0 <;> by_cases h2 : d < 0
  all_goals
    go_enter Try.func78, Try.ntmps78
    go_wp2_with (first
      | (go_at_call 81; (with_reducible refine (wide_size a hi lo HA.out _).mono ?_); rintro e w' ⟨rfl, hb'⟩; obtain ⟨hc', hf'⟩ := bcell hb'; have hz' := bz2 (n := w.heap.size) hb' (by (try simp) <;> omega); have hs' := hb'.size; (try simp at hs'); (try (have hs2' := Nat.lt_of_succ_le hs')))
      | (go_at_call 81; (with_reducible refine (wide_size d _ _ HDd.out _).mono ?_); rintro e w' ⟨rfl, hb'⟩; obtain ⟨hc', hf'⟩ := bcell hb'; have hz' := bz2 (n := w.heap.size) hb' (by (try simp) <;> omega); have hs' := hb'.size; (try simp at hs'); (try (have hs2' := Nat.lt_of_succ_le hs')))
      | (go_at_call 68; (with_reducible refine (wide_of d d1 d2 _).mono ?_); rintro e w' ⟨rfl, hb'⟩; obtain ⟨hc', hf'⟩ := bcell hb'; have hz' := bz2 (n := w.heap.size) hb' (by (try simp) <;> omega); have hs' := hb'.size; (try simp at hs'); (try (have hs2' := Nat.lt_of_succ_le hs')))
      | (go_at_call 82; (with_reducible refine (div64_any hm Al D m0 m1 (by omega) L0 L1 _).mono ?_); rintro e w' ⟨rfl, hb'⟩; obtain ⟨hc', hf'⟩ := bcell hb'; have hz' := bz2 (n := w.heap.size) hb' (by (try simp) <;> omega); have hs' := hb'.size; (try simp at hs'); (try (have hs2' := Nat.lt_of_succ_le hs')))
      | (go_at_call 83; (with_reducible refine (wide_turned_to (qh * 18446744073709551616 + ql) (wrap64 qh) ql (by unfold wrap64; omega) (by unfold wrap64; omega) l0 l1 (by unfold wrap64; omega) (by have := HB.out; unfold WFit; omega) _).mono ?_); rintro e w' ⟨rfl, hb'⟩; obtain ⟨hc', hf'⟩ := bcell hb'; have hz' := bz2 (n := w.heap.size) hb' (by (try simp) <;> omega); have hs' := hb'.size; (try simp at hs'); (try (have hs2' := Nat.lt_of_succ_le hs'))))
    all_goals
      (go_light; simp [bodyPost, results, Try.results78, go_sem, *])
      go_light
      have a5 := A5.out
      have ed := HD.out
      have hB := HB.out
      obtain ⟨f1, f2, f3⟩ := fq_size (a := a) hd
      rw [HQ.out, HR.out] at f1 f2 f3
      rw [HD.out] at f3
      first | rw [if_pos (show d < 0 by omega)] at f1 f3 | rw [if_neg (show ¬ d < 0 by omega)] at f1 f3
      have hR := HR0.out
      unfold wrap64 at *
      refine ⟨fun h => absurd h hd, fun _ h => ?_, fun _ h => ?_, (by repeat' (first | (with_reducible exact Below.refl _ _) | (with_reducible assumption) | (with_reducible refine below_alloc ?_ _ ?_) | (with_reducible refine below_set _ ?_ ?_) | (with_reducible refine Below.drew ?_) | (with_reducible refine below_dN ?_ _) | (apply below_thenA; assumption) | omega | (simp; done) | (simp; omega) | (simp [*]; done)))⟩
      all_goals
        unfold WFit at h
        by_cases hs : (a < 0 ↔ d < 0)
        · obtain ⟨e1, e2⟩ := f1 hs
          rw [e1] at h
          (try rw [e1]); (try rw [e2])
          first | done | (exfalso; omega) | (refine ret_wib ?_ ?_ ?_ <;> omega) | rfl
        · obtain ⟨e1, e2⟩ := f2 hs hR
          rw [e1] at h
          (try rw [e1]); (try rw [e2])
          first | done | (exfalso; omega) | (refine ret_wib ?_ ?_ ?_ <;> omega) | rfl

theorem absI_split (a d : Int) (ha : WFit a) (d1 : -9223372036854775808 ≤ d) (d2 : d ≤ 9223372036854775807) (hd : d ≠ 0) :
    absI a / absI d = absI a / 18446744073709551616 / (absI d % 18446744073709551616) * 18446744073709551616 + (absI a / 18446744073709551616 % (absI d % 18446744073709551616) * 18446744073709551616 + absI a % 18446744073709551616) / (absI d % 18446744073709551616) ∧
    absI a % absI d = (absI a / 18446744073709551616 % (absI d % 18446744073709551616) * 18446744073709551616 + absI a % 18446744073709551616) % (absI d % 18446744073709551616) := by
  have ed : absI d % 18446744073709551616 = absI d := by unfold absI; omega
  have dp : 0 < absI d := by unfold absI; omega
  rw [ed]
  have e := Int.mul_ediv_add_emod (absI a) 18446744073709551616
  have f := Int.mul_ediv_add_emod (absI a / 18446744073709551616) (absI d)
  generalize absI a / 18446744073709551616 = h at *
  generalize absI a % 18446744073709551616 = l at *
  generalize h / absI d = q at *
  generalize h % absI d = m at *
  have e2 : absI a = m * 18446744073709551616 + l + absI d * (q * 18446744073709551616) := by
    rw [← Int.mul_assoc]; omega
  rw [e2, Int.add_mul_ediv_left _ _ (by omega), Int.add_mul_emod_self_left]
  exact ⟨by omega, rfl⟩

theorem wide_div (a d hi lo : Int) (hA : Wd hi lo a) (d1 : -9223372036854775808 ≤ d) (d2 : d ≤ 9223372036854775807) (w : World) :
    Calls Try.prog 78 #[.agg #[.int .i64 hi, .int .u64 lo], .int .i64 d] w (DAns a d w.heap.size w) := by
  by_cases hd : d = 0
  · have dz : (d == 0) = true := by simpa using hd
    go_enter Try.func78, Try.ntmps78
    go_wp2
    simp [bodyPost, results, Try.results78, go_sem]
    exact ⟨fun _ => rfl, fun h => absurd hd h, fun h => absurd hd h, (by repeat' (first | (with_reducible exact Below.refl _ _) | (with_reducible assumption) | (with_reducible refine below_alloc ?_ _ ?_) | (with_reducible refine below_set _ ?_ ?_) | (with_reducible refine Below.drew ?_) | (with_reducible refine below_dN ?_ _) | (apply below_thenA; assumption) | omega | (simp; done) | (simp; omega) | (simp [*]; done)))⟩
  · have hf := hA.fit
    have hfa := hf
    unfold WFit at hf
    obtain ⟨s1, s2⟩ := absI_split a d hfa d1 d2 hd
    have da : 1 ≤ absI d := by unfold absI; omega
    have db : absI d ≤ 9223372036854775808 := by unfold absI; omega
    have aa : 0 ≤ absI a := by unfold absI; omega
    have ab : absI a ≤ 170141183460469231731687303715884105728 := by unfold absI; omega
    have ed : absI d % 18446744073709551616 = absI d := by omega
    have kq := Int.ediv_nonneg (show 0 ≤ absI a / 18446744073709551616 by omega) (show 0 ≤ absI d by omega)
    have kq1 : absI a / 18446744073709551616 / absI d ≤ absI a / 18446744073709551616 := Int.ediv_le_self _ (by omega)
    have km := Int.emod_nonneg (absI a / 18446744073709551616) (show absI d ≠ 0 by omega)
    have km1 := Int.emod_lt_of_pos (absI a / 18446744073709551616) (show 0 < absI d by omega)
    have hle : absI a / absI d ≤ absI a := Int.ediv_le_self _ aa
    have hhalf : absI d = 1 ∨ absI a / 18446744073709551616 / absI d ≤ 4611686018427387904 := by
      rcases Int.lt_or_le 1 (absI d) with h | h
      · right
        have : absI a / 18446744073709551616 / absI d * 2 ≤ absI a / 18446744073709551616 / absI d * absI d := Int.mul_le_mul_of_nonneg_left (by omega) kq
        have := Int.ediv_mul_le (absI a / 18446744073709551616) (b := absI d) (by omega)
        omega
      · left; omega
    by_cases hR : 0 < absI a % absI d
    · rw [s2] at hR
      refine wide_div_walkR a d hi lo hA d1 d2 hd _ _ _ _ _ _ _ rfl rfl rfl rfl rfl rfl rfl ?_ ?_ ?_ ?_ ?_ ?_ ?_ ?_ ?_ ?_ ?_ ?_ ?_ ?_ s1 s2 ed.symm ?_ ?_ hR w
      all_goals (try rw [ed])
      · omega
      · omega
      · omega
      · omega
      · omega
      · omega
      · exact kq
      · omega
      · exact km
      · exact km1
      · exact Int.ediv_nonneg (by omega) (by omega)
      · exact Int.le_of_lt_add_one (Int.ediv_lt_of_lt_mul (by omega) (by
          have : absI a / 18446744073709551616 % absI d * 18446744073709551616 + 18446744073709551616 ≤ absI d * 18446744073709551616 := by
            have := Int.mul_le_mul_of_nonneg_right (show absI a / 18446744073709551616 % absI d + 1 ≤ absI d by omega) (show (0 : Int) ≤ 18446744073709551616 by decide)
            omega
          omega))
      · exact Int.emod_nonneg _ (by omega)
      · exact Int.emod_lt_of_pos _ (by omega)
      · show _ ∨ _
        rcases hhalf with h | h
        · left; rw [h]; exact Int.emod_one _
        · right; exact h
      · show _ ≤ _
        rw [ed] at s1
        rw [← s1]
        omega
    · rw [s2] at hR
      refine wide_div_walk0 a d hi lo hA d1 d2 hd _ _ _ _ _ _ _ rfl rfl rfl rfl rfl rfl rfl ?_ ?_ ?_ ?_ ?_ ?_ ?_ ?_ ?_ ?_ ?_ ?_ ?_ ?_ s1 s2 ed.symm ?_ ?_ hR w
      all_goals (try rw [ed])
      · omega
      · omega
      · omega
      · omega
      · omega
      · omega
      · exact kq
      · omega
      · exact km
      · exact km1
      · exact Int.ediv_nonneg (by omega) (by omega)
      · exact Int.le_of_lt_add_one (Int.ediv_lt_of_lt_mul (by omega) (by
          have : absI a / 18446744073709551616 % absI d * 18446744073709551616 + 18446744073709551616 ≤ absI d * 18446744073709551616 := by
            have := Int.mul_le_mul_of_nonneg_right (show absI a / 18446744073709551616 % absI d + 1 ≤ absI d by omega) (show (0 : Int) ≤ 18446744073709551616 by decide)
            omega
          omega))
      · exact Int.emod_nonneg _ (by omega)
      · exact Int.emod_lt_of_pos _ (by omega)
      · show _ ∨ _
        rcases hhalf with h | h
        · left; rw [h]; exact Int.emod_one _
        · right; exact h
      · show _ ≤ _
        rw [ed] at s1
        rw [← s1]
        omega
end Go.Proofs.Ytgmnboacehopfaa
