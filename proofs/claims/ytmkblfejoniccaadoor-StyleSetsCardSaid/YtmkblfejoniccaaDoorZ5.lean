/-
  The reference's whole numbers, each function by its contract. Twelfth part: Fits.
-/
/-
  The reference's whole numbers, each function by its contract. Thirteenth part: Int.
-/
/-
  The reference of layer 4, each function by its contract: Length, Told.
-/
/-
  The functions of package ratio, each by its contract. First part: size, common, signed.
-/
/-
  The functions of package ratio, each by its contract. Second part: Of.
-/
/-
  The functions of package ratio, each by its contract. Third part: Good, Down.
-/
/-
  Plain facts on a long division bit by bit, and on quotients that are rounded down.
-/
import Derived.Test.YtmkblfejoniccaaDoorZ4
import Derived.Deep.RegionHeld3
import Derived.Test.YtmkblfejoniccaaDoorZ2
import Derived.Deep.LoopGhost
import Derived.BigQuiet
import Derived.Deep.RegionWith
import Derived.Test.YtmkblfejoniccaaDoorZ3
namespace Go.Proofs.YtmkblfejoniccaaDoor
open Go.RowKit
set_option linter.unusedSimpArgs false
set_option linter.unusedVariables false

theorem below_step {a w w' : World} (h : Below a.heap.size a w) (h' : Below w.heap.size w w') : Below a.heap.size a w' := h.trans (h'.mono h.size)
def fitsB (X : Int) : Bool := decide (-170141183460469231731687303715884105728 ≤ X) && decide (X < 170141183460469231731687303715884105728)
theorem fitsB_lo {X : Int} (h : cmpI X (-170141183460469231731687303715884105728) < 0) : fitsB X = false := by
  unfold cmpI at h
  unfold fitsB
  have : X < -170141183460469231731687303715884105728 := by
    by_cases h1 : X < -170141183460469231731687303715884105728
    · exact h1
    · rw [if_neg h1] at h; split at h <;> omega
  simp; omega
theorem fitsB_hi {X : Int} (h : 0 ≤ cmpI X (-170141183460469231731687303715884105728)) : fitsB X = decide (cmpI X 170141183460469231731687303715884105728 < 0) := by
  unfold cmpI at *
  unfold fitsB
  have : -170141183460469231731687303715884105728 ≤ X := by
    by_cases h1 : X < -170141183460469231731687303715884105728
    · rw [if_pos h1] at h; omega
    · omega
  by_cases h2 : X < 170141183460469231731687303715884105728
  · simp [h2, this]
  · simp [h2]; split <;> simp

end Go.Proofs.YtmkblfejoniccaaDoor
namespace Go.Proofs.YtmkblfejoniccaaDoor
open Go.RowKit
set_option linter.unusedSimpArgs false
set_option linter.unusedVariables false

def intB (X : Int) : Bool := decide (-9223372036854775808 ≤ X) && decide (X < 9223372036854775808)
/-- The int, or 0. -/
def intV (X : Int) : Int := if intB X then X else 0
theorem intB_lo {X : Int} (h : cmpI X (-9223372036854775808) < 0) : intB X = false := by
  unfold cmpI at h
  unfold intB
  have : X < -9223372036854775808 := by
    by_cases h1 : X < -9223372036854775808
    · exact h1
    · rw [if_neg h1] at h; split at h <;> omega
  simp; omega
theorem intB_hi {X : Int} (h : 0 ≤ cmpI X (-9223372036854775808)) : intB X = decide (cmpI X 9223372036854775808 < 0) := by
  unfold cmpI at *
  unfold intB
  have : -9223372036854775808 ≤ X := by
    by_cases h1 : X < -9223372036854775808
    · rw [if_pos h1] at h; omega
    · omega
  by_cases h2 : X < 9223372036854775808
  · simp [h2, this]
  · simp [h2]; split <;> simp
theorem intB_fit {X : Int} (h : intB X = true) : -9223372036854775808 ≤ X ∧ X ≤ 9223372036854775807 := by
  unfold intB at h; simp at h; omega
theorem bval_drop_le (ds : List Nat) (j : Nat) (hj : j ≤ ds.length) : BM.bval (ds.drop j) ≤ BM.bval ds := by
  rw [BM.bval_split ds j hj]
  have : 1 * BM.bval (ds.drop j) ≤ 65536 ^ j * BM.bval (ds.drop j) := Nat.mul_le_mul_right _ (Nat.pow_pos (by decide))
  omega
def IntRel (neg : Bool) (ao : Option Addr) (k cap : Nat) (ds : List Nat) (w : World) (g : Nat) (s5 s6 : Value) (wr : World) : Prop :=
  ∃ (j v : Nat), j ≤ k ∧ g = j ∧ s6 = .int .i64 ((j : Int) - 1) ∧ v = BM.bval (ds.drop j) ∧ s5 = .int .i64 (sgn neg v) ∧
    Two wr w.heap.size (.bool neg) (.slice ao k cap) ∧ Below w.heap.size w wr

set_option maxRecDepth 100000 in
set_option maxHeartbeats 1600000 in
theorem big_int (neg : Bool) (ao : Option Addr) (k cap : Nat) (X : Int) (w : World) (h : IsBig w neg ao k cap X) (hk : k ≤ 100000) :
    Calls Tryd.prog 69 #[.agg #[.bool neg, .slice ao k cap]] w fun e w' => e = .returned (.tuple #[.int .i64 (intV X), .bool (intB X)]) ∧ Below w.heap.size w w' := by
  obtain ⟨P, eP'⟩ : ∃ P : Int, P = 9223372036854775808 := ⟨_, rfl⟩
  have eP : P = ((2 ^ 63 : Nat) : Int) := by rw [eP']; decide
  have hp1 : 63 ≤ 3000 := by omega
  have sP : BM.Sz P 4 := by rw [eP']; unfold BM.Sz; decide
  obtain ⟨c1, e1⟩ : ∃ c1, c1 = cmpI X (-P) := ⟨_, rfl⟩
  obtain ⟨c2, e2⟩ : ∃ c2, c2 = cmpI X P := ⟨_, rfl⟩
  have E1 := Lib.hid e1.symm
  have E2 := Lib.hid e2.symm
  have hA : c1 < 0 → intB X = false := fun h => intB_lo (by rw [← eP', ← e1]; exact h)
  have hB : 0 ≤ c1 → intB X = decide (c2 < 0) := fun h => by rw [intB_hi (by rw [← eP', ← e1]; exact h), ← eP', ← e2]
  have t0 : Two (w.alloc (.cells #[.bool neg, .slice ao k cap] 41)) w.heap.size (.bool neg) (.slice ao k cap) := Two.new w _ _ _ rfl
  clear eP' e1 e2
  by_cases hc : 0 ≤ c1
  · have hB' := Lib.hid (hB hc)
    have hcn : ¬ c1 < 0 := by omega
    have hd : decide (c1 < 0) = false := by simp [hcn]
    clear hA hB
    by_cases hc2 : c2 < 0
    · have hd2 : decide (0 ≤ c2) = false := by simp; omega
      have hV : intB X = true := by rw [hB'.out]; simp [hc2]
      have hfit := intB_fit hV
      have HVV := Lib.hid hV
      have HV2 := Lib.hid (show intV X = X by unfold intV; rw [hV]; rfl)
      clear hV
      have h' := h
      obtain ⟨ds, h1, h2, h3, hXe⟩ := h'
      have HX := Lib.hid hXe
      clear hXe
      have LD := Lib.hid h1.len
      have HF := Lib.hid hfit
      clear hfit
      go_enter Tryd.func69, Tryd.ntmps69
      go_wp2_with fail
      refine (big_power_lit 63 63 rfl hp1 P eP _).mono ?_
      rintro e w1 ⟨n1, a1, k1, c1', rfl, hI1, hb1⟩
      replace t0 := t0.below hb1
      go_wp2_with fail
      refine (big_minus n1 a1 k1 c1' P _ hI1 (by have := hI1.le sP; omega)).mono ?_
      rintro e w2 ⟨m3, b3, j3, d3, rfl, hM, hb2⟩
      replace t0 := t0.below hb2
      have hM' := hM.keep (w' := w2.alloc (.cells #[.bool m3, .slice b3 j3 d3] 41)) (by repeat' (first | (with_reducible exact Below.refl _ _) | (with_reducible assumption) | (with_reducible refine below_alloc ?_ _ ?_) | (with_reducible refine below_set _ ?_ ?_) | (with_reducible refine Below.drew ?_) | (with_reducible refine below_dN ?_ _) | (apply below_thenA; assumption) | omega | (simp; done) | (simp; omega) | (simp [*]; done)))
      have hx2 := (((h.keep (w' := w.alloc (.cells #[.bool neg, .slice ao k cap] 41)) (by repeat' (first | (with_reducible exact Below.refl _ _) | (with_reducible assumption) | (with_reducible refine below_alloc ?_ _ ?_) | (with_reducible refine below_set _ ?_ ?_) | (with_reducible refine Below.drew ?_) | (with_reducible refine below_dN ?_ _) | (apply below_thenA; assumption) | omega | (simp; done) | (simp; omega) | (simp [*]; done)))).keep hb1).keep hb2).keep (w' := w2.alloc (.cells #[.bool m3, .slice b3 j3 d3] 41)) (by repeat' (first | (with_reducible exact Below.refl _ _) | (with_reducible assumption) | (with_reducible refine below_alloc ?_ _ ?_) | (with_reducible refine below_set _ ?_ ?_) | (with_reducible refine Below.drew ?_) | (with_reducible refine below_dN ?_ _) | (apply below_thenA; assumption) | omega | (simp; done) | (simp; omega) | (simp [*]; done)))
      have hs1 : w.heap.size + 1 ≤ w1.heap.size := by have := hb1.size; simpa using this
      have hs2 := hb2.size
      have hB2 : Below w.heap.size w (w2.alloc (.cells #[.bool m3, .slice b3 j3 d3] 41)) := (by repeat' (first | (with_reducible exact Below.refl _ _) | (with_reducible assumption) | (with_reducible refine below_alloc ?_ _ ?_) | (with_reducible refine below_set _ ?_ ?_) | (with_reducible refine Below.drew ?_) | (with_reducible refine below_dN ?_ _) | (apply below_thenA; assumption) | omega | (simp; done) | (simp; omega) | (simp [*]; done)))
      replace t0 := t0.alloc (.cells #[.bool m3, .slice b3 j3 d3] 41)
      have t1 : Two (w2.alloc (.cells #[.bool m3, .slice b3 j3 d3] 41)) w2.heap.size (.bool m3) (.slice b3 j3 d3) := Two.new w2 _ _ _ rfl
      have hq : Below (w2.alloc (.cells #[.bool m3, .slice b3 j3 d3] 41)).heap.size (w2.alloc (.cells #[.bool m3, .slice b3 j3 d3] 41)) (w2.alloc (.cells #[.bool m3, .slice b3 j3 d3] 41)) := Below.refl _ _
      have hfin : ∀ w', Below (w2.alloc (.cells #[.bool m3, .slice b3 j3 d3] 41)).heap.size (w2.alloc (.cells #[.bool m3, .slice b3 j3 d3] 41)) w' → Below w.heap.size w w' := fun w' h' => hB2.trans (h'.mono hB2.size)
      clear hb1 hb2 hB2 hI1 hM hs1 hs2
      have hM := hM'
      have hx := hx2
      clear hM' hx2
      obtain ⟨q1, q2, q3, q4⟩ := t0.cells
      obtain ⟨r1, r2, r3, r4⟩ := t1.cells
      go_wp2_with fail
      go_region_held3 (fun w' => w'.cell? ⟨w.heap.size, 0, none⟩ = some (.bool neg) ∧ w'.cell? ⟨w.heap.size, 1, none⟩ = some (.slice ao k cap) ∧ w'.cell? ⟨w2.heap.size, 0, none⟩ = some (.bool m3) ∧ w'.cell? ⟨w2.heap.size, 1, none⟩ = some (.slice b3 j3 d3))
        (first | exact ⟨q1, q2, r1, r2⟩ | go_keep)
        (first
        | (go_at_call 91; with_reducible refine (big_power_lit 63 63 rfl hp1 P eP _).mono ?_; rintro e w4 hB2; obtain ⟨n2, a2, k2, c2', rfl, hI2, hb2⟩ := hB2.out; (try replace hb2 := below_undrew hb2); replace hq := below_step hq hb2; replace t0 := t0.below hb2; replace t1 := t1.below hb2; obtain ⟨q1, q2, q3, q4⟩ := t0.cells; obtain ⟨r1, r2, r3, r4⟩ := t1.cells)
        | (go_at_call 24; with_reducible refine (big_cmp neg m3 ao b3 k j3 cap d3 X (-P) _ (hx.keep (Below.drew hq)) (hM.keep (Below.drew hq)) ?_ ?_).mono ?_; omega; (have := hM.le sP.neg; omega); rintro e w5 ⟨rfl, hb4⟩; rw [E1.out]; (try replace hb4 := below_undrew hb4); replace hq := below_step hq hb4; replace t0 := t0.below hb4; replace t1 := t1.below hb4; obtain ⟨q1, q2, q3, q4⟩ := t0.cells; obtain ⟨r1, r2, r3, r4⟩ := t1.cells)
        | (go_at_call 24; with_reducible refine (big_cmp neg n2 ao a2 k k2 cap c2' X P _ (hx.keep hq) hI2 ?_ ?_).mono ?_; omega; (have := hI2.le sP; omega); rintro e w6 ⟨rfl, hb4⟩; rw [E2.out]; (try replace hb4 := below_undrew hb4); replace hq := below_step hq hb4; replace t0 := t0.below hb4; replace t1 := t1.below hb4; obtain ⟨q1, q2, q3, q4⟩ := t0.cells; obtain ⟨r1, r2, r3, r4⟩ := t1.cells))
      clear q1 q2 q3 q4 r1 r2 r3 r4 t1
      replace hq := hfin _ hq
      obtain ⟨q1, q2, q3, q4⟩ := t0.cells
      go_wp2_with fail
      go_loopg [5, 6] k (fun g s5 s6 wr => IntRel neg ao k cap ds w g s5 s6 wr)
      case atStart =>
        refine ⟨k, 0, by omega, rfl, rfl, ?_, ?_, t0, hq⟩
        · rw [List.drop_eq_nil_of_le (by rw [LD.out]; omega)]; rfl
        · cases neg <;> rfl
      case round =>
        clear t0 q1 q2 q3 q4 hq hfin hx hM
        obtain ⟨j, v, hj, rfl, rfl, hv, rfl, t0, hq⟩ := hrel
        have HV := Lib.hid hv
        clear hv
        obtain ⟨q1, q2, q3, q4⟩ := t0.cells
        by_cases hj0 : gk = 0
        · subst hj0
          have e : v = BM.bval ds := by rw [HV.out]; rfl
          subst e
          go_wp2_with fail
          go_ret2
          exact ⟨by rw [HVV.out, HV2.out, HX.out]; rfl, hq⟩
        · obtain ⟨g, rfl, hcx, hgx⟩ := (h1.keep hq).cell (gk - 1) (by omega)
          have dx := h1.dig.getD (gk - 1)
          obtain ⟨x, ex⟩ : ∃ x, x = ds.getD (gk - 1) 0 := ⟨_, rfl⟩
          rw [← ex] at hcx dx
          have hl : gk - 1 < ds.length := by rw [LD.out]; omega
          have hst : x + 65536 * v = BM.bval (ds.drop (gk - 1)) := by
            rw [BM.bval_drop ds (gk - 1) hl, show gk - 1 + 1 = gk by omega, HV.out, ex]
            simp [List.getD, hl]
          have hle := bval_drop_le ds (gk - 1) (by omega)
          have HST := Lib.hid hst
          have hj1 : 0 < gk := by omega
          have i1 : 0 ≤ (gk : Int) - 1 := by omega
          have i2 : (gk : Int) - 1 < (k : Int) := by omega
          have ei : ((gk - 1 : Nat) : Int) = (gk : Int) - 1 := by omega
          rw [← hst] at hle
          clear ex hst
          cases neg
          · have hb : x + 65536 * v ≤ 9223372036854775807 := by
              have := HF.out.2; rw [HX.out] at this; unfold sgn at this; simp at this; omega
            simp only [sgn, Bool.false_eq_true, if_false] at *
            clear hle
            go_wp2_with fail
            go_roundg (gk - 1)
            case measure => omega
            case rel => exact ⟨gk - 1, x + 65536 * v, by omega, rfl, by go_num, HST.out, by simp only [sgn, Bool.false_eq_true, if_false]; go_num, t0, hq⟩
          · have hb : x + 65536 * v ≤ 9223372036854775808 := by
              have := HF.out.1; rw [HX.out] at this; unfold sgn at this; simp at this; omega
            simp only [sgn, if_true] at *
            clear hle
            go_wp2_with fail
            go_roundg (gk - 1)
            case measure => omega
            case rel => exact ⟨gk - 1, x + 65536 * v, by omega, rfl, by go_num, HST.out, by simp only [sgn, if_true]; go_num, t0, hq⟩
    · have hd2 : decide (0 ≤ c2) = true := by simp; omega
      have hV : intB X = false := by rw [hB'.out]; simp [hc2]
      have HVV := Lib.hid hV
      have HV2 := Lib.hid (show intV X = 0 by unfold intV; rw [hV]; rfl)
      clear hV
      go_enter Tryd.func69, Tryd.ntmps69
      go_wp2_with fail
      refine (big_power_lit 63 63 rfl hp1 P eP _).mono ?_
      rintro e w1 ⟨n1, a1, k1, c1', rfl, hI1, hb1⟩
      replace t0 := t0.below hb1
      go_wp2_with fail
      refine (big_minus n1 a1 k1 c1' P _ hI1 (by have := hI1.le sP; omega)).mono ?_
      rintro e w2 ⟨m3, b3, j3, d3, rfl, hM, hb2⟩
      replace t0 := t0.below hb2
      have hM' := hM.keep (w' := w2.alloc (.cells #[.bool m3, .slice b3 j3 d3] 41)) (by repeat' (first | (with_reducible exact Below.refl _ _) | (with_reducible assumption) | (with_reducible refine below_alloc ?_ _ ?_) | (with_reducible refine below_set _ ?_ ?_) | (with_reducible refine Below.drew ?_) | (with_reducible refine below_dN ?_ _) | (apply below_thenA; assumption) | omega | (simp; done) | (simp; omega) | (simp [*]; done)))
      have hx2 := (((h.keep (w' := w.alloc (.cells #[.bool neg, .slice ao k cap] 41)) (by repeat' (first | (with_reducible exact Below.refl _ _) | (with_reducible assumption) | (with_reducible refine below_alloc ?_ _ ?_) | (with_reducible refine below_set _ ?_ ?_) | (with_reducible refine Below.drew ?_) | (with_reducible refine below_dN ?_ _) | (apply below_thenA; assumption) | omega | (simp; done) | (simp; omega) | (simp [*]; done)))).keep hb1).keep hb2).keep (w' := w2.alloc (.cells #[.bool m3, .slice b3 j3 d3] 41)) (by repeat' (first | (with_reducible exact Below.refl _ _) | (with_reducible assumption) | (with_reducible refine below_alloc ?_ _ ?_) | (with_reducible refine below_set _ ?_ ?_) | (with_reducible refine Below.drew ?_) | (with_reducible refine below_dN ?_ _) | (apply below_thenA; assumption) | omega | (simp; done) | (simp; omega) | (simp [*]; done)))
      have hs1 : w.heap.size + 1 ≤ w1.heap.size := by have := hb1.size; simpa using this
      have hs2 := hb2.size
      have hB2 : Below w.heap.size w (w2.alloc (.cells #[.bool m3, .slice b3 j3 d3] 41)) := (by repeat' (first | (with_reducible exact Below.refl _ _) | (with_reducible assumption) | (with_reducible refine below_alloc ?_ _ ?_) | (with_reducible refine below_set _ ?_ ?_) | (with_reducible refine Below.drew ?_) | (with_reducible refine below_dN ?_ _) | (apply below_thenA; assumption) | omega | (simp; done) | (simp; omega) | (simp [*]; done)))
      replace t0 := t0.alloc (.cells #[.bool m3, .slice b3 j3 d3] 41)
      have t1 : Two (w2.alloc (.cells #[.bool m3, .slice b3 j3 d3] 41)) w2.heap.size (.bool m3) (.slice b3 j3 d3) := Two.new w2 _ _ _ rfl
      have hq : Below (w2.alloc (.cells #[.bool m3, .slice b3 j3 d3] 41)).heap.size (w2.alloc (.cells #[.bool m3, .slice b3 j3 d3] 41)) (w2.alloc (.cells #[.bool m3, .slice b3 j3 d3] 41)) := Below.refl _ _
      have hfin : ∀ w', Below (w2.alloc (.cells #[.bool m3, .slice b3 j3 d3] 41)).heap.size (w2.alloc (.cells #[.bool m3, .slice b3 j3 d3] 41)) w' → Below w.heap.size w w' := fun w' h' => hB2.trans (h'.mono hB2.size)
      clear hb1 hb2 hB2 hI1 hM hs1 hs2
      have hM := hM'
      have hx := hx2
      clear hM' hx2
      obtain ⟨q1, q2, q3, q4⟩ := t0.cells
      obtain ⟨r1, r2, r3, r4⟩ := t1.cells
      go_wp2_with fail
      go_region_held3 (fun w' => w'.cell? ⟨w.heap.size, 0, none⟩ = some (.bool neg) ∧ w'.cell? ⟨w.heap.size, 1, none⟩ = some (.slice ao k cap) ∧ w'.cell? ⟨w2.heap.size, 0, none⟩ = some (.bool m3) ∧ w'.cell? ⟨w2.heap.size, 1, none⟩ = some (.slice b3 j3 d3))
        (first | exact ⟨q1, q2, r1, r2⟩ | go_keep)
        (first
        | (go_at_call 91; with_reducible refine (big_power_lit 63 63 rfl hp1 P eP _).mono ?_; rintro e w4 hB2; obtain ⟨n2, a2, k2, c2', rfl, hI2, hb2⟩ := hB2.out; (try replace hb2 := below_undrew hb2); replace hq := below_step hq hb2; replace t0 := t0.below hb2; replace t1 := t1.below hb2; obtain ⟨q1, q2, q3, q4⟩ := t0.cells; obtain ⟨r1, r2, r3, r4⟩ := t1.cells)
        | (go_at_call 24; with_reducible refine (big_cmp neg m3 ao b3 k j3 cap d3 X (-P) _ (hx.keep (Below.drew hq)) (hM.keep (Below.drew hq)) ?_ ?_).mono ?_; omega; (have := hM.le sP.neg; omega); rintro e w5 ⟨rfl, hb4⟩; rw [E1.out]; (try replace hb4 := below_undrew hb4); replace hq := below_step hq hb4; replace t0 := t0.below hb4; replace t1 := t1.below hb4; obtain ⟨q1, q2, q3, q4⟩ := t0.cells; obtain ⟨r1, r2, r3, r4⟩ := t1.cells)
        | (go_at_call 24; with_reducible refine (big_cmp neg n2 ao a2 k k2 cap c2' X P _ (hx.keep hq) hI2 ?_ ?_).mono ?_; omega; (have := hI2.le sP; omega); rintro e w6 ⟨rfl, hb4⟩; rw [E2.out]; (try replace hb4 := below_undrew hb4); replace hq := below_step hq hb4; replace t0 := t0.below hb4; replace t1 := t1.below hb4; obtain ⟨q1, q2, q3, q4⟩ := t0.cells; obtain ⟨r1, r2, r3, r4⟩ := t1.cells))
      go_wp2_with fail
      go_ret2
      exact ⟨by rw [HVV.out, HV2.out]; rfl, hfin _ hq⟩
  · have hV := hA (by omega)
    have HVV := Lib.hid hV
    have HV2 := Lib.hid (show intV X = 0 by unfold intV; rw [hV]; rfl)
    clear hV
    have hcn : c1 < 0 := by omega
    have hd : decide (c1 < 0) = true := by simp [hcn]
    clear hA hB
    go_enter Tryd.func69, Tryd.ntmps69
    go_wp2_with fail
    refine (big_power_lit 63 63 rfl hp1 P eP _).mono ?_
    rintro e w1 ⟨n1, a1, k1, c1', rfl, hI1, hb1⟩
    replace t0 := t0.below hb1
    go_wp2_with fail
    refine (big_minus n1 a1 k1 c1' P _ hI1 (by have := hI1.le sP; omega)).mono ?_
    rintro e w2 ⟨m3, b3, j3, d3, rfl, hM, hb2⟩
    replace t0 := t0.below hb2
    have hM' := hM.keep (w' := w2.alloc (.cells #[.bool m3, .slice b3 j3 d3] 41)) (by repeat' (first | (with_reducible exact Below.refl _ _) | (with_reducible assumption) | (with_reducible refine below_alloc ?_ _ ?_) | (with_reducible refine below_set _ ?_ ?_) | (with_reducible refine Below.drew ?_) | (with_reducible refine below_dN ?_ _) | (apply below_thenA; assumption) | omega | (simp; done) | (simp; omega) | (simp [*]; done)))
    have hx2 := (((h.keep (w' := w.alloc (.cells #[.bool neg, .slice ao k cap] 41)) (by repeat' (first | (with_reducible exact Below.refl _ _) | (with_reducible assumption) | (with_reducible refine below_alloc ?_ _ ?_) | (with_reducible refine below_set _ ?_ ?_) | (with_reducible refine Below.drew ?_) | (with_reducible refine below_dN ?_ _) | (apply below_thenA; assumption) | omega | (simp; done) | (simp; omega) | (simp [*]; done)))).keep hb1).keep hb2).keep (w' := w2.alloc (.cells #[.bool m3, .slice b3 j3 d3] 41)) (by repeat' (first | (with_reducible exact Below.refl _ _) | (with_reducible assumption) | (with_reducible refine below_alloc ?_ _ ?_) | (with_reducible refine below_set _ ?_ ?_) | (with_reducible refine Below.drew ?_) | (with_reducible refine below_dN ?_ _) | (apply below_thenA; assumption) | omega | (simp; done) | (simp; omega) | (simp [*]; done)))
    have hs1 : w.heap.size + 1 ≤ w1.heap.size := by have := hb1.size; simpa using this
    have hs2 := hb2.size
    have hB2 : Below w.heap.size w (w2.alloc (.cells #[.bool m3, .slice b3 j3 d3] 41)) := (by repeat' (first | (with_reducible exact Below.refl _ _) | (with_reducible assumption) | (with_reducible refine below_alloc ?_ _ ?_) | (with_reducible refine below_set _ ?_ ?_) | (with_reducible refine Below.drew ?_) | (with_reducible refine below_dN ?_ _) | (apply below_thenA; assumption) | omega | (simp; done) | (simp; omega) | (simp [*]; done)))
    replace t0 := t0.alloc (.cells #[.bool m3, .slice b3 j3 d3] 41)
    have t1 : Two (w2.alloc (.cells #[.bool m3, .slice b3 j3 d3] 41)) w2.heap.size (.bool m3) (.slice b3 j3 d3) := Two.new w2 _ _ _ rfl
    have hq : Below (w2.alloc (.cells #[.bool m3, .slice b3 j3 d3] 41)).heap.size (w2.alloc (.cells #[.bool m3, .slice b3 j3 d3] 41)) (w2.alloc (.cells #[.bool m3, .slice b3 j3 d3] 41)) := Below.refl _ _
    have hfin : ∀ w', Below (w2.alloc (.cells #[.bool m3, .slice b3 j3 d3] 41)).heap.size (w2.alloc (.cells #[.bool m3, .slice b3 j3 d3] 41)) w' → Below w.heap.size w w' := fun w' h' => hB2.trans (h'.mono hB2.size)
    clear hb1 hb2 hB2 hI1 hM hs1 hs2
    have hM := hM'
    have hx := hx2
    clear hM' hx2
    obtain ⟨q1, q2, q3, q4⟩ := t0.cells
    obtain ⟨r1, r2, r3, r4⟩ := t1.cells
    go_wp2_with fail
    go_region_with (first
        | (go_at_call 91; with_reducible refine (big_power_lit 63 63 rfl hp1 P eP _).mono ?_; rintro e w4 hB2; obtain ⟨n2, a2, k2, c2', rfl, hI2, hb2⟩ := hB2.out; (try replace hb2 := below_undrew hb2); replace hq := below_step hq hb2; replace t0 := t0.below hb2; replace t1 := t1.below hb2; obtain ⟨q1, q2, q3, q4⟩ := t0.cells; obtain ⟨r1, r2, r3, r4⟩ := t1.cells)
        | (go_at_call 24; with_reducible refine (big_cmp neg m3 ao b3 k j3 cap d3 X (-P) _ (hx.keep (Below.drew hq)) (hM.keep (Below.drew hq)) ?_ ?_).mono ?_; omega; (have := hM.le sP.neg; omega); rintro e w5 ⟨rfl, hb4⟩; rw [E1.out]; (try replace hb4 := below_undrew hb4); replace hq := below_step hq hb4; replace t0 := t0.below hb4; replace t1 := t1.below hb4; obtain ⟨q1, q2, q3, q4⟩ := t0.cells; obtain ⟨r1, r2, r3, r4⟩ := t1.cells)
        | (go_at_call 24; with_reducible refine (big_cmp neg n2 ao a2 k k2 cap c2' X P _ (hx.keep hq) hI2 ?_ ?_).mono ?_; omega; (have := hI2.le sP; omega); rintro e w6 ⟨rfl, hb4⟩; rw [E2.out]; (try replace hb4 := below_undrew hb4); replace hq := below_step hq hb4; replace t0 := t0.below hb4; replace t1 := t1.below hb4; obtain ⟨q1, q2, q3, q4⟩ := t0.cells; obtain ⟨r1, r2, r3, r4⟩ := t1.cells))
    all_goals
      go_wp2_with fail
      go_ret2
      exact ⟨by rw [HVV.out, HV2.out]; rfl, hfin _ hq⟩
end Go.Proofs.YtmkblfejoniccaaDoor
namespace Go.Proofs.YtmkblfejoniccaaDoor
open Go.RowKit
set_option linter.unusedSimpArgs false
set_option linter.unusedVariables false

/-- Is a whole number a length? -/
def lenB (X : Int) : Bool := decide (-17592186044416 ≤ X) && decide (X ≤ 17592186044416)
theorem lenB_hi {X : Int} (h : ¬ cmpI X 17592186044416 ≤ 0) : lenB X = false := by
  unfold cmpI at h
  unfold lenB
  have : 17592186044416 < X := by
    by_cases h1 : X < 17592186044416
    · rw [if_pos h1] at h; omega
    · rw [if_neg h1] at h
      by_cases h2 : 17592186044416 < X
      · exact h2
      · rw [if_neg h2] at h; omega
  simp; omega
theorem lenB_lo {X : Int} (h : cmpI X 17592186044416 ≤ 0) : lenB X = decide (0 ≤ cmpI X (-17592186044416)) := by
  unfold cmpI at *
  unfold lenB
  have : X ≤ 17592186044416 := by
    by_cases h1 : X < 17592186044416
    · omega
    · rw [if_neg h1] at h
      by_cases h2 : 17592186044416 < X
      · rw [if_pos h2] at h; omega
      · omega
  by_cases h3 : X < -17592186044416
  · simp [h3]; omega
  · simp only [if_neg h3]
    split <;> simp <;> omega

set_option maxRecDepth 100000 in
set_option maxHeartbeats 1600000 in
theorem ref_length (neg : Bool) (ao : Option Addr) (k cap : Nat) (X : Int) (w : World) (h : IsBig w neg ao k cap X) (hk : k ≤ 100000) :
    Calls Tryd.prog 116 #[.agg #[.bool neg, .slice ao k cap]] w fun e w' => e = .returned (.bool (lenB X)) ∧ Below w.heap.size w w' := by
  obtain ⟨M, eM⟩ : ∃ M : Int, M = 17592186044416 := ⟨_, rfl⟩
  have eP : M = ((2 ^ 44 : Nat) : Int) := by rw [eM]; decide
  have sM : BM.Sz M 4 := by rw [eM]; unfold BM.Sz; decide
  obtain ⟨c1, e1⟩ : ∃ c1, c1 = cmpI X M := ⟨_, rfl⟩
  obtain ⟨c2, e2⟩ : ∃ c2, c2 = cmpI X (-M) := ⟨_, rfl⟩
  have E1 := Lib.hid e1.symm
  have E2 := Lib.hid e2.symm
  have hA : ¬ c1 ≤ 0 → lenB X = false := fun h => lenB_hi (by rw [← eM, ← e1]; exact h)
  have hB : c1 ≤ 0 → lenB X = decide (0 ≤ c2) := fun h => by rw [lenB_lo (by rw [← eM, ← e1]; exact h), ← eM, ← e2]
  have t0 : Two (w.alloc (.cells #[.bool neg, .slice ao k cap] 41)) w.heap.size (.bool neg) (.slice ao k cap) := Two.new w _ _ _ rfl
  clear eM e1 e2
  by_cases hc : c1 ≤ 0
  · have HVV := Lib.hid (hB hc)
    have hd : decide (c1 ≤ 0) = true := by simp [hc]
    clear hA hB hc
    go_enter Tryd.func116, Tryd.ntmps116
    go_wp2_with fail
    refine (big_power_lit 44 44 rfl (by omega) M eP _).mono ?_
    rintro e w1 ⟨m3, b3, j3, d3, rfl, hM, hb1⟩
    replace t0 := (t0.below hb1).alloc (.cells #[.bool m3, .slice b3 j3 d3] 41)
    have t1 : Two (w1.alloc (.cells #[.bool m3, .slice b3 j3 d3] 41)) w1.heap.size (.bool m3) (.slice b3 j3 d3) := Two.new w1 _ _ _ rfl
    replace hM := hM.keep (w' := w1.alloc (.cells #[.bool m3, .slice b3 j3 d3] 41)) (by repeat' (first | (with_reducible exact Below.refl _ _) | (with_reducible assumption) | (with_reducible refine below_alloc ?_ _ ?_) | (with_reducible refine below_set _ ?_ ?_) | (with_reducible refine Below.drew ?_) | (with_reducible refine below_dN ?_ _) | (apply below_thenA; assumption) | omega | (simp; done) | (simp; omega) | (simp [*]; done)))
    have hx := ((h.keep (w' := w.alloc (.cells #[.bool neg, .slice ao k cap] 41)) (by repeat' (first | (with_reducible exact Below.refl _ _) | (with_reducible assumption) | (with_reducible refine below_alloc ?_ _ ?_) | (with_reducible refine below_set _ ?_ ?_) | (with_reducible refine Below.drew ?_) | (with_reducible refine below_dN ?_ _) | (apply below_thenA; assumption) | omega | (simp; done) | (simp; omega) | (simp [*]; done)))).keep hb1).keep (w' := w1.alloc (.cells #[.bool m3, .slice b3 j3 d3] 41)) (by repeat' (first | (with_reducible exact Below.refl _ _) | (with_reducible assumption) | (with_reducible refine below_alloc ?_ _ ?_) | (with_reducible refine below_set _ ?_ ?_) | (with_reducible refine Below.drew ?_) | (with_reducible refine below_dN ?_ _) | (apply below_thenA; assumption) | omega | (simp; done) | (simp; omega) | (simp [*]; done)))
    have hs1 : w.heap.size + 1 ≤ w1.heap.size := by have := hb1.size; simpa using this
    have hB1 : Below w.heap.size w (w1.alloc (.cells #[.bool m3, .slice b3 j3 d3] 41)) := (by repeat' (first | (with_reducible exact Below.refl _ _) | (with_reducible assumption) | (with_reducible refine below_alloc ?_ _ ?_) | (with_reducible refine below_set _ ?_ ?_) | (with_reducible refine Below.drew ?_) | (with_reducible refine below_dN ?_ _) | (apply below_thenA; assumption) | omega | (simp; done) | (simp; omega) | (simp [*]; done)))
    have hq : Below (w1.alloc (.cells #[.bool m3, .slice b3 j3 d3] 41)).heap.size (w1.alloc (.cells #[.bool m3, .slice b3 j3 d3] 41)) (w1.alloc (.cells #[.bool m3, .slice b3 j3 d3] 41)) := Below.refl _ _
    have hfin : ∀ w', Below (w1.alloc (.cells #[.bool m3, .slice b3 j3 d3] 41)).heap.size (w1.alloc (.cells #[.bool m3, .slice b3 j3 d3] 41)) w' → Below w.heap.size w w' := fun w' h' => hB1.trans (h'.mono hB1.size)
    clear hb1 hB1 hs1
    obtain ⟨q1, q2, q3, q4⟩ := t0.cells
    obtain ⟨r1, r2, r3, r4⟩ := t1.cells
    go_wp2_with fail
    go_region_held3 (fun w' => w'.cell? ⟨w.heap.size, 0, none⟩ = some (.bool neg) ∧ w'.cell? ⟨w.heap.size, 1, none⟩ = some (.slice ao k cap) ∧ w'.cell? ⟨w1.heap.size, 0, none⟩ = some (.bool m3) ∧ w'.cell? ⟨w1.heap.size, 1, none⟩ = some (.slice b3 j3 d3))
      (first | exact ⟨q1, q2, r1, r2⟩ | go_keep)
      (first
      | (go_at_call 24; with_reducible refine (big_cmp neg m3 ao b3 k j3 cap d3 X M _ (hx.keep (Below.drew hq)) (hM.keep (Below.drew hq)) ?_ ?_).mono ?_; omega; (have := hM.le sM; omega); rintro e w5 ⟨rfl, hb4⟩; rw [E1.out]; (try replace hb4 := below_undrew hb4); replace hq := below_step hq hb4; replace t0 := t0.below hb4; replace t1 := t1.below hb4; obtain ⟨q1, q2, q3, q4⟩ := t0.cells; obtain ⟨r1, r2, r3, r4⟩ := t1.cells)
      | (go_at_call 63; with_reducible refine (big_minus m3 b3 j3 d3 M _ (hM.keep hq) ?_).mono ?_; (have := hM.le sM; omega); rintro e w6 hB6; obtain ⟨n6, a6, k6, c6, rfl, hI6, hb4⟩ := hB6.out; (try replace hb4 := below_undrew hb4); replace hq := below_step hq hb4; replace t0 := t0.below hb4; replace t1 := t1.below hb4; obtain ⟨q1, q2, q3, q4⟩ := t0.cells; obtain ⟨r1, r2, r3, r4⟩ := t1.cells)
      | (go_at_call 24; with_reducible refine (big_cmp neg n6 ao a6 k k6 cap c6 X (-M) _ (hx.keep hq) hI6 ?_ ?_).mono ?_; omega; (have := hI6.le sM.neg; omega); rintro e w7 ⟨rfl, hb4⟩; rw [E2.out]; (try replace hb4 := below_undrew hb4); replace hq := below_step hq hb4; replace t0 := t0.below hb4; replace t1 := t1.below hb4; obtain ⟨q1, q2, q3, q4⟩ := t0.cells; obtain ⟨r1, r2, r3, r4⟩ := t1.cells))
    go_wp2_with fail
    go_ret
    exact ⟨by rw [HVV.out]; rfl, hfin _ hq⟩
  · have HVV := Lib.hid (hA hc)
    have hd : decide (c1 ≤ 0) = false := by simp; omega
    clear hA hB
    go_enter Tryd.func116, Tryd.ntmps116
    go_wp2_with fail
    refine (big_power_lit 44 44 rfl (by omega) M eP _).mono ?_
    rintro e w1 ⟨m3, b3, j3, d3, rfl, hM, hb1⟩
    replace t0 := (t0.below hb1).alloc (.cells #[.bool m3, .slice b3 j3 d3] 41)
    have t1 : Two (w1.alloc (.cells #[.bool m3, .slice b3 j3 d3] 41)) w1.heap.size (.bool m3) (.slice b3 j3 d3) := Two.new w1 _ _ _ rfl
    replace hM := hM.keep (w' := w1.alloc (.cells #[.bool m3, .slice b3 j3 d3] 41)) (by repeat' (first | (with_reducible exact Below.refl _ _) | (with_reducible assumption) | (with_reducible refine below_alloc ?_ _ ?_) | (with_reducible refine below_set _ ?_ ?_) | (with_reducible refine Below.drew ?_) | (with_reducible refine below_dN ?_ _) | (apply below_thenA; assumption) | omega | (simp; done) | (simp; omega) | (simp [*]; done)))
    have hx := ((h.keep (w' := w.alloc (.cells #[.bool neg, .slice ao k cap] 41)) (by repeat' (first | (with_reducible exact Below.refl _ _) | (with_reducible assumption) | (with_reducible refine below_alloc ?_ _ ?_) | (with_reducible refine below_set _ ?_ ?_) | (with_reducible refine Below.drew ?_) | (with_reducible refine below_dN ?_ _) | (apply below_thenA; assumption) | omega | (simp; done) | (simp; omega) | (simp [*]; done)))).keep hb1).keep (w' := w1.alloc (.cells #[.bool m3, .slice b3 j3 d3] 41)) (by repeat' (first | (with_reducible exact Below.refl _ _) | (with_reducible assumption) | (with_reducible refine below_alloc ?_ _ ?_) | (with_reducible refine below_set _ ?_ ?_) | (with_reducible refine Below.drew ?_) | (with_reducible refine below_dN ?_ _) | (apply below_thenA; assumption) | omega | (simp; done) | (simp; omega) | (simp [*]; done)))
    have hs1 : w.heap.size + 1 ≤ w1.heap.size := by have := hb1.size; simpa using this
    have hB1 : Below w.heap.size w (w1.alloc (.cells #[.bool m3, .slice b3 j3 d3] 41)) := (by repeat' (first | (with_reducible exact Below.refl _ _) | (with_reducible assumption) | (with_reducible refine below_alloc ?_ _ ?_) | (with_reducible refine below_set _ ?_ ?_) | (with_reducible refine Below.drew ?_) | (with_reducible refine below_dN ?_ _) | (apply below_thenA; assumption) | omega | (simp; done) | (simp; omega) | (simp [*]; done)))
    have hq : Below (w1.alloc (.cells #[.bool m3, .slice b3 j3 d3] 41)).heap.size (w1.alloc (.cells #[.bool m3, .slice b3 j3 d3] 41)) (w1.alloc (.cells #[.bool m3, .slice b3 j3 d3] 41)) := Below.refl _ _
    have hfin : ∀ w', Below (w1.alloc (.cells #[.bool m3, .slice b3 j3 d3] 41)).heap.size (w1.alloc (.cells #[.bool m3, .slice b3 j3 d3] 41)) w' → Below w.heap.size w w' := fun w' h' => hB1.trans (h'.mono hB1.size)
    clear hb1 hB1 hs1
    obtain ⟨q1, q2, q3, q4⟩ := t0.cells
    obtain ⟨r1, r2, r3, r4⟩ := t1.cells
    go_wp2_with fail
    go_region_with (first
      | (go_at_call 24; with_reducible refine (big_cmp neg m3 ao b3 k j3 cap d3 X M _ (hx.keep (Below.drew hq)) (hM.keep (Below.drew hq)) ?_ ?_).mono ?_; omega; (have := hM.le sM; omega); rintro e w5 ⟨rfl, hb4⟩; rw [E1.out]; (try replace hb4 := below_undrew hb4); replace hq := below_step hq hb4; replace t0 := t0.below hb4; replace t1 := t1.below hb4; obtain ⟨q1, q2, q3, q4⟩ := t0.cells; obtain ⟨r1, r2, r3, r4⟩ := t1.cells)
      | (go_at_call 63; with_reducible refine (big_minus m3 b3 j3 d3 M _ (hM.keep hq) ?_).mono ?_; (have := hM.le sM; omega); rintro e w6 hB6; obtain ⟨n6, a6, k6, c6, rfl, hI6, hb4⟩ := hB6.out; (try replace hb4 := below_undrew hb4); replace hq := below_step hq hb4; replace t0 := t0.below hb4; replace t1 := t1.below hb4; obtain ⟨q1, q2, q3, q4⟩ := t0.cells; obtain ⟨r1, r2, r3, r4⟩ := t1.cells)
      | (go_at_call 24; with_reducible refine (big_cmp neg n6 ao a6 k k6 cap c6 X (-M) _ (hx.keep hq) hI6 ?_ ?_).mono ?_; omega; (have := hI6.le sM.neg; omega); rintro e w7 ⟨rfl, hb4⟩; rw [E2.out]; (try replace hb4 := below_undrew hb4); replace hq := below_step hq hb4; replace t0 := t0.below hb4; replace t1 := t1.below hb4; obtain ⟨q1, q2, q3, q4⟩ := t0.cells; obtain ⟨r1, r2, r3, r4⟩ := t1.cells))
    all_goals
      go_wp2_with fail
      go_ret
      exact ⟨by rw [HVV.out]; rfl, hfin _ hq⟩
set_option maxRecDepth 100000 in
set_option maxHeartbeats 1600000 in
theorem ref_told (neg : Bool) (ao : Option Addr) (k cap : Nat) (X : Int) (w : World) (h : IsBig w neg ao k cap X) (hk : k ≤ 100000) :
    Calls Tryd.prog 108 #[.agg #[.bool neg, .slice ao k cap]] w fun e w' => e = .returned (.tuple #[.int .i64 (if lenB X then X else 0), .int .i64 (if lenB X then 0 else 2)]) ∧ Below w.heap.size w w' := by
  have LN := fun W (hW : IsBig W neg ao k cap X) => ref_length neg ao k cap X W hW hk
  have IN := fun W (hW : IsBig W neg ao k cap X) => big_int neg ao k cap X W hW hk
  have t0 : Two (w.alloc (.cells #[.bool neg, .slice ao k cap] 41)) w.heap.size (.bool neg) (.slice ao k cap) := Two.new w _ _ _ rfl
  have hx := h.keep (w' := w.alloc (.cells #[.bool neg, .slice ao k cap] 41)) (by repeat' (first | (with_reducible exact Below.refl _ _) | (with_reducible assumption) | (with_reducible refine below_alloc ?_ _ ?_) | (with_reducible refine below_set _ ?_ ?_) | (with_reducible refine Below.drew ?_) | (with_reducible refine below_dN ?_ _) | (apply below_thenA; assumption) | omega | (simp; done) | (simp; omega) | (simp [*]; done)))
  have hB : Below w.heap.size w (w.alloc (.cells #[.bool neg, .slice ao k cap] 41)) := (by repeat' (first | (with_reducible exact Below.refl _ _) | (with_reducible assumption) | (with_reducible refine below_alloc ?_ _ ?_) | (with_reducible refine below_set _ ?_ ?_) | (with_reducible refine Below.drew ?_) | (with_reducible refine below_dN ?_ _) | (apply below_thenA; assumption) | omega | (simp; done) | (simp; omega) | (simp [*]; done)))
  obtain ⟨q1, q2, q3, q4⟩ := t0.cells
  clear h
  cases hl : lenB X
  · rw [hl] at LN
    clear hl
    go_enter Tryd.func108, Tryd.ntmps108
    go_wp2_with fail
    refine (LN _ hx).mono ?_
    rintro e w1 ⟨rfl, hb1⟩
    replace hB := hB.trans (hb1.mono hB.size)
    go_wp2_with fail
    go_ret2
    exact ⟨rfl, hB⟩
  · have hfit : intB X = true := by unfold lenB at hl; unfold intB; simp at hl ⊢; omega
    have hV : intV X = X := by unfold intV; rw [hfit]; rfl
    rw [hl] at LN
    rw [hV] at IN
    clear hl hfit hV
    go_enter Tryd.func108, Tryd.ntmps108
    go_wp2_with fail
    refine (LN _ hx).mono ?_
    rintro e w1 ⟨rfl, hb1⟩
    replace hB := hB.trans (hb1.mono hB.size)
    replace t0 := t0.below hb1
    replace hx := hx.keep hb1
    clear q1 q2 q3 q4
    obtain ⟨q1, q2, q3, q4⟩ := t0.cells
    go_wp2_with fail
    refine (IN _ hx).mono ?_
    rintro e w2 ⟨rfl, hb2⟩
    replace hB := hB.trans (hb2.mono hB.size)
    go_wp2_with fail
    go_ret2
    exact ⟨rfl, hB⟩
end Go.Proofs.YtmkblfejoniccaaDoor
namespace Go.Proofs.YtmkblfejoniccaaDoor
open Go.RowKit
set_option linter.unusedSimpArgs false
set_option linter.unusedVariables false

set_option maxRecDepth 100000 in
set_option maxHeartbeats 1600000 in
theorem rat_size (n : Int) (hn : IFit n) (w : World) : Calls Tryd.prog 54 #[.int .i64 n] w fun e w' => e = .returned (.int .u64 (((n.natAbs : Nat) : Int))) ∧ w' = w := by
  obtain ⟨h1, h2⟩ := hn
  have hm : IntKind.u64.max = 18446744073709551615 := rfl
  by_cases h : n < 0
  · have E : Hid (IntKind.u64.wrap (-IntKind.u64.wrap n) = ((n.natAbs : Nat) : Int)) := Lib.hid (by simp only [IntKind.wrap_u64]; omega)
    go_enter Tryd.func54, Tryd.ntmps54
    go_wp2_with fail
    go_ret
    exact ⟨by rw [← E.out]; rfl, rfl⟩
  · have E : Hid (n = ((n.natAbs : Nat) : Int)) := Lib.hid (by omega)
    go_enter Tryd.func54, Tryd.ntmps54
    go_wp2_with fail
    go_ret
    exact ⟨by rw [← E.out]; rfl, rfl⟩
set_option maxRecDepth 100000 in
set_option maxHeartbeats 1600000 in
theorem rat_common (a b : Nat) (ha : a < 18446744073709551616) (hb : b < 18446744073709551616) (w : World) :
    Calls Tryd.prog 53 #[.int .u64 ((a : Int)), .int .u64 ((b : Int))] w fun e w' => e = .returned (.int .u64 (((Nat.gcd a b : Nat) : Int))) ∧ Below w.heap.size w w' := by
  obtain ⟨G, eG⟩ : ∃ G, Nat.gcd a b = G := ⟨_, rfl⟩
  rw [eG]
  have EG := Lib.hid eG
  clear eG
  go_enter Tryd.func53, Tryd.ntmps53
  go_wp2_with fail
  go_loopg [0, 1] b (fun g s0 s1 wr => ∃ (x y : Nat), x < 18446744073709551616 ∧ y < 18446744073709551616 ∧ g = y ∧ s0 = .int .u64 ((x : Int)) ∧ s1 = .int .u64 ((y : Int)) ∧ Nat.gcd x y = G ∧ Below w.heap.size w wr)
  case atStart => exact ⟨a, b, ha, hb, rfl, rfl, rfl, EG.out, Below.refl _ _⟩
  case round =>
    obtain ⟨x, y, hx, hy, rfl, rfl, rfl, hg, hB⟩ := hrel
    have HG := Lib.hid hg
    clear hg
    by_cases h0 : gk = 0
    · subst h0
      have e := HG.out
      rw [Nat.gcd_zero_right] at e
      subst e
      go_wp2_with fail
      go_ret
      exact ⟨rfl, hB⟩
    · have hp : (0 : Int) < (gk : Int) := by omega
      have hne : (gk : Int) ≠ 0 := by omega
      go_wp2_with fail
      go_region
      all_goals
        go_wp2_with fail
        go_roundg (x % gk)
        case measure => exact Nat.mod_lt _ (by omega)
        case rel => exact ⟨gk, x % gk, hy, by have := Nat.mod_lt x (show gk > 0 by omega); omega, rfl, rfl, by go_num, by rw [← HG.out, Nat.gcd_comm x]; exact (Nat.gcd_comm _ _).trans (Nat.gcd_rec _ _).symm, (by repeat' (first | (with_reducible exact Below.refl _ _) | (with_reducible assumption) | (with_reducible refine below_alloc ?_ _ ?_) | (with_reducible refine below_set _ ?_ ?_) | (with_reducible refine Below.drew ?_) | (with_reducible refine below_dN ?_ _) | (apply below_thenA; assumption) | omega | (simp; done) | (simp; omega) | (simp [*]; done)))⟩
theorem wrap_i64_neg (n : Nat) (h : n ≤ 9223372036854775808) : wrap64 (-wrap64 (n : Int)) = -(n : Int) := by
  simp only [wrap64]; omega
theorem wrap_i64_pos (n : Nat) (h : n ≤ 9223372036854775807) : wrap64 (n : Int) = (n : Int) := by
  simp only [wrap64]; omega
set_option maxRecDepth 100000 in
set_option maxHeartbeats 1600000 in
theorem rat_signed_neg (n : Nat) (hn : n < 18446744073709551616) (w : World) :
    Calls Tryd.prog 55 #[.int .u64 ((n : Int)), .bool true] w fun e w' => (∃ v, e = .returned (.tuple #[.int .i64 v, .bool (decide ((n : Int) ≤ 9223372036854775808))]) ∧ (n ≤ 9223372036854775808 → v = -(n : Int))) ∧ w' = w := by
  have E : Hid (n ≤ 9223372036854775808 → wrap64 (-wrap64 (n : Int)) = -(n : Int)) := Lib.hid (wrap_i64_neg n)
  go_enter Tryd.func55, Tryd.ntmps55
  go_wp2_with fail
  go_ret2
  exact ⟨⟨_, rfl, E.out⟩, rfl⟩
set_option maxRecDepth 100000 in
set_option maxHeartbeats 1600000 in
theorem rat_signed_pos (n : Nat) (hn : n < 18446744073709551616) (w : World) :
    Calls Tryd.prog 55 #[.int .u64 ((n : Int)), .bool false] w fun e w' => (∃ v, e = .returned (.tuple #[.int .i64 v, .bool (decide ((n : Int) ≤ 9223372036854775807))]) ∧ (n ≤ 9223372036854775807 → v = (n : Int))) ∧ w' = w := by
  have E : Hid (n ≤ 9223372036854775807 → wrap64 (n : Int) = (n : Int)) := Lib.hid (wrap_i64_pos n)
  go_enter Tryd.func55, Tryd.ntmps55
  go_wp2_with fail
  go_ret2
  exact ⟨⟨_, rfl, E.out⟩, rfl⟩
end Go.Proofs.YtmkblfejoniccaaDoor
namespace Go.Proofs.YtmkblfejoniccaaDoor
open Go.RowKit
set_option linter.unusedSimpArgs false
set_option linter.unusedVariables false

/-- A block of two cells. -/
def Rx (w : World) (b : Nat) (x y : Value) : Prop := w.heap[b]? = some (Obj.cells #[x, y] 25 (0, 0))
theorem Rx.cells {w : World} {b : Nat} {x y : Value} (h : Rx w b x y) : w.cell? ⟨b, 0, none⟩ = some x ∧ w.cell? ⟨b, 1, none⟩ = some y ∧ w.frozen? ⟨b, 0, none⟩ = false ∧ w.frozen? ⟨b, 1, none⟩ = false := by
  refine ⟨by rw [cell_of_row w b 0 _ _ _ h]; rfl, by rw [cell_of_row w b 1 _ _ _ h]; rfl, ?_, ?_⟩ <;> simp [World.frozen?, show w.heap[b]? = _ from h]
theorem Rx.lt {w : World} {b : Nat} {x y : Value} (h : Rx w b x y) : b < w.heap.size := (Array.getElem?_eq_some_iff.1 h).1
theorem Rx.new (w : World) (x y : Value) (b : Nat) (hb : b = w.heap.size) : Rx (w.alloc (.cells #[x, y] 25)) b x y := by subst hb; exact heap_alloc_new w _
theorem Rx.below {w w' : World} {b : Nat} {x y : Value} (h : Rx w b x y) (hb : Below w.heap.size w w') : Rx w' b x y := (hb.block b h.lt).trans h
theorem Rx.drew {w : World} {b : Nat} {x y : Value} (h : Rx w b x y) : Rx w.drew b x y := h
theorem quo_u64 (a g A : Nat) (ha : a < 18446744073709551616) (h : a / g = A) : IntKind.u64.wrap ((a : Int) / (g : Int)) = (A : Int) := by
  have h1 : a / g ≤ a := Nat.div_le_self _ _
  rw [h] at h1
  rw [← Int.natCast_ediv, h, IntKind.wrap_u64, Int.emod_eq_of_lt (by omega) (by omega)]
def limR (neg : Bool) : Int := if neg then 9223372036854775808 else 9223372036854775807
/-- What Of answers: the ratio in lowest terms, or that it is no pair of ints. -/
def OfAns (neg : Bool) (A B : Nat) (w : World) (e : Ending) (w' : World) : Prop :=
  (((A : Int) ≤ limR neg ∧ (B : Int) ≤ 9223372036854775807) → e = .returned (.tuple #[.agg #[.int .i64 (if neg then -(A : Int) else (A : Int)), .int .i64 ((B : Int))], .int .i64 0])) ∧
  (¬ ((A : Int) ≤ limR neg ∧ (B : Int) ≤ 9223372036854775807) → e = .returned (.tuple #[.agg #[.int .i64 0, .int .i64 0], .int .i64 2])) ∧ Below w.heap.size w w'
theorem OfAns.both {neg : Bool} {A B : Nat} {w : World} {v u : Int} {w' : World} (h : (A : Int) ≤ limR neg) (h' : (B : Int) ≤ 9223372036854775807) (hv : v = if neg then -(A : Int) else (A : Int)) (hu : u = (B : Int)) (hb : Below w.heap.size w w') :
    OfAns neg A B w (.returned (.tuple #[.agg #[.int .i64 v, .int .i64 u], .int .i64 0])) w' := ⟨fun _ => by rw [hv, hu], fun x => absurd ⟨h, h'⟩ x, hb⟩
theorem OfAns.none {neg : Bool} {A B : Nat} {w : World} {w' : World} (h : ¬ ((A : Int) ≤ limR neg ∧ (B : Int) ≤ 9223372036854775807)) (hb : Below w.heap.size w w') :
    OfAns neg A B w (.returned (.tuple #[.agg #[.int .i64 0, .int .i64 0], .int .i64 2])) w' := ⟨fun x => absurd x h, fun _ => rfl, hb⟩
theorem BP2 {w w' : World} {B b : Nat} {u v : Value} (h : Below B w w') (hb : B ≤ b := by omega) : Below B w ((w'.setCell ⟨b, 0, none⟩ u).setCell ⟨b, 1, none⟩ v) :=
  (h.setCell (p := ⟨b, 0, none⟩) hb u).setCell (p := ⟨b, 1, none⟩) hb v

set_option maxRecDepth 100000 in
set_option maxHeartbeats 3200000 in
theorem rat_of_neg (n d : Int) (hn : IFit n) (hd : IFit d) (h0 : d ≠ 0) (hz : n ≠ 0) (hs : (n < 0 ∧ 0 < d) ∨ (0 < n ∧ d < 0)) (A B : Nat) (hA : n.natAbs / Nat.gcd n.natAbs d.natAbs = A) (hB : d.natAbs / Nat.gcd n.natAbs d.natAbs = B) (w : World) :
    Calls Tryd.prog 19 #[.int .i64 n, .int .i64 d] w (OfAns true A B w) := by
  have S1 := rat_size n hn
  have S2 := rat_size d hd
  have hda : 0 < d.natAbs := by omega
  obtain ⟨x1, x2⟩ := hn
  obtain ⟨y1, y2⟩ := hd
  have ha : n.natAbs < 18446744073709551616 := by omega
  have hb : d.natAbs < 18446744073709551616 := by omega
  have hg0 : 0 < Nat.gcd n.natAbs d.natAbs := Nat.gcd_pos_of_pos_right _ hda
  have CM := rat_common n.natAbs d.natAbs ha hb
  obtain ⟨a, ea⟩ : ∃ a, n.natAbs = a := ⟨_, rfl⟩
  obtain ⟨b, eb⟩ : ∃ b, d.natAbs = b := ⟨_, rfl⟩
  rw [ea] at S1 CM hA hB hg0 ha
  rw [eb] at S2 CM hA hB hg0 hb
  obtain ⟨g, eg⟩ : ∃ g, Nat.gcd a b = g := ⟨_, rfl⟩
  rw [eg] at CM hA hB hg0
  have hAl : A ≤ a := by rw [← hA]; exact Nat.div_le_self _ _
  have hBl : B ≤ b := by rw [← hB]; exact Nat.div_le_self _ _
  have Q1 := quo_u64 a g A ha hA
  have Q2 := quo_u64 b g B hb hB
  have hgi : (0 : Int) < (g : Int) := by omega
  have SG := rat_signed_neg A (by omega)
  have SH := rat_signed_pos B (by omega)
  have hne : (d == 0) = false := by simp [h0]
  obtain ⟨o1, eo1⟩ : ∃ o, decide ((A : Int) ≤ 9223372036854775808) = o := ⟨_, rfl⟩
  obtain ⟨o2, eo2⟩ : ∃ o, decide ((B : Int) ≤ 9223372036854775807) = o := ⟨_, rfl⟩
  have EO1 := Lib.hid eo1
  have EO2 := Lib.hid eo2
  have t1 := Rx.new w (.int .i64 0) (.int .i64 0) _ rfl
  have hB1 : Below w.heap.size w (w.alloc (.cells #[.int .i64 0, .int .i64 0] 25)) := (by repeat' (first | (with_reducible exact Below.refl _ _) | (with_reducible assumption) | (with_reducible refine below_alloc ?_ _ ?_) | (with_reducible refine below_set _ ?_ ?_) | (with_reducible refine Below.drew ?_) | (with_reducible refine below_dN ?_ _) | (apply below_thenA; assumption) | omega | (simp; done) | (simp; omega) | (simp [*]; done)))
  clear ea eb eg hA hB eo1 eo2 hda hg0
  have hzb : (n != 0) = true := by simp [hz]
  rcases hs with ⟨s1, s2⟩ | ⟨s1, s2⟩
  · have f1 : decide (n < 0) = true := by simp [s1]
    have f2 : decide (d < 0) = false := by simp; omega
    go_enter Tryd.func19, Tryd.ntmps19
    go_wp2_with fail
    refine (S1 _).mono ?_
    rintro e w1 ⟨rfl, rfl⟩
    go_wp2_with fail
    refine (S2 _).mono ?_
    rintro e w1 ⟨rfl, rfl⟩
    go_wp2_with fail
    refine (CM _).mono ?_
    rintro e w2 ⟨rfl, hb2⟩
    have t2 := t1.below hb2
    have hB2 := hB1.trans (hb2.mono hB1.size)
    go_wp2_with fail
    refine (SG _).mono ?_
    rintro e w3 ⟨⟨v, rfl, hv⟩, rfl⟩
    have HV := Lib.hid hv
    clear hv
    rw [EO1.out]
    go_wp2_with fail
    refine (SH _).mono ?_
    rintro e w4 ⟨⟨u, rfl, hu⟩, rfl⟩
    have HU := Lib.hid hu
    clear hu
    rw [EO2.out]
    obtain ⟨p1, p2, p3, p4⟩ := t2.cells
    have l2 := t2.lt
    cases o1
    · go_wp2_with fail
      (go_light; simp [bodyPost, results, Tryd.results19, go_sem, *])
      exact OfAns.none (fun x => absurd x.1 (by have := EO1.out; simpa [limR] using this)) (BP2 hB2)
    · cases o2
      · go_wp2_with fail
        (go_light; simp [bodyPost, results, Tryd.results19, go_sem, *])
        exact OfAns.none (fun x => absurd x.2 (by have := EO2.out; simpa using this)) (BP2 hB2)
      · go_wp2_with fail
        (go_light; simp [bodyPost, results, Tryd.results19, go_sem, *])
        have k1 := of_decide_eq_true EO1.out
        have k2 := of_decide_eq_true EO2.out
        exact OfAns.both (by simpa [limR] using k1) k2 (by rw [HV.out (by omega)]; rfl) (HU.out (by omega)) (BP2 hB2)
  · have f1 : decide (n < 0) = false := by simp; omega
    have f2 : decide (d < 0) = true := by simp [s2]
    go_enter Tryd.func19, Tryd.ntmps19
    go_wp2_with fail
    refine (S1 _).mono ?_
    rintro e w1 ⟨rfl, rfl⟩
    go_wp2_with fail
    refine (S2 _).mono ?_
    rintro e w1 ⟨rfl, rfl⟩
    go_wp2_with fail
    refine (CM _).mono ?_
    rintro e w2 ⟨rfl, hb2⟩
    have t2 := t1.below hb2
    have hB2 := hB1.trans (hb2.mono hB1.size)
    go_wp2_with fail
    refine (SG _).mono ?_
    rintro e w3 ⟨⟨v, rfl, hv⟩, rfl⟩
    have HV := Lib.hid hv
    clear hv
    rw [EO1.out]
    go_wp2_with fail
    refine (SH _).mono ?_
    rintro e w4 ⟨⟨u, rfl, hu⟩, rfl⟩
    have HU := Lib.hid hu
    clear hu
    rw [EO2.out]
    obtain ⟨p1, p2, p3, p4⟩ := t2.cells
    have l2 := t2.lt
    cases o1
    · go_wp2_with fail
      (go_light; simp [bodyPost, results, Tryd.results19, go_sem, *])
      exact OfAns.none (fun x => absurd x.1 (by have := EO1.out; simpa [limR] using this)) (BP2 hB2)
    · cases o2
      · go_wp2_with fail
        (go_light; simp [bodyPost, results, Tryd.results19, go_sem, *])
        exact OfAns.none (fun x => absurd x.2 (by have := EO2.out; simpa using this)) (BP2 hB2)
      · go_wp2_with fail
        (go_light; simp [bodyPost, results, Tryd.results19, go_sem, *])
        have k1 := of_decide_eq_true EO1.out
        have k2 := of_decide_eq_true EO2.out
        exact OfAns.both (by simpa [limR] using k1) k2 (by rw [HV.out (by omega)]; rfl) (HU.out (by omega)) (BP2 hB2)

set_option maxRecDepth 100000 in
set_option maxHeartbeats 3200000 in
theorem rat_of_pos (n d : Int) (hn : IFit n) (hd : IFit d) (h0 : d ≠ 0) (hs : n = 0 ∨ (n < 0 ∧ d < 0) ∨ (0 < n ∧ 0 < d)) (A B : Nat) (hA : n.natAbs / Nat.gcd n.natAbs d.natAbs = A) (hB : d.natAbs / Nat.gcd n.natAbs d.natAbs = B) (w : World) :
    Calls Tryd.prog 19 #[.int .i64 n, .int .i64 d] w (OfAns false A B w) := by
  have S1 := rat_size n hn
  have S2 := rat_size d hd
  have hda : 0 < d.natAbs := by omega
  obtain ⟨x1, x2⟩ := hn
  obtain ⟨y1, y2⟩ := hd
  have ha : n.natAbs < 18446744073709551616 := by omega
  have hb : d.natAbs < 18446744073709551616 := by omega
  have hg0 : 0 < Nat.gcd n.natAbs d.natAbs := Nat.gcd_pos_of_pos_right _ hda
  have CM := rat_common n.natAbs d.natAbs ha hb
  obtain ⟨a, ea⟩ : ∃ a, n.natAbs = a := ⟨_, rfl⟩
  obtain ⟨b, eb⟩ : ∃ b, d.natAbs = b := ⟨_, rfl⟩
  rw [ea] at S1 CM hA hB hg0 ha
  rw [eb] at S2 CM hA hB hg0 hb
  obtain ⟨g, eg⟩ : ∃ g, Nat.gcd a b = g := ⟨_, rfl⟩
  rw [eg] at CM hA hB hg0
  have hAl : A ≤ a := by rw [← hA]; exact Nat.div_le_self _ _
  have hBl : B ≤ b := by rw [← hB]; exact Nat.div_le_self _ _
  have Q1 := quo_u64 a g A ha hA
  have Q2 := quo_u64 b g B hb hB
  have hgi : (0 : Int) < (g : Int) := by omega
  have SG := rat_signed_pos A (by omega)
  have SH := rat_signed_pos B (by omega)
  have hne : (d == 0) = false := by simp [h0]
  obtain ⟨o1, eo1⟩ : ∃ o, decide ((A : Int) ≤ 9223372036854775807) = o := ⟨_, rfl⟩
  obtain ⟨o2, eo2⟩ : ∃ o, decide ((B : Int) ≤ 9223372036854775807) = o := ⟨_, rfl⟩
  have EO1 := Lib.hid eo1
  have EO2 := Lib.hid eo2
  have t1 := Rx.new w (.int .i64 0) (.int .i64 0) _ rfl
  have hB1 : Below w.heap.size w (w.alloc (.cells #[.int .i64 0, .int .i64 0] 25)) := (by repeat' (first | (with_reducible exact Below.refl _ _) | (with_reducible assumption) | (with_reducible refine below_alloc ?_ _ ?_) | (with_reducible refine below_set _ ?_ ?_) | (with_reducible refine Below.drew ?_) | (with_reducible refine below_dN ?_ _) | (apply below_thenA; assumption) | omega | (simp; done) | (simp; omega) | (simp [*]; done)))
  clear ea eb eg hA hB eo1 eo2 hda hg0
  rcases hs with rfl | ⟨s1, s2⟩ | ⟨s1, s2⟩
  · clear x1 x2
    go_enter Tryd.func19, Tryd.ntmps19
    go_wp2_with fail
    refine (S1 _).mono ?_
    rintro e w1 ⟨rfl, rfl⟩
    go_wp2_with fail
    refine (S2 _).mono ?_
    rintro e w1 ⟨rfl, rfl⟩
    go_wp2_with fail
    refine (CM _).mono ?_
    rintro e w2 ⟨rfl, hb2⟩
    have t2 := t1.below hb2
    have hB2 := hB1.trans (hb2.mono hB1.size)
    go_wp2_with fail
    refine (SG _).mono ?_
    rintro e w3 ⟨⟨v, rfl, hv⟩, rfl⟩
    have HV := Lib.hid hv
    clear hv
    rw [EO1.out]
    go_wp2_with fail
    refine (SH _).mono ?_
    rintro e w4 ⟨⟨u, rfl, hu⟩, rfl⟩
    have HU := Lib.hid hu
    clear hu
    rw [EO2.out]
    obtain ⟨p1, p2, p3, p4⟩ := t2.cells
    have l2 := t2.lt
    cases o1
    · go_wp2_with fail
      (go_light; simp [bodyPost, results, Tryd.results19, go_sem, *])
      exact OfAns.none (fun x => absurd x.1 (by have := EO1.out; simpa [limR] using this)) (BP2 hB2)
    · cases o2
      · go_wp2_with fail
        (go_light; simp [bodyPost, results, Tryd.results19, go_sem, *])
        exact OfAns.none (fun x => absurd x.2 (by have := EO2.out; simpa using this)) (BP2 hB2)
      · go_wp2_with fail
        (go_light; simp [bodyPost, results, Tryd.results19, go_sem, *])
        have k1 := of_decide_eq_true EO1.out
        have k2 := of_decide_eq_true EO2.out
        exact OfAns.both (by simpa [limR] using k1) k2 (by rw [HV.out (by omega)]; rfl) (HU.out (by omega)) (BP2 hB2)
  · have hzb : (n != 0) = true := by simp; omega
    have f1 : decide (n < 0) = true := by simp [s1]
    have f2 : decide (d < 0) = true := by simp [s2]
    go_enter Tryd.func19, Tryd.ntmps19
    go_wp2_with fail
    refine (S1 _).mono ?_
    rintro e w1 ⟨rfl, rfl⟩
    go_wp2_with fail
    refine (S2 _).mono ?_
    rintro e w1 ⟨rfl, rfl⟩
    go_wp2_with fail
    refine (CM _).mono ?_
    rintro e w2 ⟨rfl, hb2⟩
    have t2 := t1.below hb2
    have hB2 := hB1.trans (hb2.mono hB1.size)
    go_wp2_with fail
    refine (SG _).mono ?_
    rintro e w3 ⟨⟨v, rfl, hv⟩, rfl⟩
    have HV := Lib.hid hv
    clear hv
    rw [EO1.out]
    go_wp2_with fail
    refine (SH _).mono ?_
    rintro e w4 ⟨⟨u, rfl, hu⟩, rfl⟩
    have HU := Lib.hid hu
    clear hu
    rw [EO2.out]
    obtain ⟨p1, p2, p3, p4⟩ := t2.cells
    have l2 := t2.lt
    cases o1
    · go_wp2_with fail
      (go_light; simp [bodyPost, results, Tryd.results19, go_sem, *])
      exact OfAns.none (fun x => absurd x.1 (by have := EO1.out; simpa [limR] using this)) (BP2 hB2)
    · cases o2
      · go_wp2_with fail
        (go_light; simp [bodyPost, results, Tryd.results19, go_sem, *])
        exact OfAns.none (fun x => absurd x.2 (by have := EO2.out; simpa using this)) (BP2 hB2)
      · go_wp2_with fail
        (go_light; simp [bodyPost, results, Tryd.results19, go_sem, *])
        have k1 := of_decide_eq_true EO1.out
        have k2 := of_decide_eq_true EO2.out
        exact OfAns.both (by simpa [limR] using k1) k2 (by rw [HV.out (by omega)]; rfl) (HU.out (by omega)) (BP2 hB2)
  · have hzb : (n != 0) = true := by simp; omega
    have f1 : decide (n < 0) = false := by simp; omega
    have f2 : decide (d < 0) = false := by simp; omega
    go_enter Tryd.func19, Tryd.ntmps19
    go_wp2_with fail
    refine (S1 _).mono ?_
    rintro e w1 ⟨rfl, rfl⟩
    go_wp2_with fail
    refine (S2 _).mono ?_
    rintro e w1 ⟨rfl, rfl⟩
    go_wp2_with fail
    refine (CM _).mono ?_
    rintro e w2 ⟨rfl, hb2⟩
    have t2 := t1.below hb2
    have hB2 := hB1.trans (hb2.mono hB1.size)
    go_wp2_with fail
    refine (SG _).mono ?_
    rintro e w3 ⟨⟨v, rfl, hv⟩, rfl⟩
    have HV := Lib.hid hv
    clear hv
    rw [EO1.out]
    go_wp2_with fail
    refine (SH _).mono ?_
    rintro e w4 ⟨⟨u, rfl, hu⟩, rfl⟩
    have HU := Lib.hid hu
    clear hu
    rw [EO2.out]
    obtain ⟨p1, p2, p3, p4⟩ := t2.cells
    have l2 := t2.lt
    cases o1
    · go_wp2_with fail
      (go_light; simp [bodyPost, results, Tryd.results19, go_sem, *])
      exact OfAns.none (fun x => absurd x.1 (by have := EO1.out; simpa [limR] using this)) (BP2 hB2)
    · cases o2
      · go_wp2_with fail
        (go_light; simp [bodyPost, results, Tryd.results19, go_sem, *])
        exact OfAns.none (fun x => absurd x.2 (by have := EO2.out; simpa using this)) (BP2 hB2)
      · go_wp2_with fail
        (go_light; simp [bodyPost, results, Tryd.results19, go_sem, *])
        have k1 := of_decide_eq_true EO1.out
        have k2 := of_decide_eq_true EO2.out
        exact OfAns.both (by simpa [limR] using k1) k2 (by rw [HV.out (by omega)]; rfl) (HU.out (by omega)) (BP2 hB2)
end Go.Proofs.YtmkblfejoniccaaDoor
namespace Go.Proofs.YtmkblfejoniccaaDoor
open Go.RowKit
set_option linter.unusedSimpArgs false
set_option linter.unusedVariables false

/-- May a ratio be? -/
def goodB (N D : Int) : Bool := decide (1 ≤ D) && ((Nat.gcd N.natAbs D.natAbs : Int) == 1)
theorem below_undrew' {w w' : World} (h : Below w.drew.heap.size w.drew w') : Below w.heap.size w w' := (Below.drew (Below.refl _ _)).trans h
set_option maxRecDepth 100000 in
set_option maxHeartbeats 1600000 in
theorem rat_good (N D : Int) (hN : IFit N) (hD : IFit D) (w : World) :
    Calls Tryd.prog 18 #[.agg #[.int .i64 N, .int .i64 D]] w fun e w' => e = .returned (.bool (goodB N D)) ∧ Below w.heap.size w w' := by
  have S1 := rat_size N hN
  have S2 := rat_size D hD
  have ha : N.natAbs < 18446744073709551616 := by unfold IFit at hN; omega
  have hb : D.natAbs < 18446744073709551616 := by unfold IFit at hD; omega
  have CM := rat_common N.natAbs D.natAbs ha hb
  have hG : goodB N D = (decide (1 ≤ D) && ((Nat.gcd N.natAbs D.natAbs : Int) == 1)) := rfl
  obtain ⟨G, eG⟩ : ∃ G, goodB N D = G := ⟨_, rfl⟩
  rw [eG] at hG ⊢
  obtain ⟨a, ea⟩ : ∃ a, N.natAbs = a := ⟨_, rfl⟩
  obtain ⟨b, eb⟩ : ∃ b, D.natAbs = b := ⟨_, rfl⟩
  rw [ea] at S1 CM ha hG
  rw [eb] at S2 CM hb hG
  obtain ⟨g, eg⟩ : ∃ g, Nat.gcd a b = g := ⟨_, rfl⟩
  rw [eg] at CM hG
  have HG := Lib.hid hG
  have t := Rx.new w (.int .i64 N) (.int .i64 D) _ rfl
  have hB : Below w.heap.size w (w.alloc (.cells #[.int .i64 N, .int .i64 D] 25)) := (by repeat' (first | (with_reducible exact Below.refl _ _) | (with_reducible assumption) | (with_reducible refine below_alloc ?_ _ ?_) | (with_reducible refine below_set _ ?_ ?_) | (with_reducible refine Below.drew ?_) | (with_reducible refine below_dN ?_ _) | (apply below_thenA; assumption) | omega | (simp; done) | (simp; omega) | (simp [*]; done)))
  obtain ⟨p1, p2, p3, p4⟩ := t.cells
  clear eG ea eb eg hG hN hD ha hb
  by_cases hd : 1 ≤ D
  · have d1 : decide (1 ≤ D) = true := by simp [hd]
    go_enter Tryd.func18, Tryd.ntmps18
    go_wp2_with fail
    go_region_held3 (fun w' => w'.cell? ⟨w.heap.size, 0, none⟩ = some (.int .i64 N) ∧ w'.cell? ⟨w.heap.size, 1, none⟩ = some (.int .i64 D))
      (first | exact ⟨p1, p2⟩ | go_keep)
      (first
      | (go_at_call 54; with_reducible refine (S1 _).mono ?_; rintro e w1 ⟨rfl, rfl⟩)
      | (go_at_call 54; with_reducible refine (S2 _).mono ?_; rintro e w1 ⟨rfl, rfl⟩)
      | (go_at_call 53; with_reducible refine (CM _).mono ?_; rintro e w2 ⟨rfl, hb2⟩; replace hb2 := below_undrew' hb2; replace t := t.below hb2; replace hB := hB.trans (hb2.mono hB.size); obtain ⟨p1, p2, p3, p4⟩ := t.cells))
    go_wp2_with fail
    go_ret
    exact ⟨by rw [HG.out, d1]; rfl, hB⟩
  · have d1 : decide (1 ≤ D) = false := by simp; omega
    go_enter Tryd.func18, Tryd.ntmps18
    go_wp2_with fail
    go_quiet (fail)
    go_wp2_with fail
    go_ret
    exact ⟨by rw [HG.out, d1]; rfl, (by repeat' (first | (with_reducible exact Below.refl _ _) | (with_reducible assumption) | (with_reducible refine below_alloc ?_ _ ?_) | (with_reducible refine below_set _ ?_ ?_) | (with_reducible refine Below.drew ?_) | (with_reducible refine below_dN ?_ _) | (apply below_thenA; assumption) | omega | (simp; done) | (simp; omega) | (simp [*]; done)))⟩
/-- What Down answers. -/
def DownAns (x N D : Int) (w : World) (e : Ending) (w' : World) : Prop :=
  (goodB N D = false → e = .returned (.tuple #[.int .i64 0, .int .i64 1])) ∧ (goodB N D = true → IFit (fq (x * N) D) → e = .returned (.tuple #[.int .i64 (fq (x * N) D), .int .i64 0])) ∧
  (goodB N D = true → ¬ IFit (fq (x * N) D) → e = .returned (.tuple #[.int .i64 0, .int .i64 2])) ∧ Below w.heap.size w w'
set_option maxRecDepth 100000 in
set_option maxHeartbeats 1600000 in
theorem rat_down (x N D : Int) (hx : IFit x) (hN : IFit N) (hD : IFit D) (w : World) :
    Calls Tryd.prog 104 #[.agg #[.int .i64 N, .int .i64 D], .int .i64 x] w (DownAns x N D w) := by
  have GD := rat_good N D hN hD
  have hDN : goodB N D = true → D ≠ 0 := fun h => by unfold goodB at h; simp at h; omega
  have t := Rx.new w (.int .i64 N) (.int .i64 D) _ rfl
  have hB : Below w.heap.size w (w.alloc (.cells #[.int .i64 N, .int .i64 D] 25)) := (by repeat' (first | (with_reducible exact Below.refl _ _) | (with_reducible assumption) | (with_reducible refine below_alloc ?_ _ ?_) | (with_reducible refine below_set _ ?_ ?_) | (with_reducible refine Below.drew ?_) | (with_reducible refine below_dN ?_ _) | (apply below_thenA; assumption) | omega | (simp; done) | (simp; omega) | (simp [*]; done)))
  have MF := wide_muldiv_fit x N D hx hN hD
  have MN := wide_muldiv_no x N D hx hN hD
  have hans : ∀ e w', (goodB N D = false → e = .returned (.tuple #[.int .i64 0, .int .i64 1])) → (goodB N D = true → IFit (fq (x * N) D) → e = .returned (.tuple #[.int .i64 (fq (x * N) D), .int .i64 0])) → (goodB N D = true → ¬ IFit (fq (x * N) D) → e = .returned (.tuple #[.int .i64 0, .int .i64 2])) → Below w.heap.size w w' → DownAns x N D w e w' := fun e w' a b c d => ⟨a, b, c, d⟩
  obtain ⟨p1, p2, p3, p4⟩ := t.cells
  by_cases hg : goodB N D = true
  · have h0 := hDN hg
    by_cases hf : IFit (fq (x * N) D)
    · have MM := MF ⟨h0, hf⟩
      rw [hg] at GD
      have HA := Lib.hid hans
      have HGG := Lib.hid hg
      obtain ⟨F, eF⟩ : ∃ F, fq (x * N) D = F := ⟨_, rfl⟩
      rw [eF] at MM
      have EF := Lib.hid eF
      have HF := Lib.hid hf
      clear hans hg h0 hDN MF MN eF hf
      go_enter Tryd.func104, Tryd.ntmps104
      go_wp2_with fail
      refine (GD _).mono ?_
      rintro e w1 ⟨rfl, hb1⟩
      replace t := t.below hb1
      replace hB := hB.trans (hb1.mono hB.size)
      clear p1 p2 p3 p4
      obtain ⟨p1, p2, p3, p4⟩ := t.cells
      go_wp2_with fail
      refine (MM _).mono ?_
      rintro e w2 ⟨rfl, hb2⟩
      replace hB := hB.trans (hb2.mono hB.size)
      go_wp2_with fail
      go_ret2
      exact HA.out _ _ (fun h => by rw [HGG.out] at h; cases h) (fun _ _ => by rw [EF.out]; rfl) (fun _ h => absurd HF.out h) hB
    · have MM := MN (fun h => hf h.2)
      rw [hg] at GD
      have HA := Lib.hid hans
      have HGG := Lib.hid hg
      have HF := Lib.hid hf
      clear hans hg h0 hDN MF MN hf
      go_enter Tryd.func104, Tryd.ntmps104
      go_wp2_with fail
      refine (GD _).mono ?_
      rintro e w1 ⟨rfl, hb1⟩
      replace t := t.below hb1
      replace hB := hB.trans (hb1.mono hB.size)
      clear p1 p2 p3 p4
      obtain ⟨p1, p2, p3, p4⟩ := t.cells
      go_wp2_with fail
      refine (MM _).mono ?_
      rintro e w2 ⟨rfl, hb2⟩
      replace hB := hB.trans (hb2.mono hB.size)
      go_wp2_with fail
      go_ret2
      exact HA.out _ _ (fun h => by rw [HGG.out] at h; cases h) (fun _ h => absurd h HF.out) (fun _ _ => rfl) hB
  · have hg' : goodB N D = false := by simpa using hg
    rw [hg'] at GD
    have HA := Lib.hid hans
    have HGG := Lib.hid hg'
    clear hans hg hg' hDN MF MN
    go_enter Tryd.func104, Tryd.ntmps104
    go_wp2_with fail
    refine (GD _).mono ?_
    rintro e w1 ⟨rfl, hb1⟩
    replace hB := hB.trans (hb1.mono hB.size)
    go_wp2_with fail
    go_ret2
    exact HA.out _ _ (fun _ => rfl) (fun h => by rw [HGG.out] at h; cases h) (fun h => by rw [HGG.out] at h; cases h) hB
end Go.Proofs.YtmkblfejoniccaaDoor
namespace Go.Proofs.YtmkblfejoniccaaDoor.BM
/-- One bit more: the divisor goes in once more, or not. -/
theorem div_step {N q r B b : Nat} (h : q * B + r = N) (hr : r < B) (hb : b < 2) :
    (B ≤ 2 * r + b → (2 * q + 1) * B + (2 * r + b - B) = 2 * N + b ∧ 2 * r + b - B < B) ∧ (2 * r + b < B → (2 * q) * B + (2 * r + b) = 2 * N + b) := by
  have e1 : (2 * q + 1) * B = 2 * (q * B) + B := by rw [Nat.add_mul, Nat.mul_assoc]; omega
  have e2 : (2 * q) * B = 2 * (q * B) := Nat.mul_assoc 2 q B
  rw [e1, e2]
  omega
theorem bit_lt (d m : Nat) : d / m % 2 < 2 := Nat.mod_lt _ (by decide)
theorem bit_split (d s : Nat) : d / 2 ^ s = 2 * (d / 2 ^ (s + 1)) + d / 2 ^ s % 2 := by
  rw [Nat.pow_succ, ← Nat.div_div_eq_div_mul]
  omega
/-- What has been taken of the number, with so many bits of its next piece to come. -/
def seen (H d s : Nat) : Nat := H * 2 ^ (16 - s) + d / 2 ^ s
theorem seen_top (H d : Nat) (hd : d < 65536) : seen H d 16 = H := by
  unfold seen
  rw [Nat.div_eq_of_lt (by simpa using hd)]; simp
theorem seen_end (H d : Nat) : seen H d 0 = d + 65536 * H := by
  unfold seen; simp; omega
theorem seen_step (H d s : Nat) (hs : s < 16) : seen H d s = 2 * seen H d (s + 1) + d / 2 ^ s % 2 := by
  unfold seen
  have e : 16 - s = 16 - (s + 1) + 1 := by omega
  rw [e, Nat.pow_succ, ← Nat.mul_assoc]
  have := bit_split d s
  omega
theorem half_pow (s : Nat) : 2 ^ (s + 1) / 2 = 2 ^ s := by rw [Nat.pow_succ]; omega
theorem div_end {q r A B : Nat} (h : q * B + r = A) (hr : r < B) : q = A / B ∧ r = A % B := by
  have hB : 0 < B := by omega
  constructor
  · rw [← h, Nat.mul_comm, Nat.mul_add_div hB, Nat.div_eq_of_lt hr]; rfl
  · rw [← h, Nat.mul_comm, Nat.mul_add_mod, Nat.mod_eq_of_lt hr]
end Go.Proofs.YtmkblfejoniccaaDoor.BM
namespace Go.Proofs.YtmkblfejoniccaaDoor
theorem absI_sgn (neg : Bool) (n : Nat) : absI (sgn neg n) = (n : Int) := by unfold absI; cases neg <;> simp [sgn] <;> omega
theorem sgn_lt {neg : Bool} {n : Nat} (h : neg = true → n ≠ 0) : sgn neg n < 0 ↔ neg = true := by
  cases neg
  · simp [sgn]
  · have := h rfl; simp [sgn]; omega
/-- Down by the quotient of sizes. -/
theorem down_q {na nb : Bool} {x y : Nat} (ha : na = true → x ≠ 0) (hb : nb = true → y ≠ 0) (hy : 0 < y) :
    (na = nb → fq (sgn na x) (sgn nb y) = ((x / y : Nat) : Int)) ∧
    (na ≠ nb → x % y = 0 → fq (sgn na x) (sgn nb y) = -((x / y : Nat) : Int)) ∧
    (na ≠ nb → 0 < x % y → fq (sgn na x) (sgn nb y) = -((x / y : Nat) : Int) + -1) := by
  have hd : sgn nb y ≠ 0 := by cases nb <;> simp [sgn] <;> omega
  obtain ⟨f1, f2, f3⟩ := fq_size (a := sgn na x) hd
  rw [absI_sgn, absI_sgn] at f1 f2 f3
  have s1 := sgn_lt ha
  have s2 := sgn_lt hb
  refine ⟨fun e => ?_, fun e hz => ?_, fun e hz => ?_⟩
  · rw [(f1 (by rw [s1, s2, e])).1]; rfl
  · rw [(f2 (by rw [s1, s2]; intro h; exact e (Bool.eq_iff_iff.2 h)) (by rw [← Int.natCast_emod, hz]; rfl)).1]; rfl
  · rw [(f3 (by rw [s1, s2]; intro h; exact e (Bool.eq_iff_iff.2 h)) (by rw [← Int.natCast_emod]; omega)).1, ← Int.natCast_ediv]; omega
end Go.Proofs.YtmkblfejoniccaaDoor
