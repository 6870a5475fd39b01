/-
  The reference's whole numbers, each function by its contract. Thirteenth part: Int.
-/
/-
  Plain facts on a long division bit by bit, and on quotients that are rounded down.
-/
/-
  The reference's whole numbers, each function by its contract. Fourteenth part: divided, a quotient of sizes.
-/
/-
  The reference's whole numbers, each function by its contract. Fifteenth part: Down, a quotient rounded down and its rest.
-/
/-
  The reference of layer 2, each function by its contract. First part: Common, the greatest common divisor.
-/
import Derived.Test.YtmkblfejoniccaaDoorZ4
import Derived.Test.YtmkblfejoniccaaDoorZ3
import Derived.Test.YtmkblfejoniccaaDoorZ2
namespace Go.Proofs.YtmkblfejoniccaaDoor
open Go.RowKit
set_option linter.unusedSimpArgs false
set_option linter.unusedVariables false

def intB (X : Int) : Bool := decide (-9223372036854775808 ≤ X) && decide (X < 9223372036854775808)
/-- The int, or 0. -/
def intV (X : Int) : Int := if intB X then X else 0
theorem intB_lo {X : Int} (h : cmpI X (-9223372036854775808) < 0) : intB X = false := by
  unfold cmpI at h
  unfold intB
  have : X < -9223372036854775808 := by
    by_cases h1 : X < -9223372036854775808
    · exact h1
    · rw [if_neg h1] at h; split at h <;> omega
  simp; omega
theorem intB_hi {X : Int} (h : 0 ≤ cmpI X (-9223372036854775808)) : intB X = decide (cmpI X 9223372036854775808 < 0) := by
  unfold cmpI at *
  unfold intB
  have : -9223372036854775808 ≤ X := by
    by_cases h1 : X < -9223372036854775808
    · rw [if_pos h1] at h; omega
    · omega
  by_cases h2 : X < 9223372036854775808
  · simp [h2, this]
  · simp [h2]; split <;> simp
theorem intB_fit {X : Int} (h : intB X = true) : -9223372036854775808 ≤ X ∧ X ≤ 9223372036854775807 := by
  unfold intB at h; simp at h; omega
theorem bval_drop_le (ds : List Nat) (j : Nat) (hj : j ≤ ds.length) : BM.bval (ds.drop j) ≤ BM.bval ds := by
  rw [BM.bval_split ds j hj]
  have : 1 * BM.bval (ds.drop j) ≤ 65536 ^ j * BM.bval (ds.drop j) := Nat.mul_le_mul_right _ (Nat.pow_pos (by decide))
  omega
def IntRel (neg : Bool) (ao : Option Addr) (k cap : Nat) (ds : List Nat) (w : World) (g : Nat) (s5 s6 : Value) (wr : World) : Prop :=
  ∃ (j v : Nat), j ≤ k ∧ g = j ∧ s6 = .int .i64 ((j : Int) - 1) ∧ v = BM.bval (ds.drop j) ∧ s5 = .int .i64 (sgn neg v) ∧
    Two wr w.heap.size (.bool neg) (.slice ao k cap) ∧ Below w.heap.size w wr

set_option maxRecDepth 100000 in
set_option maxHeartbeats 1600000 in
theorem big_int (neg : Bool) (ao : Option Addr) (k cap : Nat) (X : Int) (w : World) (h : IsBig w neg ao k cap X) (hk : k ≤ 100000) :
    Calls Tryd.prog 69 #[.agg #[.bool neg, .slice ao k cap]] w fun e w' => e = .returned (.tuple #[.int .i64 (intV X), .bool (intB X)]) ∧ Below w.heap.size w w' := by
  obtain ⟨P, eP'⟩ : ∃ P : Int, P = 9223372036854775808 := ⟨_, rfl⟩
  have eP : P = ((2 ^ 63 : Nat) : Int) := by rw [eP']; decide
  have hp1 : 63 ≤ 3000 := by omega
  have sP : BM.Sz P 4 := by rw [eP']; unfold BM.Sz; decide
  obtain ⟨c1, e1⟩ : ∃ c1, c1 = cmpI X (-P) := ⟨_, rfl⟩
  obtain ⟨c2, e2⟩ : ∃ c2, c2 = cmpI X P := ⟨_, rfl⟩
  have E1 := Lib.hid e1.symm
  have E2 := Lib.hid e2.symm
  have hA : c1 < 0 → intB X = false := fun h => intB_lo (by rw [← eP', ← e1]; exact h)
  have hB : 0 ≤ c1 → intB X = decide (c2 < 0) := fun h => by rw [intB_hi (by rw [← eP', ← e1]; exact h), ← eP', ← e2]
  have t0 : Two (w.alloc (.cells #[.bool neg, .slice ao k cap] 41)) w.heap.size (.bool neg) (.slice ao k cap) := Two.new w _ _ _ rfl
  clear eP' e1 e2
  by_cases hc : 0 ≤ c1
  · have hB' := Lib.hid (hB hc)
    have hcn : ¬ c1 < 0 := by omega
    have hd : decide (c1 < 0) = false := by simp [hcn]
    clear hA hB
    by_cases hc2 : c2 < 0
    · have hd2 : decide (0 ≤ c2) = false := by simp; omega
      have hV : intB X = true := by rw [hB'.out]; simp [hc2]
      have hfit := intB_fit hV
      have HVV := Lib.hid hV
      have HV2 := Lib.hid (show intV X = X by unfold intV; rw [hV]; rfl)
      clear hV
      have h' := h
      obtain ⟨ds, h1, h2, h3, hXe⟩ := h'
      have HX := Lib.hid hXe
      clear hXe
      have LD := Lib.hid h1.len
      have HF := Lib.hid hfit
      clear hfit
      go_enter Tryd.func69, Tryd.ntmps69
      go_wp2_with fail
      refine (big_power_lit 63 63 rfl hp1 P eP _).mono ?_
      rintro e w1 ⟨n1, a1, k1, c1', rfl, hI1, hb1⟩
      replace t0 := t0.below hb1
      go_wp2_with fail
      refine (big_minus n1 a1 k1 c1' P _ hI1 (by have := hI1.le sP; omega)).mono ?_
      rintro e w2 ⟨m3, b3, j3, d3, rfl, hM, hb2⟩
      replace t0 := t0.below hb2
      have hM' := hM.keep (w' := w2.alloc (.cells #[.bool m3, .slice b3 j3 d3] 41)) (by repeat' (first | (with_reducible exact Below.refl _ _) | (with_reducible assumption) | (with_reducible refine below_alloc ?_ _ ?_) | (with_reducible refine below_set _ ?_ ?_) | (with_reducible refine Below.drew ?_) | (with_reducible refine below_dN ?_ _) | (apply below_thenA; assumption) | omega | (simp; done) | (simp; omega) | (simp [*]; done)))
      have hx2 := (((h.keep (w' := w.alloc (.cells #[.bool neg, .slice ao k cap] 41)) (by repeat' (first | (with_reducible exact Below.refl _ _) | (with_reducible assumption) | (with_reducible refine below_alloc ?_ _ ?_) | (with_reducible refine below_set _ ?_ ?_) | (with_reducible refine Below.drew ?_) | (with_reducible refine below_dN ?_ _) | (apply below_thenA; assumption) | omega | (simp; done) | (simp; omega) | (simp [*]; done)))).keep hb1).keep hb2).keep (w' := w2.alloc (.cells #[.bool m3, .slice b3 j3 d3] 41)) (by repeat' (first | (with_reducible exact Below.refl _ _) | (with_reducible assumption) | (with_reducible refine below_alloc ?_ _ ?_) | (with_reducible refine below_set _ ?_ ?_) | (with_reducible refine Below.drew ?_) | (with_reducible refine below_dN ?_ _) | (apply below_thenA; assumption) | omega | (simp; done) | (simp; omega) | (simp [*]; done)))
      have hs1 : w.heap.size + 1 ≤ w1.heap.size := by have := hb1.size; simpa using this
      have hs2 := hb2.size
      have hB2 : Below w.heap.size w (w2.alloc (.cells #[.bool m3, .slice b3 j3 d3] 41)) := (by repeat' (first | (with_reducible exact Below.refl _ _) | (with_reducible assumption) | (with_reducible refine below_alloc ?_ _ ?_) | (with_reducible refine below_set _ ?_ ?_) | (with_reducible refine Below.drew ?_) | (with_reducible refine below_dN ?_ _) | (apply below_thenA; assumption) | omega | (simp; done) | (simp; omega) | (simp [*]; done)))
      replace t0 := t0.alloc (.cells #[.bool m3, .slice b3 j3 d3] 41)
      have t1 : Two (w2.alloc (.cells #[.bool m3, .slice b3 j3 d3] 41)) w2.heap.size (.bool m3) (.slice b3 j3 d3) := Two.new w2 _ _ _ rfl
      have hq : Below (w2.alloc (.cells #[.bool m3, .slice b3 j3 d3] 41)).heap.size (w2.alloc (.cells #[.bool m3, .slice b3 j3 d3] 41)) (w2.alloc (.cells #[.bool m3, .slice b3 j3 d3] 41)) := Below.refl _ _
      have hfin : ∀ w', Below (w2.alloc (.cells #[.bool m3, .slice b3 j3 d3] 41)).heap.size (w2.alloc (.cells #[.bool m3, .slice b3 j3 d3] 41)) w' → Below w.heap.size w w' := fun w' h' => hB2.trans (h'.mono hB2.size)
      clear hb1 hb2 hB2 hI1 hM hs1 hs2
      have hM := hM'
      have hx := hx2
      clear hM' hx2
      obtain ⟨q1, q2, q3, q4⟩ := t0.cells
      obtain ⟨r1, r2, r3, r4⟩ := t1.cells
      go_wp2_with fail
      go_region_held3 (fun w' => w'.cell? ⟨w.heap.size, 0, none⟩ = some (.bool neg) ∧ w'.cell? ⟨w.heap.size, 1, none⟩ = some (.slice ao k cap) ∧ w'.cell? ⟨w2.heap.size, 0, none⟩ = some (.bool m3) ∧ w'.cell? ⟨w2.heap.size, 1, none⟩ = some (.slice b3 j3 d3))
        (first | exact ⟨q1, q2, r1, r2⟩ | go_keep)
        (first
        | (go_at_call 91; with_reducible refine (big_power_lit 63 63 rfl hp1 P eP _).mono ?_; rintro e w4 hB2; obtain ⟨n2, a2, k2, c2', rfl, hI2, hb2⟩ := hB2.out; (try replace hb2 := below_undrew hb2); replace hq := below_step hq hb2; replace t0 := t0.below hb2; replace t1 := t1.below hb2; obtain ⟨q1, q2, q3, q4⟩ := t0.cells; obtain ⟨r1, r2, r3, r4⟩ := t1.cells)
        | (go_at_call 24; with_reducible refine (big_cmp neg m3 ao b3 k j3 cap d3 X (-P) _ (hx.keep (Below.drew hq)) (hM.keep (Below.drew hq)) ?_ ?_).mono ?_; omega; (have := hM.le sP.neg; omega); rintro e w5 ⟨rfl, hb4⟩; rw [E1.out]; (try replace hb4 := below_undrew hb4); replace hq := below_step hq hb4; replace t0 := t0.below hb4; replace t1 := t1.below hb4; obtain ⟨q1, q2, q3, q4⟩ := t0.cells; obtain ⟨r1, r2, r3, r4⟩ := t1.cells)
        | (go_at_call 24; with_reducible refine (big_cmp neg n2 ao a2 k k2 cap c2' X P _ (hx.keep hq) hI2 ?_ ?_).mono ?_; omega; (have := hI2.le sP; omega); rintro e w6 ⟨rfl, hb4⟩; rw [E2.out]; (try replace hb4 := below_undrew hb4); replace hq := below_step hq hb4; replace t0 := t0.below hb4; replace t1 := t1.below hb4; obtain ⟨q1, q2, q3, q4⟩ := t0.cells; obtain ⟨r1, r2, r3, r4⟩ := t1.cells))
      clear q1 q2 q3 q4 r1 r2 r3 r4 t1
      replace hq := hfin _ hq
      obtain ⟨q1, q2, q3, q4⟩ := t0.cells
      go_wp2_with fail
      go_loopg [5, 6] k (fun g s5 s6 wr => IntRel neg ao k cap ds w g s5 s6 wr)
      case atStart =>
        refine ⟨k, 0, by omega, rfl, rfl, ?_, ?_, t0, hq⟩
        · rw [List.drop_eq_nil_of_le (by rw [LD.out]; omega)]; rfl
        · cases neg <;> rfl
      case round =>
        clear t0 q1 q2 q3 q4 hq hfin hx hM
        obtain ⟨j, v, hj, rfl, rfl, hv, rfl, t0, hq⟩ := hrel
        have HV := Lib.hid hv
        clear hv
        obtain ⟨q1, q2, q3, q4⟩ := t0.cells
        by_cases hj0 : gk = 0
        · subst hj0
          have e : v = BM.bval ds := by rw [HV.out]; rfl
          subst e
          go_wp2_with fail
          go_ret2
          exact ⟨by rw [HVV.out, HV2.out, HX.out]; rfl, hq⟩
        · obtain ⟨g, rfl, hcx, hgx⟩ := (h1.keep hq).cell (gk - 1) (by omega)
          have dx := h1.dig.getD (gk - 1)
          obtain ⟨x, ex⟩ : ∃ x, x = ds.getD (gk - 1) 0 := ⟨_, rfl⟩
          rw [← ex] at hcx dx
          have hl : gk - 1 < ds.length := by rw [LD.out]; omega
          have hst : x + 65536 * v = BM.bval (ds.drop (gk - 1)) := by
            rw [BM.bval_drop ds (gk - 1) hl, show gk - 1 + 1 = gk by omega, HV.out, ex]
            simp [List.getD, hl]
          have hle := bval_drop_le ds (gk - 1) (by omega)
          have HST := Lib.hid hst
          have hj1 : 0 < gk := by omega
          have i1 : 0 ≤ (gk : Int) - 1 := by omega
          have i2 : (gk : Int) - 1 < (k : Int) := by omega
          have ei : ((gk - 1 : Nat) : Int) = (gk : Int) - 1 := by omega
          rw [← hst] at hle
          clear ex hst
          cases neg
          · have hb : x + 65536 * v ≤ 9223372036854775807 := by
              have := HF.out.2; rw [HX.out] at this; unfold sgn at this; simp at this; omega
            simp only [sgn, Bool.false_eq_true, if_false] at *
            clear hle
            go_wp2_with fail
            go_roundg (gk - 1)
            case measure => omega
            case rel => exact ⟨gk - 1, x + 65536 * v, by omega, rfl, by go_num, HST.out, by simp only [sgn, Bool.false_eq_true, if_false]; go_num, t0, hq⟩
          · have hb : x + 65536 * v ≤ 9223372036854775808 := by
              have := HF.out.1; rw [HX.out] at this; unfold sgn at this; simp at this; omega
            simp only [sgn, if_true] at *
            clear hle
            go_wp2_with fail
            go_roundg (gk - 1)
            case measure => omega
            case rel => exact ⟨gk - 1, x + 65536 * v, by omega, rfl, by go_num, HST.out, by simp only [sgn, if_true]; go_num, t0, hq⟩
    · have hd2 : decide (0 ≤ c2) = true := by simp; omega
      have hV : intB X = false := by rw [hB'.out]; simp [hc2]
      have HVV := Lib.hid hV
      have HV2 := Lib.hid (show intV X = 0 by unfold intV; rw [hV]; rfl)
      clear hV
      go_enter Tryd.func69, Tryd.ntmps69
      go_wp2_with fail
      refine (big_power_lit 63 63 rfl hp1 P eP _).mono ?_
      rintro e w1 ⟨n1, a1, k1, c1', rfl, hI1, hb1⟩
      replace t0 := t0.below hb1
      go_wp2_with fail
      refine (big_minus n1 a1 k1 c1' P _ hI1 (by have := hI1.le sP; omega)).mono ?_
      rintro e w2 ⟨m3, b3, j3, d3, rfl, hM, hb2⟩
      replace t0 := t0.below hb2
      have hM' := hM.keep (w' := w2.alloc (.cells #[.bool m3, .slice b3 j3 d3] 41)) (by repeat' (first | (with_reducible exact Below.refl _ _) | (with_reducible assumption) | (with_reducible refine below_alloc ?_ _ ?_) | (with_reducible refine below_set _ ?_ ?_) | (with_reducible refine Below.drew ?_) | (with_reducible refine below_dN ?_ _) | (apply below_thenA; assumption) | omega | (simp; done) | (simp; omega) | (simp [*]; done)))
      have hx2 := (((h.keep (w' := w.alloc (.cells #[.bool neg, .slice ao k cap] 41)) (by repeat' (first | (with_reducible exact Below.refl _ _) | (with_reducible assumption) | (with_reducible refine below_alloc ?_ _ ?_) | (with_reducible refine below_set _ ?_ ?_) | (with_reducible refine Below.drew ?_) | (with_reducible refine below_dN ?_ _) | (apply below_thenA; assumption) | omega | (simp; done) | (simp; omega) | (simp [*]; done)))).keep hb1).keep hb2).keep (w' := w2.alloc (.cells #[.bool m3, .slice b3 j3 d3] 41)) (by repeat' (first | (with_reducible exact Below.refl _ _) | (with_reducible assumption) | (with_reducible refine below_alloc ?_ _ ?_) | (with_reducible refine below_set _ ?_ ?_) | (with_reducible refine Below.drew ?_) | (with_reducible refine below_dN ?_ _) | (apply below_thenA; assumption) | omega | (simp; done) | (simp; omega) | (simp [*]; done)))
      have hs1 : w.heap.size + 1 ≤ w1.heap.size := by have := hb1.size; simpa using this
      have hs2 := hb2.size
      have hB2 : Below w.heap.size w (w2.alloc (.cells #[.bool m3, .slice b3 j3 d3] 41)) := (by repeat' (first | (with_reducible exact Below.refl _ _) | (with_reducible assumption) | (with_reducible refine below_alloc ?_ _ ?_) | (with_reducible refine below_set _ ?_ ?_) | (with_reducible refine Below.drew ?_) | (with_reducible refine below_dN ?_ _) | (apply below_thenA; assumption) | omega | (simp; done) | (simp; omega) | (simp [*]; done)))
      replace t0 := t0.alloc (.cells #[.bool m3, .slice b3 j3 d3] 41)
      have t1 : Two (w2.alloc (.cells #[.bool m3, .slice b3 j3 d3] 41)) w2.heap.size (.bool m3) (.slice b3 j3 d3) := Two.new w2 _ _ _ rfl
      have hq : Below (w2.alloc (.cells #[.bool m3, .slice b3 j3 d3] 41)).heap.size (w2.alloc (.cells #[.bool m3, .slice b3 j3 d3] 41)) (w2.alloc (.cells #[.bool m3, .slice b3 j3 d3] 41)) := Below.refl _ _
      have hfin : ∀ w', Below (w2.alloc (.cells #[.bool m3, .slice b3 j3 d3] 41)).heap.size (w2.alloc (.cells #[.bool m3, .slice b3 j3 d3] 41)) w' → Below w.heap.size w w' := fun w' h' => hB2.trans (h'.mono hB2.size)
      clear hb1 hb2 hB2 hI1 hM hs1 hs2
      have hM := hM'
      have hx := hx2
      clear hM' hx2
      obtain ⟨q1, q2, q3, q4⟩ := t0.cells
      obtain ⟨r1, r2, r3, r4⟩ := t1.cells
      go_wp2_with fail
      go_region_held3 (fun w' => w'.cell? ⟨w.heap.size, 0, none⟩ = some (.bool neg) ∧ w'.cell? ⟨w.heap.size, 1, none⟩ = some (.slice ao k cap) ∧ w'.cell? ⟨w2.heap.size, 0, none⟩ = some (.bool m3) ∧ w'.cell? ⟨w2.heap.size, 1, none⟩ = some (.slice b3 j3 d3))
        (first | exact ⟨q1, q2, r1, r2⟩ | go_keep)
        (first
        | (go_at_call 91; with_reducible refine (big_power_lit 63 63 rfl hp1 P eP _).mono ?_; rintro e w4 hB2; obtain ⟨n2, a2, k2, c2', rfl, hI2, hb2⟩ := hB2.out; (try replace hb2 := below_undrew hb2); replace hq := below_step hq hb2; replace t0 := t0.below hb2; replace t1 := t1.below hb2; obtain ⟨q1, q2, q3, q4⟩ := t0.cells; obtain ⟨r1, r2, r3, r4⟩ := t1.cells)
        | (go_at_call 24; with_reducible refine (big_cmp neg m3 ao b3 k j3 cap d3 X (-P) _ (hx.keep (Below.drew hq)) (hM.keep (Below.drew hq)) ?_ ?_).mono ?_; omega; (have := hM.le sP.neg; omega); rintro e w5 ⟨rfl, hb4⟩; rw [E1.out]; (try replace hb4 := below_undrew hb4); replace hq := below_step hq hb4; replace t0 := t0.below hb4; replace t1 := t1.below hb4; obtain ⟨q1, q2, q3, q4⟩ := t0.cells; obtain ⟨r1, r2, r3, r4⟩ := t1.cells)
        | (go_at_call 24; with_reducible refine (big_cmp neg n2 ao a2 k k2 cap c2' X P _ (hx.keep hq) hI2 ?_ ?_).mono ?_; omega; (have := hI2.le sP; omega); rintro e w6 ⟨rfl, hb4⟩; rw [E2.out]; (try replace hb4 := below_undrew hb4); replace hq := below_step hq hb4; replace t0 := t0.below hb4; replace t1 := t1.below hb4; obtain ⟨q1, q2, q3, q4⟩ := t0.cells; obtain ⟨r1, r2, r3, r4⟩ := t1.cells))
      go_wp2_with fail
      go_ret2
      exact ⟨by rw [HVV.out, HV2.out]; rfl, hfin _ hq⟩
  · have hV := hA (by omega)
    have HVV := Lib.hid hV
    have HV2 := Lib.hid (show intV X = 0 by unfold intV; rw [hV]; rfl)
    clear hV
    have hcn : c1 < 0 := by omega
    have hd : decide (c1 < 0) = true := by simp [hcn]
    clear hA hB
    go_enter Tryd.func69, Tryd.ntmps69
    go_wp2_with fail
    refine (big_power_lit 63 63 rfl hp1 P eP _).mono ?_
    rintro e w1 ⟨n1, a1, k1, c1', rfl, hI1, hb1⟩
    replace t0 := t0.below hb1
    go_wp2_with fail
    refine (big_minus n1 a1 k1 c1' P _ hI1 (by have := hI1.le sP; omega)).mono ?_
    rintro e w2 ⟨m3, b3, j3, d3, rfl, hM, hb2⟩
    replace t0 := t0.below hb2
    have hM' := hM.keep (w' := w2.alloc (.cells #[.bool m3, .slice b3 j3 d3] 41)) (by repeat' (first | (with_reducible exact Below.refl _ _) | (with_reducible assumption) | (with_reducible refine below_alloc ?_ _ ?_) | (with_reducible refine below_set _ ?_ ?_) | (with_reducible refine Below.drew ?_) | (with_reducible refine below_dN ?_ _) | (apply below_thenA; assumption) | omega | (simp; done) | (simp; omega) | (simp [*]; done)))
    have hx2 := (((h.keep (w' := w.alloc (.cells #[.bool neg, .slice ao k cap] 41)) (by repeat' (first | (with_reducible exact Below.refl _ _) | (with_reducible assumption) | (with_reducible refine below_alloc ?_ _ ?_) | (with_reducible refine below_set _ ?_ ?_) | (with_reducible refine Below.drew ?_) | (with_reducible refine below_dN ?_ _) | (apply below_thenA; assumption) | omega | (simp; done) | (simp; omega) | (simp [*]; done)))).keep hb1).keep hb2).keep (w' := w2.alloc (.cells #[.bool m3, .slice b3 j3 d3] 41)) (by repeat' (first | (with_reducible exact Below.refl _ _) | (with_reducible assumption) | (with_reducible refine below_alloc ?_ _ ?_) | (with_reducible refine below_set _ ?_ ?_) | (with_reducible refine Below.drew ?_) | (with_reducible refine below_dN ?_ _) | (apply below_thenA; assumption) | omega | (simp; done) | (simp; omega) | (simp [*]; done)))
    have hs1 : w.heap.size + 1 ≤ w1.heap.size := by have := hb1.size; simpa using this
    have hs2 := hb2.size
    have hB2 : Below w.heap.size w (w2.alloc (.cells #[.bool m3, .slice b3 j3 d3] 41)) := (by repeat' (first | (with_reducible exact Below.refl _ _) | (with_reducible assumption) | (with_reducible refine below_alloc ?_ _ ?_) | (with_reducible refine below_set _ ?_ ?_) | (with_reducible refine Below.drew ?_) | (with_reducible refine below_dN ?_ _) | (apply below_thenA; assumption) | omega | (simp; done) | (simp; omega) | (simp [*]; done)))
    replace t0 := t0.alloc (.cells #[.bool m3, .slice b3 j3 d3] 41)
    have t1 : Two (w2.alloc (.cells #[.bool m3, .slice b3 j3 d3] 41)) w2.heap.size (.bool m3) (.slice b3 j3 d3) := Two.new w2 _ _ _ rfl
    have hq : Below (w2.alloc (.cells #[.bool m3, .slice b3 j3 d3] 41)).heap.size (w2.alloc (.cells #[.bool m3, .slice b3 j3 d3] 41)) (w2.alloc (.cells #[.bool m3, .slice b3 j3 d3] 41)) := Below.refl _ _
    have hfin : ∀ w', Below (w2.alloc (.cells #[.bool m3, .slice b3 j3 d3] 41)).heap.size (w2.alloc (.cells #[.bool m3, .slice b3 j3 d3] 41)) w' → Below w.heap.size w w' := fun w' h' => hB2.trans (h'.mono hB2.size)
    clear hb1 hb2 hB2 hI1 hM hs1 hs2
    have hM := hM'
    have hx := hx2
    clear hM' hx2
    obtain ⟨q1, q2, q3, q4⟩ := t0.cells
    obtain ⟨r1, r2, r3, r4⟩ := t1.cells
    go_wp2_with fail
    go_region_with (first
        | (go_at_call 91; with_reducible refine (big_power_lit 63 63 rfl hp1 P eP _).mono ?_; rintro e w4 hB2; obtain ⟨n2, a2, k2, c2', rfl, hI2, hb2⟩ := hB2.out; (try replace hb2 := below_undrew hb2); replace hq := below_step hq hb2; replace t0 := t0.below hb2; replace t1 := t1.below hb2; obtain ⟨q1, q2, q3, q4⟩ := t0.cells; obtain ⟨r1, r2, r3, r4⟩ := t1.cells)
        | (go_at_call 24; with_reducible refine (big_cmp neg m3 ao b3 k j3 cap d3 X (-P) _ (hx.keep (Below.drew hq)) (hM.keep (Below.drew hq)) ?_ ?_).mono ?_; omega; (have := hM.le sP.neg; omega); rintro e w5 ⟨rfl, hb4⟩; rw [E1.out]; (try replace hb4 := below_undrew hb4); replace hq := below_step hq hb4; replace t0 := t0.below hb4; replace t1 := t1.below hb4; obtain ⟨q1, q2, q3, q4⟩ := t0.cells; obtain ⟨r1, r2, r3, r4⟩ := t1.cells)
        | (go_at_call 24; with_reducible refine (big_cmp neg n2 ao a2 k k2 cap c2' X P _ (hx.keep hq) hI2 ?_ ?_).mono ?_; omega; (have := hI2.le sP; omega); rintro e w6 ⟨rfl, hb4⟩; rw [E2.out]; (try replace hb4 := below_undrew hb4); replace hq := below_step hq hb4; replace t0 := t0.below hb4; replace t1 := t1.below hb4; obtain ⟨q1, q2, q3, q4⟩ := t0.cells; obtain ⟨r1, r2, r3, r4⟩ := t1.cells))
    all_goals
      go_wp2_with fail
      go_ret2
      exact ⟨by rw [HVV.out, HV2.out]; rfl, hfin _ hq⟩
end Go.Proofs.YtmkblfejoniccaaDoor
namespace Go.Proofs.YtmkblfejoniccaaDoor.BM
/-- One bit more: the divisor goes in once more, or not. -/
theorem div_step {N q r B b : Nat} (h : q * B + r = N) (hr : r < B) (hb : b < 2) :
    (B ≤ 2 * r + b → (2 * q + 1) * B + (2 * r + b - B) = 2 * N + b ∧ 2 * r + b - B < B) ∧ (2 * r + b < B → (2 * q) * B + (2 * r + b) = 2 * N + b) := by
  have e1 : (2 * q + 1) * B = 2 * (q * B) + B := by rw [Nat.add_mul, Nat.mul_assoc]; omega
  have e2 : (2 * q) * B = 2 * (q * B) := Nat.mul_assoc 2 q B
  rw [e1, e2]
  omega
theorem bit_lt (d m : Nat) : d / m % 2 < 2 := Nat.mod_lt _ (by decide)
theorem bit_split (d s : Nat) : d / 2 ^ s = 2 * (d / 2 ^ (s + 1)) + d / 2 ^ s % 2 := by
  rw [Nat.pow_succ, ← Nat.div_div_eq_div_mul]
  omega
/-- What has been taken of the number, with so many bits of its next piece to come. -/
def seen (H d s : Nat) : Nat := H * 2 ^ (16 - s) + d / 2 ^ s
theorem seen_top (H d : Nat) (hd : d < 65536) : seen H d 16 = H := by
  unfold seen
  rw [Nat.div_eq_of_lt (by simpa using hd)]; simp
theorem seen_end (H d : Nat) : seen H d 0 = d + 65536 * H := by
  unfold seen; simp; omega
theorem seen_step (H d s : Nat) (hs : s < 16) : seen H d s = 2 * seen H d (s + 1) + d / 2 ^ s % 2 := by
  unfold seen
  have e : 16 - s = 16 - (s + 1) + 1 := by omega
  rw [e, Nat.pow_succ, ← Nat.mul_assoc]
  have := bit_split d s
  omega
theorem half_pow (s : Nat) : 2 ^ (s + 1) / 2 = 2 ^ s := by rw [Nat.pow_succ]; omega
theorem div_end {q r A B : Nat} (h : q * B + r = A) (hr : r < B) : q = A / B ∧ r = A % B := by
  have hB : 0 < B := by omega
  constructor
  · rw [← h, Nat.mul_comm, Nat.mul_add_div hB, Nat.div_eq_of_lt hr]; rfl
  · rw [← h, Nat.mul_comm, Nat.mul_add_mod, Nat.mod_eq_of_lt hr]
end Go.Proofs.YtmkblfejoniccaaDoor.BM
namespace Go.Proofs.YtmkblfejoniccaaDoor
theorem absI_sgn (neg : Bool) (n : Nat) : absI (sgn neg n) = (n : Int) := by unfold absI; cases neg <;> simp [sgn] <;> omega
theorem sgn_lt {neg : Bool} {n : Nat} (h : neg = true → n ≠ 0) : sgn neg n < 0 ↔ neg = true := by
  cases neg
  · simp [sgn]
  · have := h rfl; simp [sgn]; omega
/-- Down by the quotient of sizes. -/
theorem down_q {na nb : Bool} {x y : Nat} (ha : na = true → x ≠ 0) (hb : nb = true → y ≠ 0) (hy : 0 < y) :
    (na = nb → fq (sgn na x) (sgn nb y) = ((x / y : Nat) : Int)) ∧
    (na ≠ nb → x % y = 0 → fq (sgn na x) (sgn nb y) = -((x / y : Nat) : Int)) ∧
    (na ≠ nb → 0 < x % y → fq (sgn na x) (sgn nb y) = -((x / y : Nat) : Int) + -1) := by
  have hd : sgn nb y ≠ 0 := by cases nb <;> simp [sgn] <;> omega
  obtain ⟨f1, f2, f3⟩ := fq_size (a := sgn na x) hd
  rw [absI_sgn, absI_sgn] at f1 f2 f3
  have s1 := sgn_lt ha
  have s2 := sgn_lt hb
  refine ⟨fun e => ?_, fun e hz => ?_, fun e hz => ?_⟩
  · rw [(f1 (by rw [s1, s2, e])).1]; rfl
  · rw [(f2 (by rw [s1, s2]; intro h; exact e (Bool.eq_iff_iff.2 h)) (by rw [← Int.natCast_emod, hz]; rfl)).1]; rfl
  · rw [(f3 (by rw [s1, s2]; intro h; exact e (Bool.eq_iff_iff.2 h)) (by rw [← Int.natCast_emod]; omega)).1, ← Int.natCast_ediv]; omega
end Go.Proofs.YtmkblfejoniccaaDoor
namespace Go.Proofs.YtmkblfejoniccaaDoor
open Go.RowKit
set_option linter.unusedSimpArgs false
set_option linter.unusedVariables false

theorem IsBig.nat {w : World} {neg : Bool} {ao : Option Addr} {k cap n : Nat} (h : IsBig w neg ao k cap ((n : Nat) : Int)) : neg = false ∧ ∃ ds, Pcs w ao k cap ds ∧ BM.Trim ds ∧ BM.bval ds = n := by
  obtain ⟨ds, h1, h2, h3, h4⟩ := h
  cases neg
  · exact ⟨rfl, ds, h1, h2, by simp [sgn] at h4; omega⟩
  · exfalso
    have := h3 rfl
    apply this
    apply h2.eq_nil
    simp [sgn] at h4
    omega
theorem big_sizes_at (ao bo : Option Addr) (k m cap cap' : Nat) (xs ys : List Nat) (z : Int) (w : World) (ha : Pcs w ao k cap xs) (hb : Pcs w bo m cap' ys) (ta : BM.Trim xs) (tb : BM.Trim ys) (hk : k ≤ 1000000) (hm : m ≤ 1000000) (hz : cmpN (BM.bval xs) (BM.bval ys) = z) :
    Calls Tryd.prog 64 #[.slice ao k cap, .slice bo m cap'] w fun e w' => e = .returned (.int .i64 z) ∧ Below w.heap.size w w' := by
  subst hz; exact big_sizes ao bo k m cap cap' xs ys w ha hb ta tb hk hm
theorem bval_lt' {w : World} {ao : Option Addr} {k cap : Nat} {ds : List Nat} (h : Pcs w ao k cap ds) : BM.bval ds < 65536 ^ k := by
  have := BM.bval_lt h.dig; rwa [h.len] at this
theorem sz_nat {n k : Nat} (h : n < 65536 ^ k) : BM.Sz (n : Int) k := by unfold BM.Sz; simpa using h
theorem sz_two {n m k : Nat} (h : n < 65536 ^ k) (hm : m ≤ 2 * n + 1) : BM.Sz (m : Int) (k + 1) := by
  unfold BM.Sz; rw [Nat.pow_succ]; simp; omega
theorem seen_le {H d s : Nat} (hd : d < 65536) (hs : s ≤ 16) : BM.seen H d s ≤ d + 65536 * H := by
  induction s with
  | zero => rw [BM.seen_end]; omega
  | succ s ih =>
    have := ih (by omega)
    have := BM.seen_step H d s (by omega)
    omega
/-- The six boxes of divided. -/
def DB (ax bx : Option Addr) (k m ca cb : Nat) (w wr : World) (q1 q2 r1 r2 : Value) : Prop :=
  Two wr w.heap.size (.bool false) (.slice ax k ca) ∧ Two wr (w.heap.size + 1) (.bool false) (.slice bx m cb) ∧ Two wr (w.heap.size + 1 + 1) (.bool false) (.slice none 0 0) ∧ Two wr (w.heap.size + 1 + 1 + 1) (.bool false) (.slice none 0 0) ∧ Two wr (w.heap.size + 1 + 1 + 1 + 1) q1 q2 ∧ Two wr (w.heap.size + 1 + 1 + 1 + 1 + 1) r1 r2 ∧ Below w.heap.size w wr
section
variable {ax bx : Option Addr} {k m ca cb : Nat} {w wr w' : World} {q1 q2 r1 r2 : Value}
theorem DB.ta (h : DB ax bx k m ca cb w wr q1 q2 r1 r2) : Two wr w.heap.size (.bool false) (.slice ax k ca) := h.1
theorem DB.tb (h : DB ax bx k m ca cb w wr q1 q2 r1 r2) : Two wr (w.heap.size + 1) (.bool false) (.slice bx m cb) := h.2.1
theorem DB.t2 (h : DB ax bx k m ca cb w wr q1 q2 r1 r2) : Two wr (w.heap.size + 1 + 1) (.bool false) (.slice none 0 0) := h.2.2.1
theorem DB.t3 (h : DB ax bx k m ca cb w wr q1 q2 r1 r2) : Two wr (w.heap.size + 1 + 1 + 1) (.bool false) (.slice none 0 0) := h.2.2.2.1
theorem DB.tq (h : DB ax bx k m ca cb w wr q1 q2 r1 r2) : Two wr (w.heap.size + 1 + 1 + 1 + 1) q1 q2 := h.2.2.2.2.1
theorem DB.tr (h : DB ax bx k m ca cb w wr q1 q2 r1 r2) : Two wr (w.heap.size + 1 + 1 + 1 + 1 + 1) r1 r2 := h.2.2.2.2.2.1
theorem DB.bl (h : DB ax bx k m ca cb w wr q1 q2 r1 r2) : Below w.heap.size w wr := h.2.2.2.2.2.2
theorem DB.below (h : DB ax bx k m ca cb w wr q1 q2 r1 r2) (hb : Below wr.heap.size wr w') : DB ax bx k m ca cb w w' q1 q2 r1 r2 :=
  ⟨h.ta.below hb, h.tb.below hb, h.t2.below hb, h.t3.below hb, h.tq.below hb, h.tr.below hb, h.bl.trans (hb.mono h.bl.size)⟩
theorem BP {w w' : World} {B b : Nat} (h : Below B w w') (hb : B ≤ b) (u v : Value) : Below B w ((w'.setCell ⟨b, 0, none⟩ u).setCell ⟨b, 1, none⟩ v) :=
  (h.setCell (p := ⟨b, 0, none⟩) hb u).setCell (p := ⟨b, 1, none⟩) hb v
theorem DB.putr (h : DB ax bx k m ca cb w wr q1 q2 r1 r2) (u v : Value) : DB ax bx k m ca cb w ((wr.setCell ⟨w.heap.size + 1 + 1 + 1 + 1 + 1, 0, none⟩ u).setCell ⟨w.heap.size + 1 + 1 + 1 + 1 + 1, 1, none⟩ v) q1 q2 u v :=
  ⟨h.ta.put_other (by omega) _ _, h.tb.put_other (by omega) _ _, h.t2.put_other (by omega) _ _, h.t3.put_other (by omega) _ _, h.tq.put_other (by omega) _ _, h.tr.put _ _, BP h.bl (by omega) u v⟩
theorem DB.putq (h : DB ax bx k m ca cb w wr q1 q2 r1 r2) (u v : Value) : DB ax bx k m ca cb w ((wr.setCell ⟨w.heap.size + 1 + 1 + 1 + 1, 0, none⟩ u).setCell ⟨w.heap.size + 1 + 1 + 1 + 1, 1, none⟩ v) u v r1 r2 :=
  ⟨h.ta.put_other (by omega) _ _, h.tb.put_other (by omega) _ _, h.t2.put_other (by omega) _ _, h.t3.put_other (by omega) _ _, h.tq.put _ _, h.tr.put_other (by omega) _ _, BP h.bl (by omega) u v⟩
theorem DB.cA (h : DB ax bx k m ca cb w wr q1 q2 r1 r2) : wr.cell? ⟨w.heap.size, 0, none⟩ = some (.bool false) ∧ wr.cell? ⟨w.heap.size, 1, none⟩ = some (.slice ax k ca) ∧ wr.frozen? ⟨w.heap.size, 0, none⟩ = false ∧ wr.frozen? ⟨w.heap.size, 1, none⟩ = false := h.ta.cells
theorem DB.cB (h : DB ax bx k m ca cb w wr q1 q2 r1 r2) : wr.cell? ⟨w.heap.size + 1, 0, none⟩ = some (.bool false) ∧ wr.cell? ⟨w.heap.size + 1, 1, none⟩ = some (.slice bx m cb) ∧ wr.frozen? ⟨w.heap.size + 1, 0, none⟩ = false ∧ wr.frozen? ⟨w.heap.size + 1, 1, none⟩ = false := h.tb.cells
theorem DB.cq (h : DB ax bx k m ca cb w wr q1 q2 r1 r2) : wr.cell? ⟨w.heap.size + 1 + 1 + 1 + 1, 0, none⟩ = some q1 ∧ wr.cell? ⟨w.heap.size + 1 + 1 + 1 + 1, 1, none⟩ = some q2 ∧ wr.frozen? ⟨w.heap.size + 1 + 1 + 1 + 1, 0, none⟩ = false ∧ wr.frozen? ⟨w.heap.size + 1 + 1 + 1 + 1, 1, none⟩ = false := h.tq.cells
theorem DB.cr (h : DB ax bx k m ca cb w wr q1 q2 r1 r2) : wr.cell? ⟨w.heap.size + 1 + 1 + 1 + 1 + 1, 0, none⟩ = some r1 ∧ wr.cell? ⟨w.heap.size + 1 + 1 + 1 + 1 + 1, 1, none⟩ = some r2 ∧ wr.frozen? ⟨w.heap.size + 1 + 1 + 1 + 1 + 1, 0, none⟩ = false ∧ wr.frozen? ⟨w.heap.size + 1 + 1 + 1 + 1 + 1, 1, none⟩ = false := h.tr.cells
end
/-- The boxes, the quotient so far, the rest so far. -/
def DQ (ax bx : Option Addr) (k m ca cb : Nat) (w : World) (qv rv : Nat) (wr : World) : Prop :=
  ∃ (qn : Bool) (qa : Option Addr) (qk qc : Nat) (rn : Bool) (ra : Option Addr) (rk rc : Nat), DB ax bx k m ca cb w wr (.bool qn) (.slice qa qk qc) (.bool rn) (.slice ra rk rc) ∧ IsBig wr qn qa qk qc ((qv : Nat) : Int) ∧ IsBig wr rn ra rk rc ((rv : Nat) : Int)
def DivOut (ax bx : Option Addr) (k m ca cb : Nat) (xs : List Nat) (B : Nat) (w : World) (g : Nat) (s8 : Value) (wr : World) : Prop :=
  ∃ (j qv rv : Nat), j ≤ k ∧ g = j ∧ s8 = .int .i64 ((j : Int) - 1) ∧ qv * B + rv = BM.bval (xs.drop j) ∧ rv < B ∧ DQ ax bx k m ca cb w qv rv wr
def DivIn (ax bx : Option Addr) (k m ca cb : Nat) (H d B : Nat) (w : World) (g : Nat) (s9 : Value) (wr : World) : Prop :=
  ∃ (s qv rv : Nat), s ≤ 16 ∧ g = s ∧ s9 = .int .u64 (((2 ^ s / 2 : Nat) : Int)) ∧ qv * B + rv = BM.seen H d s ∧ rv < B ∧ DQ ax bx k m ca cb w qv rv wr
/-- Two whole numbers are given back. -/
def BigRet2 (n p : Int) (w : World) (e : Ending) (w' : World) : Prop :=
  ∃ (qn : Bool) (qa : Option Addr) (qk qc : Nat) (rn : Bool) (ra : Option Addr) (rk rc : Nat), e = .returned (.tuple #[.agg #[.bool qn, .slice qa qk qc], .agg #[.bool rn, .slice ra rk rc]]) ∧ IsBig w' qn qa qk qc n ∧ IsBig w' rn ra rk rc p ∧ Below w.heap.size w w'

set_option maxRecDepth 100000 in
set_option maxHeartbeats 3200000 in
theorem big_divided (ax bx : Option Addr) (k m ca cb : Nat) (xs ys : List Nat) (w : World) (hx : Pcs w ax k ca xs) (hy : Pcs w bx m cb ys) (tx : BM.Trim xs) (ty : BM.Trim ys) (hk : k ≤ 10000) (hm : m ≤ 10000) (hB : 0 < BM.bval ys) :
    Calls Tryd.prog 101 #[.agg #[.bool false, .slice ax k ca], .agg #[.bool false, .slice bx m cb]] w (BigRet2 ((BM.bval xs / BM.bval ys : Nat) : Int) ((BM.bval xs % BM.bval ys : Nat) : Int) w) := by
  have LX := Lib.hid hx.len
  have hxl := bval_lt' hx
  have hyl := bval_lt' hy
  have hB' := hB
  obtain ⟨B, eB⟩ : ∃ B, B = BM.bval ys := ⟨_, rfl⟩
  have hyB : ∀ w', Below w.heap.size w w' → IsBig w' true bx m cb (-(B : Int)) := fun w' h => ⟨ys, hy.keep h, ty, (fun _ e => by rw [e] at hB'; simp [BM.bval] at hB'), by rw [eB]; rfl⟩
  have EB := Lib.hid eB
  rw [← eB] at hB hyl
  have hyl := Lib.hid hyl
  have hxl := Lib.hid hxl
  clear eB hB'
  rw [← EB.out]
  obtain ⟨Q, eQ⟩ : ∃ Q, Q = BM.bval xs / B := ⟨_, rfl⟩
  obtain ⟨R, eR⟩ : ∃ R, R = BM.bval xs % B := ⟨_, rfl⟩
  rw [← eQ, ← eR]
  have EQ := Lib.hid eQ
  have ER := Lib.hid eR
  clear eQ eR
  go_enter Tryd.func101, Tryd.ntmps101
  go_wp2_with fail
  go_loopg [8] k (fun g s8 wr => DivOut ax bx k m ca cb xs B w g s8 wr)
  case atStart =>
    refine ⟨k, 0, 0, by omega, rfl, rfl, ?_, hB, ?_⟩
    · rw [List.drop_eq_nil_of_le (by rw [LX.out]; omega)]; simp [BM.bval]
    · refine ⟨false, none, 0, 0, false, none, 0, 0, ⟨?_, ?_, ?_, ?_, ?_, ?_, (by repeat' (first | (with_reducible exact Below.refl _ _) | (with_reducible assumption) | (with_reducible refine below_alloc ?_ _ ?_) | (with_reducible refine below_set _ ?_ ?_) | (with_reducible refine Below.drew ?_) | (with_reducible refine below_dN ?_ _) | (apply below_thenA; assumption) | omega | (simp; done) | (simp; omega) | (simp [*]; done)))⟩, ⟨[], Pcs.nil _, BM.Trim.nil, (fun h => by cases h), rfl⟩, ⟨[], Pcs.nil _, BM.Trim.nil, (fun h => by cases h), rfl⟩⟩
      · exact ((((((Two.new w _ _ _ rfl).alloc _).alloc _).alloc _).alloc _).alloc _)
      · exact (((((Two.new _ _ _ _ (by simp)).alloc _).alloc _).alloc _).alloc _)
      · exact ((((Two.new _ _ _ _ (by simp)).alloc _).alloc _).alloc _)
      · exact (((Two.new _ _ _ _ (by simp)).alloc _).alloc _)
      · exact ((Two.new _ _ _ _ (by simp)).alloc _)
      · exact (Two.new _ _ _ _ (by simp))
  case round =>
    obtain ⟨j, qv, rv, hj, rfl, rfl, hv, hr, hDQ⟩ := hrel
    by_cases hj0 : gk = 0
    · subst hj0
      obtain ⟨e1, e2⟩ := BM.div_end hv hr
      simp only [List.drop_zero] at e1 e2
      obtain rfl : qv = Q := by rw [EQ.out]; exact e1
      obtain rfl : rv = R := by rw [ER.out]; exact e2
      clear hv hr e1 e2 hB
      obtain ⟨qn, qa, qk, qc, rn, ra, rk, rc, D, hQ, hR⟩ := hDQ
      obtain ⟨p1, p2, p3, p4⟩ := D.cq
      obtain ⟨p5, p6, p7, p8⟩ := D.cr
      obtain ⟨t1, t2, t3, t4⟩ := D.t2.cells
      obtain ⟨t5, t6, t7, t8⟩ := D.t3.cells
      have z2 := D.t2
      have z3 := D.t3
      have hbl := D.bl
      go_wp2_with fail
      go_region
      all_goals
        go_wp2_with fail
        (go_light; simp [bodyPost, results, Tryd.results101, go_sem, *])
        exact ⟨qn, qa, qk, qc, rn, ra, rk, rc, rfl, IsBig.keeps hQ (by repeat' (first | (with_reducible exact Keeps.refl _) | (with_reducible refine Keeps.alloc ?_ _) | (with_reducible refine Keeps.drew ?_) | (with_reducible refine Keeps.drewN ?_ _) | (with_reducible refine Keeps.set ?_ _ _ (T := 41) ?_ (by decide)) | (with_reducible exact TyAt.new _ _ _ _ (by simp)) | (with_reducible refine TyAt.set ?_ _ _) | (with_reducible refine TyAt.alloc ?_ _) | (with_reducible refine TyAt.drew ?_) | (with_reducible refine TyAt.drewN ?_ _) | (apply Keeps.below; assumption) | (exact Two.ty (by assumption)) | (apply TyAt.below; rotate_left; assumption))), IsBig.keeps hR (by repeat' (first | (with_reducible exact Keeps.refl _) | (with_reducible refine Keeps.alloc ?_ _) | (with_reducible refine Keeps.drew ?_) | (with_reducible refine Keeps.drewN ?_ _) | (with_reducible refine Keeps.set ?_ _ _ (T := 41) ?_ (by decide)) | (with_reducible exact TyAt.new _ _ _ _ (by simp)) | (with_reducible refine TyAt.set ?_ _ _) | (with_reducible refine TyAt.alloc ?_ _) | (with_reducible refine TyAt.drew ?_) | (with_reducible refine TyAt.drewN ?_ _) | (apply Keeps.below; assumption) | (exact Two.ty (by assumption)) | (apply TyAt.below; rotate_left; assumption))), (by repeat' (first | (with_reducible exact Below.refl _ _) | (with_reducible assumption) | (with_reducible refine below_alloc ?_ _ ?_) | (with_reducible refine below_set _ ?_ ?_) | (with_reducible refine Below.drew ?_) | (with_reducible refine below_dN ?_ _) | (apply below_thenA; assumption) | omega | (simp; done) | (simp; omega) | (simp [*]; done)))⟩
    · obtain ⟨i, rfl⟩ : ∃ i, gk = i + 1 := ⟨gk - 1, by omega⟩
      have hi : i < xs.length := by rw [LX.out]; omega
      obtain ⟨d, ed⟩ : ∃ d, d = xs.getD i 0 := ⟨_, rfl⟩
      have dx : d < 65536 := by rw [ed]; exact hx.dig.getD i
      obtain ⟨H, eH⟩ : ∃ H, H = BM.bval (xs.drop (i + 1)) := ⟨_, rfl⟩
      have hend : d + 65536 * H = BM.bval (xs.drop i) := by
        rw [BM.bval_drop xs i hi, eH, ed]; simp [List.getD, hi]
      have hN : d + 65536 * H < 65536 ^ k := by rw [hend]; exact Nat.lt_of_le_of_lt (bval_drop_le xs i (by omega)) hxl.out
      have hst : qv * B + rv = BM.seen H d 16 := by rw [BM.seen_top _ _ dx, hv, eH]
      have HE := Lib.hid hend
      have HN := Lib.hid hN
      have ED := Lib.hid ed
      have HS := Lib.hid hst
      have HR := Lib.hid hr
      clear hend hN ed hst hr hv eH
      rw [show ((i + 1 : Nat) : Int) - 1 = (i : Int) by omega]
      have j1 : (0 : Int) ≤ (i : Int) := by omega
      go_wp2_with fail
      obtain ⟨wo, rfl⟩ : ∃ wo : World, wo = wr := ⟨_, rfl⟩
      go_loopg [9] 16 (fun g s9 wr => DivIn ax bx k m ca cb H d B w g s9 wr)
      case atStart =>
        exact ⟨16, qv, rv, by omega, rfl, rfl, HS.out, HR.out, hDQ⟩
      case round =>
        clear hDQ HS HR
        obtain ⟨s, qv, rv, hs, rfl, rfl, hv, hr, hDQ⟩ := hrel
        by_cases hs0 : gk = 0
        · subst hs0
          have HV := Lib.hid hv
          have HR := Lib.hid hr
          clear hv hr
          go_wp2_with fail
          go_roundg i
          case measure => omega
          case rel => exact ⟨i, qv, rv, by omega, rfl, by go_num, by rw [HV.out, BM.seen_end, HE.out], HR.out, hDQ⟩
        · obtain ⟨s, rfl⟩ : ∃ s, gk = s + 1 := ⟨gk - 1, by omega⟩
          rw [BM.half_pow]
          obtain ⟨b, eb⟩ : ∃ b, b = 2 ^ s := ⟨_, rfl⟩
          obtain ⟨c, ec⟩ : ∃ c, c = d / b % 2 := ⟨_, rfl⟩
          have hc2 : c < 2 := by rw [ec]; exact BM.bit_lt _ _
          have hb0 : 0 < b := by rw [eb]; exact Nat.pow_pos (by decide)
          have hb1 : b ≤ 32768 := by rw [eb]; exact Nat.pow_le_pow_right (by decide) (show s ≤ 15 by omega)
          have hstep := BM.seen_step H d s (by omega)
          rw [← eb, ← ec, ← hv] at hstep
          have hds := BM.div_step rfl hr hc2 (q := qv)
          have hle := seen_le (H := H) (s := s + 1) dx hs
          rw [← hv] at hle
          have hqB : qv ≤ qv * B := Nat.le_mul_of_pos_right _ hB
          have hq : qv < 65536 ^ k := Nat.lt_of_le_of_lt (by omega) HN.out
          have hr2 : rv < 65536 ^ m := Nat.lt_trans hr hyl.out
          have sq := sz_nat hq
          have sr := sz_nat hr2
          have sq2 := sz_two hq (show 2 * qv ≤ 2 * qv + 1 by omega)
          have sr2 := sz_two hr2 (show 2 * rv ≤ 2 * rv + 1 by omega)
          have srt := sz_two hr2 (show 2 * rv + c ≤ 2 * rv + 1 by omega)
          have HD := Lib.hid hds
          have HST := Lib.hid hstep
          have EC := Lib.hid ec
          have EBB := Lib.hid eb
          have HR := Lib.hid hr
          clear hds hstep hle hqB hq hr2 hv eb ec hr
          rw [← EBB.out]
          go_wp2_with fail
          go_cut [] from 18 to 53 (fun wx => DQ ax bx k m ca cb w qv (2 * rv) wx)
          case first =>
            obtain ⟨qn, qa, qk, qc, rn, ra, rk, rc, D, hQ, hR⟩ := hDQ
            have hkr := hR.le sr
            have EV : Hid (((2 * rv : Nat) : Int) = (rv : Int) * 2) := Lib.hid (by omega)
            obtain ⟨p1, p2, p3, p4⟩ := D.cr
            go_region_with (first
              | (go_at_call 67; with_reducible refine (big_ofu2 _).mono ?_; rintro e w2 hB2; obtain ⟨n2, a2, k2, c2, rfl, hI2, hb2⟩ := hB2.out; replace hb2 := below_undrew hb2; have hk2 := hI2.le (BM.Sz.u64 (n := 2) (by omega) (by omega)); have D2 := D.below hb2; obtain ⟨q1, q2, q3, q4⟩ := D2.cr)
              | (go_at_call 25; with_reducible refine (big_times rn n2 ra a2 rk k2 rc c2 _ 2 _ (hR.keep hb2) hI2 ?_ ?_).mono ?_; omega; omega; rintro e w3 hB3; obtain ⟨n3, a3, k3, c3, rfl, hI3, hb3⟩ := hB3.out; have D3 := D2.below hb3; obtain ⟨r1, r2, r3, r4⟩ := D3.cr))
            all_goals
              have hD := D3.putr (.bool n3) (.slice a3 k3 c3)
              have hN := IsBig.put hI3 D3.tr (.bool n3) (.slice a3 k3 c3)
              have hO := IsBig.put ((hQ.keep hb2).keep hb3) D3.tr (.bool n3) (.slice a3 k3 c3)
              clear p1 p2 p3 p4 q1 q2 q3 q4 r1 r2 r3 r4
              go_wp2_with fail
              go_meet
              case rel => exact ⟨qn, qa, qk, qc, n3, a3, k3, c3, hD, hO, by rw [EV.out]; exact hN⟩
          case rest =>
            clear hDQ
            obtain ⟨qn, qa, qk, qc, rn, ra, rk, rc, D, hQ, hR⟩ := hcut
            go_wp2_with fail
            go_cut [] from 18 to 53 (fun wx => DQ ax bx k m ca cb w (2 * qv) (2 * rv) wx)
            case first =>
              have hkq := hQ.le sq
              have EV : Hid (((2 * qv : Nat) : Int) = (qv : Int) * 2) := Lib.hid (by omega)
              obtain ⟨p1, p2, p3, p4⟩ := D.cq
              go_region_with (first
                | (go_at_call 67; with_reducible refine (big_ofu2 _).mono ?_; rintro e w2 hB2; obtain ⟨n2, a2, k2, c2, rfl, hI2, hb2⟩ := hB2.out; replace hb2 := below_undrew hb2; have hk2 := hI2.le (BM.Sz.u64 (n := 2) (by omega) (by omega)); have D2 := D.below hb2; obtain ⟨q1, q2, q3, q4⟩ := D2.cq)
                | (go_at_call 25; with_reducible refine (big_times qn n2 qa a2 qk k2 qc c2 _ 2 _ (hQ.keep hb2) hI2 ?_ ?_).mono ?_; omega; omega; rintro e w3 hB3; obtain ⟨n3, a3, k3, c3, rfl, hI3, hb3⟩ := hB3.out; have D3 := D2.below hb3; obtain ⟨r1, r2, r3, r4⟩ := D3.cq))
              all_goals
                have hD := D3.putq (.bool n3) (.slice a3 k3 c3)
                have hN := IsBig.put hI3 D3.tq (.bool n3) (.slice a3 k3 c3)
                have hO := IsBig.put ((hR.keep hb2).keep hb3) D3.tq (.bool n3) (.slice a3 k3 c3)
                clear p1 p2 p3 p4 q1 q2 q3 q4 r1 r2 r3 r4
                go_wp2_with fail
                go_meet
                case rel => exact ⟨n3, a3, k3, c3, rn, ra, rk, rc, hD, by rw [EV.out]; exact hN, hO⟩
            case rest =>
              clear D hQ hR
              obtain ⟨qn, qa, qk, qc, rn, ra, rk, rc, D, hQ, hR⟩ := hcut
              obtain ⟨gx, eax, hcx, hgx⟩ := (hx.keep D.bl).cell i (by omega)
              rw [← ED.out] at hcx
              obtain ⟨p1, p2, p3, p4⟩ := D.cA
              rw [eax] at p2
              clear eax
              have ecI : (IntKind.u64.wrap ((d : Int) / (b : Int))).tmod 2 = (c : Int) := by
                have h1 : d / b ≤ d := Nat.div_le_self _ _
                obtain ⟨v, ev⟩ : ∃ v, v = d / b := ⟨_, rfl⟩
                rw [← Int.natCast_ediv, EC.out, ← ev, IntKind.wrap_u64, Int.emod_eq_of_lt (by omega) (by omega), Int.tmod_eq_emod_of_nonneg (by omega)]; simp
              have ix : (i : Int) < (k : Int) := by omega
              go_upto_if 36 with (fail)
              go_cut [] from 18 to 53 (fun wx => DQ ax bx k m ca cb w (2 * qv) (2 * rv + c) wx)
              case first =>
                have hkr := hR.le sr2
                clear hcx p1 p2 p3 p4 ecI
                rcases (by omega : c = 0 ∨ c = 1) with rfl | rfl
                · go_wp2_with fail
                  go_meet
                  case rel => exact ⟨qn, qa, qk, qc, rn, ra, rk, rc, D, hQ, hR⟩
                · have EV : Hid (((2 * rv + 1 : Nat) : Int) = ((2 * rv : Nat) : Int) + 1) := Lib.hid (by omega)
                  go_wp2_with fail
                  obtain ⟨p1, p2, p3, p4⟩ := D.cr
                  go_region_with (first
                    | (go_at_call 67; with_reducible refine (big_ofu1 _).mono ?_; rintro e w2 hB2; obtain ⟨n2, a2, k2, c2, rfl, hI2, hb2⟩ := hB2.out; replace hb2 := below_undrew hb2; have hk2 := hI2.le (BM.Sz.u64 (n := 1) (by omega) (by omega)); have D2 := D.below hb2; obtain ⟨q1, q2, q3, q4⟩ := D2.cr)
                    | (go_at_call 61; with_reducible refine (big_plus rn n2 ra a2 rk k2 rc c2 _ 1 _ (hR.keep hb2) hI2 ?_ ?_).mono ?_; omega; omega; rintro e w3 hB3; obtain ⟨n3, a3, k3, c3, rfl, hI3, hb3⟩ := hB3.out; have D3 := D2.below hb3; obtain ⟨r1, r2, r3, r4⟩ := D3.cr))
                  all_goals
                    have hD := D3.putr (.bool n3) (.slice a3 k3 c3)
                    have hN := IsBig.put hI3 D3.tr (.bool n3) (.slice a3 k3 c3)
                    have hO := IsBig.put ((hQ.keep hb2).keep hb3) D3.tr (.bool n3) (.slice a3 k3 c3)
                    clear p1 p2 p3 p4 q1 q2 q3 q4 r1 r2 r3 r4
                    go_wp2_with fail
                    go_meet
                    case rel => exact ⟨qn, qa, qk, qc, n3, a3, k3, c3, hD, hO, by rw [EV.out]; exact hN⟩
              case rest =>
                clear D hQ hR hcx p1 p2 p3 p4 ecI
                obtain ⟨qn, qa, qk, qc, rn, ra, rk, rc, D, hQ, hR⟩ := hcut
                obtain ⟨rfl, rs, hrs, trs, ers⟩ := hR.nat
                obtain ⟨z, ez⟩ : ∃ z, cmpN (BM.bval rs) (BM.bval ys) = z := ⟨_, rfl⟩
                have hkr := hR.le srt
                have hz : (B ≤ 2 * rv + c → 0 ≤ z) ∧ (2 * rv + c < B → ¬ 0 ≤ z) := by
                  rw [← ez, ← EB.out, ers]
                  refine ⟨fun h => ?_, fun h => ?_⟩
                  · rcases Nat.lt_or_eq_of_le h with h | h
                    · rw [cmpN_gt h]; decide
                    · rw [cmpN_eq h.symm]; decide
                  · rw [cmpN_lt h]; decide
                have HZ := Lib.hid hz
                clear hz
                obtain ⟨p1, p2, p3, p4⟩ := D.cr
                obtain ⟨p5, p6, p7, p8⟩ := D.cB
                go_upto_if 45 with (go_at_call 64; with_reducible refine (big_sizes_at ra bx rk m rc cb rs ys z _ hrs (hy.keep D.bl) trs ty ?_ ?_ ez).mono ?_; omega; omega; rintro e w4 ⟨rfl, hb4⟩)
                replace D := D.below hb4
                replace hQ := hQ.keep hb4
                replace hR := hR.keep hb4
                clear p1 p2 p3 p4 p5 p6 p7 p8 hb4 hrs
                obtain ⟨q', r', HP⟩ : ∃ q' r', q' * B + r' = BM.seen H d s ∧ r' < B ∧ ((B ≤ 2 * rv + c ∧ q' = 2 * qv + 1 ∧ r' + B = 2 * rv + c) ∨ (2 * rv + c < B ∧ q' = 2 * qv ∧ r' = 2 * rv + c)) := by
                  rw [HST.out]
                  rcases Nat.lt_or_ge (2 * rv + c) B with h | h
                  · exact ⟨2 * qv, 2 * rv + c, HD.out.2 h, h, .inr ⟨h, rfl, rfl⟩⟩
                  · exact ⟨2 * qv + 1, 2 * rv + c - B, (HD.out.1 h).1, (HD.out.1 h).2, .inl ⟨h, rfl, by omega⟩⟩
                have HPP := Lib.hid HP
                clear HP
                have HR2 : ∃ x, x = 0 := ⟨0, rfl⟩
                clear HR2
                · rcases HPP.out.2.2 with ⟨hcmp, rfl, hr'⟩ | ⟨hcmp, rfl, rfl⟩
                  · have hz := HZ.out.1 hcmp
                    have hYB := hyB _ D.bl
                    have EW : Hid (((2 * rv + c : Nat) : Int) + -(B : Int) = ((r' : Nat) : Int)) := Lib.hid (by omega)
                    have hkq := hQ.le sq2
                    obtain ⟨p1, p2, p3, p4⟩ := D.cr
                    obtain ⟨p5, p6, p7, p8⟩ := D.cB
                    clear hcmp hr'
                    go_wp2_with (go_at_call 61; go_loud (with_reducible refine (big_plus false true ra bx rk m rc cb _ _ _ hR hYB ?_ ?_).mono ?_); omega; omega; rintro e w5 ⟨n5, a5, k5, c5, rfl, hI5, hb5⟩; replace D := D.below hb5; replace hQ := hQ.keep hb5; obtain ⟨r1, r2, r3, r4⟩ := D.cr)
                    rw [EW.out] at hI5
                    have hD := D.putr (.bool n5) (.slice a5 k5 c5)
                    have hN := IsBig.put hI5 D.tr (.bool n5) (.slice a5 k5 c5)
                    have hO := IsBig.put hQ D.tr (.bool n5) (.slice a5 k5 c5)
                    clear p1 p2 p3 p4 p5 p6 p7 p8 r1 r2 r3 r4 D hQ hR hI5 hb5 hYB
                    obtain ⟨W, eW⟩ : ∃ W, W = (w5.setCell ⟨w.heap.size + 1 + 1 + 1 + 1 + 1, 0, none⟩ (.bool n5)).setCell ⟨w.heap.size + 1 + 1 + 1 + 1 + 1, 1, none⟩ (.slice a5 k5 c5) := ⟨_, rfl⟩
                    rw [← eW] at hD hN hO ⊢
                    clear eW
                    have D := hD
                    have hQ := hO
                    have hR := hN
                    clear hD hO hN
                    have EV : Hid (((2 * qv + 1 : Nat) : Int) = ((2 * qv : Nat) : Int) + 1) := Lib.hid (by omega)
                    obtain ⟨p1, p2, p3, p4⟩ := D.cq
                    go_region_with (first
                      | (go_at_call 67; with_reducible refine (big_ofu1 _).mono ?_; rintro e w2 hB2; obtain ⟨n2, a2, k2, c2, rfl, hI2, hb2⟩ := hB2.out; replace hb2 := below_undrew hb2; have hk2 := hI2.le (BM.Sz.u64 (n := 1) (by omega) (by omega)); have D2 := D.below hb2; obtain ⟨q1, q2, q3, q4⟩ := D2.cq)
                      | (go_at_call 61; with_reducible refine (big_plus qn n2 qa a2 qk k2 qc c2 _ 1 _ (hQ.keep hb2) hI2 ?_ ?_).mono ?_; omega; omega; rintro e w3 hB3; obtain ⟨n3, a3, k3, c3, rfl, hI3, hb3⟩ := hB3.out; have D3 := D2.below hb3; obtain ⟨r1, r2, r3, r4⟩ := D3.cq))
                    all_goals
                      have hD := D3.putq (.bool n3) (.slice a3 k3 c3)
                      have hN := IsBig.put hI3 D3.tq (.bool n3) (.slice a3 k3 c3)
                      have hO := IsBig.put ((hR.keep hb2).keep hb3) D3.tq (.bool n3) (.slice a3 k3 c3)
                      clear p1 p2 p3 p4 q1 q2 q3 q4 r1 r2 r3 r4
                      go_wp2_with fail
                      go_roundg s
                      case measure => omega
                      case rel => exact ⟨s, _, r', by omega, rfl, by rw [EBB.out]; go_num, HPP.out.1, HPP.out.2.1, ⟨n3, a3, k3, c3, n5, a5, k5, c5, hD, by rw [EV.out]; exact hN, hO⟩⟩
                  · have hz := HZ.out.2 hcmp
                    clear hcmp
                    go_wp2_with fail
                    go_roundg s
                    case measure => omega
                    case rel => exact ⟨s, _, _, by omega, rfl, by rw [EBB.out]; go_num, HPP.out.1, HPP.out.2.1, ⟨qn, qa, qk, qc, _, ra, rk, rc, D, hQ, hR⟩⟩
end Go.Proofs.YtmkblfejoniccaaDoor
namespace Go.Proofs.YtmkblfejoniccaaDoor
open Go.RowKit
set_option linter.unusedSimpArgs false
set_option linter.unusedVariables false

theorem IsBig.sz {w : World} {neg : Bool} {ao : Option Addr} {k cap : Nat} {n : Int} (h : IsBig w neg ao k cap n) : BM.Sz n k := by
  obtain ⟨ds, h1, h2, h3, rfl⟩ := h
  have := bval_lt' h1
  unfold BM.Sz
  cases neg <;> simpa [sgn] using this
theorem one_new (w : World) : IsBig (w.alloc (.cells #[.int .u64 1] 22)) true (some ⟨w.heap.size, 0, none⟩) 1 1 (-1) := by
  refine ⟨[1], Row.pcs (n := 1) ⟨heap_alloc_new w _, rfl, ?_⟩ (by decide), ?_, (fun _ => by simp), rfl⟩
  · intro d hd; simp at hd; omega
  · intro h; simp
theorem one_at (w : World) (g : Nat) (hg : g = w.heap.size) : IsBig (w.alloc (.cells #[.int .u64 1] 22)) true (some ⟨g, 0, none⟩) 1 1 (-1) := by subst hg; exact one_new w
theorem sgn_ne {w : World} {neg : Bool} {ao : Option Addr} {k cap : Nat} {ds : List Nat} (ht : BM.Trim ds) (h : neg = true → ds ≠ []) : neg = true → BM.bval ds ≠ 0 := fun h1 h2 => h h1 (ht.eq_nil h2)
/-- The six boxes of Down. -/
def DnB (na nb : Bool) (ax bx : Option Addr) (k m ca cb : Nat) (w wr : World) (bq br : Nat) (q1 q2 r1 r2 : Value) : Prop :=
  Two wr w.heap.size (.bool na) (.slice ax k ca) ∧ Two wr (w.heap.size + 1) (.bool nb) (.slice bx m cb) ∧ Two wr (w.heap.size + 1 + 1) (.bool false) (.slice none 0 0) ∧ Two wr (w.heap.size + 1 + 1 + 1) (.bool false) (.slice none 0 0) ∧
    Two wr bq q1 q2 ∧ Two wr br r1 r2 ∧ w.heap.size + 1 + 1 + 1 < bq ∧ bq < br ∧ Below w.heap.size w wr
section
variable {na nb : Bool} {ax bx : Option Addr} {k m ca cb : Nat} {w wr w' : World} {bq br : Nat} {q1 q2 r1 r2 : Value}
theorem DnB.ta (h : DnB na nb ax bx k m ca cb w wr bq br q1 q2 r1 r2) : Two wr w.heap.size (.bool na) (.slice ax k ca) := h.1
theorem DnB.tb (h : DnB na nb ax bx k m ca cb w wr bq br q1 q2 r1 r2) : Two wr (w.heap.size + 1) (.bool nb) (.slice bx m cb) := h.2.1
theorem DnB.t2 (h : DnB na nb ax bx k m ca cb w wr bq br q1 q2 r1 r2) : Two wr (w.heap.size + 1 + 1) (.bool false) (.slice none 0 0) := h.2.2.1
theorem DnB.t3 (h : DnB na nb ax bx k m ca cb w wr bq br q1 q2 r1 r2) : Two wr (w.heap.size + 1 + 1 + 1) (.bool false) (.slice none 0 0) := h.2.2.2.1
theorem DnB.tq (h : DnB na nb ax bx k m ca cb w wr bq br q1 q2 r1 r2) : Two wr bq q1 q2 := h.2.2.2.2.1
theorem DnB.tr (h : DnB na nb ax bx k m ca cb w wr bq br q1 q2 r1 r2) : Two wr br r1 r2 := h.2.2.2.2.2.1
theorem DnB.l1 (h : DnB na nb ax bx k m ca cb w wr bq br q1 q2 r1 r2) : w.heap.size + 1 + 1 + 1 < bq := h.2.2.2.2.2.2.1
theorem DnB.l2 (h : DnB na nb ax bx k m ca cb w wr bq br q1 q2 r1 r2) : bq < br := h.2.2.2.2.2.2.2.1
theorem DnB.bl (h : DnB na nb ax bx k m ca cb w wr bq br q1 q2 r1 r2) : Below w.heap.size w wr := h.2.2.2.2.2.2.2.2
theorem DnB.below (h : DnB na nb ax bx k m ca cb w wr bq br q1 q2 r1 r2) (hb : Below wr.heap.size wr w') : DnB na nb ax bx k m ca cb w w' bq br q1 q2 r1 r2 :=
  ⟨h.ta.below hb, h.tb.below hb, h.t2.below hb, h.t3.below hb, h.tq.below hb, h.tr.below hb, h.l1, h.l2, h.bl.trans (hb.mono h.bl.size)⟩
theorem DnB.alloc (h : DnB na nb ax bx k m ca cb w wr bq br q1 q2 r1 r2) (o : Obj) : DnB na nb ax bx k m ca cb w (wr.alloc o) bq br q1 q2 r1 r2 :=
  ⟨h.ta.alloc o, h.tb.alloc o, h.t2.alloc o, h.t3.alloc o, h.tq.alloc o, h.tr.alloc o, h.l1, h.l2, h.bl.alloc h.bl.size o⟩
theorem DnB.putq (h : DnB na nb ax bx k m ca cb w wr bq br q1 q2 r1 r2) (u v : Value) : DnB na nb ax bx k m ca cb w ((wr.setCell ⟨bq, 0, none⟩ u).setCell ⟨bq, 1, none⟩ v) bq br u v r1 r2 :=
  have h1 := h.l1
  have h2 := h.l2
  ⟨h.ta.put_other (by omega) _ _, h.tb.put_other (by omega) _ _, h.t2.put_other (by omega) _ _, h.t3.put_other (by omega) _ _, h.tq.put _ _, h.tr.put_other (by omega) _ _, h1, h2, BP h.bl (by omega) u v⟩
end
theorem BigRet2.out {n p : Int} {w : World} {e : Ending} {w' : World} (h : BigRet2 n p w e w') : ∃ (qn : Bool) (qa : Option Addr) (qk qc : Nat) (rn : Bool) (ra : Option Addr) (rk rc : Nat), e = .returned (.tuple #[.agg #[.bool qn, .slice qa qk qc], .agg #[.bool rn, .slice ra rk rc]]) ∧ IsBig w' qn qa qk qc n ∧ IsBig w' rn ra rk rc p ∧ Below w.heap.size w w' := h

def Three (na nb : Bool) (ax bx : Option Addr) (k m ca cb : Nat) (w : World) (bq : Nat) (q1 q2 z1 z2 : Value) (wr : World) : Prop :=
  Two wr w.heap.size (.bool na) (.slice ax k ca) ∧ Two wr (w.heap.size + 1) (.bool nb) (.slice bx m cb) ∧ Two wr bq q1 q2 ∧ Two wr (w.heap.size + 1 + 1) z1 z2 ∧ Two wr (w.heap.size + 1 + 1 + 1) (.bool false) (.slice none 0 0)
section
variable {na nb : Bool} {ax bx : Option Addr} {k m ca cb : Nat} {w wr w' : World} {bq : Nat} {q1 q2 z1 z2 : Value}
theorem Three.t1 (h : Three na nb ax bx k m ca cb w bq q1 q2 z1 z2 wr) : Two wr w.heap.size (.bool na) (.slice ax k ca) := h.1
theorem Three.t2 (h : Three na nb ax bx k m ca cb w bq q1 q2 z1 z2 wr) : Two wr (w.heap.size + 1) (.bool nb) (.slice bx m cb) := h.2.1
theorem Three.t3 (h : Three na nb ax bx k m ca cb w bq q1 q2 z1 z2 wr) : Two wr bq q1 q2 := h.2.2.1
theorem Three.t4 (h : Three na nb ax bx k m ca cb w bq q1 q2 z1 z2 wr) : Two wr (w.heap.size + 1 + 1) z1 z2 := h.2.2.2.1
theorem Three.t5 (h : Three na nb ax bx k m ca cb w bq q1 q2 z1 z2 wr) : Two wr (w.heap.size + 1 + 1 + 1) (.bool false) (.slice none 0 0) := h.2.2.2.2
theorem Three.cells6 (h : Three na nb ax bx k m ca cb w bq q1 q2 z1 z2 wr) : wr.cell? ⟨w.heap.size, 0, none⟩ = some (.bool na) ∧ wr.cell? ⟨w.heap.size, 1, none⟩ = some (.slice ax k ca) ∧ wr.cell? ⟨w.heap.size + 1, 0, none⟩ = some (.bool nb) ∧ wr.cell? ⟨w.heap.size + 1, 1, none⟩ = some (.slice bx m cb) ∧ wr.cell? ⟨bq, 0, none⟩ = some q1 ∧ wr.cell? ⟨bq, 1, none⟩ = some q2 := ⟨h.t1.cells.1, h.t1.cells.2.1, h.t2.cells.1, h.t2.cells.2.1, h.t3.cells.1, h.t3.cells.2.1⟩
theorem Three.cells6b (h : Three na nb ax bx k m ca cb w bq q1 q2 z1 z2 wr) (hl : w.heap.size + 1 + 1 + 1 < bq) (u v : Value) (X : World) (hX : X = (wr.setCell ⟨w.heap.size + 1 + 1 + 1, 0, none⟩ u).setCell ⟨w.heap.size + 1 + 1 + 1, 1, none⟩ v) : X.cell? ⟨w.heap.size, 0, none⟩ = some (.bool na) ∧ X.cell? ⟨w.heap.size, 1, none⟩ = some (.slice ax k ca) ∧ X.cell? ⟨w.heap.size + 1, 0, none⟩ = some (.bool nb) ∧ X.cell? ⟨w.heap.size + 1, 1, none⟩ = some (.slice bx m cb) ∧ X.cell? ⟨bq, 0, none⟩ = some q1 ∧ X.cell? ⟨bq, 1, none⟩ = some q2 := by
  subst hX
  have a := h.t1.put_other (c := w.heap.size + 1 + 1 + 1) (by omega) u v
  have b := h.t2.put_other (c := w.heap.size + 1 + 1 + 1) (by omega) u v
  have c := h.t3.put_other (c := w.heap.size + 1 + 1 + 1) (by omega) u v
  exact ⟨a.cells.1, a.cells.2.1, b.cells.1, b.cells.2.1, c.cells.1, c.cells.2.1⟩
theorem Three.drew (h : Three na nb ax bx k m ca cb w bq q1 q2 z1 z2 wr) : Three na nb ax bx k m ca cb w bq q1 q2 z1 z2 wr.drew := h
theorem Three.below (hb : Below wr.heap.size wr w') (h : Three na nb ax bx k m ca cb w bq q1 q2 z1 z2 wr) : Three na nb ax bx k m ca cb w bq q1 q2 z1 z2 w' := ⟨h.t1.below hb, h.t2.below hb, h.t3.below hb, h.t4.below hb, h.t5.below hb⟩
theorem Three.put (h : Three na nb ax bx k m ca cb w bq q1 q2 z1 z2 wr) (hl : w.heap.size + 1 + 1 + 1 < bq) (u v : Value) : Three na nb ax bx k m ca cb w bq q1 q2 u v ((wr.setCell ⟨w.heap.size + 1 + 1, 0, none⟩ u).setCell ⟨w.heap.size + 1 + 1, 1, none⟩ v) :=
  ⟨h.t1.put_other (by omega) _ _, h.t2.put_other (by omega) _ _, h.t3.put_other (by omega) _ _, h.t4.put _ _, h.t5.put_other (by omega) _ _⟩
end

set_option maxRecDepth 100000 in
set_option maxHeartbeats 3200000 in
theorem big_down (na nb : Bool) (ax bx : Option Addr) (k m ca cb : Nat) (A B : Int) (w : World) (ha : IsBig w na ax k ca A) (hb : IsBig w nb bx m cb B) (hk : k ≤ 10000) (hm : m ≤ 10000) (hB : B ≠ 0) :
    Calls Tryd.prog 68 #[.agg #[.bool na, .slice ax k ca], .agg #[.bool nb, .slice bx m cb]] w (BigRet2 (fq A B) (fr A B) w) := by
  have hA := ha
  have hBB := hb
  have sA := ha.sz
  have sB := hb.sz
  have sF : BM.Sz (fq A B) k := sA.le (fq_abs hB)
  have sFB := sF.mul sB
  obtain ⟨xs, hx, tx, nx, eA⟩ := ha
  obtain ⟨ys, hy, ty, ny, eB⟩ := hb
  have hY : 0 < BM.bval ys := by
    rcases Nat.eq_zero_or_pos (BM.bval ys) with h | h
    · exfalso; apply hB; rw [eB, h]; cases nb <;> rfl
    · exact h
  have hdq := down_q (na := na) (nb := nb) (x := BM.bval xs) (y := BM.bval ys) (fun h1 h2 => nx h1 (tx.eq_nil h2)) (fun h1 h2 => ny h1 (ty.eq_nil h2)) hY
  rw [← eA, ← eB] at hdq
  have hxl := bval_lt' hx
  obtain ⟨F, eF⟩ : ∃ F, F = fq A B := ⟨_, rfl⟩
  have eR : fr A B = A + -(F * B) := by unfold fr; rw [eF, Int.sub_eq_add_neg]
  rw [← eF] at hdq sF sFB ⊢
  rw [eR]
  obtain ⟨q, eq⟩ : ∃ q, q = BM.bval xs / BM.bval ys := ⟨_, rfl⟩
  obtain ⟨r, er⟩ : ∃ r, r = BM.bval xs % BM.bval ys := ⟨_, rfl⟩
  have sq : BM.Sz (q : Int) k := sz_nat (by rw [eq]; exact Nat.lt_of_le_of_lt (Nat.div_le_self _ _) hxl)
  have hdv := big_divided ax bx k m ca cb xs ys
  rw [← eq, ← er] at hdq hdv
  have HQ := Lib.hid hdq
  clear hdq eF eR eq er eA eB hxl nx ny sA
  go_enter Tryd.func68, Tryd.ntmps68
  go_wp2_with fail
  refine (hdv _ (hx.keep (by repeat' (first | (with_reducible exact Below.refl _ _) | (with_reducible assumption) | (with_reducible refine below_alloc ?_ _ ?_) | (with_reducible refine below_set _ ?_ ?_) | (with_reducible refine Below.drew ?_) | (with_reducible refine below_dN ?_ _) | (apply below_thenA; assumption) | omega | (simp; done) | (simp; omega) | (simp [*]; done)))) (hy.keep (by repeat' (first | (with_reducible exact Below.refl _ _) | (with_reducible assumption) | (with_reducible refine below_alloc ?_ _ ?_) | (with_reducible refine below_set _ ?_ ?_) | (with_reducible refine Below.drew ?_) | (with_reducible refine below_dN ?_ _) | (apply below_thenA; assumption) | omega | (simp; done) | (simp; omega) | (simp [*]; done)))) tx ty hk hm hY).mono ?_
  clear hdv
  rintro e w1 hRet
  obtain ⟨qn, qa, qk, qc, rn, ra, rk, rc, rfl, hQ, hR, hb1⟩ := hRet.out
  have hz := bz4 (n := w.heap.size) hb1 (by simp)
  have hz1 : w.heap.size + 1 + 1 + 1 < w1.heap.size := by have := hb1.size; simp at this; omega
  have ta := ((((Two.new w (.bool na) (.slice ax k ca) _ rfl).alloc (.cells #[.bool nb, .slice bx m cb] 41)).alloc (.cells #[.bool false, .slice none 0 0] 41)).alloc (.cells #[.bool false, .slice none 0 0] 41)).below hb1
  have tb := (((Two.new (w.alloc (.cells #[.bool na, .slice ax k ca] 41)) (.bool nb) (.slice bx m cb) (w.heap.size + 1) (by simp)).alloc (.cells #[.bool false, .slice none 0 0] 41)).alloc (.cells #[.bool false, .slice none 0 0] 41)).below hb1
  have t2 := ((Two.new ((w.alloc (.cells #[.bool na, .slice ax k ca] 41)).alloc (.cells #[.bool nb, .slice bx m cb] 41)) (.bool false) (.slice none 0 0) (w.heap.size + 1 + 1) (by simp)).alloc (.cells #[.bool false, .slice none 0 0] 41)).below hb1
  have t3 := (Two.new (((w.alloc (.cells #[.bool na, .slice ax k ca] 41)).alloc (.cells #[.bool nb, .slice bx m cb] 41)).alloc (.cells #[.bool false, .slice none 0 0] 41)) (.bool false) (.slice none 0 0) (w.heap.size + 1 + 1 + 1) (by simp)).below hb1
  have hbw : Below w.heap.size w w1 := (by repeat' (first | (with_reducible exact Below.refl _ _) | (with_reducible assumption) | (with_reducible refine below_alloc ?_ _ ?_) | (with_reducible refine below_set _ ?_ ?_) | (with_reducible refine Below.drew ?_) | (with_reducible refine below_dN ?_ _) | (apply below_thenA; assumption) | omega | (simp; done) | (simp; omega) | (simp [*]; done)))
  have D : DnB na nb ax bx k m ca cb w ((w1.alloc (.cells #[.bool qn, .slice qa qk qc] 41)).alloc (.cells #[.bool rn, .slice ra rk rc] 41)) w1.heap.size (w1.heap.size + 1) (.bool qn) (.slice qa qk qc) (.bool rn) (.slice ra rk rc) :=
    ⟨(ta.alloc _).alloc _, (tb.alloc _).alloc _, (t2.alloc _).alloc _, (t3.alloc _).alloc _, (Two.new _ _ _ _ rfl).alloc _, Two.new _ _ _ _ (by simp), hz1, by omega, (by repeat' (first | (with_reducible exact Below.refl _ _) | (with_reducible assumption) | (with_reducible refine below_alloc ?_ _ ?_) | (with_reducible refine below_set _ ?_ ?_) | (with_reducible refine Below.drew ?_) | (with_reducible refine below_dN ?_ _) | (apply below_thenA; assumption) | omega | (simp; done) | (simp; omega) | (simp [*]; done)))⟩
  replace hQ : IsBig ((w1.alloc (.cells #[.bool qn, .slice qa qk qc] 41)).alloc (.cells #[.bool rn, .slice ra rk rc] 41)) qn qa qk qc (q : Int) := hQ.keep (by repeat' (first | (with_reducible exact Below.refl _ _) | (with_reducible assumption) | (with_reducible refine below_alloc ?_ _ ?_) | (with_reducible refine below_set _ ?_ ?_) | (with_reducible refine Below.drew ?_) | (with_reducible refine below_dN ?_ _) | (apply below_thenA; assumption) | omega | (simp; done) | (simp; omega) | (simp [*]; done)))
  replace hR : IsBig ((w1.alloc (.cells #[.bool qn, .slice qa qk qc] 41)).alloc (.cells #[.bool rn, .slice ra rk rc] 41)) rn ra rk rc (r : Int) := hR.keep (by repeat' (first | (with_reducible exact Below.refl _ _) | (with_reducible assumption) | (with_reducible refine below_alloc ?_ _ ?_) | (with_reducible refine below_set _ ?_ ?_) | (with_reducible refine Below.drew ?_) | (with_reducible refine below_dN ?_ _) | (apply below_thenA; assumption) | omega | (simp; done) | (simp; omega) | (simp [*]; done)))
  obtain ⟨p1, p2, p3, p4⟩ := ta.cells
  obtain ⟨p5, p6, p7, p8⟩ := tb.cells
  clear hRet hb1 t2 t3 hbw
  go_upto_if 22 with (fail)
  clear p1 p2 p3 p4 p5 p6 p7 p8 ta tb
  obtain ⟨c, ec⟩ : ∃ c, c = (na == nb) := ⟨_, rfl⟩
  rw [← ec]
  have EC := Lib.hid ec
  clear ec
  go_cut [] from 22 (fun wx => ∃ qn qa qk qc, DnB na nb ax bx k m ca cb w wx w1.heap.size (w1.heap.size + 1) (.bool qn) (.slice qa qk qc) (.bool rn) (.slice ra rk rc) ∧ IsBig wx qn qa qk qc F)
  case first =>
    obtain ⟨rfl, rs, hrs, trs, ers⟩ := hR.nat
    have hrk : (r = 0 → rk = 0) ∧ (0 < r → 0 < rk) := by
      have hl := hrs.len
      refine ⟨fun h => ?_, fun h => ?_⟩
      · have := trs.eq_nil (by omega); rw [this] at hl; simp at hl; omega
      · rcases Nat.eq_zero_or_pos rk with h0 | h0
        · rw [h0] at hl; have : rs = [] := List.eq_nil_of_length_eq_zero hl; rw [this] at ers; simp [BM.bval] at ers; omega
        · exact h0
    have HK := Lib.hid hrk
    have hkq := hQ.le sq
    clear hrk hrs trs ers hR
    obtain ⟨p1, p2, p3, p4⟩ := D.tq.cells
    cases c
    · have hs : na ≠ nb := by have := EC.out; intro h; simp [h] at this
      by_cases h0 : r = 0
      · have e := Lib.hid (HQ.out.2.1 hs h0)
        have hr0 := HK.out.1 h0
        clear hs h0
        subst hr0
        go_wp2_with (go_at_call 63; go_loud (with_reducible refine (big_minus qn qa qk qc _ _ hQ ?_).mono ?_); omega; rintro e w2 ⟨n2, a2, k2, c2, rfl, hI2, hb2⟩; replace D := D.below hb2; obtain ⟨q1, q2, q3, q4⟩ := D.tq.cells; obtain ⟨r1, r2, r3, r4⟩ := D.tr.cells)
        go_meet
        case rel => exact ⟨n2, a2, k2, c2, D.putq _ _, by rw [e.out]; exact IsBig.put hI2 D.tq _ _⟩
      · have e := Lib.hid (HQ.out.2.2 hs (by omega))
        have hr0 := HK.out.2 (by omega)
        clear hs h0
        go_wp2_with (first
          | (go_at_call 63; go_loud (with_reducible refine (big_minus qn qa qk qc _ _ hQ ?_).mono ?_); omega; rintro e w2 ⟨n2, a2, k2, c2, rfl, hI2, hb2⟩; (have hk2 := hI2.le sq.neg); replace D := D.below hb2; obtain ⟨q1, q2, q3, q4⟩ := D.tq.cells; obtain ⟨r1, r2, r3, r4⟩ := D.tr.cells; have hN := IsBig.put hI2 D.tq (.bool n2) (.slice a2 k2 c2); have hD := D.putq (.bool n2) (.slice a2 k2 c2))
          | (go_at_call 61; go_loud (with_reducible refine (big_plus n2 true a2 _ k2 1 c2 1 (-(q : Int)) (-1) _ (hN.keep (by repeat' (first | (with_reducible exact Below.refl _ _) | (with_reducible assumption) | (with_reducible refine below_alloc ?_ _ ?_) | (with_reducible refine below_set _ ?_ ?_) | (with_reducible refine Below.drew ?_) | (with_reducible refine below_dN ?_ _) | (apply below_thenA; assumption) | omega | (simp; done) | (simp; omega) | (simp [*]; done)))) (one_at _ _ (by simp)) ?_ ?_).mono ?_); omega; omega; rintro e w3 ⟨n3, a3, k3, c3, rfl, hI3, hb3⟩; have hD3 := (hD.alloc (.cells #[.int .u64 1] 22)).below hb3; obtain ⟨s1, s2, s3, s4⟩ := hD3.tq.cells))
        go_meet
        case rel => exact ⟨n3, a3, k3, c3, hD3.putq _ _, by rw [e.out]; exact IsBig.put hI3 hD3.tq _ _⟩
    · have e := HQ.out.1 (by have := EC.out; simpa using this.symm)
      rw [← e] at hQ
      clear e
      go_wp2_with fail
      go_meet
      case rel => exact ⟨qn, qa, qk, qc, D, hQ⟩
  case rest =>
    clear D hQ hR
    obtain ⟨qn, qa, qk, qc, D, hQ⟩ := hcut
    have hkq := hQ.le sF
    have hA' := hA.keep D.bl
    have hB' := hBB.keep D.bl
    obtain ⟨p1, p2, p3, p4⟩ := D.ta.cells
    obtain ⟨p5, p6, p7, p8⟩ := D.tb.cells
    obtain ⟨q1, q2, q3, q4⟩ := D.tq.cells
    obtain ⟨r1, r2, r3, r4⟩ := D.t2.cells
    obtain ⟨r5, r6, r7, r8⟩ := D.t3.cells
    have z2 := D.t2
    have z3 := D.t3
    have l1 := D.l1
    have l2 := D.l2
    have lz := D.tr.lt
    have hbl := D.bl
    have T : Three na nb ax bx k m ca cb w w1.heap.size (.bool qn) (.slice qa qk qc) (.bool false) (.slice none 0 0) wc := ⟨D.ta, D.tb, D.tq, D.t2, D.t3⟩
    have n1 : ¬ w1.heap.size = w.heap.size + 1 + 1 := by omega
    have n2 : ¬ w1.heap.size = w.heap.size + 1 + 1 + 1 := by omega
    have g1 : w.heap.size < wc.heap.size := by omega
    have g2 : w.heap.size + 1 < wc.heap.size := by omega
    have g3 : w1.heap.size < wc.heap.size := by omega
    go_wp2_with fail
    go_region_held3 (fun w' => w'.cell? ⟨w.heap.size, 0, none⟩ = some (.bool na) ∧ w'.cell? ⟨w.heap.size, 1, none⟩ = some (.slice ax k ca) ∧ w'.cell? ⟨w.heap.size + 1, 0, none⟩ = some (.bool nb) ∧ w'.cell? ⟨w.heap.size + 1, 1, none⟩ = some (.slice bx m cb) ∧ w'.cell? ⟨w1.heap.size, 0, none⟩ = some (.bool qn) ∧ w'.cell? ⟨w1.heap.size, 1, none⟩ = some (.slice qa qk qc))
      (with_reducible first | exact ⟨p1, p2, p5, p6, q1, q2⟩ | exact T.cells6 | exact (T.put l1 _ _).cells6 | exact (T.put l1 _ _).cells6b l1 _ _ _ rfl | exact T.drew.cells6 | exact (T.put l1 _ _).drew.cells6)
      (first
      | (go_at_call 25; go_loud (with_reducible refine (big_times qn nb qa bx qk m qc cb F B _ (IsBig.keeps hQ (by repeat' (first | (with_reducible exact Keeps.refl _) | (with_reducible refine Keeps.alloc ?_ _) | (with_reducible refine Keeps.drew ?_) | (with_reducible refine Keeps.drewN ?_ _) | (with_reducible refine Keeps.set ?_ _ _ (T := 41) ?_ (by decide)) | (with_reducible exact TyAt.new _ _ _ _ (by simp)) | (with_reducible refine TyAt.set ?_ _ _) | (with_reducible refine TyAt.alloc ?_ _) | (with_reducible refine TyAt.drew ?_) | (with_reducible refine TyAt.drewN ?_ _) | (apply Keeps.below; assumption) | (exact Two.ty (by assumption)) | (apply TyAt.below; rotate_left; assumption)))) (IsBig.keeps hB' (by repeat' (first | (with_reducible exact Keeps.refl _) | (with_reducible refine Keeps.alloc ?_ _) | (with_reducible refine Keeps.drew ?_) | (with_reducible refine Keeps.drewN ?_ _) | (with_reducible refine Keeps.set ?_ _ _ (T := 41) ?_ (by decide)) | (with_reducible exact TyAt.new _ _ _ _ (by simp)) | (with_reducible refine TyAt.set ?_ _ _) | (with_reducible refine TyAt.alloc ?_ _) | (with_reducible refine TyAt.drew ?_) | (with_reducible refine TyAt.drewN ?_ _) | (apply Keeps.below; assumption) | (exact Two.ty (by assumption)) | (apply TyAt.below; rotate_left; assumption)))) ?_ ?_).mono ?_); omega; omega; rintro e w4 hB4; obtain ⟨n4, a4, k4, c4, rfl, hI4, hb4⟩ := hB4.out; have hk4 := hI4.le sFB; obtain ⟨hc4, hf4⟩ := bcell hb4; replace T := Three.below hb4 (by with_reducible first | exact T.drew | exact (T.put l1 _ _).drew | exact T | exact T.put l1 _ _); obtain ⟨p1, p2, p3, p4⟩ := T.t1.cells; obtain ⟨p5, p6, p7, p8⟩ := T.t2.cells; obtain ⟨q1, q2, q3, q4⟩ := T.t3.cells; obtain ⟨r1, r2, r3, r4⟩ := T.t4.cells; obtain ⟨r5, r6, r7, r8⟩ := T.t5.cells)
      | (go_at_call 63; go_loud (with_reducible refine (big_minus n4 a4 k4 c4 (F * B) _ (IsBig.keeps hI4 (by repeat' (first | (with_reducible exact Keeps.refl _) | (with_reducible refine Keeps.alloc ?_ _) | (with_reducible refine Keeps.drew ?_) | (with_reducible refine Keeps.drewN ?_ _) | (with_reducible refine Keeps.set ?_ _ _ (T := 41) ?_ (by decide)) | (with_reducible exact TyAt.new _ _ _ _ (by simp)) | (with_reducible refine TyAt.set ?_ _ _) | (with_reducible refine TyAt.alloc ?_ _) | (with_reducible refine TyAt.drew ?_) | (with_reducible refine TyAt.drewN ?_ _) | (apply Keeps.below; assumption) | (exact Two.ty (by assumption)) | (apply TyAt.below; rotate_left; assumption)))) ?_).mono ?_); omega; rintro e w5 hB5; obtain ⟨n5, a5, k5, c5, rfl, hI5, hb5⟩ := hB5.out; have hk5 := hI5.le sFB.neg; obtain ⟨hc5, hf5⟩ := bcell hb5; replace T := Three.below hb5 (by with_reducible first | exact T.drew | exact (T.put l1 _ _).drew | exact T | exact T.put l1 _ _); obtain ⟨p1, p2, p3, p4⟩ := T.t1.cells; obtain ⟨p5, p6, p7, p8⟩ := T.t2.cells; obtain ⟨q1, q2, q3, q4⟩ := T.t3.cells; obtain ⟨r1, r2, r3, r4⟩ := T.t4.cells; obtain ⟨r5, r6, r7, r8⟩ := T.t5.cells)
      | (go_at_call 61; go_loud (with_reducible refine (big_plus na n5 ax a5 k k5 ca c5 A (-(F * B)) _ (IsBig.keeps hA' (by repeat' (first | (with_reducible exact Keeps.refl _) | (with_reducible refine Keeps.alloc ?_ _) | (with_reducible refine Keeps.drew ?_) | (with_reducible refine Keeps.drewN ?_ _) | (with_reducible refine Keeps.set ?_ _ _ (T := 41) ?_ (by decide)) | (with_reducible exact TyAt.new _ _ _ _ (by simp)) | (with_reducible refine TyAt.set ?_ _ _) | (with_reducible refine TyAt.alloc ?_ _) | (with_reducible refine TyAt.drew ?_) | (with_reducible refine TyAt.drewN ?_ _) | (apply Keeps.below; assumption) | (exact Two.ty (by assumption)) | (apply TyAt.below; rotate_left; assumption)))) (IsBig.keeps hI5 (by repeat' (first | (with_reducible exact Keeps.refl _) | (with_reducible refine Keeps.alloc ?_ _) | (with_reducible refine Keeps.drew ?_) | (with_reducible refine Keeps.drewN ?_ _) | (with_reducible refine Keeps.set ?_ _ _ (T := 41) ?_ (by decide)) | (with_reducible exact TyAt.new _ _ _ _ (by simp)) | (with_reducible refine TyAt.set ?_ _ _) | (with_reducible refine TyAt.alloc ?_ _) | (with_reducible refine TyAt.drew ?_) | (with_reducible refine TyAt.drewN ?_ _) | (apply Keeps.below; assumption) | (exact Two.ty (by assumption)) | (apply TyAt.below; rotate_left; assumption)))) ?_ ?_).mono ?_); omega; omega; rintro e w6 hB6; obtain ⟨n6, a6, k6, c6, rfl, hI6, hb6⟩ := hB6.out; obtain ⟨hc6, hf6⟩ := bcell hb6; replace T := Three.below hb6 (by with_reducible first | exact T.drew | exact (T.put l1 _ _).drew | exact T | exact T.put l1 _ _); obtain ⟨p1, p2, p3, p4⟩ := T.t1.cells; obtain ⟨p5, p6, p7, p8⟩ := T.t2.cells; obtain ⟨q1, q2, q3, q4⟩ := T.t3.cells; obtain ⟨r1, r2, r3, r4⟩ := T.t4.cells; obtain ⟨r5, r6, r7, r8⟩ := T.t5.cells))
    go_wp2_with fail
    have hQ6 := IsBig.keeps hQ (show Keeps wc w6 from (by repeat' (first | (with_reducible exact Keeps.refl _) | (with_reducible refine Keeps.alloc ?_ _) | (with_reducible refine Keeps.drew ?_) | (with_reducible refine Keeps.drewN ?_ _) | (with_reducible refine Keeps.set ?_ _ _ (T := 41) ?_ (by decide)) | (with_reducible exact TyAt.new _ _ _ _ (by simp)) | (with_reducible refine TyAt.set ?_ _ _) | (with_reducible refine TyAt.alloc ?_ _) | (with_reducible refine TyAt.drew ?_) | (with_reducible refine TyAt.drewN ?_ _) | (apply Keeps.below; assumption) | (exact Two.ty (by assumption)) | (apply TyAt.below; rotate_left; assumption))))
    have hN := IsBig.put (IsBig.put hQ6 T.t4 (.bool qn) (.slice qa qk qc)) (T.put l1 (.bool qn) (.slice qa qk qc)).t5 (.bool n6) (.slice a6 k6 c6)
    have hO := IsBig.put (IsBig.put hI6 T.t4 (.bool qn) (.slice qa qk qc)) (T.put l1 (.bool qn) (.slice qa qk qc)).t5 (.bool n6) (.slice a6 k6 c6)
    have hl : Below w.heap.size w w6 := below_step (below_step (below_step hbl (below_undrew hb4)) hb5) hb6
    have hL := BP (BP hl (b := w.heap.size + 1 + 1) (by omega) (.bool qn) (.slice qa qk qc)) (b := w.heap.size + 1 + 1 + 1) (by omega) (.bool n6) (.slice a6 k6 c6)
    (go_light; simp [bodyPost, results, Tryd.results68, go_sem, *])
    exact ⟨qn, qa, qk, qc, n6, a6, k6, c6, rfl, hN, hO, hL⟩
end Go.Proofs.YtmkblfejoniccaaDoor
namespace Go.Proofs.YtmkblfejoniccaaDoor
open Go.RowKit
set_option linter.unusedSimpArgs false
set_option linter.unusedVariables false

theorem IsBig.lenpos {w : World} {neg : Bool} {ao : Option Addr} {k cap y : Nat} (h : IsBig w neg ao k cap ((y : Nat) : Int)) : (y = 0 → k = 0) ∧ (0 < y → 0 < k) := by
  obtain ⟨_, ds, h1, h2, h3⟩ := h.nat
  have hl := h1.len
  refine ⟨fun e => ?_, fun e => ?_⟩
  · have := h2.eq_nil (by omega); rw [this] at hl; simp at hl; omega
  · rcases Nat.eq_zero_or_pos k with h0 | h0
    · rw [h0] at hl; have : ds = [] := List.eq_nil_of_length_eq_zero hl; rw [this] at h3; simp [BM.bval] at h3; omega
    · exact h0
theorem fr_nat (x y : Nat) (hy : 0 < y) : fr (x : Int) (y : Int) = ((x % y : Nat) : Int) := by
  rw [fr_pos (by omega)]; simp
/-- The three boxes of Common. -/
def CmB (w : World) (a1 a2 b1 b2 : Value) (wr : World) : Prop :=
  Two wr w.heap.size a1 a2 ∧ Two wr (w.heap.size + 1) b1 b2 ∧ Two wr (w.heap.size + 1 + 1) (.bool false) (.slice none 0 0) ∧ Below w.heap.size w wr
section
variable {w wr w' : World} {a1 a2 b1 b2 : Value}
theorem CmB.ta (h : CmB w a1 a2 b1 b2 wr) : Two wr w.heap.size a1 a2 := h.1
theorem CmB.tb (h : CmB w a1 a2 b1 b2 wr) : Two wr (w.heap.size + 1) b1 b2 := h.2.1
theorem CmB.tc (h : CmB w a1 a2 b1 b2 wr) : Two wr (w.heap.size + 1 + 1) (.bool false) (.slice none 0 0) := h.2.2.1
theorem CmB.bl (h : CmB w a1 a2 b1 b2 wr) : Below w.heap.size w wr := h.2.2.2
theorem CmB.alloc (h : CmB w a1 a2 b1 b2 wr) (o : Obj) : CmB w a1 a2 b1 b2 (wr.alloc o) := ⟨h.ta.alloc o, h.tb.alloc o, h.tc.alloc o, h.bl.alloc h.bl.size o⟩
theorem CmB.drew (h : CmB w a1 a2 b1 b2 wr) : CmB w a1 a2 b1 b2 wr.drew := ⟨h.ta, h.tb, h.tc, h.bl.drew⟩
theorem CmB.below (h : CmB w a1 a2 b1 b2 wr) (hb : Below wr.heap.size wr w') : CmB w a1 a2 b1 b2 w' := ⟨h.ta.below hb, h.tb.below hb, h.tc.below hb, h.bl.trans (hb.mono h.bl.size)⟩
theorem CmB.puts (h : CmB w a1 a2 b1 b2 wr) (c1 c2 d1 d2 : Value) :
    CmB w c1 c2 d1 d2 ((((wr.setCell ⟨w.heap.size, 0, none⟩ c1).setCell ⟨w.heap.size, 1, none⟩ c2).setCell ⟨w.heap.size + 1, 0, none⟩ d1).setCell ⟨w.heap.size + 1, 1, none⟩ d2) :=
  ⟨(h.ta.put c1 c2).put_other (by omega) d1 d2, (h.tb.put_other (by omega) c1 c2).put d1 d2, (h.tc.put_other (by omega) c1 c2).put_other (by omega) d1 d2, BP (BP h.bl (by omega) c1 c2) (by omega) d1 d2⟩
theorem CmB.big (h : CmB w a1 a2 b1 b2 wr) (c1 c2 d1 d2 : Value) {neg : Bool} {ao : Option Addr} {k cap : Nat} {n : Int} (hI : IsBig wr neg ao k cap n) :
    IsBig ((((wr.setCell ⟨w.heap.size, 0, none⟩ c1).setCell ⟨w.heap.size, 1, none⟩ c2).setCell ⟨w.heap.size + 1, 0, none⟩ d1).setCell ⟨w.heap.size + 1, 1, none⟩ d2) neg ao k cap n :=
  IsBig.put (IsBig.put hI h.ta c1 c2) (h.tb.put_other (by omega) c1 c2) d1 d2
end
def ComRel (G K : Nat) (w : World) (g : Nat) (wr : World) : Prop :=
  ∃ (x y : Nat) (na : Bool) (xa : Option Addr) (ka ca : Nat) (nb : Bool) (xb : Option Addr) (kb cb : Nat), g = y ∧ x < 65536 ^ K ∧ y < 65536 ^ K ∧ Nat.gcd x y = G ∧
    CmB w (.bool na) (.slice xa ka ca) (.bool nb) (.slice xb kb cb) wr ∧ IsBig wr na xa ka ca ((x : Nat) : Int) ∧ IsBig wr nb xb kb cb ((y : Nat) : Int)

set_option maxRecDepth 100000 in
set_option maxHeartbeats 3200000 in
theorem ref_common (na nb : Bool) (xa xb : Option Addr) (ka kb ca cb x y K : Nat) (w : World) (ha : IsBig w na xa ka ca ((x : Nat) : Int)) (hb : IsBig w nb xb kb cb ((y : Nat) : Int)) (hx : x < 65536 ^ K) (hy : y < 65536 ^ K) (hK : K ≤ 10000) :
    Calls Tryd.prog 92 #[.agg #[.bool na, .slice xa ka ca], .agg #[.bool nb, .slice xb kb cb]] w (BigRet ((Nat.gcd x y : Nat) : Int) w) := by
  obtain ⟨G, eG⟩ : ∃ G, Nat.gcd x y = G := ⟨_, rfl⟩
  rw [eG]
  have EG := Lib.hid eG
  have HX := Lib.hid hx
  have HY := Lib.hid hy
  clear eG hx hy
  go_enter Tryd.func92, Tryd.ntmps92
  go_wp2_with fail
  go_loopg [] y (fun g wr => ComRel G K w g wr)
  case atStart =>
    exact ⟨x, y, na, xa, ka, ca, nb, xb, kb, cb, rfl, HX.out, HY.out, EG.out, ⟨((Two.new w _ _ _ rfl).alloc _).alloc _, (Two.new _ _ _ _ (by simp)).alloc _, Two.new _ _ _ _ (by simp), (by repeat' (first | (with_reducible exact Below.refl _ _) | (with_reducible assumption) | (with_reducible refine below_alloc ?_ _ ?_) | (with_reducible refine below_set _ ?_ ?_) | (with_reducible refine Below.drew ?_) | (with_reducible refine below_dN ?_ _) | (apply below_thenA; assumption) | omega | (simp; done) | (simp; omega) | (simp [*]; done)))⟩, ha.keep (by repeat' (first | (with_reducible exact Below.refl _ _) | (with_reducible assumption) | (with_reducible refine below_alloc ?_ _ ?_) | (with_reducible refine below_set _ ?_ ?_) | (with_reducible refine Below.drew ?_) | (with_reducible refine below_dN ?_ _) | (apply below_thenA; assumption) | omega | (simp; done) | (simp; omega) | (simp [*]; done))), hb.keep (by repeat' (first | (with_reducible exact Below.refl _ _) | (with_reducible assumption) | (with_reducible refine below_alloc ?_ _ ?_) | (with_reducible refine below_set _ ?_ ?_) | (with_reducible refine Below.drew ?_) | (with_reducible refine below_dN ?_ _) | (apply below_thenA; assumption) | omega | (simp; done) | (simp; omega) | (simp [*]; done)))⟩
  case round =>
    clear ha hb HX HY EG
    obtain ⟨x, y, na, xa, ka, ca, nb, xb, kb, cb, rfl, hx, hy, hg, D, hA, hB⟩ := hrel
    have hlen := hB.lenpos
    have HG := Lib.hid hg
    have HY := Lib.hid hy
    have sx := sz_nat hx
    have sy := sz_nat hy
    have hka := hA.le sx
    have hkb := hB.le sy
    clear hg hy
    by_cases h0 : gk = 0
    · have hk0 := hlen.1 h0
      have e : x = G := by have := HG.out; rw [h0, Nat.gcd_zero_right] at this; exact this
      subst hk0
      subst e
      clear hlen
      obtain ⟨p1, p2, p3, p4⟩ := D.ta.cells
      obtain ⟨p5, p6, p7, p8⟩ := D.tb.cells
      obtain ⟨q1, q2, q3, q4⟩ := D.tc.cells
      have hN := IsBig.put hA D.tc (.bool na) (.slice xa ka ca)
      have hL := BP D.bl (b := w.heap.size + 1 + 1) (by omega) (.bool na) (.slice xa ka ca)
      go_wp2_with fail
      (go_light; simp [bodyPost, results, Tryd.results92, go_sem, *])
      exact ⟨na, xa, ka, ca, rfl, hN, hL⟩
    · have hk0 := hlen.2 (by omega)
      have hp : 0 < gk := by omega
      clear hlen
      have DN := fun W (h1 : IsBig W na xa ka ca ((x : Nat) : Int)) (h2 : IsBig W nb xb kb cb ((gk : Nat) : Int)) => big_down na nb xa xb ka kb ca cb ((x : Nat) : Int) ((gk : Nat) : Int) W h1 h2 (by omega) (by omega) (by omega)
      rw [fr_nat x gk hp] at DN
      obtain ⟨r, er⟩ : ∃ r, x % gk = r := ⟨_, rfl⟩
      rw [er] at DN
      have hr : r < gk := by rw [← er]; exact Nat.mod_lt _ hp
      have HR : Hid (Nat.gcd gk r = G) := Lib.hid (by rw [← HG.out, ← er, Nat.gcd_comm x]; exact (Nat.gcd_comm _ _).trans (Nat.gcd_rec _ _).symm)
      clear er
      obtain ⟨p1, p2, p3, p4⟩ := D.ta.cells
      obtain ⟨p5, p6, p7, p8⟩ := D.tb.cells
      go_wp2_with fail
      refine (DN _ hA hB).mono ?_
      rintro e w5 hRet
      obtain ⟨qn, qa, qk, qc, rn, ra, rk, rc, rfl, hQ, hRr, hb5⟩ := hRet.out
      have D5 := D.below hb5
      have hD := (((D5.puts (.bool nb) (.slice xb kb cb) (.bool rn) (.slice ra rk rc)).alloc (.cells #[.bool qn, .slice qa qk qc] 41)).alloc (.cells #[.bool rn, .slice ra rk rc] 41)).drew
      have hN := IsBig.keeps (D5.big (.bool nb) (.slice xb kb cb) (.bool rn) (.slice ra rk rc) (hB.keep hb5)) (Keeps.drew (Keeps.alloc (Keeps.alloc (Keeps.refl _) (.cells #[.bool qn, .slice qa qk qc] 41)) (.cells #[.bool rn, .slice ra rk rc] 41)))
      have hO := IsBig.keeps (D5.big (.bool nb) (.slice xb kb cb) (.bool rn) (.slice ra rk rc) hRr) (Keeps.drew (Keeps.alloc (Keeps.alloc (Keeps.refl _) (.cells #[.bool qn, .slice qa qk qc] 41)) (.cells #[.bool rn, .slice ra rk rc] 41)))
      have t5 := (D.below hb5).ta
      have t6 := (D.below hb5).tb
      have l6 := t6.lt
      clear p1 p2 p3 p4 p5 p6 p7 p8 DN hRet
      obtain ⟨p1, p2, p3, p4⟩ := t5.cells
      obtain ⟨p5, p6, p7, p8⟩ := t6.cells
      have g1 : w.heap.size < w5.heap.size := by omega
      go_wp2_with fail
      go_region
      all_goals
        go_wp2_with fail
        go_roundg r
        case measure => exact hr
        case rel => exact ⟨gk, r, nb, xb, kb, cb, rn, ra, rk, rc, rfl, HY.out, Nat.lt_trans hr HY.out, HR.out, hD, hN, hO⟩
end Go.Proofs.YtmkblfejoniccaaDoor
