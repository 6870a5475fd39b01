/-
  The reference's whole numbers, each function by its contract. Thirteenth part: Int.
-/
import Derived.Test.YthffphcgkmjhbaaBigL
namespace Go.Proofs.Ythffphcgkmjhbaa
open Go.RowKit
set_option linter.unusedSimpArgs false
set_option linter.unusedVariables false

def intB (X : Int) : Bool := decide (-9223372036854775808 ≤ X) && decide (X < 9223372036854775808)
/-- The int, or 0. -/
def intV (X : Int) : Int := if intB X then X else 0
theorem intB_lo {X : Int} (h : cmpI X (-9223372036854775808) < 0) : intB X = false := by
  unfold cmpI at h
  unfold intB
  have : X < -9223372036854775808 := by
    by_cases h1 : X < -9223372036854775808
    · exact h1
    · rw [if_neg h1] at h; split at h <;> omega
  simp; omega
theorem intB_hi {X : Int} (h : 0 ≤ cmpI X (-9223372036854775808)) : intB X = decide (cmpI X 9223372036854775808 < 0) := by
  unfold cmpI at *
  unfold intB
  have : -9223372036854775808 ≤ X := by
    by_cases h1 : X < -9223372036854775808
    · rw [if_pos h1] at h; omega
    · omega
  by_cases h2 : X < 9223372036854775808
  · simp [h2, this]
  · simp [h2]; split <;> simp
theorem intB_fit {X : Int} (h : intB X = true) : -9223372036854775808 ≤ X ∧ X ≤ 9223372036854775807 := by
  unfold intB at h; simp at h; omega
theorem bval_drop_le (ds : List Nat) (j : Nat) (hj : j ≤ ds.length) : BM.bval (ds.drop j) ≤ BM.bval ds := by
  rw [BM.bval_split ds j hj]
  have : 1 * BM.bval (ds.drop j) ≤ 65536 ^ j * BM.bval (ds.drop j) := Nat.mul_le_mul_right _ (Nat.pow_pos (by decide))
  omega
def IntRel (neg : Bool) (ao : Option Addr) (k cap : Nat) (ds : List Nat) (w : World) (g : Nat) (s5 s6 : Value) (wr : World) : Prop :=
  ∃ (j v : Nat), j ≤ k ∧ g = j ∧ s6 = .int .i64 ((j : Int) - 1) ∧ v = BM.bval (ds.drop j) ∧ s5 = .int .i64 (sgn neg v) ∧
    Two wr w.heap.size (.bool neg) (.slice ao k cap) ∧ Below w.heap.size w wr

set_option maxRecDepth 100000 in
set_option maxHeartbeats 1600000 in
theorem big_int (neg : Bool) (ao : Option Addr) (k cap : Nat) (X : Int) (w : World) (h : IsBig w neg ao k cap X) (hk : k ≤ 100000) :
    Calls Try.prog 29 #[.agg #[.bool neg, .slice ao k cap]] w fun e w' => e = .returned (.tuple #[.int .i64 (intV X), .bool (intB X)]) ∧ Below w.heap.size w w' := by
  obtain ⟨P, eP'⟩ : ∃ P : Int, P = 9223372036854775808 := ⟨_, rfl⟩
  have eP : P = ((2 ^ 63 : Nat) : Int) := by rw [eP']; decide
  have hp1 : 63 ≤ 1000 := by omega
  have sP : BM.Sz P 4 := by rw [eP']; unfold BM.Sz; decide
  obtain ⟨c1, e1⟩ : ∃ c1, c1 = cmpI X (-P) := ⟨_, rfl⟩
  obtain ⟨c2, e2⟩ : ∃ c2, c2 = cmpI X P := ⟨_, rfl⟩
  have E1 := Lib.hid e1.symm
  have E2 := Lib.hid e2.symm
  have hA : c1 < 0 → intB X = false := fun h => intB_lo (by rw [← eP', ← e1]; exact h)
  have hB : 0 ≤ c1 → intB X = decide (c2 < 0) := fun h => by rw [intB_hi (by rw [← eP', ← e1]; exact h), ← eP', ← e2]
  have t0 : Two (w.alloc (.cells #[.bool neg, .slice ao k cap] 29)) w.heap.size (.bool neg) (.slice ao k cap) := Two.new w _ _ _ rfl
  clear eP' e1 e2
  by_cases hc : 0 ≤ c1
  · have hB' := Lib.hid (hB hc)
    have hcn : ¬ c1 < 0 := by omega
    have hd : decide (c1 < 0) = false := by simp [hcn]
    clear hA hB
    by_cases hc2 : c2 < 0
    · have hd2 : decide (0 ≤ c2) = false := by simp; omega
      have hV : intB X = true := by rw [hB'.out]; simp [hc2]
      have hfit := intB_fit hV
      have HVV := Lib.hid hV
      have HV2 := Lib.hid (show intV X = X by unfold intV; rw [hV]; rfl)
      clear hV
      have h' := h
      obtain ⟨ds, h1, h2, h3, hXe⟩ := h'
      have HX := Lib.hid hXe
      clear hXe
      have LD := Lib.hid h1.len
      have HF := Lib.hid hfit
      clear hfit
      go_enter Try.func29, Try.ntmps29
      go_wp2_with fail
      refine (big_power_lit 63 63 rfl hp1 P eP _).mono ?_
      rintro e w1 ⟨n1, a1, k1, c1', rfl, hI1, hb1⟩
      replace t0 := t0.below hb1
      go_wp2_with fail
      refine (big_minus n1 a1 k1 c1' P _ hI1 (by have := hI1.le sP; omega)).mono ?_
      rintro e w2 ⟨m3, b3, j3, d3, rfl, hM, hb2⟩
      replace t0 := t0.below hb2
      have hM' := hM.keep (w' := w2.alloc (.cells #[.bool m3, .slice b3 j3 d3] 29)) (by repeat' (first | (with_reducible exact Below.refl _ _) | (with_reducible assumption) | (with_reducible refine below_alloc ?_ _ ?_) | (with_reducible refine below_set _ ?_ ?_) | (with_reducible refine Below.drew ?_) | (with_reducible refine below_dN ?_ _) | (apply below_thenA; assumption) | omega | (simp; done) | (simp; omega) | (simp [*]; done)))
      have hx2 := (((h.keep (w' := w.alloc (.cells #[.bool neg, .slice ao k cap] 29)) (by repeat' (first | (with_reducible exact Below.refl _ _) | (with_reducible assumption) | (with_reducible refine below_alloc ?_ _ ?_) | (with_reducible refine below_set _ ?_ ?_) | (with_reducible refine Below.drew ?_) | (with_reducible refine below_dN ?_ _) | (apply below_thenA; assumption) | omega | (simp; done) | (simp; omega) | (simp [*]; done)))).keep hb1).keep hb2).keep (w' := w2.alloc (.cells #[.bool m3, .slice b3 j3 d3] 29)) (by repeat' (first | (with_reducible exact Below.refl _ _) | (with_reducible assumption) | (with_reducible refine below_alloc ?_ _ ?_) | (with_reducible refine below_set _ ?_ ?_) | (with_reducible refine Below.drew ?_) | (with_reducible refine below_dN ?_ _) | (apply below_thenA; assumption) | omega | (simp; done) | (simp; omega) | (simp [*]; done)))
      have hs1 : w.heap.size + 1 ≤ w1.heap.size := by have := hb1.size; simpa using this
      have hs2 := hb2.size
      have hB2 : Below w.heap.size w (w2.alloc (.cells #[.bool m3, .slice b3 j3 d3] 29)) := (by repeat' (first | (with_reducible exact Below.refl _ _) | (with_reducible assumption) | (with_reducible refine below_alloc ?_ _ ?_) | (with_reducible refine below_set _ ?_ ?_) | (with_reducible refine Below.drew ?_) | (with_reducible refine below_dN ?_ _) | (apply below_thenA; assumption) | omega | (simp; done) | (simp; omega) | (simp [*]; done)))
      replace t0 := t0.alloc (.cells #[.bool m3, .slice b3 j3 d3] 29)
      have t1 : Two (w2.alloc (.cells #[.bool m3, .slice b3 j3 d3] 29)) w2.heap.size (.bool m3) (.slice b3 j3 d3) := Two.new w2 _ _ _ rfl
      have hq : Below (w2.alloc (.cells #[.bool m3, .slice b3 j3 d3] 29)).heap.size (w2.alloc (.cells #[.bool m3, .slice b3 j3 d3] 29)) (w2.alloc (.cells #[.bool m3, .slice b3 j3 d3] 29)) := Below.refl _ _
      have hfin : ∀ w', Below (w2.alloc (.cells #[.bool m3, .slice b3 j3 d3] 29)).heap.size (w2.alloc (.cells #[.bool m3, .slice b3 j3 d3] 29)) w' → Below w.heap.size w w' := fun w' h' => hB2.trans (h'.mono hB2.size)
      clear hb1 hb2 hB2 hI1 hM hs1 hs2
      have hM := hM'
      have hx := hx2
      clear hM' hx2
      obtain ⟨q1, q2, q3, q4⟩ := t0.cells
      obtain ⟨r1, r2, r3, r4⟩ := t1.cells
      go_wp2_with fail
      go_region_held3 (fun w' => w'.cell? ⟨w.heap.size, 0, none⟩ = some (.bool neg) ∧ w'.cell? ⟨w.heap.size, 1, none⟩ = some (.slice ao k cap) ∧ w'.cell? ⟨w2.heap.size, 0, none⟩ = some (.bool m3) ∧ w'.cell? ⟨w2.heap.size, 1, none⟩ = some (.slice b3 j3 d3))
        (first | exact ⟨q1, q2, r1, r2⟩ | go_keep)
        (first
        | (go_at_call 99; with_reducible refine (big_power_lit 63 63 rfl hp1 P eP _).mono ?_; rintro e w4 hB2; obtain ⟨n2, a2, k2, c2', rfl, hI2, hb2⟩ := hB2.out; (try replace hb2 := below_undrew hb2); replace hq := below_step hq hb2; replace t0 := t0.below hb2; replace t1 := t1.below hb2; obtain ⟨q1, q2, q3, q4⟩ := t0.cells; obtain ⟨r1, r2, r3, r4⟩ := t1.cells)
        | (go_at_call 42; with_reducible refine (big_cmp neg m3 ao b3 k j3 cap d3 X (-P) _ (hx.keep (Below.drew hq)) (hM.keep (Below.drew hq)) ?_ ?_).mono ?_; omega; (have := hM.le sP.neg; omega); rintro e w5 ⟨rfl, hb4⟩; rw [E1.out]; (try replace hb4 := below_undrew hb4); replace hq := below_step hq hb4; replace t0 := t0.below hb4; replace t1 := t1.below hb4; obtain ⟨q1, q2, q3, q4⟩ := t0.cells; obtain ⟨r1, r2, r3, r4⟩ := t1.cells)
        | (go_at_call 42; with_reducible refine (big_cmp neg n2 ao a2 k k2 cap c2' X P _ (hx.keep hq) hI2 ?_ ?_).mono ?_; omega; (have := hI2.le sP; omega); rintro e w6 ⟨rfl, hb4⟩; rw [E2.out]; (try replace hb4 := below_undrew hb4); replace hq := below_step hq hb4; replace t0 := t0.below hb4; replace t1 := t1.below hb4; obtain ⟨q1, q2, q3, q4⟩ := t0.cells; obtain ⟨r1, r2, r3, r4⟩ := t1.cells))
      clear q1 q2 q3 q4 r1 r2 r3 r4 t1
      replace hq := hfin _ hq
      obtain ⟨q1, q2, q3, q4⟩ := t0.cells
      go_wp2_with fail
      go_loopg [5, 6] k (fun g s5 s6 wr => IntRel neg ao k cap ds w g s5 s6 wr)
      case atStart =>
        refine ⟨k, 0, by omega, rfl, rfl, ?_, ?_, t0, hq⟩
        · rw [List.drop_eq_nil_of_le (by rw [LD.out]; omega)]; rfl
        · cases neg <;> rfl
      case round =>
        clear t0 q1 q2 q3 q4 hq hfin hx hM
        obtain ⟨j, v, hj, rfl, rfl, hv, rfl, t0, hq⟩ := hrel
        have HV := Lib.hid hv
        clear hv
        obtain ⟨q1, q2, q3, q4⟩ := t0.cells
        by_cases hj0 : gk = 0
        · subst hj0
          have e : v = BM.bval ds := by rw [HV.out]; rfl
          subst e
          go_wp2_with fail
          go_ret2
          exact ⟨by rw [HVV.out, HV2.out, HX.out]; rfl, hq⟩
        · obtain ⟨g, rfl, hcx, hgx⟩ := (h1.keep hq).cell (gk - 1) (by omega)
          have dx := h1.dig.getD (gk - 1)
          obtain ⟨x, ex⟩ : ∃ x, x = ds.getD (gk - 1) 0 := ⟨_, rfl⟩
          rw [← ex] at hcx dx
          have hl : gk - 1 < ds.length := by rw [LD.out]; omega
          have hst : x + 65536 * v = BM.bval (ds.drop (gk - 1)) := by
            rw [BM.bval_drop ds (gk - 1) hl, show gk - 1 + 1 = gk by omega, HV.out, ex]
            simp [List.getD, hl]
          have hle := bval_drop_le ds (gk - 1) (by omega)
          have HST := Lib.hid hst
          have hj1 : 0 < gk := by omega
          have i1 : 0 ≤ (gk : Int) - 1 := by omega
          have i2 : (gk : Int) - 1 < (k : Int) := by omega
          have ei : ((gk - 1 : Nat) : Int) = (gk : Int) - 1 := by omega
          rw [← hst] at hle
          clear ex hst
          cases neg
          · have hb : x + 65536 * v ≤ 9223372036854775807 := by
              have := HF.out.2; rw [HX.out] at this; unfold sgn at this; simp at this; omega
            simp only [sgn, Bool.false_eq_true, if_false] at *
            clear hle
            go_wp2_with fail
            go_roundg (gk - 1)
            case measure => omega
            case rel => exact ⟨gk - 1, x + 65536 * v, by omega, rfl, by go_num, HST.out, by simp only [sgn, Bool.false_eq_true, if_false]; go_num, t0, hq⟩
          · have hb : x + 65536 * v ≤ 9223372036854775808 := by
              have := HF.out.1; rw [HX.out] at this; unfold sgn at this; simp at this; omega
            simp only [sgn, if_true] at *
            clear hle
            go_wp2_with fail
            go_roundg (gk - 1)
            case measure => omega
            case rel => exact ⟨gk - 1, x + 65536 * v, by omega, rfl, by go_num, HST.out, by simp only [sgn, if_true]; go_num, t0, hq⟩
    · have hd2 : decide (0 ≤ c2) = true := by simp; omega
      have hV : intB X = false := by rw [hB'.out]; simp [hc2]
      have HVV := Lib.hid hV
      have HV2 := Lib.hid (show intV X = 0 by unfold intV; rw [hV]; rfl)
      clear hV
      go_enter Try.func29, Try.ntmps29
      go_wp2_with fail
      refine (big_power_lit 63 63 rfl hp1 P eP _).mono ?_
      rintro e w1 ⟨n1, a1, k1, c1', rfl, hI1, hb1⟩
      replace t0 := t0.below hb1
      go_wp2_with fail
      refine (big_minus n1 a1 k1 c1' P _ hI1 (by have := hI1.le sP; omega)).mono ?_
      rintro e w2 ⟨m3, b3, j3, d3, rfl, hM, hb2⟩
      replace t0 := t0.below hb2
      have hM' := hM.keep (w' := w2.alloc (.cells #[.bool m3, .slice b3 j3 d3] 29)) (by repeat' (first | (with_reducible exact Below.refl _ _) | (with_reducible assumption) | (with_reducible refine below_alloc ?_ _ ?_) | (with_reducible refine below_set _ ?_ ?_) | (with_reducible refine Below.drew ?_) | (with_reducible refine below_dN ?_ _) | (apply below_thenA; assumption) | omega | (simp; done) | (simp; omega) | (simp [*]; done)))
      have hx2 := (((h.keep (w' := w.alloc (.cells #[.bool neg, .slice ao k cap] 29)) (by repeat' (first | (with_reducible exact Below.refl _ _) | (with_reducible assumption) | (with_reducible refine below_alloc ?_ _ ?_) | (with_reducible refine below_set _ ?_ ?_) | (with_reducible refine Below.drew ?_) | (with_reducible refine below_dN ?_ _) | (apply below_thenA; assumption) | omega | (simp; done) | (simp; omega) | (simp [*]; done)))).keep hb1).keep hb2).keep (w' := w2.alloc (.cells #[.bool m3, .slice b3 j3 d3] 29)) (by repeat' (first | (with_reducible exact Below.refl _ _) | (with_reducible assumption) | (with_reducible refine below_alloc ?_ _ ?_) | (with_reducible refine below_set _ ?_ ?_) | (with_reducible refine Below.drew ?_) | (with_reducible refine below_dN ?_ _) | (apply below_thenA; assumption) | omega | (simp; done) | (simp; omega) | (simp [*]; done)))
      have hs1 : w.heap.size + 1 ≤ w1.heap.size := by have := hb1.size; simpa using this
      have hs2 := hb2.size
      have hB2 : Below w.heap.size w (w2.alloc (.cells #[.bool m3, .slice b3 j3 d3] 29)) := (by repeat' (first | (with_reducible exact Below.refl _ _) | (with_reducible assumption) | (with_reducible refine below_alloc ?_ _ ?_) | (with_reducible refine below_set _ ?_ ?_) | (with_reducible refine Below.drew ?_) | (with_reducible refine below_dN ?_ _) | (apply below_thenA; assumption) | omega | (simp; done) | (simp; omega) | (simp [*]; done)))
      replace t0 := t0.alloc (.cells #[.bool m3, .slice b3 j3 d3] 29)
      have t1 : Two (w2.alloc (.cells #[.bool m3, .slice b3 j3 d3] 29)) w2.heap.size (.bool m3) (.slice b3 j3 d3) := Two.new w2 _ _ _ rfl
      have hq : Below (w2.alloc (.cells #[.bool m3, .slice b3 j3 d3] 29)).heap.size (w2.alloc (.cells #[.bool m3, .slice b3 j3 d3] 29)) (w2.alloc (.cells #[.bool m3, .slice b3 j3 d3] 29)) := Below.refl _ _
      have hfin : ∀ w', Below (w2.alloc (.cells #[.bool m3, .slice b3 j3 d3] 29)).heap.size (w2.alloc (.cells #[.bool m3, .slice b3 j3 d3] 29)) w' → Below w.heap.size w w' := fun w' h' => hB2.trans (h'.mono hB2.size)
      clear hb1 hb2 hB2 hI1 hM hs1 hs2
      have hM := hM'
      have hx := hx2
      clear hM' hx2
      obtain ⟨q1, q2, q3, q4⟩ := t0.cells
      obtain ⟨r1, r2, r3, r4⟩ := t1.cells
      go_wp2_with fail
      go_region_held3 (fun w' => w'.cell? ⟨w.heap.size, 0, none⟩ = some (.bool neg) ∧ w'.cell? ⟨w.heap.size, 1, none⟩ = some (.slice ao k cap) ∧ w'.cell? ⟨w2.heap.size, 0, none⟩ = some (.bool m3) ∧ w'.cell? ⟨w2.heap.size, 1, none⟩ = some (.slice b3 j3 d3))
        (first | exact ⟨q1, q2, r1, r2⟩ | go_keep)
        (first
        | (go_at_call 99; with_reducible refine (big_power_lit 63 63 rfl hp1 P eP _).mono ?_; rintro e w4 hB2; obtain ⟨n2, a2, k2, c2', rfl, hI2, hb2⟩ := hB2.out; (try replace hb2 := below_undrew hb2); replace hq := below_step hq hb2; replace t0 := t0.below hb2; replace t1 := t1.below hb2; obtain ⟨q1, q2, q3, q4⟩ := t0.cells; obtain ⟨r1, r2, r3, r4⟩ := t1.cells)
        | (go_at_call 42; with_reducible refine (big_cmp neg m3 ao b3 k j3 cap d3 X (-P) _ (hx.keep (Below.drew hq)) (hM.keep (Below.drew hq)) ?_ ?_).mono ?_; omega; (have := hM.le sP.neg; omega); rintro e w5 ⟨rfl, hb4⟩; rw [E1.out]; (try replace hb4 := below_undrew hb4); replace hq := below_step hq hb4; replace t0 := t0.below hb4; replace t1 := t1.below hb4; obtain ⟨q1, q2, q3, q4⟩ := t0.cells; obtain ⟨r1, r2, r3, r4⟩ := t1.cells)
        | (go_at_call 42; with_reducible refine (big_cmp neg n2 ao a2 k k2 cap c2' X P _ (hx.keep hq) hI2 ?_ ?_).mono ?_; omega; (have := hI2.le sP; omega); rintro e w6 ⟨rfl, hb4⟩; rw [E2.out]; (try replace hb4 := below_undrew hb4); replace hq := below_step hq hb4; replace t0 := t0.below hb4; replace t1 := t1.below hb4; obtain ⟨q1, q2, q3, q4⟩ := t0.cells; obtain ⟨r1, r2, r3, r4⟩ := t1.cells))
      go_wp2_with fail
      go_ret2
      exact ⟨by rw [HVV.out, HV2.out]; rfl, hfin _ hq⟩
  · have hV := hA (by omega)
    have HVV := Lib.hid hV
    have HV2 := Lib.hid (show intV X = 0 by unfold intV; rw [hV]; rfl)
    clear hV
    have hcn : c1 < 0 := by omega
    have hd : decide (c1 < 0) = true := by simp [hcn]
    clear hA hB
    go_enter Try.func29, Try.ntmps29
    go_wp2_with fail
    refine (big_power_lit 63 63 rfl hp1 P eP _).mono ?_
    rintro e w1 ⟨n1, a1, k1, c1', rfl, hI1, hb1⟩
    replace t0 := t0.below hb1
    go_wp2_with fail
    refine (big_minus n1 a1 k1 c1' P _ hI1 (by have := hI1.le sP; omega)).mono ?_
    rintro e w2 ⟨m3, b3, j3, d3, rfl, hM, hb2⟩
    replace t0 := t0.below hb2
    have hM' := hM.keep (w' := w2.alloc (.cells #[.bool m3, .slice b3 j3 d3] 29)) (by repeat' (first | (with_reducible exact Below.refl _ _) | (with_reducible assumption) | (with_reducible refine below_alloc ?_ _ ?_) | (with_reducible refine below_set _ ?_ ?_) | (with_reducible refine Below.drew ?_) | (with_reducible refine below_dN ?_ _) | (apply below_thenA; assumption) | omega | (simp; done) | (simp; omega) | (simp [*]; done)))
    have hx2 := (((h.keep (w' := w.alloc (.cells #[.bool neg, .slice ao k cap] 29)) (by repeat' (first | (with_reducible exact Below.refl _ _) | (with_reducible assumption) | (with_reducible refine below_alloc ?_ _ ?_) | (with_reducible refine below_set _ ?_ ?_) | (with_reducible refine Below.drew ?_) | (with_reducible refine below_dN ?_ _) | (apply below_thenA; assumption) | omega | (simp; done) | (simp; omega) | (simp [*]; done)))).keep hb1).keep hb2).keep (w' := w2.alloc (.cells #[.bool m3, .slice b3 j3 d3] 29)) (by repeat' (first | (with_reducible exact Below.refl _ _) | (with_reducible assumption) | (with_reducible refine below_alloc ?_ _ ?_) | (with_reducible refine below_set _ ?_ ?_) | (with_reducible refine Below.drew ?_) | (with_reducible refine below_dN ?_ _) | (apply below_thenA; assumption) | omega | (simp; done) | (simp; omega) | (simp [*]; done)))
    have hs1 : w.heap.size + 1 ≤ w1.heap.size := by have := hb1.size; simpa using this
    have hs2 := hb2.size
    have hB2 : Below w.heap.size w (w2.alloc (.cells #[.bool m3, .slice b3 j3 d3] 29)) := (by repeat' (first | (with_reducible exact Below.refl _ _) | (with_reducible assumption) | (with_reducible refine below_alloc ?_ _ ?_) | (with_reducible refine below_set _ ?_ ?_) | (with_reducible refine Below.drew ?_) | (with_reducible refine below_dN ?_ _) | (apply below_thenA; assumption) | omega | (simp; done) | (simp; omega) | (simp [*]; done)))
    replace t0 := t0.alloc (.cells #[.bool m3, .slice b3 j3 d3] 29)
    have t1 : Two (w2.alloc (.cells #[.bool m3, .slice b3 j3 d3] 29)) w2.heap.size (.bool m3) (.slice b3 j3 d3) := Two.new w2 _ _ _ rfl
    have hq : Below (w2.alloc (.cells #[.bool m3, .slice b3 j3 d3] 29)).heap.size (w2.alloc (.cells #[.bool m3, .slice b3 j3 d3] 29)) (w2.alloc (.cells #[.bool m3, .slice b3 j3 d3] 29)) := Below.refl _ _
    have hfin : ∀ w', Below (w2.alloc (.cells #[.bool m3, .slice b3 j3 d3] 29)).heap.size (w2.alloc (.cells #[.bool m3, .slice b3 j3 d3] 29)) w' → Below w.heap.size w w' := fun w' h' => hB2.trans (h'.mono hB2.size)
    clear hb1 hb2 hB2 hI1 hM hs1 hs2
    have hM := hM'
    have hx := hx2
    clear hM' hx2
    obtain ⟨q1, q2, q3, q4⟩ := t0.cells
    obtain ⟨r1, r2, r3, r4⟩ := t1.cells
    go_wp2_with fail
    go_region_with (first
        | (go_at_call 99; with_reducible refine (big_power_lit 63 63 rfl hp1 P eP _).mono ?_; rintro e w4 hB2; obtain ⟨n2, a2, k2, c2', rfl, hI2, hb2⟩ := hB2.out; (try replace hb2 := below_undrew hb2); replace hq := below_step hq hb2; replace t0 := t0.below hb2; replace t1 := t1.below hb2; obtain ⟨q1, q2, q3, q4⟩ := t0.cells; obtain ⟨r1, r2, r3, r4⟩ := t1.cells)
        | (go_at_call 42; with_reducible refine (big_cmp neg m3 ao b3 k j3 cap d3 X (-P) _ (hx.keep (Below.drew hq)) (hM.keep (Below.drew hq)) ?_ ?_).mono ?_; omega; (have := hM.le sP.neg; omega); rintro e w5 ⟨rfl, hb4⟩; rw [E1.out]; (try replace hb4 := below_undrew hb4); replace hq := below_step hq hb4; replace t0 := t0.below hb4; replace t1 := t1.below hb4; obtain ⟨q1, q2, q3, q4⟩ := t0.cells; obtain ⟨r1, r2, r3, r4⟩ := t1.cells)
        | (go_at_call 42; with_reducible refine (big_cmp neg n2 ao a2 k k2 cap c2' X P _ (hx.keep hq) hI2 ?_ ?_).mono ?_; omega; (have := hI2.le sP; omega); rintro e w6 ⟨rfl, hb4⟩; rw [E2.out]; (try replace hb4 := below_undrew hb4); replace hq := below_step hq hb4; replace t0 := t0.below hb4; replace t1 := t1.below hb4; obtain ⟨q1, q2, q3, q4⟩ := t0.cells; obtain ⟨r1, r2, r3, r4⟩ := t1.cells))
    all_goals
      go_wp2_with fail
      go_ret2
      exact ⟨by rw [HVV.out, HV2.out]; rfl, hfin _ hq⟩
end Go.Proofs.Ythffphcgkmjhbaa
