/-
  The reference's whole numbers, each function by its contract. Twelfth part: Fits.
-/
/-
  The reference's whole numbers, each function by its contract. Thirteenth part: Int.
-/
/-
  The reference of layer 4, each function by its contract: Length, Told.
-/
/-
  The functions of package ratio, each by its contract. First part: size, common, signed.
-/
/-
  The functions of package ratio, each by its contract. Second part: Of.
-/
/-
  The functions of package ratio, each by its contract. Third part: Good, Down.
-/
/-
  Plain facts on a long division bit by bit, and on quotients that are rounded down.
-/
/-
  The reference's whole numbers, each function by its contract. Fourteenth part: divided, a quotient of sizes.
-/
import Derived.Test.YthofammjbicogaaZ3
import Derived.Deep.RegionHeld3
import Derived.Test.YthofammjbicogaaZ2
import Derived.Deep.LoopGhost
import Derived.BigQuiet
import Derived.Deep.RegionWith
namespace Go.Proofs.Ythofammjbicogaa
open Go.RowKit
set_option linter.unusedSimpArgs false
set_option linter.unusedVariables false

theorem below_step {a w w' : World} (h : Below a.heap.size a w) (h' : Below w.heap.size w w') : Below a.heap.size a w' := h.trans (h'.mono h.size)
def fitsB (X : Int) : Bool := decide (-170141183460469231731687303715884105728 ≤ X) && decide (X < 170141183460469231731687303715884105728)
theorem fitsB_lo {X : Int} (h : cmpI X (-170141183460469231731687303715884105728) < 0) : fitsB X = false := by
  unfold cmpI at h
  unfold fitsB
  have : X < -170141183460469231731687303715884105728 := by
    by_cases h1 : X < -170141183460469231731687303715884105728
    · exact h1
    · rw [if_neg h1] at h; split at h <;> omega
  simp; omega
theorem fitsB_hi {X : Int} (h : 0 ≤ cmpI X (-170141183460469231731687303715884105728)) : fitsB X = decide (cmpI X 170141183460469231731687303715884105728 < 0) := by
  unfold cmpI at *
  unfold fitsB
  have : -170141183460469231731687303715884105728 ≤ X := by
    by_cases h1 : X < -170141183460469231731687303715884105728
    · rw [if_pos h1] at h; omega
    · omega
  by_cases h2 : X < 170141183460469231731687303715884105728
  · simp [h2, this]
  · simp [h2]; split <;> simp

end Go.Proofs.Ythofammjbicogaa
namespace Go.Proofs.Ythofammjbicogaa
open Go.RowKit
set_option linter.unusedSimpArgs false
set_option linter.unusedVariables false

def intB (X : Int) : Bool := decide (-9223372036854775808 ≤ X) && decide (X < 9223372036854775808)
/-- The int, or 0. -/
def intV (X : Int) : Int := if intB X then X else 0
theorem intB_lo {X : Int} (h : cmpI X (-9223372036854775808) < 0) : intB X = false := by
  unfold cmpI at h
  unfold intB
  have : X < -9223372036854775808 := by
    by_cases h1 : X < -9223372036854775808
    · exact h1
    · rw [if_neg h1] at h; split at h <;> omega
  simp; omega
theorem intB_hi {X : Int} (h : 0 ≤ cmpI X (-9223372036854775808)) : intB X = decide (cmpI X 9223372036854775808 < 0) := by
  unfold cmpI at *
  unfold intB
  have : -9223372036854775808 ≤ X := by
    by_cases h1 : X < -9223372036854775808
    · rw [if_pos h1] at h; omega
    · omega
  by_cases h2 : X < 9223372036854775808
  · simp [h2, this]
  · simp [h2]; split <;> simp
theorem intB_fit {X : Int} (h : intB X = true) : -9223372036854775808 ≤ X ∧ X ≤ 9223372036854775807 := by
  unfold intB at h; simp at h; omega
theorem bval_drop_le (ds : List Nat) (j : Nat) (hj : j ≤ ds.length) : BM.bval (ds.drop j) ≤ BM.bval ds := by
  rw [BM.bval_split ds j hj]
  have : 1 * BM.bval (ds.drop j) ≤ 65536 ^ j * BM.bval (ds.drop j) := Nat.mul_le_mul_right _ (Nat.pow_pos (by decide))
  omega
def IntRel (neg : Bool) (ao : Option Addr) (k cap : Nat) (ds : List Nat) (w : World) (g : Nat) (s5 s6 : Value) (wr : World) : Prop :=
  ∃ (j v : Nat), j ≤ k ∧ g = j ∧ s6 = .int .i64 ((j : Int) - 1) ∧ v = BM.bval (ds.drop j) ∧ s5 = .int .i64 (sgn neg v) ∧
    Two wr w.heap.size (.bool neg) (.slice ao k cap) ∧ Below w.heap.size w wr

set_option maxRecDepth 100000 in
set_option maxHeartbeats 1600000 in
theorem big_int (neg : Bool) (ao : Option Addr) (k cap : Nat) (X : Int) (w : World) (h : IsBig w neg ao k cap X) (hk : k ≤ 100000) :
    Calls Try.prog 106 #[.agg #[.bool neg, .slice ao k cap]] w fun e w' => e = .returned (.tuple #[.int .i64 (intV X), .bool (intB X)]) ∧ Below w.heap.size w w' := by
  obtain ⟨P, eP'⟩ : ∃ P : Int, P = 9223372036854775808 := ⟨_, rfl⟩
  have eP : P = ((2 ^ 63 : Nat) : Int) := by rw [eP']; decide
  have hp1 : 63 ≤ 1000 := by omega
  have sP : BM.Sz P 4 := by rw [eP']; unfold BM.Sz; decide
  obtain ⟨c1, e1⟩ : ∃ c1, c1 = cmpI X (-P) := ⟨_, rfl⟩
  obtain ⟨c2, e2⟩ : ∃ c2, c2 = cmpI X P := ⟨_, rfl⟩
  have E1 := Lib.hid e1.symm
  have E2 := Lib.hid e2.symm
  have hA : c1 < 0 → intB X = false := fun h => intB_lo (by rw [← eP', ← e1]; exact h)
  have hB : 0 ≤ c1 → intB X = decide (c2 < 0) := fun h => by rw [intB_hi (by rw [← eP', ← e1]; exact h), ← eP', ← e2]
  have t0 : Two (w.alloc (.cells #[.bool neg, .slice ao k cap] 128)) w.heap.size (.bool neg) (.slice ao k cap) := Two.new w _ _ _ rfl
  clear eP' e1 e2
  by_cases hc : 0 ≤ c1
  · have hB' := Lib.hid (hB hc)
    have hcn : ¬ c1 < 0 := by omega
    have hd : decide (c1 < 0) = false := by simp [hcn]
    clear hA hB
    by_cases hc2 : c2 < 0
    · have hd2 : decide (0 ≤ c2) = false := by simp; omega
      have hV : intB X = true := by rw [hB'.out]; simp [hc2]
      have hfit := intB_fit hV
      have HVV := Lib.hid hV
      have HV2 := Lib.hid (show intV X = X by unfold intV; rw [hV]; rfl)
      clear hV
      have h' := h
      obtain ⟨ds, h1, h2, h3, hXe⟩ := h'
      have HX := Lib.hid hXe
      clear hXe
      have LD := Lib.hid h1.len
      have HF := Lib.hid hfit
      clear hfit
      go_enter Try.func106, Try.ntmps106
      go_wp2_with fail
      refine (big_power_lit 63 63 rfl hp1 P eP _).mono ?_
      rintro e w1 ⟨n1, a1, k1, c1', rfl, hI1, hb1⟩
      replace t0 := t0.below hb1
      go_wp2_with fail
      refine (big_minus n1 a1 k1 c1' P _ hI1 (by have := hI1.le sP; omega)).mono ?_
      rintro e w2 ⟨m3, b3, j3, d3, rfl, hM, hb2⟩
      replace t0 := t0.below hb2
      have hM' := hM.keep (w' := w2.alloc (.cells #[.bool m3, .slice b3 j3 d3] 128)) (by repeat' (first | (with_reducible exact Below.refl _ _) | (with_reducible assumption) | (with_reducible refine below_alloc ?_ _ ?_) | (with_reducible refine below_set _ ?_ ?_) | (with_reducible refine Below.drew ?_) | (with_reducible refine below_dN ?_ _) | (apply below_thenA; assumption) | omega | (simp; done) | (simp; omega) | (simp [*]; done)))
      have hx2 := (((h.keep (w' := w.alloc (.cells #[.bool neg, .slice ao k cap] 128)) (by repeat' (first | (with_reducible exact Below.refl _ _) | (with_reducible assumption) | (with_reducible refine below_alloc ?_ _ ?_) | (with_reducible refine below_set _ ?_ ?_) | (with_reducible refine Below.drew ?_) | (with_reducible refine below_dN ?_ _) | (apply below_thenA; assumption) | omega | (simp; done) | (simp; omega) | (simp [*]; done)))).keep hb1).keep hb2).keep (w' := w2.alloc (.cells #[.bool m3, .slice b3 j3 d3] 128)) (by repeat' (first | (with_reducible exact Below.refl _ _) | (with_reducible assumption) | (with_reducible refine below_alloc ?_ _ ?_) | (with_reducible refine below_set _ ?_ ?_) | (with_reducible refine Below.drew ?_) | (with_reducible refine below_dN ?_ _) | (apply below_thenA; assumption) | omega | (simp; done) | (simp; omega) | (simp [*]; done)))
      have hs1 : w.heap.size + 1 ≤ w1.heap.size := by have := hb1.size; simpa using this
      have hs2 := hb2.size
      have hB2 : Below w.heap.size w (w2.alloc (.cells #[.bool m3, .slice b3 j3 d3] 128)) := (by repeat' (first | (with_reducible exact Below.refl _ _) | (with_reducible assumption) | (with_reducible refine below_alloc ?_ _ ?_) | (with_reducible refine below_set _ ?_ ?_) | (with_reducible refine Below.drew ?_) | (with_reducible refine below_dN ?_ _) | (apply below_thenA; assumption) | omega | (simp; done) | (simp; omega) | (simp [*]; done)))
      replace t0 := t0.alloc (.cells #[.bool m3, .slice b3 j3 d3] 128)
      have t1 : Two (w2.alloc (.cells #[.bool m3, .slice b3 j3 d3] 128)) w2.heap.size (.bool m3) (.slice b3 j3 d3) := Two.new w2 _ _ _ rfl
      have hq : Below (w2.alloc (.cells #[.bool m3, .slice b3 j3 d3] 128)).heap.size (w2.alloc (.cells #[.bool m3, .slice b3 j3 d3] 128)) (w2.alloc (.cells #[.bool m3, .slice b3 j3 d3] 128)) := Below.refl _ _
      have hfin : ∀ w', Below (w2.alloc (.cells #[.bool m3, .slice b3 j3 d3] 128)).heap.size (w2.alloc (.cells #[.bool m3, .slice b3 j3 d3] 128)) w' → Below w.heap.size w w' := fun w' h' => hB2.trans (h'.mono hB2.size)
      clear hb1 hb2 hB2 hI1 hM hs1 hs2
      have hM := hM'
      have hx := hx2
      clear hM' hx2
      obtain ⟨q1, q2, q3, q4⟩ := t0.cells
      obtain ⟨r1, r2, r3, r4⟩ := t1.cells
      go_wp2_with fail
      go_region_held3 (fun w' => w'.cell? ⟨w.heap.size, 0, none⟩ = some (.bool neg) ∧ w'.cell? ⟨w.heap.size, 1, none⟩ = some (.slice ao k cap) ∧ w'.cell? ⟨w2.heap.size, 0, none⟩ = some (.bool m3) ∧ w'.cell? ⟨w2.heap.size, 1, none⟩ = some (.slice b3 j3 d3))
        (first | exact ⟨q1, q2, r1, r2⟩ | go_keep)
        (first
        | (go_at_call 95; with_reducible refine (big_power_lit 63 63 rfl hp1 P eP _).mono ?_; rintro e w4 hB2; obtain ⟨n2, a2, k2, c2', rfl, hI2, hb2⟩ := hB2.out; (try replace hb2 := below_undrew hb2); replace hq := below_step hq hb2; replace t0 := t0.below hb2; replace t1 := t1.below hb2; obtain ⟨q1, q2, q3, q4⟩ := t0.cells; obtain ⟨r1, r2, r3, r4⟩ := t1.cells)
        | (go_at_call 94; with_reducible refine (big_cmp neg m3 ao b3 k j3 cap d3 X (-P) _ (hx.keep (Below.drew hq)) (hM.keep (Below.drew hq)) ?_ ?_).mono ?_; omega; (have := hM.le sP.neg; omega); rintro e w5 ⟨rfl, hb4⟩; rw [E1.out]; (try replace hb4 := below_undrew hb4); replace hq := below_step hq hb4; replace t0 := t0.below hb4; replace t1 := t1.below hb4; obtain ⟨q1, q2, q3, q4⟩ := t0.cells; obtain ⟨r1, r2, r3, r4⟩ := t1.cells)
        | (go_at_call 94; with_reducible refine (big_cmp neg n2 ao a2 k k2 cap c2' X P _ (hx.keep hq) hI2 ?_ ?_).mono ?_; omega; (have := hI2.le sP; omega); rintro e w6 ⟨rfl, hb4⟩; rw [E2.out]; (try replace hb4 := below_undrew hb4); replace hq := below_step hq hb4; replace t0 := t0.below hb4; replace t1 := t1.below hb4; obtain ⟨q1, q2, q3, q4⟩ := t0.cells; obtain ⟨r1, r2, r3, r4⟩ := t1.cells))
      clear q1 q2 q3 q4 r1 r2 r3 r4 t1
      replace hq := hfin _ hq
      obtain ⟨q1, q2, q3, q4⟩ := t0.cells
      go_wp2_with fail
      go_loopg [5, 6] k (fun g s5 s6 wr => IntRel neg ao k cap ds w g s5 s6 wr)
      case atStart =>
        refine ⟨k, 0, by omega, rfl, rfl, ?_, ?_, t0, hq⟩
        · rw [List.drop_eq_nil_of_le (by rw [LD.out]; omega)]; rfl
        · cases neg <;> rfl
      case round =>
        clear t0 q1 q2 q3 q4 hq hfin hx hM
        obtain ⟨j, v, hj, rfl, rfl, hv, rfl, t0, hq⟩ := hrel
        have HV := Lib.hid hv
        clear hv
        obtain ⟨q1, q2, q3, q4⟩ := t0.cells
        by_cases hj0 : gk = 0
        · subst hj0
          have e : v = BM.bval ds := by rw [HV.out]; rfl
          subst e
          go_wp2_with fail
          go_ret2
          exact ⟨by rw [HVV.out, HV2.out, HX.out]; rfl, hq⟩
        · obtain ⟨g, rfl, hcx, hgx⟩ := (h1.keep hq).cell (gk - 1) (by omega)
          have dx := h1.dig.getD (gk - 1)
          obtain ⟨x, ex⟩ : ∃ x, x = ds.getD (gk - 1) 0 := ⟨_, rfl⟩
          rw [← ex] at hcx dx
          have hl : gk - 1 < ds.length := by rw [LD.out]; omega
          have hst : x + 65536 * v = BM.bval (ds.drop (gk - 1)) := by
            rw [BM.bval_drop ds (gk - 1) hl, show gk - 1 + 1 = gk by omega, HV.out, ex]
            simp [List.getD, hl]
          have hle := bval_drop_le ds (gk - 1) (by omega)
          have HST := Lib.hid hst
          have hj1 : 0 < gk := by omega
          have i1 : 0 ≤ (gk : Int) - 1 := by omega
          have i2 : (gk : Int) - 1 < (k : Int) := by omega
          have ei : ((gk - 1 : Nat) : Int) = (gk : Int) - 1 := by omega
          rw [← hst] at hle
          clear ex hst
          cases neg
          · have hb : x + 65536 * v ≤ 9223372036854775807 := by
              have := HF.out.2; rw [HX.out] at this; unfold sgn at this; simp at this; omega
            simp only [sgn, Bool.false_eq_true, if_false] at *
            clear hle
            go_wp2_with fail
            go_roundg (gk - 1)
            case measure => omega
            case rel => exact ⟨gk - 1, x + 65536 * v, by omega, rfl, by go_num, HST.out, by simp only [sgn, Bool.false_eq_true, if_false]; go_num, t0, hq⟩
          · have hb : x + 65536 * v ≤ 9223372036854775808 := by
              have := HF.out.1; rw [HX.out] at this; unfold sgn at this; simp at this; omega
            simp only [sgn, if_true] at *
            clear hle
            go_wp2_with fail
            go_roundg (gk - 1)
            case measure => omega
            case rel => exact ⟨gk - 1, x + 65536 * v, by omega, rfl, by go_num, HST.out, by simp only [sgn, if_true]; go_num, t0, hq⟩
    · have hd2 : decide (0 ≤ c2) = true := by simp; omega
      have hV : intB X = false := by rw [hB'.out]; simp [hc2]
      have HVV := Lib.hid hV
      have HV2 := Lib.hid (show intV X = 0 by unfold intV; rw [hV]; rfl)
      clear hV
      go_enter Try.func106, Try.ntmps106
      go_wp2_with fail
      refine (big_power_lit 63 63 rfl hp1 P eP _).mono ?_
      rintro e w1 ⟨n1, a1, k1, c1', rfl, hI1, hb1⟩
      replace t0 := t0.below hb1
      go_wp2_with fail
      refine (big_minus n1 a1 k1 c1' P _ hI1 (by have := hI1.le sP; omega)).mono ?_
      rintro e w2 ⟨m3, b3, j3, d3, rfl, hM, hb2⟩
      replace t0 := t0.below hb2
      have hM' := hM.keep (w' := w2.alloc (.cells #[.bool m3, .slice b3 j3 d3] 128)) (by repeat' (first | (with_reducible exact Below.refl _ _) | (with_reducible assumption) | (with_reducible refine below_alloc ?_ _ ?_) | (with_reducible refine below_set _ ?_ ?_) | (with_reducible refine Below.drew ?_) | (with_reducible refine below_dN ?_ _) | (apply below_thenA; assumption) | omega | (simp; done) | (simp; omega) | (simp [*]; done)))
      have hx2 := (((h.keep (w' := w.alloc (.cells #[.bool neg, .slice ao k cap] 128)) (by repeat' (first | (with_reducible exact Below.refl _ _) | (with_reducible assumption) | (with_reducible refine below_alloc ?_ _ ?_) | (with_reducible refine below_set _ ?_ ?_) | (with_reducible refine Below.drew ?_) | (with_reducible refine below_dN ?_ _) | (apply below_thenA; assumption) | omega | (simp; done) | (simp; omega) | (simp [*]; done)))).keep hb1).keep hb2).keep (w' := w2.alloc (.cells #[.bool m3, .slice b3 j3 d3] 128)) (by repeat' (first | (with_reducible exact Below.refl _ _) | (with_reducible assumption) | (with_reducible refine below_alloc ?_ _ ?_) | (with_reducible refine below_set _ ?_ ?_) | (with_reducible refine Below.drew ?_) | (with_reducible refine below_dN ?_ _) | (apply below_thenA; assumption) | omega | (simp; done) | (simp; omega) | (simp [*]; done)))
      have hs1 : w.heap.size + 1 ≤ w1.heap.size := by have := hb1.size; simpa using this
      have hs2 := hb2.size
      have hB2 : Below w.heap.size w (w2.alloc (.cells #[.bool m3, .slice b3 j3 d3] 128)) := (by repeat' (first | (with_reducible exact Below.refl _ _) | (with_reducible assumption) | (with_reducible refine below_alloc ?_ _ ?_) | (with_reducible refine below_set _ ?_ ?_) | (with_reducible refine Below.drew ?_) | (with_reducible refine below_dN ?_ _) | (apply below_thenA; assumption) | omega | (simp; done) | (simp; omega) | (simp [*]; done)))
      replace t0 := t0.alloc (.cells #[.bool m3, .slice b3 j3 d3] 128)
      have t1 : Two (w2.alloc (.cells #[.bool m3, .slice b3 j3 d3] 128)) w2.heap.size (.bool m3) (.slice b3 j3 d3) := Two.new w2 _ _ _ rfl
      have hq : Below (w2.alloc (.cells #[.bool m3, .slice b3 j3 d3] 128)).heap.size (w2.alloc (.cells #[.bool m3, .slice b3 j3 d3] 128)) (w2.alloc (.cells #[.bool m3, .slice b3 j3 d3] 128)) := Below.refl _ _
      have hfin : ∀ w', Below (w2.alloc (.cells #[.bool m3, .slice b3 j3 d3] 128)).heap.size (w2.alloc (.cells #[.bool m3, .slice b3 j3 d3] 128)) w' → Below w.heap.size w w' := fun w' h' => hB2.trans (h'.mono hB2.size)
      clear hb1 hb2 hB2 hI1 hM hs1 hs2
      have hM := hM'
      have hx := hx2
      clear hM' hx2
      obtain ⟨q1, q2, q3, q4⟩ := t0.cells
      obtain ⟨r1, r2, r3, r4⟩ := t1.cells
      go_wp2_with fail
      go_region_held3 (fun w' => w'.cell? ⟨w.heap.size, 0, none⟩ = some (.bool neg) ∧ w'.cell? ⟨w.heap.size, 1, none⟩ = some (.slice ao k cap) ∧ w'.cell? ⟨w2.heap.size, 0, none⟩ = some (.bool m3) ∧ w'.cell? ⟨w2.heap.size, 1, none⟩ = some (.slice b3 j3 d3))
        (first | exact ⟨q1, q2, r1, r2⟩ | go_keep)
        (first
        | (go_at_call 95; with_reducible refine (big_power_lit 63 63 rfl hp1 P eP _).mono ?_; rintro e w4 hB2; obtain ⟨n2, a2, k2, c2', rfl, hI2, hb2⟩ := hB2.out; (try replace hb2 := below_undrew hb2); replace hq := below_step hq hb2; replace t0 := t0.below hb2; replace t1 := t1.below hb2; obtain ⟨q1, q2, q3, q4⟩ := t0.cells; obtain ⟨r1, r2, r3, r4⟩ := t1.cells)
        | (go_at_call 94; with_reducible refine (big_cmp neg m3 ao b3 k j3 cap d3 X (-P) _ (hx.keep (Below.drew hq)) (hM.keep (Below.drew hq)) ?_ ?_).mono ?_; omega; (have := hM.le sP.neg; omega); rintro e w5 ⟨rfl, hb4⟩; rw [E1.out]; (try replace hb4 := below_undrew hb4); replace hq := below_step hq hb4; replace t0 := t0.below hb4; replace t1 := t1.below hb4; obtain ⟨q1, q2, q3, q4⟩ := t0.cells; obtain ⟨r1, r2, r3, r4⟩ := t1.cells)
        | (go_at_call 94; with_reducible refine (big_cmp neg n2 ao a2 k k2 cap c2' X P _ (hx.keep hq) hI2 ?_ ?_).mono ?_; omega; (have := hI2.le sP; omega); rintro e w6 ⟨rfl, hb4⟩; rw [E2.out]; (try replace hb4 := below_undrew hb4); replace hq := below_step hq hb4; replace t0 := t0.below hb4; replace t1 := t1.below hb4; obtain ⟨q1, q2, q3, q4⟩ := t0.cells; obtain ⟨r1, r2, r3, r4⟩ := t1.cells))
      go_wp2_with fail
      go_ret2
      exact ⟨by rw [HVV.out, HV2.out]; rfl, hfin _ hq⟩
  · have hV := hA (by omega)
    have HVV := Lib.hid hV
    have HV2 := Lib.hid (show intV X = 0 by unfold intV; rw [hV]; rfl)
    clear hV
    have hcn : c1 < 0 := by omega
    have hd : decide (c1 < 0) = true := by simp [hcn]
    clear hA hB
    go_enter Try.func106, Try.ntmps106
    go_wp2_with fail
    refine (big_power_lit 63 63 rfl hp1 P eP _).mono ?_
    rintro e w1 ⟨n1, a1, k1, c1', rfl, hI1, hb1⟩
    replace t0 := t0.below hb1
    go_wp2_with fail
    refine (big_minus n1 a1 k1 c1' P _ hI1 (by have := hI1.le sP; omega)).mono ?_
    rintro e w2 ⟨m3, b3, j3, d3, rfl, hM, hb2⟩
    replace t0 := t0.below hb2
    have hM' := hM.keep (w' := w2.alloc (.cells #[.bool m3, .slice b3 j3 d3] 128)) (by repeat' (first | (with_reducible exact Below.refl _ _) | (with_reducible assumption) | (with_reducible refine below_alloc ?_ _ ?_) | (with_reducible refine below_set _ ?_ ?_) | (with_reducible refine Below.drew ?_) | (with_reducible refine below_dN ?_ _) | (apply below_thenA; assumption) | omega | (simp; done) | (simp; omega) | (simp [*]; done)))
    have hx2 := (((h.keep (w' := w.alloc (.cells #[.bool neg, .slice ao k cap] 128)) (by repeat' (first | (with_reducible exact Below.refl _ _) | (with_reducible assumption) | (with_reducible refine below_alloc ?_ _ ?_) | (with_reducible refine below_set _ ?_ ?_) | (with_reducible refine Below.drew ?_) | (with_reducible refine below_dN ?_ _) | (apply below_thenA; assumption) | omega | (simp; done) | (simp; omega) | (simp [*]; done)))).keep hb1).keep hb2).keep (w' := w2.alloc (.cells #[.bool m3, .slice b3 j3 d3] 128)) (by repeat' (first | (with_reducible exact Below.refl _ _) | (with_reducible assumption) | (with_reducible refine below_alloc ?_ _ ?_) | (with_reducible refine below_set _ ?_ ?_) | (with_reducible refine Below.drew ?_) | (with_reducible refine below_dN ?_ _) | (apply below_thenA; assumption) | omega | (simp; done) | (simp; omega) | (simp [*]; done)))
    have hs1 : w.heap.size + 1 ≤ w1.heap.size := by have := hb1.size; simpa using this
    have hs2 := hb2.size
    have hB2 : Below w.heap.size w (w2.alloc (.cells #[.bool m3, .slice b3 j3 d3] 128)) := (by repeat' (first | (with_reducible exact Below.refl _ _) | (with_reducible assumption) | (with_reducible refine below_alloc ?_ _ ?_) | (with_reducible refine below_set _ ?_ ?_) | (with_reducible refine Below.drew ?_) | (with_reducible refine below_dN ?_ _) | (apply below_thenA; assumption) | omega | (simp; done) | (simp; omega) | (simp [*]; done)))
    replace t0 := t0.alloc (.cells #[.bool m3, .slice b3 j3 d3] 128)
    have t1 : Two (w2.alloc (.cells #[.bool m3, .slice b3 j3 d3] 128)) w2.heap.size (.bool m3) (.slice b3 j3 d3) := Two.new w2 _ _ _ rfl
    have hq : Below (w2.alloc (.cells #[.bool m3, .slice b3 j3 d3] 128)).heap.size (w2.alloc (.cells #[.bool m3, .slice b3 j3 d3] 128)) (w2.alloc (.cells #[.bool m3, .slice b3 j3 d3] 128)) := Below.refl _ _
    have hfin : ∀ w', Below (w2.alloc (.cells #[.bool m3, .slice b3 j3 d3] 128)).heap.size (w2.alloc (.cells #[.bool m3, .slice b3 j3 d3] 128)) w' → Below w.heap.size w w' := fun w' h' => hB2.trans (h'.mono hB2.size)
    clear hb1 hb2 hB2 hI1 hM hs1 hs2
    have hM := hM'
    have hx := hx2
    clear hM' hx2
    obtain ⟨q1, q2, q3, q4⟩ := t0.cells
    obtain ⟨r1, r2, r3, r4⟩ := t1.cells
    go_wp2_with fail
    go_region_with (first
        | (go_at_call 95; with_reducible refine (big_power_lit 63 63 rfl hp1 P eP _).mono ?_; rintro e w4 hB2; obtain ⟨n2, a2, k2, c2', rfl, hI2, hb2⟩ := hB2.out; (try replace hb2 := below_undrew hb2); replace hq := below_step hq hb2; replace t0 := t0.below hb2; replace t1 := t1.below hb2; obtain ⟨q1, q2, q3, q4⟩ := t0.cells; obtain ⟨r1, r2, r3, r4⟩ := t1.cells)
        | (go_at_call 94; with_reducible refine (big_cmp neg m3 ao b3 k j3 cap d3 X (-P) _ (hx.keep (Below.drew hq)) (hM.keep (Below.drew hq)) ?_ ?_).mono ?_; omega; (have := hM.le sP.neg; omega); rintro e w5 ⟨rfl, hb4⟩; rw [E1.out]; (try replace hb4 := below_undrew hb4); replace hq := below_step hq hb4; replace t0 := t0.below hb4; replace t1 := t1.below hb4; obtain ⟨q1, q2, q3, q4⟩ := t0.cells; obtain ⟨r1, r2, r3, r4⟩ := t1.cells)
        | (go_at_call 94; with_reducible refine (big_cmp neg n2 ao a2 k k2 cap c2' X P _ (hx.keep hq) hI2 ?_ ?_).mono ?_; omega; (have := hI2.le sP; omega); rintro e w6 ⟨rfl, hb4⟩; rw [E2.out]; (try replace hb4 := below_undrew hb4); replace hq := below_step hq hb4; replace t0 := t0.below hb4; replace t1 := t1.below hb4; obtain ⟨q1, q2, q3, q4⟩ := t0.cells; obtain ⟨r1, r2, r3, r4⟩ := t1.cells))
    all_goals
      go_wp2_with fail
      go_ret2
      exact ⟨by rw [HVV.out, HV2.out]; rfl, hfin _ hq⟩
end Go.Proofs.Ythofammjbicogaa
namespace Go.Proofs.Ythofammjbicogaa
open Go.RowKit
set_option linter.unusedSimpArgs false
set_option linter.unusedVariables false

/-- Is a whole number a length? -/
def lenB (X : Int) : Bool := decide (-17592186044416 ≤ X) && decide (X ≤ 17592186044416)
theorem lenB_hi {X : Int} (h : ¬ cmpI X 17592186044416 ≤ 0) : lenB X = false := by
  unfold cmpI at h
  unfold lenB
  have : 17592186044416 < X := by
    by_cases h1 : X < 17592186044416
    · rw [if_pos h1] at h; omega
    · rw [if_neg h1] at h
      by_cases h2 : 17592186044416 < X
      · exact h2
      · rw [if_neg h2] at h; omega
  simp; omega
theorem lenB_lo {X : Int} (h : cmpI X 17592186044416 ≤ 0) : lenB X = decide (0 ≤ cmpI X (-17592186044416)) := by
  unfold cmpI at *
  unfold lenB
  have : X ≤ 17592186044416 := by
    by_cases h1 : X < 17592186044416
    · omega
    · rw [if_neg h1] at h
      by_cases h2 : 17592186044416 < X
      · rw [if_pos h2] at h; omega
      · omega
  by_cases h3 : X < -17592186044416
  · simp [h3]; omega
  · simp only [if_neg h3]
    split <;> simp <;> omega

set_option maxRecDepth 100000 in
set_option maxHeartbeats 1600000 in
theorem ref_length (neg : Bool) (ao : Option Addr) (k cap : Nat) (X : Int) (w : World) (h : IsBig w neg ao k cap X) (hk : k ≤ 100000) :
    Calls Try.prog 91 #[.agg #[.bool neg, .slice ao k cap]] w fun e w' => e = .returned (.bool (lenB X)) ∧ Below w.heap.size w w' := by
  obtain ⟨M, eM⟩ : ∃ M : Int, M = 17592186044416 := ⟨_, rfl⟩
  have eP : M = ((2 ^ 44 : Nat) : Int) := by rw [eM]; decide
  have sM : BM.Sz M 4 := by rw [eM]; unfold BM.Sz; decide
  obtain ⟨c1, e1⟩ : ∃ c1, c1 = cmpI X M := ⟨_, rfl⟩
  obtain ⟨c2, e2⟩ : ∃ c2, c2 = cmpI X (-M) := ⟨_, rfl⟩
  have E1 := Lib.hid e1.symm
  have E2 := Lib.hid e2.symm
  have hA : ¬ c1 ≤ 0 → lenB X = false := fun h => lenB_hi (by rw [← eM, ← e1]; exact h)
  have hB : c1 ≤ 0 → lenB X = decide (0 ≤ c2) := fun h => by rw [lenB_lo (by rw [← eM, ← e1]; exact h), ← eM, ← e2]
  have t0 : Two (w.alloc (.cells #[.bool neg, .slice ao k cap] 128)) w.heap.size (.bool neg) (.slice ao k cap) := Two.new w _ _ _ rfl
  clear eM e1 e2
  by_cases hc : c1 ≤ 0
  · have HVV := Lib.hid (hB hc)
    have hd : decide (c1 ≤ 0) = true := by simp [hc]
    clear hA hB hc
    go_enter Try.func91, Try.ntmps91
    go_wp2_with fail
    refine (big_power_lit 44 44 rfl (by omega) M eP _).mono ?_
    rintro e w1 ⟨m3, b3, j3, d3, rfl, hM, hb1⟩
    replace t0 := (t0.below hb1).alloc (.cells #[.bool m3, .slice b3 j3 d3] 128)
    have t1 : Two (w1.alloc (.cells #[.bool m3, .slice b3 j3 d3] 128)) w1.heap.size (.bool m3) (.slice b3 j3 d3) := Two.new w1 _ _ _ rfl
    replace hM := hM.keep (w' := w1.alloc (.cells #[.bool m3, .slice b3 j3 d3] 128)) (by repeat' (first | (with_reducible exact Below.refl _ _) | (with_reducible assumption) | (with_reducible refine below_alloc ?_ _ ?_) | (with_reducible refine below_set _ ?_ ?_) | (with_reducible refine Below.drew ?_) | (with_reducible refine below_dN ?_ _) | (apply below_thenA; assumption) | omega | (simp; done) | (simp; omega) | (simp [*]; done)))
    have hx := ((h.keep (w' := w.alloc (.cells #[.bool neg, .slice ao k cap] 128)) (by repeat' (first | (with_reducible exact Below.refl _ _) | (with_reducible assumption) | (with_reducible refine below_alloc ?_ _ ?_) | (with_reducible refine below_set _ ?_ ?_) | (with_reducible refine Below.drew ?_) | (with_reducible refine below_dN ?_ _) | (apply below_thenA; assumption) | omega | (simp; done) | (simp; omega) | (simp [*]; done)))).keep hb1).keep (w' := w1.alloc (.cells #[.bool m3, .slice b3 j3 d3] 128)) (by repeat' (first | (with_reducible exact Below.refl _ _) | (with_reducible assumption) | (with_reducible refine below_alloc ?_ _ ?_) | (with_reducible refine below_set _ ?_ ?_) | (with_reducible refine Below.drew ?_) | (with_reducible refine below_dN ?_ _) | (apply below_thenA; assumption) | omega | (simp; done) | (simp; omega) | (simp [*]; done)))
    have hs1 : w.heap.size + 1 ≤ w1.heap.size := by have := hb1.size; simpa using this
    have hB1 : Below w.heap.size w (w1.alloc (.cells #[.bool m3, .slice b3 j3 d3] 128)) := (by repeat' (first | (with_reducible exact Below.refl _ _) | (with_reducible assumption) | (with_reducible refine below_alloc ?_ _ ?_) | (with_reducible refine below_set _ ?_ ?_) | (with_reducible refine Below.drew ?_) | (with_reducible refine below_dN ?_ _) | (apply below_thenA; assumption) | omega | (simp; done) | (simp; omega) | (simp [*]; done)))
    have hq : Below (w1.alloc (.cells #[.bool m3, .slice b3 j3 d3] 128)).heap.size (w1.alloc (.cells #[.bool m3, .slice b3 j3 d3] 128)) (w1.alloc (.cells #[.bool m3, .slice b3 j3 d3] 128)) := Below.refl _ _
    have hfin : ∀ w', Below (w1.alloc (.cells #[.bool m3, .slice b3 j3 d3] 128)).heap.size (w1.alloc (.cells #[.bool m3, .slice b3 j3 d3] 128)) w' → Below w.heap.size w w' := fun w' h' => hB1.trans (h'.mono hB1.size)
    clear hb1 hB1 hs1
    obtain ⟨q1, q2, q3, q4⟩ := t0.cells
    obtain ⟨r1, r2, r3, r4⟩ := t1.cells
    go_wp2_with fail
    go_region_held3 (fun w' => w'.cell? ⟨w.heap.size, 0, none⟩ = some (.bool neg) ∧ w'.cell? ⟨w.heap.size, 1, none⟩ = some (.slice ao k cap) ∧ w'.cell? ⟨w1.heap.size, 0, none⟩ = some (.bool m3) ∧ w'.cell? ⟨w1.heap.size, 1, none⟩ = some (.slice b3 j3 d3))
      (first | exact ⟨q1, q2, r1, r2⟩ | go_keep)
      (first
      | (go_at_call 94; with_reducible refine (big_cmp neg m3 ao b3 k j3 cap d3 X M _ (hx.keep (Below.drew hq)) (hM.keep (Below.drew hq)) ?_ ?_).mono ?_; omega; (have := hM.le sM; omega); rintro e w5 ⟨rfl, hb4⟩; rw [E1.out]; (try replace hb4 := below_undrew hb4); replace hq := below_step hq hb4; replace t0 := t0.below hb4; replace t1 := t1.below hb4; obtain ⟨q1, q2, q3, q4⟩ := t0.cells; obtain ⟨r1, r2, r3, r4⟩ := t1.cells)
      | (go_at_call 105; with_reducible refine (big_minus m3 b3 j3 d3 M _ (hM.keep hq) ?_).mono ?_; (have := hM.le sM; omega); rintro e w6 hB6; obtain ⟨n6, a6, k6, c6, rfl, hI6, hb4⟩ := hB6.out; (try replace hb4 := below_undrew hb4); replace hq := below_step hq hb4; replace t0 := t0.below hb4; replace t1 := t1.below hb4; obtain ⟨q1, q2, q3, q4⟩ := t0.cells; obtain ⟨r1, r2, r3, r4⟩ := t1.cells)
      | (go_at_call 94; with_reducible refine (big_cmp neg n6 ao a6 k k6 cap c6 X (-M) _ (hx.keep hq) hI6 ?_ ?_).mono ?_; omega; (have := hI6.le sM.neg; omega); rintro e w7 ⟨rfl, hb4⟩; rw [E2.out]; (try replace hb4 := below_undrew hb4); replace hq := below_step hq hb4; replace t0 := t0.below hb4; replace t1 := t1.below hb4; obtain ⟨q1, q2, q3, q4⟩ := t0.cells; obtain ⟨r1, r2, r3, r4⟩ := t1.cells))
    go_wp2_with fail
    go_ret
    exact ⟨by rw [HVV.out]; rfl, hfin _ hq⟩
  · have HVV := Lib.hid (hA hc)
    have hd : decide (c1 ≤ 0) = false := by simp; omega
    clear hA hB
    go_enter Try.func91, Try.ntmps91
    go_wp2_with fail
    refine (big_power_lit 44 44 rfl (by omega) M eP _).mono ?_
    rintro e w1 ⟨m3, b3, j3, d3, rfl, hM, hb1⟩
    replace t0 := (t0.below hb1).alloc (.cells #[.bool m3, .slice b3 j3 d3] 128)
    have t1 : Two (w1.alloc (.cells #[.bool m3, .slice b3 j3 d3] 128)) w1.heap.size (.bool m3) (.slice b3 j3 d3) := Two.new w1 _ _ _ rfl
    replace hM := hM.keep (w' := w1.alloc (.cells #[.bool m3, .slice b3 j3 d3] 128)) (by repeat' (first | (with_reducible exact Below.refl _ _) | (with_reducible assumption) | (with_reducible refine below_alloc ?_ _ ?_) | (with_reducible refine below_set _ ?_ ?_) | (with_reducible refine Below.drew ?_) | (with_reducible refine below_dN ?_ _) | (apply below_thenA; assumption) | omega | (simp; done) | (simp; omega) | (simp [*]; done)))
    have hx := ((h.keep (w' := w.alloc (.cells #[.bool neg, .slice ao k cap] 128)) (by repeat' (first | (with_reducible exact Below.refl _ _) | (with_reducible assumption) | (with_reducible refine below_alloc ?_ _ ?_) | (with_reducible refine below_set _ ?_ ?_) | (with_reducible refine Below.drew ?_) | (with_reducible refine below_dN ?_ _) | (apply below_thenA; assumption) | omega | (simp; done) | (simp; omega) | (simp [*]; done)))).keep hb1).keep (w' := w1.alloc (.cells #[.bool m3, .slice b3 j3 d3] 128)) (by repeat' (first | (with_reducible exact Below.refl _ _) | (with_reducible assumption) | (with_reducible refine below_alloc ?_ _ ?_) | (with_reducible refine below_set _ ?_ ?_) | (with_reducible refine Below.drew ?_) | (with_reducible refine below_dN ?_ _) | (apply below_thenA; assumption) | omega | (simp; done) | (simp; omega) | (simp [*]; done)))
    have hs1 : w.heap.size + 1 ≤ w1.heap.size := by have := hb1.size; simpa using this
    have hB1 : Below w.heap.size w (w1.alloc (.cells #[.bool m3, .slice b3 j3 d3] 128)) := (by repeat' (first | (with_reducible exact Below.refl _ _) | (with_reducible assumption) | (with_reducible refine below_alloc ?_ _ ?_) | (with_reducible refine below_set _ ?_ ?_) | (with_reducible refine Below.drew ?_) | (with_reducible refine below_dN ?_ _) | (apply below_thenA; assumption) | omega | (simp; done) | (simp; omega) | (simp [*]; done)))
    have hq : Below (w1.alloc (.cells #[.bool m3, .slice b3 j3 d3] 128)).heap.size (w1.alloc (.cells #[.bool m3, .slice b3 j3 d3] 128)) (w1.alloc (.cells #[.bool m3, .slice b3 j3 d3] 128)) := Below.refl _ _
    have hfin : ∀ w', Below (w1.alloc (.cells #[.bool m3, .slice b3 j3 d3] 128)).heap.size (w1.alloc (.cells #[.bool m3, .slice b3 j3 d3] 128)) w' → Below w.heap.size w w' := fun w' h' => hB1.trans (h'.mono hB1.size)
    clear hb1 hB1 hs1
    obtain ⟨q1, q2, q3, q4⟩ := t0.cells
    obtain ⟨r1, r2, r3, r4⟩ := t1.cells
    go_wp2_with fail
    go_region_with (first
      | (go_at_call 94; with_reducible refine (big_cmp neg m3 ao b3 k j3 cap d3 X M _ (hx.keep (Below.drew hq)) (hM.keep (Below.drew hq)) ?_ ?_).mono ?_; omega; (have := hM.le sM; omega); rintro e w5 ⟨rfl, hb4⟩; rw [E1.out]; (try replace hb4 := below_undrew hb4); replace hq := below_step hq hb4; replace t0 := t0.below hb4; replace t1 := t1.below hb4; obtain ⟨q1, q2, q3, q4⟩ := t0.cells; obtain ⟨r1, r2, r3, r4⟩ := t1.cells)
      | (go_at_call 105; with_reducible refine (big_minus m3 b3 j3 d3 M _ (hM.keep hq) ?_).mono ?_; (have := hM.le sM; omega); rintro e w6 hB6; obtain ⟨n6, a6, k6, c6, rfl, hI6, hb4⟩ := hB6.out; (try replace hb4 := below_undrew hb4); replace hq := below_step hq hb4; replace t0 := t0.below hb4; replace t1 := t1.below hb4; obtain ⟨q1, q2, q3, q4⟩ := t0.cells; obtain ⟨r1, r2, r3, r4⟩ := t1.cells)
      | (go_at_call 94; with_reducible refine (big_cmp neg n6 ao a6 k k6 cap c6 X (-M) _ (hx.keep hq) hI6 ?_ ?_).mono ?_; omega; (have := hI6.le sM.neg; omega); rintro e w7 ⟨rfl, hb4⟩; rw [E2.out]; (try replace hb4 := below_undrew hb4); replace hq := below_step hq hb4; replace t0 := t0.below hb4; replace t1 := t1.below hb4; obtain ⟨q1, q2, q3, q4⟩ := t0.cells; obtain ⟨r1, r2, r3, r4⟩ := t1.cells))
    all_goals
      go_wp2_with fail
      go_ret
      exact ⟨by rw [HVV.out]; rfl, hfin _ hq⟩
set_option maxRecDepth 100000 in
set_option maxHeartbeats 1600000 in
theorem ref_told (neg : Bool) (ao : Option Addr) (k cap : Nat) (X : Int) (w : World) (h : IsBig w neg ao k cap X) (hk : k ≤ 100000) :
    Calls Try.prog 92 #[.agg #[.bool neg, .slice ao k cap]] w fun e w' => e = .returned (.tuple #[.int .i64 (if lenB X then X else 0), .int .i64 (if lenB X then 0 else 2)]) ∧ Below w.heap.size w w' := by
  have LN := fun W (hW : IsBig W neg ao k cap X) => ref_length neg ao k cap X W hW hk
  have IN := fun W (hW : IsBig W neg ao k cap X) => big_int neg ao k cap X W hW hk
  have t0 : Two (w.alloc (.cells #[.bool neg, .slice ao k cap] 128)) w.heap.size (.bool neg) (.slice ao k cap) := Two.new w _ _ _ rfl
  have hx := h.keep (w' := w.alloc (.cells #[.bool neg, .slice ao k cap] 128)) (by repeat' (first | (with_reducible exact Below.refl _ _) | (with_reducible assumption) | (with_reducible refine below_alloc ?_ _ ?_) | (with_reducible refine below_set _ ?_ ?_) | (with_reducible refine Below.drew ?_) | (with_reducible refine below_dN ?_ _) | (apply below_thenA; assumption) | omega | (simp; done) | (simp; omega) | (simp [*]; done)))
  have hB : Below w.heap.size w (w.alloc (.cells #[.bool neg, .slice ao k cap] 128)) := (by repeat' (first | (with_reducible exact Below.refl _ _) | (with_reducible assumption) | (with_reducible refine below_alloc ?_ _ ?_) | (with_reducible refine below_set _ ?_ ?_) | (with_reducible refine Below.drew ?_) | (with_reducible refine below_dN ?_ _) | (apply below_thenA; assumption) | omega | (simp; done) | (simp; omega) | (simp [*]; done)))
  obtain ⟨q1, q2, q3, q4⟩ := t0.cells
  clear h
  cases hl : lenB X
  · rw [hl] at LN
    clear hl
    go_enter Try.func92, Try.ntmps92
    go_wp2_with fail
    refine (LN _ hx).mono ?_
    rintro e w1 ⟨rfl, hb1⟩
    replace hB := hB.trans (hb1.mono hB.size)
    go_wp2_with fail
    go_ret2
    exact ⟨rfl, hB⟩
  · have hfit : intB X = true := by unfold lenB at hl; unfold intB; simp at hl ⊢; omega
    have hV : intV X = X := by unfold intV; rw [hfit]; rfl
    rw [hl] at LN
    rw [hV] at IN
    clear hl hfit hV
    go_enter Try.func92, Try.ntmps92
    go_wp2_with fail
    refine (LN _ hx).mono ?_
    rintro e w1 ⟨rfl, hb1⟩
    replace hB := hB.trans (hb1.mono hB.size)
    replace t0 := t0.below hb1
    replace hx := hx.keep hb1
    clear q1 q2 q3 q4
    obtain ⟨q1, q2, q3, q4⟩ := t0.cells
    go_wp2_with fail
    refine (IN _ hx).mono ?_
    rintro e w2 ⟨rfl, hb2⟩
    replace hB := hB.trans (hb2.mono hB.size)
    go_wp2_with fail
    go_ret2
    exact ⟨rfl, hB⟩
end Go.Proofs.Ythofammjbicogaa
namespace Go.Proofs.Ythofammjbicogaa
open Go.RowKit
set_option linter.unusedSimpArgs false
set_option linter.unusedVariables false

theorem wrap_i64_neg (n : Nat) (h : n ≤ 9223372036854775808) : wrap64 (-wrap64 (n : Int)) = -(n : Int) := by
  simp only [wrap64]; omega
theorem wrap_i64_pos (n : Nat) (h : n ≤ 9223372036854775807) : wrap64 (n : Int) = (n : Int) := by
  simp only [wrap64]; omega
end Go.Proofs.Ythofammjbicogaa
namespace Go.Proofs.Ythofammjbicogaa
open Go.RowKit
set_option linter.unusedSimpArgs false
set_option linter.unusedVariables false

theorem quo_u64 (a g A : Nat) (ha : a < 18446744073709551616) (h : a / g = A) : IntKind.u64.wrap ((a : Int) / (g : Int)) = (A : Int) := by
  have h1 : a / g ≤ a := Nat.div_le_self _ _
  rw [h] at h1
  rw [← Int.natCast_ediv, h, IntKind.wrap_u64, Int.emod_eq_of_lt (by omega) (by omega)]
def limR (neg : Bool) : Int := if neg then 9223372036854775808 else 9223372036854775807
/-- What Of answers: the ratio in lowest terms, or that it is no pair of ints. -/
def OfAns (neg : Bool) (A B : Nat) (w : World) (e : Ending) (w' : World) : Prop :=
  (((A : Int) ≤ limR neg ∧ (B : Int) ≤ 9223372036854775807) → e = .returned (.tuple #[.agg #[.int .i64 (if neg then -(A : Int) else (A : Int)), .int .i64 ((B : Int))], .int .i64 0])) ∧
  (¬ ((A : Int) ≤ limR neg ∧ (B : Int) ≤ 9223372036854775807) → e = .returned (.tuple #[.agg #[.int .i64 0, .int .i64 0], .int .i64 2])) ∧ Below w.heap.size w w'
theorem OfAns.both {neg : Bool} {A B : Nat} {w : World} {v u : Int} {w' : World} (h : (A : Int) ≤ limR neg) (h' : (B : Int) ≤ 9223372036854775807) (hv : v = if neg then -(A : Int) else (A : Int)) (hu : u = (B : Int)) (hb : Below w.heap.size w w') :
    OfAns neg A B w (.returned (.tuple #[.agg #[.int .i64 v, .int .i64 u], .int .i64 0])) w' := ⟨fun _ => by rw [hv, hu], fun x => absurd ⟨h, h'⟩ x, hb⟩
theorem OfAns.none {neg : Bool} {A B : Nat} {w : World} {w' : World} (h : ¬ ((A : Int) ≤ limR neg ∧ (B : Int) ≤ 9223372036854775807)) (hb : Below w.heap.size w w') :
    OfAns neg A B w (.returned (.tuple #[.agg #[.int .i64 0, .int .i64 0], .int .i64 2])) w' := ⟨fun x => absurd x h, fun _ => rfl, hb⟩
theorem BP2 {w w' : World} {B b : Nat} {u v : Value} (h : Below B w w') (hb : B ≤ b := by omega) : Below B w ((w'.setCell ⟨b, 0, none⟩ u).setCell ⟨b, 1, none⟩ v) :=
  (h.setCell (p := ⟨b, 0, none⟩) hb u).setCell (p := ⟨b, 1, none⟩) hb v

end Go.Proofs.Ythofammjbicogaa
namespace Go.Proofs.Ythofammjbicogaa
open Go.RowKit
set_option linter.unusedSimpArgs false
set_option linter.unusedVariables false

/-- May a ratio be? -/
def goodB (N D : Int) : Bool := decide (1 ≤ D) && ((Nat.gcd N.natAbs D.natAbs : Int) == 1)
theorem below_undrew' {w w' : World} (h : Below w.drew.heap.size w.drew w') : Below w.heap.size w w' := (Below.drew (Below.refl _ _)).trans h
/-- What Down answers. -/
def DownAns (x N D : Int) (w : World) (e : Ending) (w' : World) : Prop :=
  (goodB N D = false → e = .returned (.tuple #[.int .i64 0, .int .i64 1])) ∧ (goodB N D = true → IFit (fq (x * N) D) → e = .returned (.tuple #[.int .i64 (fq (x * N) D), .int .i64 0])) ∧
  (goodB N D = true → ¬ IFit (fq (x * N) D) → e = .returned (.tuple #[.int .i64 0, .int .i64 2])) ∧ Below w.heap.size w w'
end Go.Proofs.Ythofammjbicogaa
namespace Go.Proofs.Ythofammjbicogaa.BM
/-- One bit more: the divisor goes in once more, or not. -/
theorem div_step {N q r B b : Nat} (h : q * B + r = N) (hr : r < B) (hb : b < 2) :
    (B ≤ 2 * r + b → (2 * q + 1) * B + (2 * r + b - B) = 2 * N + b ∧ 2 * r + b - B < B) ∧ (2 * r + b < B → (2 * q) * B + (2 * r + b) = 2 * N + b) := by
  have e1 : (2 * q + 1) * B = 2 * (q * B) + B := by rw [Nat.add_mul, Nat.mul_assoc]; omega
  have e2 : (2 * q) * B = 2 * (q * B) := Nat.mul_assoc 2 q B
  rw [e1, e2]
  omega
theorem bit_lt (d m : Nat) : d / m % 2 < 2 := Nat.mod_lt _ (by decide)
theorem bit_split (d s : Nat) : d / 2 ^ s = 2 * (d / 2 ^ (s + 1)) + d / 2 ^ s % 2 := by
  rw [Nat.pow_succ, ← Nat.div_div_eq_div_mul]
  omega
/-- What has been taken of the number, with so many bits of its next piece to come. -/
def seen (H d s : Nat) : Nat := H * 2 ^ (16 - s) + d / 2 ^ s
theorem seen_top (H d : Nat) (hd : d < 65536) : seen H d 16 = H := by
  unfold seen
  rw [Nat.div_eq_of_lt (by simpa using hd)]; simp
theorem seen_end (H d : Nat) : seen H d 0 = d + 65536 * H := by
  unfold seen; simp; omega
theorem seen_step (H d s : Nat) (hs : s < 16) : seen H d s = 2 * seen H d (s + 1) + d / 2 ^ s % 2 := by
  unfold seen
  have e : 16 - s = 16 - (s + 1) + 1 := by omega
  rw [e, Nat.pow_succ, ← Nat.mul_assoc]
  have := bit_split d s
  omega
theorem half_pow (s : Nat) : 2 ^ (s + 1) / 2 = 2 ^ s := by rw [Nat.pow_succ]; omega
theorem div_end {q r A B : Nat} (h : q * B + r = A) (hr : r < B) : q = A / B ∧ r = A % B := by
  have hB : 0 < B := by omega
  constructor
  · rw [← h, Nat.mul_comm, Nat.mul_add_div hB, Nat.div_eq_of_lt hr]; rfl
  · rw [← h, Nat.mul_comm, Nat.mul_add_mod, Nat.mod_eq_of_lt hr]
end Go.Proofs.Ythofammjbicogaa.BM
namespace Go.Proofs.Ythofammjbicogaa
theorem absI_sgn (neg : Bool) (n : Nat) : absI (sgn neg n) = (n : Int) := by unfold absI; cases neg <;> simp [sgn] <;> omega
theorem sgn_lt {neg : Bool} {n : Nat} (h : neg = true → n ≠ 0) : sgn neg n < 0 ↔ neg = true := by
  cases neg
  · simp [sgn]
  · have := h rfl; simp [sgn]; omega
/-- Down by the quotient of sizes. -/
theorem down_q {na nb : Bool} {x y : Nat} (ha : na = true → x ≠ 0) (hb : nb = true → y ≠ 0) (hy : 0 < y) :
    (na = nb → fq (sgn na x) (sgn nb y) = ((x / y : Nat) : Int)) ∧
    (na ≠ nb → x % y = 0 → fq (sgn na x) (sgn nb y) = -((x / y : Nat) : Int)) ∧
    (na ≠ nb → 0 < x % y → fq (sgn na x) (sgn nb y) = -((x / y : Nat) : Int) + -1) := by
  have hd : sgn nb y ≠ 0 := by cases nb <;> simp [sgn] <;> omega
  obtain ⟨f1, f2, f3⟩ := fq_size (a := sgn na x) hd
  rw [absI_sgn, absI_sgn] at f1 f2 f3
  have s1 := sgn_lt ha
  have s2 := sgn_lt hb
  refine ⟨fun e => ?_, fun e hz => ?_, fun e hz => ?_⟩
  · rw [(f1 (by rw [s1, s2, e])).1]; rfl
  · rw [(f2 (by rw [s1, s2]; intro h; exact e (Bool.eq_iff_iff.2 h)) (by rw [← Int.natCast_emod, hz]; rfl)).1]; rfl
  · rw [(f3 (by rw [s1, s2]; intro h; exact e (Bool.eq_iff_iff.2 h)) (by rw [← Int.natCast_emod]; omega)).1, ← Int.natCast_ediv]; omega
end Go.Proofs.Ythofammjbicogaa
namespace Go.Proofs.Ythofammjbicogaa
open Go.RowKit
set_option linter.unusedSimpArgs false
set_option linter.unusedVariables false

theorem IsBig.nat {w : World} {neg : Bool} {ao : Option Addr} {k cap n : Nat} (h : IsBig w neg ao k cap ((n : Nat) : Int)) : neg = false ∧ ∃ ds, Pcs w ao k cap ds ∧ BM.Trim ds ∧ BM.bval ds = n := by
  obtain ⟨ds, h1, h2, h3, h4⟩ := h
  cases neg
  · exact ⟨rfl, ds, h1, h2, by simp [sgn] at h4; omega⟩
  · exfalso
    have := h3 rfl
    apply this
    apply h2.eq_nil
    simp [sgn] at h4
    omega
theorem big_sizes_at (ao bo : Option Addr) (k m cap cap' : Nat) (xs ys : List Nat) (z : Int) (w : World) (ha : Pcs w ao k cap xs) (hb : Pcs w bo m cap' ys) (ta : BM.Trim xs) (tb : BM.Trim ys) (hk : k ≤ 1000000) (hm : m ≤ 1000000) (hz : cmpN (BM.bval xs) (BM.bval ys) = z) :
    Calls Try.prog 104 #[.slice ao k cap, .slice bo m cap'] w fun e w' => e = .returned (.int .i64 z) ∧ Below w.heap.size w w' := by
  subst hz; exact big_sizes ao bo k m cap cap' xs ys w ha hb ta tb hk hm
theorem bval_lt' {w : World} {ao : Option Addr} {k cap : Nat} {ds : List Nat} (h : Pcs w ao k cap ds) : BM.bval ds < 65536 ^ k := by
  have := BM.bval_lt h.dig; rwa [h.len] at this
theorem sz_nat {n k : Nat} (h : n < 65536 ^ k) : BM.Sz (n : Int) k := by unfold BM.Sz; simpa using h
theorem sz_two {n m k : Nat} (h : n < 65536 ^ k) (hm : m ≤ 2 * n + 1) : BM.Sz (m : Int) (k + 1) := by
  unfold BM.Sz; rw [Nat.pow_succ]; simp; omega
theorem seen_le {H d s : Nat} (hd : d < 65536) (hs : s ≤ 16) : BM.seen H d s ≤ d + 65536 * H := by
  induction s with
  | zero => rw [BM.seen_end]; omega
  | succ s ih =>
    have := ih (by omega)
    have := BM.seen_step H d s (by omega)
    omega
/-- The six boxes of divided. -/
def DB (ax bx : Option Addr) (k m ca cb : Nat) (w wr : World) (q1 q2 r1 r2 : Value) : Prop :=
  Two wr w.heap.size (.bool false) (.slice ax k ca) ∧ Two wr (w.heap.size + 1) (.bool false) (.slice bx m cb) ∧ Two wr (w.heap.size + 1 + 1) (.bool false) (.slice none 0 0) ∧ Two wr (w.heap.size + 1 + 1 + 1) (.bool false) (.slice none 0 0) ∧ Two wr (w.heap.size + 1 + 1 + 1 + 1) q1 q2 ∧ Two wr (w.heap.size + 1 + 1 + 1 + 1 + 1) r1 r2 ∧ Below w.heap.size w wr
section
variable {ax bx : Option Addr} {k m ca cb : Nat} {w wr w' : World} {q1 q2 r1 r2 : Value}
theorem DB.ta (h : DB ax bx k m ca cb w wr q1 q2 r1 r2) : Two wr w.heap.size (.bool false) (.slice ax k ca) := h.1
theorem DB.tb (h : DB ax bx k m ca cb w wr q1 q2 r1 r2) : Two wr (w.heap.size + 1) (.bool false) (.slice bx m cb) := h.2.1
theorem DB.t2 (h : DB ax bx k m ca cb w wr q1 q2 r1 r2) : Two wr (w.heap.size + 1 + 1) (.bool false) (.slice none 0 0) := h.2.2.1
theorem DB.t3 (h : DB ax bx k m ca cb w wr q1 q2 r1 r2) : Two wr (w.heap.size + 1 + 1 + 1) (.bool false) (.slice none 0 0) := h.2.2.2.1
theorem DB.tq (h : DB ax bx k m ca cb w wr q1 q2 r1 r2) : Two wr (w.heap.size + 1 + 1 + 1 + 1) q1 q2 := h.2.2.2.2.1
theorem DB.tr (h : DB ax bx k m ca cb w wr q1 q2 r1 r2) : Two wr (w.heap.size + 1 + 1 + 1 + 1 + 1) r1 r2 := h.2.2.2.2.2.1
theorem DB.bl (h : DB ax bx k m ca cb w wr q1 q2 r1 r2) : Below w.heap.size w wr := h.2.2.2.2.2.2
theorem DB.below (h : DB ax bx k m ca cb w wr q1 q2 r1 r2) (hb : Below wr.heap.size wr w') : DB ax bx k m ca cb w w' q1 q2 r1 r2 :=
  ⟨h.ta.below hb, h.tb.below hb, h.t2.below hb, h.t3.below hb, h.tq.below hb, h.tr.below hb, h.bl.trans (hb.mono h.bl.size)⟩
theorem BP {w w' : World} {B b : Nat} (h : Below B w w') (hb : B ≤ b) (u v : Value) : Below B w ((w'.setCell ⟨b, 0, none⟩ u).setCell ⟨b, 1, none⟩ v) :=
  (h.setCell (p := ⟨b, 0, none⟩) hb u).setCell (p := ⟨b, 1, none⟩) hb v
theorem DB.putr (h : DB ax bx k m ca cb w wr q1 q2 r1 r2) (u v : Value) : DB ax bx k m ca cb w ((wr.setCell ⟨w.heap.size + 1 + 1 + 1 + 1 + 1, 0, none⟩ u).setCell ⟨w.heap.size + 1 + 1 + 1 + 1 + 1, 1, none⟩ v) q1 q2 u v :=
  ⟨h.ta.put_other (by omega) _ _, h.tb.put_other (by omega) _ _, h.t2.put_other (by omega) _ _, h.t3.put_other (by omega) _ _, h.tq.put_other (by omega) _ _, h.tr.put _ _, BP h.bl (by omega) u v⟩
theorem DB.putq (h : DB ax bx k m ca cb w wr q1 q2 r1 r2) (u v : Value) : DB ax bx k m ca cb w ((wr.setCell ⟨w.heap.size + 1 + 1 + 1 + 1, 0, none⟩ u).setCell ⟨w.heap.size + 1 + 1 + 1 + 1, 1, none⟩ v) u v r1 r2 :=
  ⟨h.ta.put_other (by omega) _ _, h.tb.put_other (by omega) _ _, h.t2.put_other (by omega) _ _, h.t3.put_other (by omega) _ _, h.tq.put _ _, h.tr.put_other (by omega) _ _, BP h.bl (by omega) u v⟩
theorem DB.cA (h : DB ax bx k m ca cb w wr q1 q2 r1 r2) : wr.cell? ⟨w.heap.size, 0, none⟩ = some (.bool false) ∧ wr.cell? ⟨w.heap.size, 1, none⟩ = some (.slice ax k ca) ∧ wr.frozen? ⟨w.heap.size, 0, none⟩ = false ∧ wr.frozen? ⟨w.heap.size, 1, none⟩ = false := h.ta.cells
theorem DB.cB (h : DB ax bx k m ca cb w wr q1 q2 r1 r2) : wr.cell? ⟨w.heap.size + 1, 0, none⟩ = some (.bool false) ∧ wr.cell? ⟨w.heap.size + 1, 1, none⟩ = some (.slice bx m cb) ∧ wr.frozen? ⟨w.heap.size + 1, 0, none⟩ = false ∧ wr.frozen? ⟨w.heap.size + 1, 1, none⟩ = false := h.tb.cells
theorem DB.cq (h : DB ax bx k m ca cb w wr q1 q2 r1 r2) : wr.cell? ⟨w.heap.size + 1 + 1 + 1 + 1, 0, none⟩ = some q1 ∧ wr.cell? ⟨w.heap.size + 1 + 1 + 1 + 1, 1, none⟩ = some q2 ∧ wr.frozen? ⟨w.heap.size + 1 + 1 + 1 + 1, 0, none⟩ = false ∧ wr.frozen? ⟨w.heap.size + 1 + 1 + 1 + 1, 1, none⟩ = false := h.tq.cells
theorem DB.cr (h : DB ax bx k m ca cb w wr q1 q2 r1 r2) : wr.cell? ⟨w.heap.size + 1 + 1 + 1 + 1 + 1, 0, none⟩ = some r1 ∧ wr.cell? ⟨w.heap.size + 1 + 1 + 1 + 1 + 1, 1, none⟩ = some r2 ∧ wr.frozen? ⟨w.heap.size + 1 + 1 + 1 + 1 + 1, 0, none⟩ = false ∧ wr.frozen? ⟨w.heap.size + 1 + 1 + 1 + 1 + 1, 1, none⟩ = false := h.tr.cells
end
/-- The boxes, the quotient so far, the rest so far. -/
def DQ (ax bx : Option Addr) (k m ca cb : Nat) (w : World) (qv rv : Nat) (wr : World) : Prop :=
  ∃ (qn : Bool) (qa : Option Addr) (qk qc : Nat) (rn : Bool) (ra : Option Addr) (rk rc : Nat), DB ax bx k m ca cb w wr (.bool qn) (.slice qa qk qc) (.bool rn) (.slice ra rk rc) ∧ IsBig wr qn qa qk qc ((qv : Nat) : Int) ∧ IsBig wr rn ra rk rc ((rv : Nat) : Int)
def DivOut (ax bx : Option Addr) (k m ca cb : Nat) (xs : List Nat) (B : Nat) (w : World) (g : Nat) (s8 : Value) (wr : World) : Prop :=
  ∃ (j qv rv : Nat), j ≤ k ∧ g = j ∧ s8 = .int .i64 ((j : Int) - 1) ∧ qv * B + rv = BM.bval (xs.drop j) ∧ rv < B ∧ DQ ax bx k m ca cb w qv rv wr
def DivIn (ax bx : Option Addr) (k m ca cb : Nat) (H d B : Nat) (w : World) (g : Nat) (s9 : Value) (wr : World) : Prop :=
  ∃ (s qv rv : Nat), s ≤ 16 ∧ g = s ∧ s9 = .int .u64 (((2 ^ s / 2 : Nat) : Int)) ∧ qv * B + rv = BM.seen H d s ∧ rv < B ∧ DQ ax bx k m ca cb w qv rv wr
/-- Two whole numbers are given back. -/
def BigRet2 (n p : Int) (w : World) (e : Ending) (w' : World) : Prop :=
  ∃ (qn : Bool) (qa : Option Addr) (qk qc : Nat) (rn : Bool) (ra : Option Addr) (rk rc : Nat), e = .returned (.tuple #[.agg #[.bool qn, .slice qa qk qc], .agg #[.bool rn, .slice ra rk rc]]) ∧ IsBig w' qn qa qk qc n ∧ IsBig w' rn ra rk rc p ∧ Below w.heap.size w w'

set_option maxRecDepth 100000 in
set_option maxHeartbeats 3200000 in
theorem big_divided (ax bx : Option Addr) (k m ca cb : Nat) (xs ys : List Nat) (w : World) (hx : Pcs w ax k ca xs) (hy : Pcs w bx m cb ys) (tx : BM.Trim xs) (ty : BM.Trim ys) (hk : k ≤ 10000) (hm : m ≤ 10000) (hB : 0 < BM.bval ys) :
    Calls Try.prog 115 #[.agg #[.bool false, .slice ax k ca], .agg #[.bool false, .slice bx m cb]] w (BigRet2 ((BM.bval xs / BM.bval ys : Nat) : Int) ((BM.bval xs % BM.bval ys : Nat) : Int) w) := by
  have LX := Lib.hid hx.len
  have hxl := bval_lt' hx
  have hyl := bval_lt' hy
  have hB' := hB
  obtain ⟨B, eB⟩ : ∃ B, B = BM.bval ys := ⟨_, rfl⟩
  have hyB : ∀ w', Below w.heap.size w w' → IsBig w' true bx m cb (-(B : Int)) := fun w' h => ⟨ys, hy.keep h, ty, (fun _ e => by rw [e] at hB'; simp [BM.bval] at hB'), by rw [eB]; rfl⟩
  have EB := Lib.hid eB
  rw [← eB] at hB hyl
  have hyl := Lib.hid hyl
  have hxl := Lib.hid hxl
  clear eB hB'
  rw [← EB.out]
  obtain ⟨Q, eQ⟩ : ∃ Q, Q = BM.bval xs / B := ⟨_, rfl⟩
  obtain ⟨R, eR⟩ : ∃ R, R = BM.bval xs % B := ⟨_, rfl⟩
  rw [← eQ, ← eR]
  have EQ := Lib.hid eQ
  have ER := Lib.hid eR
  clear eQ eR
  go_enter Try.func115, Try.ntmps115
  go_wp2_with fail
  go_loopg [8] k (fun g s8 wr => DivOut ax bx k m ca cb xs B w g s8 wr)
  case atStart =>
    refine ⟨k, 0, 0, by omega, rfl, rfl, ?_, hB, ?_⟩
    · rw [List.drop_eq_nil_of_le (by rw [LX.out]; omega)]; simp [BM.bval]
    · refine ⟨false, none, 0, 0, false, none, 0, 0, ⟨?_, ?_, ?_, ?_, ?_, ?_, (by repeat' (first | (with_reducible exact Below.refl _ _) | (with_reducible assumption) | (with_reducible refine below_alloc ?_ _ ?_) | (with_reducible refine below_set _ ?_ ?_) | (with_reducible refine Below.drew ?_) | (with_reducible refine below_dN ?_ _) | (apply below_thenA; assumption) | omega | (simp; done) | (simp; omega) | (simp [*]; done)))⟩, ⟨[], Pcs.nil _, BM.Trim.nil, (fun h => by cases h), rfl⟩, ⟨[], Pcs.nil _, BM.Trim.nil, (fun h => by cases h), rfl⟩⟩
      · exact ((((((Two.new w _ _ _ rfl).alloc _).alloc _).alloc _).alloc _).alloc _)
      · exact (((((Two.new _ _ _ _ (by simp)).alloc _).alloc _).alloc _).alloc _)
      · exact ((((Two.new _ _ _ _ (by simp)).alloc _).alloc _).alloc _)
      · exact (((Two.new _ _ _ _ (by simp)).alloc _).alloc _)
      · exact ((Two.new _ _ _ _ (by simp)).alloc _)
      · exact (Two.new _ _ _ _ (by simp))
  case round =>
    obtain ⟨j, qv, rv, hj, rfl, rfl, hv, hr, hDQ⟩ := hrel
    by_cases hj0 : gk = 0
    · subst hj0
      obtain ⟨e1, e2⟩ := BM.div_end hv hr
      simp only [List.drop_zero] at e1 e2
      obtain rfl : qv = Q := by rw [EQ.out]; exact e1
      obtain rfl : rv = R := by rw [ER.out]; exact e2
      clear hv hr e1 e2 hB
      obtain ⟨qn, qa, qk, qc, rn, ra, rk, rc, D, hQ, hR⟩ := hDQ
      obtain ⟨p1, p2, p3, p4⟩ := D.cq
      obtain ⟨p5, p6, p7, p8⟩ := D.cr
      obtain ⟨t1, t2, t3, t4⟩ := D.t2.cells
      obtain ⟨t5, t6, t7, t8⟩ := D.t3.cells
      have z2 := D.t2
      have z3 := D.t3
      have hbl := D.bl
      go_wp2_with fail
      go_region
      all_goals
        go_wp2_with fail
        (go_light; simp [bodyPost, results, Try.results115, go_sem, *])
        exact ⟨qn, qa, qk, qc, rn, ra, rk, rc, rfl, IsBig.keeps hQ (by repeat' (first | (with_reducible exact Keeps.refl _) | (with_reducible refine Keeps.alloc ?_ _) | (with_reducible refine Keeps.drew ?_) | (with_reducible refine Keeps.drewN ?_ _) | (with_reducible refine Keeps.set ?_ _ _ (T := 128) ?_ (by decide)) | (with_reducible exact TyAt.new _ _ _ _ (by simp)) | (with_reducible refine TyAt.set ?_ _ _) | (with_reducible refine TyAt.alloc ?_ _) | (with_reducible refine TyAt.drew ?_) | (with_reducible refine TyAt.drewN ?_ _) | (apply Keeps.below; assumption) | (exact Two.ty (by assumption)) | (apply TyAt.below; rotate_left; assumption))), IsBig.keeps hR (by repeat' (first | (with_reducible exact Keeps.refl _) | (with_reducible refine Keeps.alloc ?_ _) | (with_reducible refine Keeps.drew ?_) | (with_reducible refine Keeps.drewN ?_ _) | (with_reducible refine Keeps.set ?_ _ _ (T := 128) ?_ (by decide)) | (with_reducible exact TyAt.new _ _ _ _ (by simp)) | (with_reducible refine TyAt.set ?_ _ _) | (with_reducible refine TyAt.alloc ?_ _) | (with_reducible refine TyAt.drew ?_) | (with_reducible refine TyAt.drewN ?_ _) | (apply Keeps.below; assumption) | (exact Two.ty (by assumption)) | (apply TyAt.below; rotate_left; assumption))), (by repeat' (first | (with_reducible exact Below.refl _ _) | (with_reducible assumption) | (with_reducible refine below_alloc ?_ _ ?_) | (with_reducible refine below_set _ ?_ ?_) | (with_reducible refine Below.drew ?_) | (with_reducible refine below_dN ?_ _) | (apply below_thenA; assumption) | omega | (simp; done) | (simp; omega) | (simp [*]; done)))⟩
    · obtain ⟨i, rfl⟩ : ∃ i, gk = i + 1 := ⟨gk - 1, by omega⟩
      have hi : i < xs.length := by rw [LX.out]; omega
      obtain ⟨d, ed⟩ : ∃ d, d = xs.getD i 0 := ⟨_, rfl⟩
      have dx : d < 65536 := by rw [ed]; exact hx.dig.getD i
      obtain ⟨H, eH⟩ : ∃ H, H = BM.bval (xs.drop (i + 1)) := ⟨_, rfl⟩
      have hend : d + 65536 * H = BM.bval (xs.drop i) := by
        rw [BM.bval_drop xs i hi, eH, ed]; simp [List.getD, hi]
      have hN : d + 65536 * H < 65536 ^ k := by rw [hend]; exact Nat.lt_of_le_of_lt (bval_drop_le xs i (by omega)) hxl.out
      have hst : qv * B + rv = BM.seen H d 16 := by rw [BM.seen_top _ _ dx, hv, eH]
      have HE := Lib.hid hend
      have HN := Lib.hid hN
      have ED := Lib.hid ed
      have HS := Lib.hid hst
      have HR := Lib.hid hr
      clear hend hN ed hst hr hv eH
      rw [show ((i + 1 : Nat) : Int) - 1 = (i : Int) by omega]
      have j1 : (0 : Int) ≤ (i : Int) := by omega
      go_wp2_with fail
      obtain ⟨wo, rfl⟩ : ∃ wo : World, wo = wr := ⟨_, rfl⟩
      go_loopg [9] 16 (fun g s9 wr => DivIn ax bx k m ca cb H d B w g s9 wr)
      case atStart =>
        exact ⟨16, qv, rv, by omega, rfl, rfl, HS.out, HR.out, hDQ⟩
      case round =>
        clear hDQ HS HR
        obtain ⟨s, qv, rv, hs, rfl, rfl, hv, hr, hDQ⟩ := hrel
        by_cases hs0 : gk = 0
        · subst hs0
          have HV := Lib.hid hv
          have HR := Lib.hid hr
          clear hv hr
          go_wp2_with fail
          go_roundg i
          case measure => omega
          case rel => exact ⟨i, qv, rv, by omega, rfl, by go_num, by rw [HV.out, BM.seen_end, HE.out], HR.out, hDQ⟩
        · obtain ⟨s, rfl⟩ : ∃ s, gk = s + 1 := ⟨gk - 1, by omega⟩
          rw [BM.half_pow]
          obtain ⟨b, eb⟩ : ∃ b, b = 2 ^ s := ⟨_, rfl⟩
          obtain ⟨c, ec⟩ : ∃ c, c = d / b % 2 := ⟨_, rfl⟩
          have hc2 : c < 2 := by rw [ec]; exact BM.bit_lt _ _
          have hb0 : 0 < b := by rw [eb]; exact Nat.pow_pos (by decide)
          have hb1 : b ≤ 32768 := by rw [eb]; exact Nat.pow_le_pow_right (by decide) (show s ≤ 15 by omega)
          have hstep := BM.seen_step H d s (by omega)
          rw [← eb, ← ec, ← hv] at hstep
          have hds := BM.div_step rfl hr hc2 (q := qv)
          have hle := seen_le (H := H) (s := s + 1) dx hs
          rw [← hv] at hle
          have hqB : qv ≤ qv * B := Nat.le_mul_of_pos_right _ hB
          have hq : qv < 65536 ^ k := Nat.lt_of_le_of_lt (by omega) HN.out
          have hr2 : rv < 65536 ^ m := Nat.lt_trans hr hyl.out
          have sq := sz_nat hq
          have sr := sz_nat hr2
          have sq2 := sz_two hq (show 2 * qv ≤ 2 * qv + 1 by omega)
          have sr2 := sz_two hr2 (show 2 * rv ≤ 2 * rv + 1 by omega)
          have srt := sz_two hr2 (show 2 * rv + c ≤ 2 * rv + 1 by omega)
          have HD := Lib.hid hds
          have HST := Lib.hid hstep
          have EC := Lib.hid ec
          have EBB := Lib.hid eb
          have HR := Lib.hid hr
          clear hds hstep hle hqB hq hr2 hv eb ec hr
          rw [← EBB.out]
          go_wp2_with fail
          go_cut [] from 18 to 53 (fun wx => DQ ax bx k m ca cb w qv (2 * rv) wx)
          case first =>
            obtain ⟨qn, qa, qk, qc, rn, ra, rk, rc, D, hQ, hR⟩ := hDQ
            have hkr := hR.le sr
            have EV : Hid (((2 * rv : Nat) : Int) = (rv : Int) * 2) := Lib.hid (by omega)
            obtain ⟨p1, p2, p3, p4⟩ := D.cr
            go_region_with (first
              | (go_at_call 88; with_reducible refine (big_ofu2 _).mono ?_; rintro e w2 hB2; obtain ⟨n2, a2, k2, c2, rfl, hI2, hb2⟩ := hB2.out; replace hb2 := below_undrew hb2; have hk2 := hI2.le (BM.Sz.u64 (n := 2) (by omega) (by omega)); have D2 := D.below hb2; obtain ⟨q1, q2, q3, q4⟩ := D2.cr)
              | (go_at_call 107; with_reducible refine (big_times rn n2 ra a2 rk k2 rc c2 _ 2 _ (hR.keep hb2) hI2 ?_ ?_).mono ?_; omega; omega; rintro e w3 hB3; obtain ⟨n3, a3, k3, c3, rfl, hI3, hb3⟩ := hB3.out; have D3 := D2.below hb3; obtain ⟨r1, r2, r3, r4⟩ := D3.cr))
            all_goals
              have hD := D3.putr (.bool n3) (.slice a3 k3 c3)
              have hN := IsBig.put hI3 D3.tr (.bool n3) (.slice a3 k3 c3)
              have hO := IsBig.put ((hQ.keep hb2).keep hb3) D3.tr (.bool n3) (.slice a3 k3 c3)
              clear p1 p2 p3 p4 q1 q2 q3 q4 r1 r2 r3 r4
              go_wp2_with fail
              go_meet
              case rel => exact ⟨qn, qa, qk, qc, n3, a3, k3, c3, hD, hO, by rw [EV.out]; exact hN⟩
          case rest =>
            clear hDQ
            obtain ⟨qn, qa, qk, qc, rn, ra, rk, rc, D, hQ, hR⟩ := hcut
            go_wp2_with fail
            go_cut [] from 18 to 53 (fun wx => DQ ax bx k m ca cb w (2 * qv) (2 * rv) wx)
            case first =>
              have hkq := hQ.le sq
              have EV : Hid (((2 * qv : Nat) : Int) = (qv : Int) * 2) := Lib.hid (by omega)
              obtain ⟨p1, p2, p3, p4⟩ := D.cq
              go_region_with (first
                | (go_at_call 88; with_reducible refine (big_ofu2 _).mono ?_; rintro e w2 hB2; obtain ⟨n2, a2, k2, c2, rfl, hI2, hb2⟩ := hB2.out; replace hb2 := below_undrew hb2; have hk2 := hI2.le (BM.Sz.u64 (n := 2) (by omega) (by omega)); have D2 := D.below hb2; obtain ⟨q1, q2, q3, q4⟩ := D2.cq)
                | (go_at_call 107; with_reducible refine (big_times qn n2 qa a2 qk k2 qc c2 _ 2 _ (hQ.keep hb2) hI2 ?_ ?_).mono ?_; omega; omega; rintro e w3 hB3; obtain ⟨n3, a3, k3, c3, rfl, hI3, hb3⟩ := hB3.out; have D3 := D2.below hb3; obtain ⟨r1, r2, r3, r4⟩ := D3.cq))
              all_goals
                have hD := D3.putq (.bool n3) (.slice a3 k3 c3)
                have hN := IsBig.put hI3 D3.tq (.bool n3) (.slice a3 k3 c3)
                have hO := IsBig.put ((hR.keep hb2).keep hb3) D3.tq (.bool n3) (.slice a3 k3 c3)
                clear p1 p2 p3 p4 q1 q2 q3 q4 r1 r2 r3 r4
                go_wp2_with fail
                go_meet
                case rel => exact ⟨n3, a3, k3, c3, rn, ra, rk, rc, hD, by rw [EV.out]; exact hN, hO⟩
            case rest =>
              clear D hQ hR
              obtain ⟨qn, qa, qk, qc, rn, ra, rk, rc, D, hQ, hR⟩ := hcut
              obtain ⟨gx, eax, hcx, hgx⟩ := (hx.keep D.bl).cell i (by omega)
              rw [← ED.out] at hcx
              obtain ⟨p1, p2, p3, p4⟩ := D.cA
              rw [eax] at p2
              clear eax
              have ecI : (IntKind.u64.wrap ((d : Int) / (b : Int))).tmod 2 = (c : Int) := by
                have h1 : d / b ≤ d := Nat.div_le_self _ _
                obtain ⟨v, ev⟩ : ∃ v, v = d / b := ⟨_, rfl⟩
                rw [← Int.natCast_ediv, EC.out, ← ev, IntKind.wrap_u64, Int.emod_eq_of_lt (by omega) (by omega), Int.tmod_eq_emod_of_nonneg (by omega)]; simp
              have ix : (i : Int) < (k : Int) := by omega
              go_upto_if 36 with (fail)
              go_cut [] from 18 to 53 (fun wx => DQ ax bx k m ca cb w (2 * qv) (2 * rv + c) wx)
              case first =>
                have hkr := hR.le sr2
                clear hcx p1 p2 p3 p4 ecI
                rcases (by omega : c = 0 ∨ c = 1) with rfl | rfl
                · go_wp2_with fail
                  go_meet
                  case rel => exact ⟨qn, qa, qk, qc, rn, ra, rk, rc, D, hQ, hR⟩
                · have EV : Hid (((2 * rv + 1 : Nat) : Int) = ((2 * rv : Nat) : Int) + 1) := Lib.hid (by omega)
                  go_wp2_with fail
                  obtain ⟨p1, p2, p3, p4⟩ := D.cr
                  go_region_with (first
                    | (go_at_call 88; with_reducible refine (big_ofu1 _).mono ?_; rintro e w2 hB2; obtain ⟨n2, a2, k2, c2, rfl, hI2, hb2⟩ := hB2.out; replace hb2 := below_undrew hb2; have hk2 := hI2.le (BM.Sz.u64 (n := 1) (by omega) (by omega)); have D2 := D.below hb2; obtain ⟨q1, q2, q3, q4⟩ := D2.cr)
                    | (go_at_call 89; with_reducible refine (big_plus rn n2 ra a2 rk k2 rc c2 _ 1 _ (hR.keep hb2) hI2 ?_ ?_).mono ?_; omega; omega; rintro e w3 hB3; obtain ⟨n3, a3, k3, c3, rfl, hI3, hb3⟩ := hB3.out; have D3 := D2.below hb3; obtain ⟨r1, r2, r3, r4⟩ := D3.cr))
                  all_goals
                    have hD := D3.putr (.bool n3) (.slice a3 k3 c3)
                    have hN := IsBig.put hI3 D3.tr (.bool n3) (.slice a3 k3 c3)
                    have hO := IsBig.put ((hQ.keep hb2).keep hb3) D3.tr (.bool n3) (.slice a3 k3 c3)
                    clear p1 p2 p3 p4 q1 q2 q3 q4 r1 r2 r3 r4
                    go_wp2_with fail
                    go_meet
                    case rel => exact ⟨qn, qa, qk, qc, n3, a3, k3, c3, hD, hO, by rw [EV.out]; exact hN⟩
              case rest =>
                clear D hQ hR hcx p1 p2 p3 p4 ecI
                obtain ⟨qn, qa, qk, qc, rn, ra, rk, rc, D, hQ, hR⟩ := hcut
                obtain ⟨rfl, rs, hrs, trs, ers⟩ := hR.nat
                obtain ⟨z, ez⟩ : ∃ z, cmpN (BM.bval rs) (BM.bval ys) = z := ⟨_, rfl⟩
                have hkr := hR.le srt
                have hz : (B ≤ 2 * rv + c → 0 ≤ z) ∧ (2 * rv + c < B → ¬ 0 ≤ z) := by
                  rw [← ez, ← EB.out, ers]
                  refine ⟨fun h => ?_, fun h => ?_⟩
                  · rcases Nat.lt_or_eq_of_le h with h | h
                    · rw [cmpN_gt h]; decide
                    · rw [cmpN_eq h.symm]; decide
                  · rw [cmpN_lt h]; decide
                have HZ := Lib.hid hz
                clear hz
                obtain ⟨p1, p2, p3, p4⟩ := D.cr
                obtain ⟨p5, p6, p7, p8⟩ := D.cB
                go_upto_if 45 with (go_at_call 104; with_reducible refine (big_sizes_at ra bx rk m rc cb rs ys z _ hrs (hy.keep D.bl) trs ty ?_ ?_ ez).mono ?_; omega; omega; rintro e w4 ⟨rfl, hb4⟩)
                replace D := D.below hb4
                replace hQ := hQ.keep hb4
                replace hR := hR.keep hb4
                clear p1 p2 p3 p4 p5 p6 p7 p8 hb4 hrs
                obtain ⟨q', r', HP⟩ : ∃ q' r', q' * B + r' = BM.seen H d s ∧ r' < B ∧ ((B ≤ 2 * rv + c ∧ q' = 2 * qv + 1 ∧ r' + B = 2 * rv + c) ∨ (2 * rv + c < B ∧ q' = 2 * qv ∧ r' = 2 * rv + c)) := by
                  rw [HST.out]
                  rcases Nat.lt_or_ge (2 * rv + c) B with h | h
                  · exact ⟨2 * qv, 2 * rv + c, HD.out.2 h, h, .inr ⟨h, rfl, rfl⟩⟩
                  · exact ⟨2 * qv + 1, 2 * rv + c - B, (HD.out.1 h).1, (HD.out.1 h).2, .inl ⟨h, rfl, by omega⟩⟩
                have HPP := Lib.hid HP
                clear HP
                have HR2 : ∃ x, x = 0 := ⟨0, rfl⟩
                clear HR2
                · rcases HPP.out.2.2 with ⟨hcmp, rfl, hr'⟩ | ⟨hcmp, rfl, rfl⟩
                  · have hz := HZ.out.1 hcmp
                    have hYB := hyB _ D.bl
                    have EW : Hid (((2 * rv + c : Nat) : Int) + -(B : Int) = ((r' : Nat) : Int)) := Lib.hid (by omega)
                    have hkq := hQ.le sq2
                    obtain ⟨p1, p2, p3, p4⟩ := D.cr
                    obtain ⟨p5, p6, p7, p8⟩ := D.cB
                    clear hcmp hr'
                    go_wp2_with (go_at_call 89; go_loud (with_reducible refine (big_plus false true ra bx rk m rc cb _ _ _ hR hYB ?_ ?_).mono ?_); omega; omega; rintro e w5 ⟨n5, a5, k5, c5, rfl, hI5, hb5⟩; replace D := D.below hb5; replace hQ := hQ.keep hb5; obtain ⟨r1, r2, r3, r4⟩ := D.cr)
                    rw [EW.out] at hI5
                    have hD := D.putr (.bool n5) (.slice a5 k5 c5)
                    have hN := IsBig.put hI5 D.tr (.bool n5) (.slice a5 k5 c5)
                    have hO := IsBig.put hQ D.tr (.bool n5) (.slice a5 k5 c5)
                    clear p1 p2 p3 p4 p5 p6 p7 p8 r1 r2 r3 r4 D hQ hR hI5 hb5 hYB
                    obtain ⟨W, eW⟩ : ∃ W, W = (w5.setCell ⟨w.heap.size + 1 + 1 + 1 + 1 + 1, 0, none⟩ (.bool n5)).setCell ⟨w.heap.size + 1 + 1 + 1 + 1 + 1, 1, none⟩ (.slice a5 k5 c5) := ⟨_, rfl⟩
                    rw [← eW] at hD hN hO ⊢
                    clear eW
                    have D := hD
                    have hQ := hO
                    have hR := hN
                    clear hD hO hN
                    have EV : Hid (((2 * qv + 1 : Nat) : Int) = ((2 * qv : Nat) : Int) + 1) := Lib.hid (by omega)
                    obtain ⟨p1, p2, p3, p4⟩ := D.cq
                    go_region_with (first
                      | (go_at_call 88; with_reducible refine (big_ofu1 _).mono ?_; rintro e w2 hB2; obtain ⟨n2, a2, k2, c2, rfl, hI2, hb2⟩ := hB2.out; replace hb2 := below_undrew hb2; have hk2 := hI2.le (BM.Sz.u64 (n := 1) (by omega) (by omega)); have D2 := D.below hb2; obtain ⟨q1, q2, q3, q4⟩ := D2.cq)
                      | (go_at_call 89; with_reducible refine (big_plus qn n2 qa a2 qk k2 qc c2 _ 1 _ (hQ.keep hb2) hI2 ?_ ?_).mono ?_; omega; omega; rintro e w3 hB3; obtain ⟨n3, a3, k3, c3, rfl, hI3, hb3⟩ := hB3.out; have D3 := D2.below hb3; obtain ⟨r1, r2, r3, r4⟩ := D3.cq))
                    all_goals
                      have hD := D3.putq (.bool n3) (.slice a3 k3 c3)
                      have hN := IsBig.put hI3 D3.tq (.bool n3) (.slice a3 k3 c3)
                      have hO := IsBig.put ((hR.keep hb2).keep hb3) D3.tq (.bool n3) (.slice a3 k3 c3)
                      clear p1 p2 p3 p4 q1 q2 q3 q4 r1 r2 r3 r4
                      go_wp2_with fail
                      go_roundg s
                      case measure => omega
                      case rel => exact ⟨s, _, r', by omega, rfl, by rw [EBB.out]; go_num, HPP.out.1, HPP.out.2.1, ⟨n3, a3, k3, c3, n5, a5, k5, c5, hD, by rw [EV.out]; exact hN, hO⟩⟩
                  · have hz := HZ.out.2 hcmp
                    clear hcmp
                    go_wp2_with fail
                    go_roundg s
                    case measure => omega
                    case rel => exact ⟨s, _, _, by omega, rfl, by rw [EBB.out]; go_num, HPP.out.1, HPP.out.2.1, ⟨qn, qa, qk, qc, _, ra, rk, rc, D, hQ, hR⟩⟩
end Go.Proofs.Ythofammjbicogaa
