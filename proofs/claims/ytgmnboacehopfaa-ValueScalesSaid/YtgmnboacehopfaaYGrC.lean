/-
  Package real: grid, a number's nearest place.
-/
import Derived.Test.YtgmnboacehopfaaYGrB
namespace Go.Proofs.Ytgmnboacehopfaa
open Go.RowKit
set_option linter.unusedSimpArgs false
set_option linter.unusedVariables false

def sideI (d : Bool) : Int := if d then -1 else 1
def GridA (b : Nat) (den : Int) (w : World) (e : Ending) (w' : World) : Prop :=
  (IFit (gN b den) → e = .returned (.tuple #[.int .i64 (gN b den), .int .i64 0])) ∧ (¬ IFit (gN b den) → e = .returned (.tuple #[.int .i64 0, .int .i64 (sideI (fSg b))])) ∧ Below w.heap.size w w'
theorem gN_dir {b : Nat} {den : Int} (h1 : 1 ≤ den) : if fSg b then gN b den ≤ 0 else 0 ≤ gN b den := by
  by_cases h : 0 ≤ fPo b
  · exact gN_sign h h1
  · obtain ⟨k, hk⟩ : ∃ k : Nat, fPo b = -((k : Int) + 1) := ⟨(-fPo b - 1).toNat, by omega⟩
    rw [gN_down hk]
    have hp : (0 : Int) < ((2 ^ k : Nat) : Int) := Int.natCast_pos.2 (Nat.pow_pos (by omega))
    obtain ⟨p, ep⟩ : ∃ p : Int, ((2 ^ k : Nat) : Int) = p := ⟨_, rfl⟩
    rw [ep] at hp ⊢
    unfold fNu
    split
    · have hm : (0 : Int) ≤ (fWh b : Int) * den := Int.mul_nonneg (by omega) (by omega)
      rw [Int.neg_mul]
      have h2 : -((fWh b : Int) * den) / p ≤ 0 := by
        have := Int.ediv_lt_of_lt_mul (a := -((fWh b : Int) * den)) (b := 1) (c := p) hp (by omega)
        omega
      omega
    · have hm : (0 : Int) ≤ (fWh b : Int) * den := Int.mul_nonneg (by omega) (by omega)
      have h2 := Int.ediv_nonneg hm (show 0 ≤ p by omega)
      omega
theorem gN_out {b : Nat} {den : Int} (h1 : 1 ≤ den) (h : ¬ IFit (gN b den)) : if fSg b then gN b den < -9223372036854775808 else 9223372036854775807 < gN b den := by
  have hd := gN_dir (b := b) h1
  unfold IFit at h
  cases hs : fSg b
  · rw [hs] at hd
    simp only [Bool.false_eq_true, if_false] at hd ⊢
    omega
  · rw [hs] at hd
    simp only [if_true] at hd ⊢
    omega
set_option maxRecDepth 100000 in
set_option maxHeartbeats 3200000 in
theorem real_grid (b : Nat) (hb : b < 18446744073709551616) (den : Int) (h1 : 1 ≤ den) (h2 : den ≤ 1048576) (w : World) : Calls Try.prog 44 #[.float .f64 b, .int .i64 den] w (GridA b den w) := by
  have WH := real_whole b hb
  have SB := math_signbit b hb
  have hw := fWh_lt b
  have hnu := fNu_bnd b
  have hex : -1074 ≤ fPo b ∧ fPo b ≤ 972 := by
    have := fEx_lt b
    unfold fPo; split <;> omega
  have S1 := real_signed (fWh b : Int) (fSg b) (by omega) (by omega)
  have S2 := real_signed 1 (fSg b) (by omega) (by omega)
  rw [show (if fSg b = true then -(fWh b : Int) else (fWh b : Int)) = fNu b from rfl] at S1
  rw [show (if fSg b = true then (-1 : Int) else 1) = sideI (fSg b) from rfl] at S2
  have hup := fun h => gN_up (b := b) h den
  have hdn := fun k h => gN_down (b := b) (k := k) h den
  have hsm := fun h => gN_small (b := b) h h1 h2
  have hfar := fun h => gN_far (b := b) h h1
  have hfup : fUp b = 2 ^ (fPo b).toNat := rfl
  obtain ⟨G, eG⟩ : ∃ G, gN b den = G := ⟨_, rfl⟩
  unfold GridA
  rw [eG] at hup hsm hfar ⊢
  simp only [eG] at hdn
  obtain ⟨m, em⟩ : ∃ x, fWh b = x := ⟨_, rfl⟩
  obtain ⟨s, es⟩ : ∃ x, fSg b = x := ⟨_, rfl⟩
  obtain ⟨nu, enu⟩ : ∃ x, fNu b = x := ⟨_, rfl⟩
  obtain ⟨ex, eex⟩ : ∃ x, fPo b = x := ⟨_, rfl⟩
  obtain ⟨sd, esd⟩ : ∃ x, sideI (fSg b) = x := ⟨_, rfl⟩
  rw [em, eex] at WH
  rw [es] at SB
  rw [em, es, enu] at S1
  rw [esd] at S2
  rw [es] at S2 esd
  rw [em] at hw
  rw [enu] at hnu hup
  rw [eex] at hup hsm hfar hfup hex
  simp only [eex, enu] at hdn
  rw [es] at hfar ⊢
  rw [esd]
  obtain ⟨Q, eQ⟩ : ∃ Q : Ending → World → Prop, Q = fun e w' => (IFit G → e = .returned (.tuple #[.int .i64 G, .int .i64 0])) ∧ (¬ IFit G → e = .returned (.tuple #[.int .i64 0, .int .i64 sd])) ∧ Below w.heap.size w w' := ⟨_, rfl⟩
  rw [← eQ]
  have EQ := Lib.hid eQ
  clear eQ em es enu eex eG
  have hm1 : (0 : Int) ≤ (m : Int) := by omega
  have hm2 : (m : Int) < 9007199254740992 := by omega
  by_cases c1 : 11 < ex
  · have hf := hfar c1
    have HN := Lib.hid (show ¬ IFit G from fun q => by unfold IFit at q; split at hf <;> omega)
    clear hup hdn hsm hfar hf hfup
    go_enter Try.func44, Try.ntmps44
    go_wp2_with (first
      | (go_at_call 62; with_reducible refine (WH _).mono ?_; rintro e w1 ⟨rfl, rfl⟩)
      | (go_at_call 63; with_reducible refine (SB _).mono ?_; rintro e w1 ⟨rfl, rfl⟩)
      | (go_at_call 43; with_reducible refine (S1 _).mono ?_; rintro e w1 ⟨rfl, rfl⟩)
      | (go_at_call 43; with_reducible refine (S2 _).mono ?_; rintro e w1 ⟨rfl, rfl⟩))
    rw [EQ.out]
    exact ⟨fun q => absurd q HN.out, fun _ => rfl, Below.refl _ _⟩
  · have d1 : decide (11 < ex) = false := by simp; omega
    replace c1 : ex ≤ 11 := by omega
    by_cases c2 : 0 ≤ ex
    · obtain ⟨k, rfl⟩ : ∃ k : Nat, ex = (k : Int) := ⟨ex.toNat, by omega⟩
      have hk : k ≤ 11 := by omega
      have hG := hup (by omega)
      rw [hfup, Int.toNat_natCast] at hG
      obtain ⟨P, eP⟩ : ∃ P : Int, ((2 ^ k : Nat) : Int) = P := ⟨_, rfl⟩
      have hP : 1 ≤ P ∧ P ≤ 2048 := by
        have h1 : 2 ^ k ≤ 2 ^ 11 := Nat.pow_le_pow_right (by omega) hk
        have h2 := Nat.pow_pos (n := k) (show 0 < 2 by omega)
        have h3 : (2 : Nat) ^ 11 = 2048 := by decide
        omega
      rw [eP] at hG
      have hD := Int.mul_le_mul h2 hP.2 (by omega) (by omega)
      have hD0 := Int.mul_le_mul h1 hP.1 (by omega) (by omega)
      have hsh : IntKind.i64.wrap (den * 2 ^ k) = den * P := by
        rw [IntWalk.i64_left, show (2 : Int) ^ k = P by rw [← eP]; simp]
        exact IntWalk.wrap64_in _ (by omega)
      have hG2 : G = nu * (den * P) := by rw [hG, Int.mul_assoc, Int.mul_comm P den]
      obtain ⟨D, eD⟩ : ∃ D, den * P = D := ⟨_, rfl⟩
      rw [eD] at hsh hD hD0 hG2
      have WM := wide_mul nu D (by omega) (by omega) (by omega) (by omega)
      rw [← hG2] at WM
      have hGf : WFit G := by rw [hG2]; exact mul_fit (by unfold IFit; omega) (by unfold IFit; omega)
      have d2 : decide (0 ≤ (k : Int)) = true := by simp
      clear c1 c2
      clear hup hdn hsm hfar hfup hG hG2 eD eP
      by_cases hf : IFit G
      · have WI := wide_int_fit G _ _ (Wd.of hGf) hf
        have HF := Lib.hid hf
        go_enter Try.func44, Try.ntmps44
        go_wp2_with (first
          | (go_at_call 62; with_reducible refine (WH _).mono ?_; rintro e w1 ⟨rfl, rfl⟩)
          | (go_at_call 63; with_reducible refine (SB _).mono ?_; rintro e w1 ⟨rfl, rfl⟩)
          | (go_at_call 43; with_reducible refine (S1 _).mono ?_; rintro e w1 ⟨rfl, rfl⟩)
          | (go_at_call 43; with_reducible refine (S2 _).mono ?_; rintro e w1 ⟨rfl, rfl⟩)
          | (go_at_call 64; with_reducible refine (WM _).mono ?_; rintro e w2 ⟨rfl, hb2⟩; have hs2 := hb2.size)
          | (go_at_call 65; with_reducible refine (WI _).mono ?_; rintro e w3 ⟨rfl, hb3⟩; have hs3 := hb3.size))
        rw [EQ.out]
        exact ⟨fun _ => rfl, fun q => absurd HF.out q, (by repeat' (first | (with_reducible exact Below.refl _ _) | (with_reducible assumption) | (with_reducible refine below_alloc ?_ _ ?_) | (with_reducible refine below_set _ ?_ ?_) | (with_reducible refine Below.drew ?_) | (with_reducible refine below_dN ?_ _) | (apply below_thenA; assumption) | omega | (simp; done) | (simp; omega) | (simp [*]; done)))⟩
      · have WI := wide_int_no G _ _ (Wd.of hGf) hf
        have HF := Lib.hid hf
        go_enter Try.func44, Try.ntmps44
        go_wp2_with (first
          | (go_at_call 62; with_reducible refine (WH _).mono ?_; rintro e w1 ⟨rfl, rfl⟩)
          | (go_at_call 63; with_reducible refine (SB _).mono ?_; rintro e w1 ⟨rfl, rfl⟩)
          | (go_at_call 43; with_reducible refine (S1 _).mono ?_; rintro e w1 ⟨rfl, rfl⟩)
          | (go_at_call 43; with_reducible refine (S2 _).mono ?_; rintro e w1 ⟨rfl, rfl⟩)
          | (go_at_call 64; with_reducible refine (WM _).mono ?_; rintro e w2 ⟨rfl, hb2⟩; have hs2 := hb2.size)
          | (go_at_call 65; with_reducible refine (WI _).mono ?_; rintro e w3 ⟨rfl, hb3⟩; have hs3 := hb3.size))
        rw [EQ.out]
        exact ⟨fun q => absurd q HF.out, fun _ => rfl, (by repeat' (first | (with_reducible exact Below.refl _ _) | (with_reducible assumption) | (with_reducible refine below_alloc ?_ _ ?_) | (with_reducible refine below_set _ ?_ ?_) | (with_reducible refine Below.drew ?_) | (with_reducible refine below_dN ?_ _) | (apply below_thenA; assumption) | omega | (simp; done) | (simp; omega) | (simp [*]; done)))⟩
    · have d2 : decide (0 ≤ ex) = false := by simp; omega
      replace c2 : ex < 0 := by omega
      by_cases c3 : ex < -74
      · have hG := hsm c3
        subst hG
        have c4 : 74 < -ex := by omega
        have d3 : decide (74 < -ex) = true := by simp; omega
        clear hup hdn hsm hfar hfup
        go_enter Try.func44, Try.ntmps44
        go_wp2_with (first
          | (go_at_call 62; with_reducible refine (WH _).mono ?_; rintro e w1 ⟨rfl, rfl⟩)
          | (go_at_call 63; with_reducible refine (SB _).mono ?_; rintro e w1 ⟨rfl, rfl⟩)
          | (go_at_call 43; with_reducible refine (S1 _).mono ?_; rintro e w1 ⟨rfl, rfl⟩)
          | (go_at_call 43; with_reducible refine (S2 _).mono ?_; rintro e w1 ⟨rfl, rfl⟩))
        rw [EQ.out]
        exact ⟨fun _ => rfl, fun q => absurd (show IFit 0 by unfold IFit; omega) q, Below.refl _ _⟩
      · obtain ⟨k, hk⟩ : ∃ k : Nat, ex = -((k : Int) + 1) := ⟨(-ex - 1).toNat, by omega⟩
        have hk1 : k ≤ 73 := by omega
        have hG := hdn k hk
        have hk2 : -ex - 1 = (k : Int) := by omega
        have d3 : decide (74 < -ex) = false := by simp; omega
        have he1 : -75 < ex := by omega
        have he2 : ex < 0 := by omega
        clear hk
        have hX : WFit (nu * den) := mul_fit (by unfold IFit; omega) (by unfold IFit; omega)
        have WM := wide_mul nu den (by omega) (by omega) (by omega) (by omega)
        obtain ⟨X, eX⟩ : ∃ X, nu * den = X := ⟨_, rfl⟩
        rw [eX] at hX WM hG
        clear hup hdn hsm hfar hfup
        have HV1 := real_halved X k (by omega) hX
        obtain ⟨Y, eY⟩ : ∃ Y, X / ((2 ^ k : Nat) : Int) = Y := ⟨_, rfl⟩
        have hP : (0 : Int) < ((2 ^ k : Nat) : Int) := Int.natCast_pos.2 (Nat.pow_pos (by omega))
        have hY : WFit Y := by rw [← eY]; exact wfit_ediv hX hP
        have hXb : -9444732965739290427392 ≤ X ∧ X ≤ 9444732965739290427392 := by
          rw [← eX]
          have a := Int.mul_le_mul (show den ≤ 1048576 from h2) (show (9007199254740991 : Int) ≤ 9007199254740991 by omega) (by omega) (by omega)
          by_cases h0 : 0 ≤ nu
          · have b1 := Int.mul_nonneg h0 (show 0 ≤ den by omega)
            have b2 := Int.mul_le_mul hnu.2 h2 (by omega) (by omega)
            omega
          · have b1 := Int.mul_nonpos_of_nonpos_of_nonneg (show nu ≤ 0 by omega) (show 0 ≤ den by omega)
            have b2 := Int.mul_le_mul (show -nu ≤ 9007199254740991 by omega) h2 (by omega) (by omega)
            rw [Int.neg_mul] at b2
            omega
        have hYb : -9444732965739290427392 ≤ Y ∧ Y ≤ 9444732965739290427392 := by
          rw [← eY]
          by_cases h0 : 0 ≤ X
          · have b1 := Int.ediv_nonneg h0 (show (0 : Int) ≤ ((2 ^ k : Nat) : Int) by omega)
            have b2 := Int.ediv_le_self ((2 ^ k : Nat) : Int) h0
            omega
          · have b1 : X ≤ X / ((2 ^ k : Nat) : Int) := (Int.le_ediv_iff_mul_le hP).2 (by
              have := Int.mul_nonpos_of_nonpos_of_nonneg (show X ≤ 0 by omega) (show 0 ≤ ((2 ^ k : Nat) : Int) - 1 by omega)
              rw [Int.mul_sub, Int.mul_one] at this
              omega)
            have b2 : X / ((2 ^ k : Nat) : Int) < 0 := Int.ediv_neg_of_neg_of_pos (by omega) hP
            omega
        rw [eY] at HV1 hG
        have W1 := wide_of 1 (by omega) (by omega)
        have AD := wide_add_fit Y 1 _ _ 0 1 (Wd.of hY) (by unfold Wd; omega) (by unfold WFit; omega)
        have HV2 : ∀ w, Calls Try.prog 66 #[.agg #[.int .i64 ((Y + 1) / 18446744073709551616), .int .u64 ((Y + 1) % 18446744073709551616)], .int .i64 1] w fun e w' => e = .returned (.agg #[.int .i64 (((Y + 1) / ((2 ^ 1 : Nat) : Int)) / 18446744073709551616), .int .u64 (((Y + 1) / ((2 ^ 1 : Nat) : Int)) % 18446744073709551616)]) ∧ Below w.heap.size w w' := real_halved (Y + 1) 1 (by omega) (by unfold WFit; omega)
        rw [show (Y + 1) / ((2 ^ 1 : Nat) : Int) = G from hG.symm] at HV2
        have hGf : WFit G := by rw [hG]; unfold WFit; omega
        obtain ⟨Z, eZ⟩ : ∃ Z, Y + 1 = Z := ⟨_, rfl⟩
        rw [eZ] at AD HV2
        clear hX hXb hYb hY eY eX eZ hG hP c1 c2 c3
        by_cases hf : IFit G
        · have WI := wide_int_fit G _ _ (Wd.of hGf) hf
          have HF := Lib.hid hf
          clear hf
          go_enter Try.func44, Try.ntmps44
          go_wp2_with (first
            | (go_at_call 62; with_reducible refine (WH _).mono ?_; rintro e w1 ⟨rfl, rfl⟩)
            | (go_at_call 63; with_reducible refine (SB _).mono ?_; rintro e w1 ⟨rfl, rfl⟩)
            | (go_at_call 43; with_reducible refine (S1 _).mono ?_; rintro e w1 ⟨rfl, rfl⟩)
            | (go_at_call 43; with_reducible refine (S2 _).mono ?_; rintro e w1 ⟨rfl, rfl⟩)
            | (go_at_call 64; with_reducible refine (WM _).mono ?_; rintro e w2 ⟨rfl, hb2⟩; have hs2 := hb2.size)
            | (go_at_call 66; with_reducible refine (HV1 _).mono ?_; rintro e w3 ⟨rfl, hb3⟩; have hs3 := hb3.size)
            | (go_at_call 68; with_reducible refine (W1 _).mono ?_; rintro e w4 ⟨rfl, hb4⟩; have hs4 := hb4.size)
            | (go_at_call 67; with_reducible refine (AD _).mono ?_; rintro e w5 ⟨rfl, hb5⟩; have hs5 := hb5.size)
            | (go_at_call 66; with_reducible refine (HV2 _).mono ?_; rintro e w6 ⟨rfl, hb6⟩; have hs6 := hb6.size; simp at hs6)
            | (go_at_call 65; with_reducible refine (WI _).mono ?_; rintro e w7 ⟨rfl, hb7⟩; have hs7 := hb7.size))
          rw [EQ.out]
          exact ⟨fun _ => rfl, fun q => absurd HF.out q, (by repeat' (first | (with_reducible exact Below.refl _ _) | (with_reducible assumption) | (with_reducible refine below_alloc ?_ _ ?_) | (with_reducible refine below_set _ ?_ ?_) | (with_reducible refine Below.drew ?_) | (with_reducible refine below_dN ?_ _) | (apply below_thenA; assumption) | omega | (simp; done) | (simp; omega) | (simp [*]; done)))⟩
        · have WI := wide_int_no G _ _ (Wd.of hGf) hf
          have HF := Lib.hid hf
          clear hf
          go_enter Try.func44, Try.ntmps44
          go_wp2_with (first
            | (go_at_call 62; with_reducible refine (WH _).mono ?_; rintro e w1 ⟨rfl, rfl⟩)
            | (go_at_call 63; with_reducible refine (SB _).mono ?_; rintro e w1 ⟨rfl, rfl⟩)
            | (go_at_call 43; with_reducible refine (S1 _).mono ?_; rintro e w1 ⟨rfl, rfl⟩)
            | (go_at_call 43; with_reducible refine (S2 _).mono ?_; rintro e w1 ⟨rfl, rfl⟩)
            | (go_at_call 64; with_reducible refine (WM _).mono ?_; rintro e w2 ⟨rfl, hb2⟩; have hs2 := hb2.size)
            | (go_at_call 66; with_reducible refine (HV1 _).mono ?_; rintro e w3 ⟨rfl, hb3⟩; have hs3 := hb3.size)
            | (go_at_call 68; with_reducible refine (W1 _).mono ?_; rintro e w4 ⟨rfl, hb4⟩; have hs4 := hb4.size)
            | (go_at_call 67; with_reducible refine (AD _).mono ?_; rintro e w5 ⟨rfl, hb5⟩; have hs5 := hb5.size)
            | (go_at_call 66; with_reducible refine (HV2 _).mono ?_; rintro e w6 ⟨rfl, hb6⟩; have hs6 := hb6.size; simp at hs6)
            | (go_at_call 65; with_reducible refine (WI _).mono ?_; rintro e w7 ⟨rfl, hb7⟩; have hs7 := hb7.size))
          rw [EQ.out]
          exact ⟨fun q => absurd q HF.out, fun _ => rfl, (by repeat' (first | (with_reducible exact Below.refl _ _) | (with_reducible assumption) | (with_reducible refine below_alloc ?_ _ ?_) | (with_reducible refine below_set _ ?_ ?_) | (with_reducible refine Below.drew ?_) | (with_reducible refine below_dN ?_ _) | (apply below_thenA; assumption) | omega | (simp; done) | (simp; omega) | (simp [*]; done)))⟩
end Go.Proofs.Ytgmnboacehopfaa
