/-
  The statement ShareFair.
-/
import Derived.Test.YthffphcgkmjhbaaShD
namespace Go.Proofs.Ythffphcgkmjhbaa
open Go.RowKit
set_option linter.unusedSimpArgs false
set_option linter.unusedVariables false

theorem lenB_of {t : Int} (h1 : -2147483648 ≤ t) (h2 : t ≤ 2147483647) : lenB t = true := (lenB_iff t).2 (by unfold LenB; omega)
theorem fits_u16 {ys : List Int} (h : U16s ys) : Fits ys := fun i => by have := h i; omega
theorem nonneg_u16 {ys : List Int} (h : U16s ys) : Nonneg ys := fun i => (h i).1
theorem shE_ok {t : Int} {ys : List Int} {m : Nat} (hm : m ≤ 1024) (hn : Nonneg ys) (hl : lenB t = true) (hS : pre ys m ≤ 4611686018427387904) : shE t ys m = 0 := by
  unfold shE
  rw [if_neg (by omega)]
  have : negB ys m = false := by
    unfold negB
    rw [decide_eq_false_iff_not]
    rintro ⟨_, h⟩
    obtain ⟨i, _, h⟩ := (minK_neg ys _).1 h
    have := hn i
    omega
  rw [this]
  unfold splC allE
  rw [hl, if_pos hS]
  rfl
/-- Bounds and parts of a total that is an i32, by few small weights. -/
theorem bound_i32 {t p S : Int} (h1 : -2147483648 ≤ t) (h2 : t ≤ 2147483647) (hp : 0 ≤ p) (hS : p ≤ S) : -2147483648 ≤ t * p / S ∧ t * p / S ≤ 2147483647 := by
  have h := @bound_abs t p S hp hS
  by_cases h0 : 0 ≤ t
  · have := h.1 h0; omega
  · have := h.2 (by omega); omega
theorem mul_lim {a b A B : Int} (ha : -A ≤ a) (ha' : a ≤ A) (hb : 0 ≤ b) (hb' : b ≤ B) (hA : 0 ≤ A) : -(A * B) ≤ a * b ∧ a * b ≤ A * B := by
  have h1 : a * b ≤ A * b := Int.mul_le_mul_of_nonneg_right ha' hb
  have h2 : -A * b ≤ a * b := Int.mul_le_mul_of_nonneg_right ha hb
  have h3 : A * b ≤ A * B := Int.mul_le_mul_of_nonneg_left hb' hA
  rw [Int.neg_mul] at h2
  omega
set_option maxRecDepth 100000 in
set_option maxHeartbeats 3200000 in
theorem law_fair (t : Int) (v : Value) (ht1 : -2147483648 ≤ t) (ht2 : t ≤ 2147483647) (w : World) (hv : SlV .u16 w v) :
    Calls Try.prog 20 #[.int .i32 t, v] w fun e w' => e = .returned (.bool true) ∧ Below w.heap.size w w' := by
  obtain ⟨ys, hs, hu⟩ := small_of hv
  have hm40 : ys.length ≤ 40 := by
    rcases hs with ⟨_, rfl⟩ | ⟨g, off, n, cap, _, _, _, hl, _⟩
    · simp
    · omega
  have SM := fun W hW => law_small v ys W hW hu
  obtain ⟨m, em⟩ : ∃ m, ys.length = m := ⟨_, rfl⟩
  rw [em] at hm40
  have hn := nonneg_u16 hu
  have hSb := pre_small hu m
  have hE := shE_ok (by omega) hn (lenB_of ht1 ht2) (show pre ys m ≤ 4611686018427387904 by omega)
  have SP := fun ao cap W hx => sh_split t ao m cap ys (by omega) (by unfold IFit; omega) (fits_u16 hu) W hx
  unfold SplitAns at SP
  rw [hE] at SP
  have hmono := fun j (hj : j ≤ m) => pre_mono hn hj
  obtain ⟨S, eS⟩ : ∃ S, pre ys m = S := ⟨_, rfl⟩
  rw [eS] at SP hSb hmono
  have hS0 := hSb.1
  have hS1 : S ≤ 2621400 := by omega
  have EM := Lib.hid em
  have ES := Lib.hid eS
  have HN := Lib.hid hn
  have HU := Lib.hid hu
  have HMO := Lib.hid hmono
  clear hE hSb em eS hn hu hv hmono
  have hs1 : ∀ w', Below w.heap.size w w' → smallL v w' ys := fun w' hb => by
    rcases hs with h | ⟨g, off, n, cap, e, hg, h1, h2, h3⟩
    · exact .inl h
    · exact .inr ⟨g, off, n, cap, e, Nat.lt_of_lt_of_le hg hb.size, h1, h2, fun i hi => (hb.cell (p := ⟨g, off + i, none⟩) hg).trans (h3 i hi)⟩
  clear hs
  go_enter Try.func20, Try.ntmps20
  go_wp2_with fail
  refine (speaks05 _).mono ?_
  rintro e w1 ⟨rfl, hB⟩
  go_wp2_with fail
  refine (SM _ (hs1 _ hB)).mono ?_
  rintro e w2 ⟨ao, m', cap, rfl, e1, hr, hb⟩
  obtain rfl : m = m' := EM.out.symm.trans e1
  have hr := hr.row
  rw [ES.out]
  replace hB := hB.trans (hb.mono hB.size)
  clear hb hs1 SM e1
  go_wp2_with fail
  refine (SP ao cap _ hr).mono ?_
  rintro e w3 ⟨ao2, m', cap2, zs, rfl, hp, -, -, h1, -, hb⟩
  obtain ⟨e2, rfl⟩ := h1 (by first | trivial | rfl)
  obtain rfl := e2.symm
  replace hr := hr.below hb
  replace hB := hB.trans (hb.mono hB.size)
  have HR := Lib.hid hr
  have HP := Lib.hid hp
  clear hb h1 SP hr hp
  have hmm : (m != m) = false := by simp
  go_wp2_with fail
  go_loopg [9, 10] m (fun gk s9 s10 wr => ∃ (j : Nat) (s : Int), j ≤ m ∧ gk = m - j ∧ s9 = .int .i64 s ∧ s10 = .int .i64 ((j : Int)) ∧ s = t * pre ys j / S ∧ Below w3.heap.size w3 wr)
  case atStart => exact ⟨0, 0, by omega, by omega, rfl, rfl, by show (0 : Int) = t * 0 / S; rw [Int.mul_zero, Int.zero_ediv], Below.refl _ _⟩
  case round =>
    obtain ⟨j, s, hj, rfl, rfl, rfl, es, hb⟩ := hrel
    have hsb := bound_i32 (S := S) ht1 ht2 (pre_nonneg HN.out j) (HMO.out j hj)
    rw [← es] at hsb
    have hs1 := hsb.1
    have hs2 := hsb.2
    have ESJ := Lib.hid es
    clear es hsb
    by_cases hjk : j < m
    · have ix : (j : Int) < (m : Int) := by omega
      obtain ⟨g, off, rfl, _, hcx⟩ := (HR.out.below hb).at hjk
      obtain ⟨g2, off2, rfl, _, hcp⟩ := (HP.out.below hb).at hjk
      rw [partsN_get _ _ _ _ _ hjk] at hcp
      have hx := HU.out j
      have hoff := fun h => share_off t S ys j h
      have hno := share_none t S ys j
      have hz : S = 0 → ys.getD j 0 = 0 := fun h => pre_zero HN.out (n := m) (by rw [ES.out]; exact h) hjk
      have hsum : t * pre ys (j + 1) / S = s + shareAt t S ys j := by rw [ESJ.out]; unfold shareAt; omega
      have hsb2 := bound_i32 (S := S) ht1 ht2 (pre_nonneg HN.out (j + 1)) (HMO.out (j + 1) hjk)
      rw [hsum] at hsb2
      obtain ⟨x, ex⟩ : ∃ x, ys.getD j 0 = x := ⟨_, rfl⟩
      obtain ⟨p, ep⟩ : ∃ p, shareAt t S ys j = p := ⟨_, rfl⟩
      rw [ex] at hcx hx hoff hno hz
      rw [ep] at hcp hoff hno hsum hsb2
      have hx0 := hx.1
      have hx1 := hx.2
      have hp1 : -4294967295 ≤ p := by omega
      have hp2 : p ≤ 4294967295 := by omega
      have hq1 := hsb2.1
      have hq2 := hsb2.2
      have ha := mul_lim (A := 4294967295) (B := 2621400) (by omega) hp2 hS0 hS1 (by omega)
      have hb' := mul_lim (A := 2147483648) (B := 65535) (by omega) (show t ≤ 2147483648 by omega) hx0 hx1 (by omega)
      have hc1 := ha.1
      have hc2 := ha.2
      have hd1 := hb'.1
      have hd2 := hb'.2
      have HSUM := Lib.hid hsum
      clear ex ep hsum hsb2 hx ha hb'
      by_cases hS : 0 < S
      · obtain ⟨o1, o2⟩ := hoff hS
        have iS : ¬ S ≤ p * S - t * x := by omega
        have iS2 : ¬ p * S - t * x ≤ -S := by omega
        clear hoff hz
        by_cases hx00 : x = 0
        · have hp0 := hno hx00
          subst hx00 hp0
          clear hno
          go_wp2_with fail
          go_quiet (fail)
          go_wp2_with fail
          go_roundg (m - (j + 1))
          case measure => omega
          case rel => exact ⟨j + 1, _, by omega, rfl, rfl, by go_num, by rw [HSUM.out, Int.add_zero], below_dN hb _⟩
        · have hxb : (x == 0) = false := by simp [hx00]
          clear hno
          go_wp2_with fail
          go_quiet (fail)
          go_wp2_with fail
          go_roundg (m - (j + 1))
          case measure => omega
          case rel => exact ⟨j + 1, _, by omega, rfl, rfl, by go_num, HSUM.out.symm, below_dN hb _⟩
      · obtain rfl : S = 0 := by omega
        have hx00 := hz rfl
        have hp0 := hno hx00
        subst hx00 hp0
        clear hno hz hoff
        go_wp2_with fail
        go_quiet (fail)
        go_wp2_with fail
        go_roundg (m - (j + 1))
        case measure => omega
        case rel => exact ⟨j + 1, _, by omega, rfl, rfl, by go_num, by rw [HSUM.out, Int.add_zero], below_dN hb _⟩
    · obtain rfl : j = m := by omega
      have ix : ¬ (j : Int) < (j : Int) := by omega
      have es := ESJ.out
      rw [ES.out] at es
      by_cases hS : 0 < S
      · rw [Int.mul_ediv_cancel _ (by omega)] at es
        subst es
        clear ESJ
        go_wp2_with fail
        go_ret
        exact ⟨rfl, hB.trans (hb.mono hB.size)⟩
      · obtain rfl : S = 0 := by omega
        rw [Int.ediv_zero] at es
        subst es
        clear ESJ
        go_wp2_with fail
        go_ret
        exact ⟨rfl, hB.trans (hb.mono hB.size)⟩
end Go.Proofs.Ythffphcgkmjhbaa
