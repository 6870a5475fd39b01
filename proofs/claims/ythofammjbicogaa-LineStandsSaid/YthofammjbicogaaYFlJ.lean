/-
  The reference's half and Align; the law FlexboxAligns.
-/
import Derived.Test.YthofammjbicogaaYFlI
namespace Go.Proofs.Ythofammjbicogaa
open Go.RowKit
set_option linter.unusedSimpArgs false
set_option linter.unusedVariables false

theorem half_eq (n : Int) : (n - (n.tmod 2 + 2).tmod 2).tdiv 2 = n / 2 := by
  have h1 : n.tmod 2 = n - 2 * n.tdiv 2 := by have := Int.tmod_add_mul_tdiv n 2; omega
  have h2 : (n.tmod 2 + 2).tmod 2 = n % 2 := by
    rw [Int.tmod_eq_emod_of_nonneg (by have := Int.tmod_lt_of_pos n (show (0 : Int) < 2 by decide); have := Int.lt_tmod_of_pos n (show (0 : Int) < 2 by decide); omega)]
    omega
  rw [h2]
  have h3 : n - n % 2 = 2 * (n / 2) := by omega
  rw [h3, Int.mul_tdiv_cancel_left _ (by decide)]
set_option maxRecDepth 100000 in
set_option maxHeartbeats 1600000 in
theorem ref20_half (n : Int) (hn : LenB n) (w : World) : Calls Try.prog 82 #[.int .i64 n] w fun e w' => e = .returned (.int .i64 (n / 2)) ∧ w' = w := by
  have h1 := half_eq n
  have t1 := Int.tmod_lt_of_pos n (show (0 : Int) < 2 by decide)
  have t2 := Int.lt_tmod_of_pos n (show (0 : Int) < 2 by decide)
  obtain ⟨m, em⟩ : ∃ m, n.tmod 2 = m := ⟨_, rfl⟩
  rw [em] at h1 t1 t2
  have t3 := Int.tmod_lt_of_pos (m + 2) (show (0 : Int) < 2 by decide)
  have t4 : 0 ≤ (m + 2).tmod 2 := Int.tmod_nonneg _ (by omega)
  obtain ⟨k, ek⟩ : ∃ k, (m + 2).tmod 2 = k := ⟨_, rfl⟩
  rw [ek] at h1 t3 t4
  have w1 : wrap64 (m + 2) = m + 2 := by simp only [wrap64]; omega
  have w2 : wrap64 (n - k) = n - k := by unfold LenB at hn; simp only [wrap64]; omega
  have w3 : wrap64 (n / 2) = n / 2 := by unfold LenB at hn; simp only [wrap64]; omega
  clear t1 t2 t3 t4 hn
  go_enter Try.func82, Try.ntmps82
  go_wp2_with fail
  go_ret
  exact ⟨by rw [w3]; rfl, rfl⟩
set_option maxRecDepth 100000 in
set_option maxHeartbeats 1600000 in
theorem ref20_align (s r al f : Int) (a b : Bool) (ef : r - s = f) (hf : LenB f) (w : World) :
    Calls Try.prog 49 #[.int .i64 s, .int .i64 r, .bool a, .bool b, .int .i64 al] w fun e w' => e = .returned (.tuple #[.int .i64 (alN f a b al), .int .i64 ((alM f a b).1), .int .i64 ((alM f a b).2)]) ∧ w' = w := by
  have hw : wrap64 (r - s) = f := by rw [ef]; unfold LenB at hf; simp only [wrap64]; omega
  obtain ⟨Q, eQ⟩ : ∃ Q : Ending → World → Prop, Q = fun e w' => e = .returned (.tuple #[.int .i64 (alN f a b al), .int .i64 ((alM f a b).1), .int .i64 ((alM f a b).2)]) ∧ w' = w := ⟨_, rfl⟩
  rw [← eQ]
  have EQ := Lib.hid eQ
  have HF := fun n h W => ref20_half n h W
  have h0 : LenB 0 := by unfold LenB; omega
  clear eQ ef
  by_cases hn : f < 0
  · have hm : max f 0 = 0 := by omega
    have hw2 : wrap64 (f - f / 2) = f - f / 2 := by unfold LenB at hf; simp only [wrap64]; omega
    cases a <;> cases b
    · by_cases h3 : al = 3
      · subst h3
        go_enter Try.func49, Try.ntmps49
        go_wp2_with fail
        rw [EQ.out]
        simp [alN, alM, hw]
      · by_cases h4 : al = 4
        · subst h4
          go_enter Try.func49, Try.ntmps49
          go_wp2_with fail
          refine (HF _ hf _).mono ?_
          rintro e w1 ⟨rfl, rfl⟩
          go_wp2_with fail
          rw [EQ.out]
          simp [alN, alM, hw]
        · go_enter Try.func49, Try.ntmps49
          go_wp2_with fail
          rw [EQ.out]
          simp [alN, alM, h3, h4]
    · go_enter Try.func49, Try.ntmps49
      go_wp2_with fail
      rw [EQ.out]
      simp [alN, alM, hm, hw2]
    · go_enter Try.func49, Try.ntmps49
      go_wp2_with fail
      rw [EQ.out]
      simp [alN, alM, hm, hw2]
    · go_enter Try.func49, Try.ntmps49
      go_wp2_with fail
      refine (HF _ h0 _).mono ?_
      rintro e w1 ⟨rfl, rfl⟩
      go_wp2_with fail
      refine (HF _ h0 _).mono ?_
      rintro e w1 ⟨rfl, rfl⟩
      go_wp2_with fail
      rw [EQ.out]
      simp [alN, alM, hm, hw2]
  · have hm : max f 0 = f := by omega
    have hw2 : wrap64 (f - f / 2) = f - f / 2 := by unfold LenB at hf; simp only [wrap64]; omega
    cases a <;> cases b
    · by_cases h3 : al = 3
      · subst h3
        go_enter Try.func49, Try.ntmps49
        go_wp2_with fail
        rw [EQ.out]
        simp [alN, alM, hw]
      · by_cases h4 : al = 4
        · subst h4
          go_enter Try.func49, Try.ntmps49
          go_wp2_with fail
          refine (HF _ hf _).mono ?_
          rintro e w1 ⟨rfl, rfl⟩
          go_wp2_with fail
          rw [EQ.out]
          simp [alN, alM, hw]
        · go_enter Try.func49, Try.ntmps49
          go_wp2_with fail
          rw [EQ.out]
          simp [alN, alM, h3, h4]
    · go_enter Try.func49, Try.ntmps49
      go_wp2_with fail
      rw [EQ.out]
      simp [alN, alM, hm, hw2]
    · go_enter Try.func49, Try.ntmps49
      go_wp2_with fail
      rw [EQ.out]
      simp [alN, alM, hm, hw2]
    · go_enter Try.func49, Try.ntmps49
      go_wp2_with fail
      refine (HF _ hf _).mono ?_
      rintro e w1 ⟨rfl, rfl⟩
      go_wp2_with fail
      refine (HF _ hf _).mono ?_
      rintro e w1 ⟨rfl, rfl⟩
      go_wp2_with fail
      rw [EQ.out]
      simp [alN, alM, hm, hw2]
set_option maxRecDepth 100000 in
set_option maxHeartbeats 1600000 in
/-- The law's own function: what it leaves in two boxes. -/
theorem aligns1 (s r al : Int) (a b : Bool) (b0 b1 b2 b3 b4 b5 : Nat) (v4 v5 v6 : Value) (W : World) (hs : IFit s) (hr : IFit r) (h45 : b4 ≠ b5)
    (q0 : Blk W b0 #[.int .i64 s] 2) (q1 : Blk W b1 #[.int .i64 r] 2) (q2 : Blk W b2 #[.bool a, .bool b] 71) (q3 : Blk W b3 #[.int .i64 al] 3) (q4 : Blk W b4 #[v4] 2) (q5 : Blk W b5 #[v5, v6] 66) :
    Calls Try.prog 47 #[.pointer (some ⟨b0, 0, none⟩), .pointer (some ⟨b1, 0, none⟩), .pointer (some ⟨b2, 0, none⟩), .pointer (some ⟨b3, 0, none⟩), .pointer (some ⟨b4, 0, none⟩), .pointer (some ⟨b5, 0, none⟩)] W fun e W' =>
      (lenE (r - s) = 0 → e = .returned (.tuple #[])) ∧ (lenE (r - s) ≠ 0 → e = .panicked (gave (lenE (r - s)))) ∧
      BlkL W' [(b4, #[if lenE (r - s) = 0 then .int .i64 (alN (r - s) a b al) else v4], 2), (b5, if lenE (r - s) = 0 then #[.int .i64 ((alM (r - s) a b).1), .int .i64 ((alM (r - s) a b).2)] else #[v5, v6], 66)] ∧ ButL [b4, b5] W W' := by
  have AL := fun W => flx_align s r al a b hs hr W
  obtain ⟨E, eE⟩ : ∃ E, lenE (r - s) = E := ⟨_, rfl⟩
  obtain ⟨N, eN⟩ : ∃ E, alN (r - s) a b al = E := ⟨_, rfl⟩
  obtain ⟨M1, eM1⟩ : ∃ E, (alM (r - s) a b).1 = E := ⟨_, rfl⟩
  obtain ⟨M2, eM2⟩ : ∃ E, (alM (r - s) a b).2 = E := ⟨_, rfl⟩
  rw [eE, eN, eM1, eM2] at AL ⊢
  obtain ⟨Q, eQ⟩ : ∃ Q : Ending → World → Prop, Q = fun e W' => (E = 0 → e = .returned (.tuple #[])) ∧ (E ≠ 0 → e = .panicked (gave E)) ∧ BlkL W' [(b4, #[if E = 0 then .int .i64 N else v4], 2), (b5, if E = 0 then #[.int .i64 M1, .int .i64 M2] else #[v5, v6], 66)] ∧ ButL [b4, b5] W W' := ⟨_, rfl⟩
  rw [← eQ]
  have EQ := Lib.hid eQ
  clear eQ eE eN eM1 eM2 hs hr
  have c0 := q0.cell 0 _ rfl
  have c1 := q1.cell 0 _ rfl
  have c2 := q2.cell 0 _ rfl
  have c2b := q2.cell 1 _ rfl
  have c3 := q3.cell 0 _ rfl
  go_enter Try.func47, Try.ntmps47
  go_wp2_with fail
  refine (AL _).mono ?_
  rintro e w1 ⟨g1, g2, hb⟩
  have r4 := q4.below hb
  have r5 := q5.below hb
  clear AL c0 c1 c2 c2b c3
  by_cases hE : E = 0
  · obtain rfl := g1 hE
    have HE := Lib.hid hE
    clear g1 g2 hE
    have c4 := r4.cell 0 _ rfl
    have c5 := r5.cell 0 _ rfl
    have c6 := r5.cell 1 _ rfl
    have f4 := r4.free 0
    have f5 := r5.free 0
    have f6 := r5.free 1
    have hb2 : ButL [b4, b5] W (((w1.setCell ⟨b4, 0, none⟩ (.int .i64 N)).setCell ⟨b5, 0, none⟩ (.int .i64 M1)).setCell ⟨b5, 1, none⟩ (.int .i64 M2)) := ((((ButL.of hb).trans (ButL.set _ _ _ (by simp))).trans (ButL.set _ _ _ (by simp))).trans (ButL.set _ _ _ (by simp)))
    have k4 : Blk (((w1.setCell ⟨b4, 0, none⟩ (.int .i64 N)).setCell ⟨b5, 0, none⟩ (.int .i64 M1)).setCell ⟨b5, 1, none⟩ (.int .i64 M2)) b4 #[.int .i64 N] 2 := ((r4.set 0 (.int .i64 N)).other h45 _ _).other h45 _ _
    have k5 : Blk (((w1.setCell ⟨b4, 0, none⟩ (.int .i64 N)).setCell ⟨b5, 0, none⟩ (.int .i64 M1)).setCell ⟨b5, 1, none⟩ (.int .i64 M2)) b5 #[.int .i64 M1, .int .i64 M2] 66 := ((r5.other (fun e => h45 e.symm) _ _).set 0 (.int .i64 M1)).set 1 (.int .i64 M2)
    have h54 : b5 ≠ b4 := fun e => h45 e.symm
    have K4 := Lib.hid k4
    have K5 := Lib.hid k5
    have HB2 := Lib.hid hb2
    clear k4 k5 hb2 hb r4 r5 q0 q1 q2 q3 q4 q5
    go_wp2_with fail
    go_end0
    rw [EQ.out]
    refine ⟨fun _ => rfl, fun h => absurd HE.out h, ?_, HB2.out⟩
    intro e he
    rw [if_pos HE.out, if_pos HE.out] at he
    simp at he
    rcases he with rfl | rfl
    · exact K4.out
    · exact K5.out
  · obtain rfl := g2 hE
    have HE := Lib.hid hE
    clear g1 g2 hE
    go_wp2_with fail
    rw [EQ.out]
    refine ⟨rfl, fun h => absurd h HE.out, fun _ => rfl, ?_, ButL.of hb⟩
    intro e he
    rw [if_neg HE.out, if_neg HE.out] at he
    simp at he
    rcases he with rfl | rfl
    · exact r4
    · exact r5
end Go.Proofs.Ythofammjbicogaa
