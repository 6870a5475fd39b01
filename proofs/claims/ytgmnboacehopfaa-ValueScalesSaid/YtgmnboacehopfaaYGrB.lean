/-
  Package real: halved.
-/
import Derived.Test.YtgmnboacehopfaaYGrA
import Derived.Test.YtgmnboacehopfaaZ4
import Derived.Test.YtgmnboacehopfaaZ1
namespace Go.Proofs.Ytgmnboacehopfaa
open Go.RowKit
set_option linter.unusedSimpArgs false
set_option linter.unusedVariables false

theorem wfit_ediv {x D : Int} (h : WFit x) (hD : 0 < D) : WFit (x / D) := by
  unfold WFit at h ⊢
  by_cases h0 : 0 ≤ x
  · have h1 := Int.ediv_nonneg h0 (show 0 ≤ D by omega)
    have h2 := Int.ediv_le_self D h0
    omega
  · have h1 : x ≤ x / D := (Int.le_ediv_iff_mul_le hD).2 (by
      have := Int.mul_nonpos_of_nonpos_of_nonneg (show x ≤ 0 by omega) (show 0 ≤ D - 1 by omega)
      rw [Int.mul_sub, Int.mul_one] at this
      omega)
    have h2 : x / D < 0 := Int.ediv_neg_of_neg_of_pos (by omega) hD
    omega
set_option maxRecDepth 100000 in
set_option maxHeartbeats 3200000 in
theorem real_halved (X : Int) (T : Nat) (hT : T ≤ 100) (hX : WFit X) (w : World) : Calls Try.prog 66 #[.agg #[.int .i64 (X / 18446744073709551616), .int .u64 (X % 18446744073709551616)], .int .i64 ((T : Int))] w fun e w' => e = .returned (.agg #[.int .i64 ((X / ((2 ^ T : Nat) : Int)) / 18446744073709551616), .int .u64 ((X / ((2 ^ T : Nat) : Int)) % 18446744073709551616)]) ∧ Below w.heap.size w w' := by
  go_enter Try.func66, Try.ntmps66
  go_wp2_with fail
  go_loopg [1] T (fun gk s1 wr => ∃ (x : Int), gk ≤ T ∧ s1 = .int .i64 ((gk : Int)) ∧ x = X / ((2 ^ (T - gk) : Nat) : Int) ∧ Blk wr w.heap.size #[.int .i64 (x / 18446744073709551616), .int .u64 (x % 18446744073709551616)] 123 ∧ (∃ v0 v1, Blk wr (w.heap.size + 1) #[v0, v1] 123) ∧ Below w.heap.size w wr)
  case atStart => exact ⟨X, Nat.le_refl _, rfl, by simp, (Blk.new w _ _ _ rfl).alloc _, ⟨_, _, Blk.new _ _ _ _ (by simp)⟩, (by repeat' (first | (with_reducible exact Below.refl _ _) | (with_reducible assumption) | (with_reducible refine below_alloc ?_ _ ?_) | (with_reducible refine below_set _ ?_ ?_) | (with_reducible refine Below.drew ?_) | (with_reducible refine below_dN ?_ _) | (apply below_thenA; assumption) | omega | (simp; done) | (simp; omega) | (simp [*]; done)))⟩
  case round =>
    obtain ⟨x, ht, rfl, hx, tx, ⟨v0, v1, tr⟩, hB⟩ := hrel
    obtain ⟨t, rfl⟩ : ∃ t, t = gk := ⟨_, rfl⟩
    by_cases h0 : t = 0
    · subst h0
      have c0 := tx.cell 0 _ rfl
      have c1 := tx.cell 1 _ rfl
      have r0 := tr.cell 0 _ rfl
      have r1 := tr.cell 1 _ rfl
      have p0 := tr.free 0
      have p1 := tr.free 1
      go_wp2_with fail
      (go_light; simp [bodyPost, results, Try.results66, go_sem, *])
      try exact (by repeat' (first | (with_reducible exact Below.refl _ _) | (with_reducible assumption) | (with_reducible refine below_alloc ?_ _ ?_) | (with_reducible refine below_set _ ?_ ?_) | (with_reducible refine Below.drew ?_) | (with_reducible refine below_dN ?_ _) | (apply below_thenA; assumption) | omega | (simp; done) | (simp; omega) | (simp [*]; done)))
    · have ix : (0 : Int) < (t : Int) := by omega
      have ix0 : 0 < t := by omega
      obtain ⟨n, en⟩ : ∃ n, min t 62 = n := ⟨_, rfl⟩
      have hmin : min (t : Int) 62 = (n : Int) := by omega
      have hn1 : n ≤ 62 := by omega
      have hn2 : n ≤ t := by omega
      obtain ⟨P, eP⟩ : ∃ P : Int, ((2 ^ n : Nat) : Int) = P := ⟨_, rfl⟩
      have hP : 0 < P ∧ P ≤ 4611686018427387904 := by
        have h1 : 2 ^ n ≤ 2 ^ 62 := Nat.pow_le_pow_right (by omega) hn1
        have h2 := Nat.pow_pos (n := n) (show 0 < 2 by omega)
        have h3 : (2 : Nat) ^ 62 = 4611686018427387904 := by decide
        omega
      have hx2 : X / ((2 ^ (T - (t - n)) : Nat) : Int) = x / P := by
        rw [show T - (t - n) = (T - t) + n by omega, Nat.pow_add, Int.natCast_mul, ← Int.ediv_ediv_of_nonneg (Int.natCast_nonneg _), ← hx, eP]
      have hfx : WFit x := by
        have h1 := Nat.pow_pos (n := T - t) (show 0 < 2 by omega)
        rw [hx]
        exact wfit_ediv hX (Int.natCast_pos.2 h1)
      have hfq : fq x P = x / P := by unfold fq; rw [if_neg (by omega)]
      have hWq : WFit (x / P) := wfit_ediv hfx hP.1
      have DV := fun W => wide_div_some x P _ _ (Wd.of hfx) (by omega) (by omega) (by omega) (by rw [hfq]; exact hWq) W
      rw [hfq] at DV
      obtain ⟨y, ey⟩ : ∃ y, x / P = y := ⟨_, rfl⟩
      obtain ⟨r, er⟩ : ∃ y, fr x P = y := ⟨_, rfl⟩
      rw [ey, er] at DV
      rw [ey] at hx2
      have hsh : IntKind.i64.wrap (2 ^ n) = P := by
        rw [IntWalk.i64_left, show (2 : Int) ^ n = P by rw [← eP]; simp]
        exact IntWalk.wrap64_in _ (by omega)
      have HX2 := Lib.hid hx2
      clear hx hx2 hfq hWq hfx ey er eP en
      go_upto_region 3 with (fail)
      rename_i K1 hK1
      refine wp_region_calm (fun w' => (∃ v0 v1, Blk w' (w.heap.size + 1) #[v0, v1] 123) ∧ Below w.heap.size w w') [8] (fun w' => Blk w' w.heap.size #[.int .i64 (x / 18446744073709551616), .int .u64 (x % 18446744073709551616)] 123) [Is (.agg #[.int .i64 (x / 18446744073709551616), .int .u64 (x % 18446744073709551616)]), Is (.int .i64 ((n : Int))), Is (.int .i64 P), Is (.tuple #[.agg #[.int .i64 (y / 18446744073709551616), .int .u64 (y % 18446744073709551616)], .int .i64 r, .bool true]), Is (.tuple #[.agg #[.int .i64 (y / 18446744073709551616), .int .u64 (y % 18446744073709551616)], .int .i64 r, .bool true]), Is (.agg #[.int .i64 (y / 18446744073709551616), .int .u64 (y % 18446744073709551616)]), Is (.int .i64 r), Is (.bool true), .own (fun _ w' => Blk w' w.heap.size #[.int .i64 (y / 18446744073709551616), .int .u64 (y % 18446744073709551616)] 123) (fun _ _ _ h hb => h.below hb)] [] (by kernel_rfl) (by kernel_rfl) (by kernel_rfl) (by kernel_rfl) ⟨⟨_, _, tr.drew⟩, hB.drew⟩ tx.drew ?_ ?_ ?_ ?_ ?_
      · rintro W W' ⟨tR, hBB⟩ hb
        exact ⟨by obtain ⟨v0, v1, h⟩ := tR; exact ⟨v0, v1, h.below hb⟩, hBB.trans (hb.mono hBB.size)⟩
      · intro W W' hB h0 hb; exact h0.below hb
      · intro k vs W hk h
        exact absurd hk (by simp)
      · intro Q; clear hK1 
        refine ⟨?_, ?_, ?_, ?_, ?_, ?_, ?_, ?_, ?_, trivial⟩
        · intro vs W hW hW0 hd hne hold K hK hA hL; clear hne hA hL; have tR := hW.1; have hBB := hW.2; simp only [puts, Act.put, List.setIfInBounds_toArray, List.set_cons_zero, List.set_cons_succ, Nat.zero_add, Nat.reduceAdd] at hK ⊢; have h0 := hW0 (by kernel_rfl); have q0 := h0.cell 0 _ rfl; have q1 := h0.cell 1 _ rfl; clear hd hold hW0 h0; go_simp; exact hK.out rfl _ _ (Below.refl _ _) rfl
        · intro vs W hW hW0 hd hne hold K hK hA hL; clear hne hA hL; have tR := hW.1; have hBB := hW.2; simp only [puts, Act.put, List.setIfInBounds_toArray, List.set_cons_zero, List.set_cons_succ, Nat.zero_add, Nat.reduceAdd] at hK ⊢; clear hd hold; go_simp; exact hK.out rfl _ _ (Below.refl _ _) rfl
        · intro vs W hW hW0 hd hne hold K hK hA hL; clear hne hA hL; have tR := hW.1; have hBB := hW.2; simp only [puts, Act.put, List.setIfInBounds_toArray, List.set_cons_zero, List.set_cons_succ, Nat.zero_add, Nat.reduceAdd] at hK ⊢; have e1 : vs 1 = _ := hd 1 (by kernel_rfl); clear hd hold; simp only [e1] at hK; go_simp; exact hK.out rfl _ _ (Below.refl _ _) rfl
        · intro vs W hW hW0 hd hne hold K hK hA hL; clear hne hA hL; have tR := hW.1; have hBB := hW.2; simp only [puts, Act.put, List.setIfInBounds_toArray, List.set_cons_zero, List.set_cons_succ, Nat.zero_add, Nat.reduceAdd] at hK ⊢; have eb : vs 0 = _ := hd 0 (by kernel_rfl); have ed : vs 2 = _ := hd 2 (by kernel_rfl); clear hd hold; simp only [eb, ed] at hK; go_simp; refine (DV W).mono ?_; (rintro e wx ⟨rfl, hbx⟩); go_simp; exact hK.out rfl _ _ hbx rfl
        · intro vs W hW hW0 hd hne hold K hK hA hL; clear hne hA hL; have tR := hW.1; have hBB := hW.2; simp only [puts, Act.put, List.setIfInBounds_toArray, List.set_cons_zero, List.set_cons_succ, Nat.zero_add, Nat.reduceAdd] at hK ⊢; have e3 : vs 3 = _ := hd 3 (by kernel_rfl); clear hd hold; simp only [e3] at hK; go_simp; exact hK.out rfl _ _ (Below.refl _ _) rfl
        · intro vs W hW hW0 hd hne hold K hK hA hL; clear hne hA hL; have tR := hW.1; have hBB := hW.2; simp only [puts, Act.put, List.setIfInBounds_toArray, List.set_cons_zero, List.set_cons_succ, Nat.zero_add, Nat.reduceAdd] at hK ⊢; have e4 : vs 4 = _ := hd 4 (by kernel_rfl); clear hd hold; simp only [e4] at hK; go_simp; exact hK.out rfl _ _ (Below.refl _ _) rfl
        · intro vs W hW hW0 hd hne hold K hK hA hL; clear hne hA hL; have tR := hW.1; have hBB := hW.2; simp only [puts, Act.put, List.setIfInBounds_toArray, List.set_cons_zero, List.set_cons_succ, Nat.zero_add, Nat.reduceAdd] at hK ⊢; have e4 : vs 4 = _ := hd 4 (by kernel_rfl); clear hd hold; simp only [e4] at hK; go_simp; exact hK.out rfl _ _ (Below.refl _ _) rfl
        · intro vs W hW hW0 hd hne hold K hK hA hL; clear hne hA hL; have tR := hW.1; have hBB := hW.2; simp only [puts, Act.put, List.setIfInBounds_toArray, List.set_cons_zero, List.set_cons_succ, Nat.zero_add, Nat.reduceAdd] at hK ⊢; have e4 : vs 4 = _ := hd 4 (by kernel_rfl); clear hd hold; simp only [e4] at hK; go_simp; exact hK.out rfl _ _ (Below.refl _ _) rfl
        · intro vs W hW hW0 hd hne hold K hK hA hL; clear hK hA; have tR := hW.1; have hBB := hW.2; simp only [puts, Act.put, List.setIfInBounds_toArray, List.set_cons_zero, List.set_cons_succ, Nat.zero_add, Nat.reduceAdd] at hL ⊢; have h0 := hW0 (by kernel_rfl); have ev : vs 5 = _ := hd 5 (by kernel_rfl); have p0 := h0.free 0; have p1 := h0.free 1; have z0 := h0.cell 0 _ rfl; have z1 := h0.cell 1 _ rfl; have q3 := (h0.set 0 (.int .i64 (y / 18446744073709551616))).set 1 (.int .u64 (y % 18446744073709551616)); have tR2 := tR; clear hd hold hW0; simp only [ev] at hL ⊢; go_simp; refine hL.out rfl undef _ ⟨by obtain ⟨v0, v1, h⟩ := tR2; exact ⟨v0, v1, (h.other (by omega) _ _).other (by omega) _ _⟩, (by repeat' (first | (with_reducible exact Below.refl _ _) | (with_reducible assumption) | (with_reducible refine below_alloc ?_ _ ?_) | (with_reducible refine below_set _ ?_ ?_) | (with_reducible refine Below.drew ?_) | (with_reducible refine below_dN ?_ _) | (apply below_thenA; assumption) | omega | (simp; done) | (simp; omega) | (simp [*]; done)))⟩ (fun h => absurd h (by decide)) q3 ?_; exact claims_keep ⟨.inr is_keep, .inr is_keep, .inr is_keep, .inr is_keep, .inr is_keep, .inr is_keep, .inr is_keep, .inr is_keep, .inl rfl, trivial⟩
      · intro vb WC hW1 hV1 _
        have t8 : Blk WC w.heap.size #[.int .i64 (y / 18446744073709551616), .int .u64 (y % 18446744073709551616)] 123 := hV1 8 (by decide)
        have T8 := Lib.hid t8
        have HW := Lib.hid hW1
        clear hV1 t8 hW1
        simp only [puts, Act.put, List.setIfInBounds_toArray, List.set_cons_zero, List.set_cons_succ, Nat.zero_add, Nat.reduceAdd]
        refine hK1 _ _ ?_
        clear hK1
        go_wp2_with fail
        go_roundg (t - n)
        case measure => omega
        case rel => exact ⟨y, by omega, by go_num, HX2.out.symm, T8.out, HW.out.1, HW.out.2⟩
end Go.Proofs.Ytgmnboacehopfaa
