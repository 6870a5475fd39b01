/-
  Package real: halved.
-/
/-
  Package real: grid, a number's nearest place.
-/
/-
  Package real: Grid.
-/
/-
  The functions of package fixed, each by its contract. First part: pixels, lengths, giving up.
-/
/-
  The functions of package fixed, each by its contract. Second part: Part, Px, Sub, Add, Try.
-/
/-
  The statements of layer 4 that name no reference. First part: what each begins with; FixedOrder.
-/
/-
  Plain facts on whole numbers that are kept as lists of pieces of 16 bits.
-/
/-
  The reference's whole numbers, each function by its contract. First part: how they lie in memory; trim.
-/
/-
  The reference's whole numbers, each function by its contract. Second part: sizes, Minus, OfU.
-/
import Derived.Test.YtmkblfejoniccaaDoorZ1
import Derived.Test.YtmkblfejoniccaaDoorZ2
import Derived.Recover
import Derived.WalkSmall
import Derived.Deep.LoopGhost
import Derived.Shelf.Abstract
import Derived.Deep.DeepCutAuto
import Derived.Deep.CutBlock
import Derived.Deep.CutRange
namespace Go.Proofs.YtmkblfejoniccaaDoor
open Go.RowKit
set_option linter.unusedSimpArgs false
set_option linter.unusedVariables false

theorem wfit_ediv {x D : Int} (h : WFit x) (hD : 0 < D) : WFit (x / D) := by
  unfold WFit at h ⊢
  by_cases h0 : 0 ≤ x
  · have h1 := Int.ediv_nonneg h0 (show 0 ≤ D by omega)
    have h2 := Int.ediv_le_self D h0
    omega
  · have h1 : x ≤ x / D := (Int.le_ediv_iff_mul_le hD).2 (by
      have := Int.mul_nonpos_of_nonpos_of_nonneg (show x ≤ 0 by omega) (show 0 ≤ D - 1 by omega)
      rw [Int.mul_sub, Int.mul_one] at this
      omega)
    have h2 : x / D < 0 := Int.ediv_neg_of_neg_of_pos (by omega) hD
    omega
set_option maxRecDepth 100000 in
set_option maxHeartbeats 3200000 in
theorem real_halved (X : Int) (T : Nat) (hT : T ≤ 100) (hX : WFit X) (w : World) : Calls Tryd.prog 98 #[.agg #[.int .i64 (X / 18446744073709551616), .int .u64 (X % 18446744073709551616)], .int .i64 ((T : Int))] w fun e w' => e = .returned (.agg #[.int .i64 ((X / ((2 ^ T : Nat) : Int)) / 18446744073709551616), .int .u64 ((X / ((2 ^ T : Nat) : Int)) % 18446744073709551616)]) ∧ Below w.heap.size w w' := by
  go_enter Tryd.func98, Tryd.ntmps98
  go_wp2_with fail
  go_loopg [1] T (fun gk s1 wr => ∃ (x : Int), gk ≤ T ∧ s1 = .int .i64 ((gk : Int)) ∧ x = X / ((2 ^ (T - gk) : Nat) : Int) ∧ Blk wr w.heap.size #[.int .i64 (x / 18446744073709551616), .int .u64 (x % 18446744073709551616)] 156 ∧ (∃ v0 v1, Blk wr (w.heap.size + 1) #[v0, v1] 156) ∧ Below w.heap.size w wr)
  case atStart => exact ⟨X, Nat.le_refl _, rfl, by simp, (Blk.new w _ _ _ rfl).alloc _, ⟨_, _, Blk.new _ _ _ _ (by simp)⟩, (by repeat' (first | (with_reducible exact Below.refl _ _) | (with_reducible assumption) | (with_reducible refine below_alloc ?_ _ ?_) | (with_reducible refine below_set _ ?_ ?_) | (with_reducible refine Below.drew ?_) | (with_reducible refine below_dN ?_ _) | (apply below_thenA; assumption) | omega | (simp; done) | (simp; omega) | (simp [*]; done)))⟩
  case round =>
    obtain ⟨x, ht, rfl, hx, tx, ⟨v0, v1, tr⟩, hB⟩ := hrel
    obtain ⟨t, rfl⟩ : ∃ t, t = gk := ⟨_, rfl⟩
    by_cases h0 : t = 0
    · subst h0
      have c0 := tx.cell 0 _ rfl
      have c1 := tx.cell 1 _ rfl
      have r0 := tr.cell 0 _ rfl
      have r1 := tr.cell 1 _ rfl
      have p0 := tr.free 0
      have p1 := tr.free 1
      go_wp2_with fail
      (go_light; simp [bodyPost, results, Tryd.results98, go_sem, *])
      try exact (by repeat' (first | (with_reducible exact Below.refl _ _) | (with_reducible assumption) | (with_reducible refine below_alloc ?_ _ ?_) | (with_reducible refine below_set _ ?_ ?_) | (with_reducible refine Below.drew ?_) | (with_reducible refine below_dN ?_ _) | (apply below_thenA; assumption) | omega | (simp; done) | (simp; omega) | (simp [*]; done)))
    · have ix : (0 : Int) < (t : Int) := by omega
      have ix0 : 0 < t := by omega
      obtain ⟨n, en⟩ : ∃ n, min t 62 = n := ⟨_, rfl⟩
      have hmin : min (t : Int) 62 = (n : Int) := by omega
      have hn1 : n ≤ 62 := by omega
      have hn2 : n ≤ t := by omega
      obtain ⟨P, eP⟩ : ∃ P : Int, ((2 ^ n : Nat) : Int) = P := ⟨_, rfl⟩
      have hP : 0 < P ∧ P ≤ 4611686018427387904 := by
        have h1 : 2 ^ n ≤ 2 ^ 62 := Nat.pow_le_pow_right (by omega) hn1
        have h2 := Nat.pow_pos (n := n) (show 0 < 2 by omega)
        have h3 : (2 : Nat) ^ 62 = 4611686018427387904 := by decide
        omega
      have hx2 : X / ((2 ^ (T - (t - n)) : Nat) : Int) = x / P := by
        rw [show T - (t - n) = (T - t) + n by omega, Nat.pow_add, Int.natCast_mul, ← Int.ediv_ediv_of_nonneg (Int.natCast_nonneg _), ← hx, eP]
      have hfx : WFit x := by
        have h1 := Nat.pow_pos (n := T - t) (show 0 < 2 by omega)
        rw [hx]
        exact wfit_ediv hX (Int.natCast_pos.2 h1)
      have hfq : fq x P = x / P := by unfold fq; rw [if_neg (by omega)]
      have hWq : WFit (x / P) := wfit_ediv hfx hP.1
      have DV := fun W => wide_div_some x P _ _ (Wd.of hfx) (by omega) (by omega) (by omega) (by rw [hfq]; exact hWq) W
      rw [hfq] at DV
      obtain ⟨y, ey⟩ : ∃ y, x / P = y := ⟨_, rfl⟩
      obtain ⟨r, er⟩ : ∃ y, fr x P = y := ⟨_, rfl⟩
      rw [ey, er] at DV
      rw [ey] at hx2
      have hsh : IntKind.i64.wrap (2 ^ n) = P := by
        rw [IntWalk.i64_left, show (2 : Int) ^ n = P by rw [← eP]; simp]
        exact IntWalk.wrap64_in _ (by omega)
      have HX2 := Lib.hid hx2
      clear hx hx2 hfq hWq hfx ey er eP en
      go_upto_region 3 with (fail)
      rename_i K1 hK1
      refine wp_region_calm (fun w' => (∃ v0 v1, Blk w' (w.heap.size + 1) #[v0, v1] 156) ∧ Below w.heap.size w w') [8] (fun w' => Blk w' w.heap.size #[.int .i64 (x / 18446744073709551616), .int .u64 (x % 18446744073709551616)] 156) [Is (.agg #[.int .i64 (x / 18446744073709551616), .int .u64 (x % 18446744073709551616)]), Is (.int .i64 ((n : Int))), Is (.int .i64 P), Is (.tuple #[.agg #[.int .i64 (y / 18446744073709551616), .int .u64 (y % 18446744073709551616)], .int .i64 r, .bool true]), Is (.tuple #[.agg #[.int .i64 (y / 18446744073709551616), .int .u64 (y % 18446744073709551616)], .int .i64 r, .bool true]), Is (.agg #[.int .i64 (y / 18446744073709551616), .int .u64 (y % 18446744073709551616)]), Is (.int .i64 r), Is (.bool true), .own (fun _ w' => Blk w' w.heap.size #[.int .i64 (y / 18446744073709551616), .int .u64 (y % 18446744073709551616)] 156) (fun _ _ _ h hb => h.below hb)] [] (by kernel_rfl) (by kernel_rfl) (by kernel_rfl) (by kernel_rfl) ⟨⟨_, _, tr.drew⟩, hB.drew⟩ tx.drew ?_ ?_ ?_ ?_ ?_
      · rintro W W' ⟨tR, hBB⟩ hb
        exact ⟨by obtain ⟨v0, v1, h⟩ := tR; exact ⟨v0, v1, h.below hb⟩, hBB.trans (hb.mono hBB.size)⟩
      · intro W W' hB h0 hb; exact h0.below hb
      · intro k vs W hk h
        exact absurd hk (by simp)
      · intro Q; clear hK1 
        refine ⟨?_, ?_, ?_, ?_, ?_, ?_, ?_, ?_, ?_, trivial⟩
        · intro vs W hW hW0 hd hne hold K hK hA hL; clear hne hA hL; have tR := hW.1; have hBB := hW.2; simp only [puts, Act.put, List.setIfInBounds_toArray, List.set_cons_zero, List.set_cons_succ, Nat.zero_add, Nat.reduceAdd] at hK ⊢; have h0 := hW0 (by kernel_rfl); have q0 := h0.cell 0 _ rfl; have q1 := h0.cell 1 _ rfl; clear hd hold hW0 h0; go_simp; exact hK.out rfl _ _ (Below.refl _ _) rfl
        · intro vs W hW hW0 hd hne hold K hK hA hL; clear hne hA hL; have tR := hW.1; have hBB := hW.2; simp only [puts, Act.put, List.setIfInBounds_toArray, List.set_cons_zero, List.set_cons_succ, Nat.zero_add, Nat.reduceAdd] at hK ⊢; clear hd hold; go_simp; exact hK.out rfl _ _ (Below.refl _ _) rfl
        · intro vs W hW hW0 hd hne hold K hK hA hL; clear hne hA hL; have tR := hW.1; have hBB := hW.2; simp only [puts, Act.put, List.setIfInBounds_toArray, List.set_cons_zero, List.set_cons_succ, Nat.zero_add, Nat.reduceAdd] at hK ⊢; have e1 : vs 1 = _ := hd 1 (by kernel_rfl); clear hd hold; simp only [e1] at hK; go_simp; exact hK.out rfl _ _ (Below.refl _ _) rfl
        · intro vs W hW hW0 hd hne hold K hK hA hL; clear hne hA hL; have tR := hW.1; have hBB := hW.2; simp only [puts, Act.put, List.setIfInBounds_toArray, List.set_cons_zero, List.set_cons_succ, Nat.zero_add, Nat.reduceAdd] at hK ⊢; have eb : vs 0 = _ := hd 0 (by kernel_rfl); have ed : vs 2 = _ := hd 2 (by kernel_rfl); clear hd hold; simp only [eb, ed] at hK; go_simp; refine (DV W).mono ?_; (rintro e wx ⟨rfl, hbx⟩); go_simp; exact hK.out rfl _ _ hbx rfl
        · intro vs W hW hW0 hd hne hold K hK hA hL; clear hne hA hL; have tR := hW.1; have hBB := hW.2; simp only [puts, Act.put, List.setIfInBounds_toArray, List.set_cons_zero, List.set_cons_succ, Nat.zero_add, Nat.reduceAdd] at hK ⊢; have e3 : vs 3 = _ := hd 3 (by kernel_rfl); clear hd hold; simp only [e3] at hK; go_simp; exact hK.out rfl _ _ (Below.refl _ _) rfl
        · intro vs W hW hW0 hd hne hold K hK hA hL; clear hne hA hL; have tR := hW.1; have hBB := hW.2; simp only [puts, Act.put, List.setIfInBounds_toArray, List.set_cons_zero, List.set_cons_succ, Nat.zero_add, Nat.reduceAdd] at hK ⊢; have e4 : vs 4 = _ := hd 4 (by kernel_rfl); clear hd hold; simp only [e4] at hK; go_simp; exact hK.out rfl _ _ (Below.refl _ _) rfl
        · intro vs W hW hW0 hd hne hold K hK hA hL; clear hne hA hL; have tR := hW.1; have hBB := hW.2; simp only [puts, Act.put, List.setIfInBounds_toArray, List.set_cons_zero, List.set_cons_succ, Nat.zero_add, Nat.reduceAdd] at hK ⊢; have e4 : vs 4 = _ := hd 4 (by kernel_rfl); clear hd hold; simp only [e4] at hK; go_simp; exact hK.out rfl _ _ (Below.refl _ _) rfl
        · intro vs W hW hW0 hd hne hold K hK hA hL; clear hne hA hL; have tR := hW.1; have hBB := hW.2; simp only [puts, Act.put, List.setIfInBounds_toArray, List.set_cons_zero, List.set_cons_succ, Nat.zero_add, Nat.reduceAdd] at hK ⊢; have e4 : vs 4 = _ := hd 4 (by kernel_rfl); clear hd hold; simp only [e4] at hK; go_simp; exact hK.out rfl _ _ (Below.refl _ _) rfl
        · intro vs W hW hW0 hd hne hold K hK hA hL; clear hK hA; have tR := hW.1; have hBB := hW.2; simp only [puts, Act.put, List.setIfInBounds_toArray, List.set_cons_zero, List.set_cons_succ, Nat.zero_add, Nat.reduceAdd] at hL ⊢; have h0 := hW0 (by kernel_rfl); have ev : vs 5 = _ := hd 5 (by kernel_rfl); have p0 := h0.free 0; have p1 := h0.free 1; have z0 := h0.cell 0 _ rfl; have z1 := h0.cell 1 _ rfl; have q3 := (h0.set 0 (.int .i64 (y / 18446744073709551616))).set 1 (.int .u64 (y % 18446744073709551616)); have tR2 := tR; clear hd hold hW0; simp only [ev] at hL ⊢; go_simp; refine hL.out rfl undef _ ⟨by obtain ⟨v0, v1, h⟩ := tR2; exact ⟨v0, v1, (h.other (by omega) _ _).other (by omega) _ _⟩, (by repeat' (first | (with_reducible exact Below.refl _ _) | (with_reducible assumption) | (with_reducible refine below_alloc ?_ _ ?_) | (with_reducible refine below_set _ ?_ ?_) | (with_reducible refine Below.drew ?_) | (with_reducible refine below_dN ?_ _) | (apply below_thenA; assumption) | omega | (simp; done) | (simp; omega) | (simp [*]; done)))⟩ (fun h => absurd h (by decide)) q3 ?_; exact claims_keep ⟨.inr is_keep, .inr is_keep, .inr is_keep, .inr is_keep, .inr is_keep, .inr is_keep, .inr is_keep, .inr is_keep, .inl rfl, trivial⟩
      · intro vb WC hW1 hV1 _
        have t8 : Blk WC w.heap.size #[.int .i64 (y / 18446744073709551616), .int .u64 (y % 18446744073709551616)] 156 := hV1 8 (by decide)
        have T8 := Lib.hid t8
        have HW := Lib.hid hW1
        clear hV1 t8 hW1
        simp only [puts, Act.put, List.setIfInBounds_toArray, List.set_cons_zero, List.set_cons_succ, Nat.zero_add, Nat.reduceAdd]
        refine hK1 _ _ ?_
        clear hK1
        go_wp2_with fail
        go_roundg (t - n)
        case measure => omega
        case rel => exact ⟨y, by omega, by go_num, HX2.out.symm, T8.out, HW.out.1, HW.out.2⟩
end Go.Proofs.YtmkblfejoniccaaDoor
namespace Go.Proofs.YtmkblfejoniccaaDoor
open Go.RowKit
set_option linter.unusedSimpArgs false
set_option linter.unusedVariables false

def sideI (d : Bool) : Int := if d then -1 else 1
def GridA (b : Nat) (den : Int) (w : World) (e : Ending) (w' : World) : Prop :=
  (IFit (gN b den) → e = .returned (.tuple #[.int .i64 (gN b den), .int .i64 0])) ∧ (¬ IFit (gN b den) → e = .returned (.tuple #[.int .i64 0, .int .i64 (sideI (fSg b))])) ∧ Below w.heap.size w w'
theorem gN_dir {b : Nat} {den : Int} (h1 : 1 ≤ den) : if fSg b then gN b den ≤ 0 else 0 ≤ gN b den := by
  by_cases h : 0 ≤ fPo b
  · exact gN_sign h h1
  · obtain ⟨k, hk⟩ : ∃ k : Nat, fPo b = -((k : Int) + 1) := ⟨(-fPo b - 1).toNat, by omega⟩
    rw [gN_down hk]
    have hp : (0 : Int) < ((2 ^ k : Nat) : Int) := Int.natCast_pos.2 (Nat.pow_pos (by omega))
    obtain ⟨p, ep⟩ : ∃ p : Int, ((2 ^ k : Nat) : Int) = p := ⟨_, rfl⟩
    rw [ep] at hp ⊢
    unfold fNu
    split
    · have hm : (0 : Int) ≤ (fWh b : Int) * den := Int.mul_nonneg (by omega) (by omega)
      rw [Int.neg_mul]
      have h2 : -((fWh b : Int) * den) / p ≤ 0 := by
        have := Int.ediv_lt_of_lt_mul (a := -((fWh b : Int) * den)) (b := 1) (c := p) hp (by omega)
        omega
      omega
    · have hm : (0 : Int) ≤ (fWh b : Int) * den := Int.mul_nonneg (by omega) (by omega)
      have h2 := Int.ediv_nonneg hm (show 0 ≤ p by omega)
      omega
theorem gN_out {b : Nat} {den : Int} (h1 : 1 ≤ den) (h : ¬ IFit (gN b den)) : if fSg b then gN b den < -9223372036854775808 else 9223372036854775807 < gN b den := by
  have hd := gN_dir (b := b) h1
  unfold IFit at h
  cases hs : fSg b
  · rw [hs] at hd
    simp only [Bool.false_eq_true, if_false] at hd ⊢
    omega
  · rw [hs] at hd
    simp only [if_true] at hd ⊢
    omega
set_option maxRecDepth 100000 in
set_option maxHeartbeats 3200000 in
theorem real_grid (b : Nat) (hb : b < 18446744073709551616) (den : Int) (h1 : 1 ≤ den) (h2 : den ≤ 1048576) (w : World) : Calls Tryd.prog 66 #[.float .f64 b, .int .i64 den] w (GridA b den w) := by
  have WH := real_whole b hb
  have SB := math_signbit b hb
  have hw := fWh_lt b
  have hnu := fNu_bnd b
  have hex : -1074 ≤ fPo b ∧ fPo b ≤ 972 := by
    have := fEx_lt b
    unfold fPo; split <;> omega
  have S1 := real_signed (fWh b : Int) (fSg b) (by omega) (by omega)
  have S2 := real_signed 1 (fSg b) (by omega) (by omega)
  rw [show (if fSg b = true then -(fWh b : Int) else (fWh b : Int)) = fNu b from rfl] at S1
  rw [show (if fSg b = true then (-1 : Int) else 1) = sideI (fSg b) from rfl] at S2
  have hup := fun h => gN_up (b := b) h den
  have hdn := fun k h => gN_down (b := b) (k := k) h den
  have hsm := fun h => gN_small (b := b) h h1 h2
  have hfar := fun h => gN_far (b := b) h h1
  have hfup : fUp b = 2 ^ (fPo b).toNat := rfl
  obtain ⟨G, eG⟩ : ∃ G, gN b den = G := ⟨_, rfl⟩
  unfold GridA
  rw [eG] at hup hsm hfar ⊢
  simp only [eG] at hdn
  obtain ⟨m, em⟩ : ∃ x, fWh b = x := ⟨_, rfl⟩
  obtain ⟨s, es⟩ : ∃ x, fSg b = x := ⟨_, rfl⟩
  obtain ⟨nu, enu⟩ : ∃ x, fNu b = x := ⟨_, rfl⟩
  obtain ⟨ex, eex⟩ : ∃ x, fPo b = x := ⟨_, rfl⟩
  obtain ⟨sd, esd⟩ : ∃ x, sideI (fSg b) = x := ⟨_, rfl⟩
  rw [em, eex] at WH
  rw [es] at SB
  rw [em, es, enu] at S1
  rw [esd] at S2
  rw [es] at S2 esd
  rw [em] at hw
  rw [enu] at hnu hup
  rw [eex] at hup hsm hfar hfup hex
  simp only [eex, enu] at hdn
  rw [es] at hfar ⊢
  rw [esd]
  obtain ⟨Q, eQ⟩ : ∃ Q : Ending → World → Prop, Q = fun e w' => (IFit G → e = .returned (.tuple #[.int .i64 G, .int .i64 0])) ∧ (¬ IFit G → e = .returned (.tuple #[.int .i64 0, .int .i64 sd])) ∧ Below w.heap.size w w' := ⟨_, rfl⟩
  rw [← eQ]
  have EQ := Lib.hid eQ
  clear eQ em es enu eex eG
  have hm1 : (0 : Int) ≤ (m : Int) := by omega
  have hm2 : (m : Int) < 9007199254740992 := by omega
  by_cases c1 : 11 < ex
  · have hf := hfar c1
    have HN := Lib.hid (show ¬ IFit G from fun q => by unfold IFit at q; split at hf <;> omega)
    clear hup hdn hsm hfar hf hfup
    go_enter Tryd.func66, Tryd.ntmps66
    go_wp2_with (first
      | (go_at_call 45; with_reducible refine (WH _).mono ?_; rintro e w1 ⟨rfl, rfl⟩)
      | (go_at_call 47; with_reducible refine (SB _).mono ?_; rintro e w1 ⟨rfl, rfl⟩)
      | (go_at_call 48; with_reducible refine (S1 _).mono ?_; rintro e w1 ⟨rfl, rfl⟩)
      | (go_at_call 48; with_reducible refine (S2 _).mono ?_; rintro e w1 ⟨rfl, rfl⟩))
    rw [EQ.out]
    exact ⟨fun q => absurd q HN.out, fun _ => rfl, Below.refl _ _⟩
  · have d1 : decide (11 < ex) = false := by simp; omega
    replace c1 : ex ≤ 11 := by omega
    by_cases c2 : 0 ≤ ex
    · obtain ⟨k, rfl⟩ : ∃ k : Nat, ex = (k : Int) := ⟨ex.toNat, by omega⟩
      have hk : k ≤ 11 := by omega
      have hG := hup (by omega)
      rw [hfup, Int.toNat_natCast] at hG
      obtain ⟨P, eP⟩ : ∃ P : Int, ((2 ^ k : Nat) : Int) = P := ⟨_, rfl⟩
      have hP : 1 ≤ P ∧ P ≤ 2048 := by
        have h1 : 2 ^ k ≤ 2 ^ 11 := Nat.pow_le_pow_right (by omega) hk
        have h2 := Nat.pow_pos (n := k) (show 0 < 2 by omega)
        have h3 : (2 : Nat) ^ 11 = 2048 := by decide
        omega
      rw [eP] at hG
      have hD := Int.mul_le_mul h2 hP.2 (by omega) (by omega)
      have hD0 := Int.mul_le_mul h1 hP.1 (by omega) (by omega)
      have hsh : IntKind.i64.wrap (den * 2 ^ k) = den * P := by
        rw [IntWalk.i64_left, show (2 : Int) ^ k = P by rw [← eP]; simp]
        exact IntWalk.wrap64_in _ (by omega)
      have hG2 : G = nu * (den * P) := by rw [hG, Int.mul_assoc, Int.mul_comm P den]
      obtain ⟨D, eD⟩ : ∃ D, den * P = D := ⟨_, rfl⟩
      rw [eD] at hsh hD hD0 hG2
      have WM := wide_mul nu D (by omega) (by omega) (by omega) (by omega)
      rw [← hG2] at WM
      have hGf : WFit G := by rw [hG2]; exact mul_fit (by unfold IFit; omega) (by unfold IFit; omega)
      have d2 : decide (0 ≤ (k : Int)) = true := by simp
      clear c1 c2
      clear hup hdn hsm hfar hfup hG hG2 eD eP
      by_cases hf : IFit G
      · have WI := wide_int_fit G _ _ (Wd.of hGf) hf
        have HF := Lib.hid hf
        go_enter Tryd.func66, Tryd.ntmps66
        go_wp2_with (first
          | (go_at_call 45; with_reducible refine (WH _).mono ?_; rintro e w1 ⟨rfl, rfl⟩)
          | (go_at_call 47; with_reducible refine (SB _).mono ?_; rintro e w1 ⟨rfl, rfl⟩)
          | (go_at_call 48; with_reducible refine (S1 _).mono ?_; rintro e w1 ⟨rfl, rfl⟩)
          | (go_at_call 48; with_reducible refine (S2 _).mono ?_; rintro e w1 ⟨rfl, rfl⟩)
          | (go_at_call 96; with_reducible refine (WM _).mono ?_; rintro e w2 ⟨rfl, hb2⟩; have hs2 := hb2.size)
          | (go_at_call 97; with_reducible refine (WI _).mono ?_; rintro e w3 ⟨rfl, hb3⟩; have hs3 := hb3.size))
        rw [EQ.out]
        exact ⟨fun _ => rfl, fun q => absurd HF.out q, (by repeat' (first | (with_reducible exact Below.refl _ _) | (with_reducible assumption) | (with_reducible refine below_alloc ?_ _ ?_) | (with_reducible refine below_set _ ?_ ?_) | (with_reducible refine Below.drew ?_) | (with_reducible refine below_dN ?_ _) | (apply below_thenA; assumption) | omega | (simp; done) | (simp; omega) | (simp [*]; done)))⟩
      · have WI := wide_int_no G _ _ (Wd.of hGf) hf
        have HF := Lib.hid hf
        go_enter Tryd.func66, Tryd.ntmps66
        go_wp2_with (first
          | (go_at_call 45; with_reducible refine (WH _).mono ?_; rintro e w1 ⟨rfl, rfl⟩)
          | (go_at_call 47; with_reducible refine (SB _).mono ?_; rintro e w1 ⟨rfl, rfl⟩)
          | (go_at_call 48; with_reducible refine (S1 _).mono ?_; rintro e w1 ⟨rfl, rfl⟩)
          | (go_at_call 48; with_reducible refine (S2 _).mono ?_; rintro e w1 ⟨rfl, rfl⟩)
          | (go_at_call 96; with_reducible refine (WM _).mono ?_; rintro e w2 ⟨rfl, hb2⟩; have hs2 := hb2.size)
          | (go_at_call 97; with_reducible refine (WI _).mono ?_; rintro e w3 ⟨rfl, hb3⟩; have hs3 := hb3.size))
        rw [EQ.out]
        exact ⟨fun q => absurd q HF.out, fun _ => rfl, (by repeat' (first | (with_reducible exact Below.refl _ _) | (with_reducible assumption) | (with_reducible refine below_alloc ?_ _ ?_) | (with_reducible refine below_set _ ?_ ?_) | (with_reducible refine Below.drew ?_) | (with_reducible refine below_dN ?_ _) | (apply below_thenA; assumption) | omega | (simp; done) | (simp; omega) | (simp [*]; done)))⟩
    · have d2 : decide (0 ≤ ex) = false := by simp; omega
      replace c2 : ex < 0 := by omega
      by_cases c3 : ex < -74
      · have hG := hsm c3
        subst hG
        have c4 : 74 < -ex := by omega
        have d3 : decide (74 < -ex) = true := by simp; omega
        clear hup hdn hsm hfar hfup
        go_enter Tryd.func66, Tryd.ntmps66
        go_wp2_with (first
          | (go_at_call 45; with_reducible refine (WH _).mono ?_; rintro e w1 ⟨rfl, rfl⟩)
          | (go_at_call 47; with_reducible refine (SB _).mono ?_; rintro e w1 ⟨rfl, rfl⟩)
          | (go_at_call 48; with_reducible refine (S1 _).mono ?_; rintro e w1 ⟨rfl, rfl⟩)
          | (go_at_call 48; with_reducible refine (S2 _).mono ?_; rintro e w1 ⟨rfl, rfl⟩))
        rw [EQ.out]
        exact ⟨fun _ => rfl, fun q => absurd (show IFit 0 by unfold IFit; omega) q, Below.refl _ _⟩
      · obtain ⟨k, hk⟩ : ∃ k : Nat, ex = -((k : Int) + 1) := ⟨(-ex - 1).toNat, by omega⟩
        have hk1 : k ≤ 73 := by omega
        have hG := hdn k hk
        have hk2 : -ex - 1 = (k : Int) := by omega
        have d3 : decide (74 < -ex) = false := by simp; omega
        have he1 : -75 < ex := by omega
        have he2 : ex < 0 := by omega
        clear hk
        have hX : WFit (nu * den) := mul_fit (by unfold IFit; omega) (by unfold IFit; omega)
        have WM := wide_mul nu den (by omega) (by omega) (by omega) (by omega)
        obtain ⟨X, eX⟩ : ∃ X, nu * den = X := ⟨_, rfl⟩
        rw [eX] at hX WM hG
        clear hup hdn hsm hfar hfup
        have HV1 := real_halved X k (by omega) hX
        obtain ⟨Y, eY⟩ : ∃ Y, X / ((2 ^ k : Nat) : Int) = Y := ⟨_, rfl⟩
        have hP : (0 : Int) < ((2 ^ k : Nat) : Int) := Int.natCast_pos.2 (Nat.pow_pos (by omega))
        have hY : WFit Y := by rw [← eY]; exact wfit_ediv hX hP
        have hXb : -9444732965739290427392 ≤ X ∧ X ≤ 9444732965739290427392 := by
          rw [← eX]
          have a := Int.mul_le_mul (show den ≤ 1048576 from h2) (show (9007199254740991 : Int) ≤ 9007199254740991 by omega) (by omega) (by omega)
          by_cases h0 : 0 ≤ nu
          · have b1 := Int.mul_nonneg h0 (show 0 ≤ den by omega)
            have b2 := Int.mul_le_mul hnu.2 h2 (by omega) (by omega)
            omega
          · have b1 := Int.mul_nonpos_of_nonpos_of_nonneg (show nu ≤ 0 by omega) (show 0 ≤ den by omega)
            have b2 := Int.mul_le_mul (show -nu ≤ 9007199254740991 by omega) h2 (by omega) (by omega)
            rw [Int.neg_mul] at b2
            omega
        have hYb : -9444732965739290427392 ≤ Y ∧ Y ≤ 9444732965739290427392 := by
          rw [← eY]
          by_cases h0 : 0 ≤ X
          · have b1 := Int.ediv_nonneg h0 (show (0 : Int) ≤ ((2 ^ k : Nat) : Int) by omega)
            have b2 := Int.ediv_le_self ((2 ^ k : Nat) : Int) h0
            omega
          · have b1 : X ≤ X / ((2 ^ k : Nat) : Int) := (Int.le_ediv_iff_mul_le hP).2 (by
              have := Int.mul_nonpos_of_nonpos_of_nonneg (show X ≤ 0 by omega) (show 0 ≤ ((2 ^ k : Nat) : Int) - 1 by omega)
              rw [Int.mul_sub, Int.mul_one] at this
              omega)
            have b2 : X / ((2 ^ k : Nat) : Int) < 0 := Int.ediv_neg_of_neg_of_pos (by omega) hP
            omega
        rw [eY] at HV1 hG
        have W1 := wide_of 1 (by omega) (by omega)
        have AD := wide_add_fit Y 1 _ _ 0 1 (Wd.of hY) (by unfold Wd; omega) (by unfold WFit; omega)
        have HV2 : ∀ w, Calls Tryd.prog 98 #[.agg #[.int .i64 ((Y + 1) / 18446744073709551616), .int .u64 ((Y + 1) % 18446744073709551616)], .int .i64 1] w fun e w' => e = .returned (.agg #[.int .i64 (((Y + 1) / ((2 ^ 1 : Nat) : Int)) / 18446744073709551616), .int .u64 (((Y + 1) / ((2 ^ 1 : Nat) : Int)) % 18446744073709551616)]) ∧ Below w.heap.size w w' := real_halved (Y + 1) 1 (by omega) (by unfold WFit; omega)
        rw [show (Y + 1) / ((2 ^ 1 : Nat) : Int) = G from hG.symm] at HV2
        have hGf : WFit G := by rw [hG]; unfold WFit; omega
        obtain ⟨Z, eZ⟩ : ∃ Z, Y + 1 = Z := ⟨_, rfl⟩
        rw [eZ] at AD HV2
        clear hX hXb hYb hY eY eX eZ hG hP c1 c2 c3
        by_cases hf : IFit G
        · have WI := wide_int_fit G _ _ (Wd.of hGf) hf
          have HF := Lib.hid hf
          clear hf
          go_enter Tryd.func66, Tryd.ntmps66
          go_wp2_with (first
            | (go_at_call 45; with_reducible refine (WH _).mono ?_; rintro e w1 ⟨rfl, rfl⟩)
            | (go_at_call 47; with_reducible refine (SB _).mono ?_; rintro e w1 ⟨rfl, rfl⟩)
            | (go_at_call 48; with_reducible refine (S1 _).mono ?_; rintro e w1 ⟨rfl, rfl⟩)
            | (go_at_call 48; with_reducible refine (S2 _).mono ?_; rintro e w1 ⟨rfl, rfl⟩)
            | (go_at_call 96; with_reducible refine (WM _).mono ?_; rintro e w2 ⟨rfl, hb2⟩; have hs2 := hb2.size)
            | (go_at_call 98; with_reducible refine (HV1 _).mono ?_; rintro e w3 ⟨rfl, hb3⟩; have hs3 := hb3.size)
            | (go_at_call 100; with_reducible refine (W1 _).mono ?_; rintro e w4 ⟨rfl, hb4⟩; have hs4 := hb4.size)
            | (go_at_call 99; with_reducible refine (AD _).mono ?_; rintro e w5 ⟨rfl, hb5⟩; have hs5 := hb5.size)
            | (go_at_call 98; with_reducible refine (HV2 _).mono ?_; rintro e w6 ⟨rfl, hb6⟩; have hs6 := hb6.size; simp at hs6)
            | (go_at_call 97; with_reducible refine (WI _).mono ?_; rintro e w7 ⟨rfl, hb7⟩; have hs7 := hb7.size))
          rw [EQ.out]
          exact ⟨fun _ => rfl, fun q => absurd HF.out q, (by repeat' (first | (with_reducible exact Below.refl _ _) | (with_reducible assumption) | (with_reducible refine below_alloc ?_ _ ?_) | (with_reducible refine below_set _ ?_ ?_) | (with_reducible refine Below.drew ?_) | (with_reducible refine below_dN ?_ _) | (apply below_thenA; assumption) | omega | (simp; done) | (simp; omega) | (simp [*]; done)))⟩
        · have WI := wide_int_no G _ _ (Wd.of hGf) hf
          have HF := Lib.hid hf
          clear hf
          go_enter Tryd.func66, Tryd.ntmps66
          go_wp2_with (first
            | (go_at_call 45; with_reducible refine (WH _).mono ?_; rintro e w1 ⟨rfl, rfl⟩)
            | (go_at_call 47; with_reducible refine (SB _).mono ?_; rintro e w1 ⟨rfl, rfl⟩)
            | (go_at_call 48; with_reducible refine (S1 _).mono ?_; rintro e w1 ⟨rfl, rfl⟩)
            | (go_at_call 48; with_reducible refine (S2 _).mono ?_; rintro e w1 ⟨rfl, rfl⟩)
            | (go_at_call 96; with_reducible refine (WM _).mono ?_; rintro e w2 ⟨rfl, hb2⟩; have hs2 := hb2.size)
            | (go_at_call 98; with_reducible refine (HV1 _).mono ?_; rintro e w3 ⟨rfl, hb3⟩; have hs3 := hb3.size)
            | (go_at_call 100; with_reducible refine (W1 _).mono ?_; rintro e w4 ⟨rfl, hb4⟩; have hs4 := hb4.size)
            | (go_at_call 99; with_reducible refine (AD _).mono ?_; rintro e w5 ⟨rfl, hb5⟩; have hs5 := hb5.size)
            | (go_at_call 98; with_reducible refine (HV2 _).mono ?_; rintro e w6 ⟨rfl, hb6⟩; have hs6 := hb6.size; simp at hs6)
            | (go_at_call 97; with_reducible refine (WI _).mono ?_; rintro e w7 ⟨rfl, hb7⟩; have hs7 := hb7.size))
          rw [EQ.out]
          exact ⟨fun q => absurd q HF.out, fun _ => rfl, (by repeat' (first | (with_reducible exact Below.refl _ _) | (with_reducible assumption) | (with_reducible refine below_alloc ?_ _ ?_) | (with_reducible refine below_set _ ?_ ?_) | (with_reducible refine Below.drew ?_) | (with_reducible refine below_dN ?_ _) | (apply below_thenA; assumption) | omega | (simp; done) | (simp; omega) | (simp [*]; done)))⟩
end Go.Proofs.YtmkblfejoniccaaDoor
namespace Go.Proofs.YtmkblfejoniccaaDoor
open Go.RowKit
set_option linter.unusedSimpArgs false
set_option linter.unusedVariables false

theorem clampI_is {n low high : Int} (h : low ≤ high) : min (max n low) high = clampI n low high := by
  unfold clampI
  split
  · omega
  · split <;> omega
theorem gridR_arg {b : Nat} {den low high : Int} (h : den < 1 ∨ 1048576 < den ∨ high < low) : gridR b den low high = (0, 1) := by unfold gridR; rw [if_pos h]
theorem gridR_nan {b : Nat} {den low high : Int} (h : ¬ (den < 1 ∨ 1048576 < den ∨ high < low)) (hk : fKi b = 1) : gridR b den low high = (0, 4) := by unfold gridR; rw [if_neg h, if_pos hk]
theorem gridR_inf {b : Nat} {den low high : Int} (h : ¬ (den < 1 ∨ 1048576 < den ∨ high < low)) (hk : fKi b = 2) : gridR b den low high = (if fSg b then low else high, 0) := by unfold gridR; rw [if_neg h, if_neg (by omega), if_pos hk]
theorem gridR_num {b : Nat} {den low high : Int} (h : ¬ (den < 1 ∨ 1048576 < den ∨ high < low)) (hk : fKi b ≠ 1) (hk2 : fKi b ≠ 2) : gridR b den low high = (clampI (gN b den) low high, 0) := by unfold gridR; rw [if_neg h, if_neg hk, if_neg hk2]
set_option maxRecDepth 100000 in
set_option maxHeartbeats 3200000 in
theorem real_Grid (b : Nat) (hb : b < 18446744073709551616) (den low high : Int) (hd : IFit den) (hl : IFit low) (hh : IFit high) (w : World) : Calls Tryd.prog 26 #[.float .f64 b, .int .i64 den, .int .i64 low, .int .i64 high] w fun e w' => e = .returned (.tuple #[.int .i64 ((gridR b den low high).1), .int .i64 ((gridR b den low high).2)]) ∧ Below w.heap.size w w' := by
  obtain ⟨Q, eQ⟩ : ∃ Q : Ending → World → Prop, Q = fun e w' => e = .returned (.tuple #[.int .i64 ((gridR b den low high).1), .int .i64 ((gridR b den low high).2)]) ∧ Below w.heap.size w w' := ⟨_, rfl⟩
  rw [← eQ]
  have EQ := Lib.hid eQ
  have HD := Lib.hid hd
  have HLo := Lib.hid hl
  have HHi := Lib.hid hh
  clear eQ hd hl hh
  by_cases a1 : den < 1
  · have hR := Lib.hid (gridR_arg (b := b) (low := low) (high := high) (.inl a1))
    go_enter Tryd.func26, Tryd.ntmps26
    go_wp2_with fail
    rw [EQ.out, hR.out]
    exact ⟨rfl, Below.refl _ _⟩
  by_cases a2 : 1048576 < den
  · have hR := Lib.hid (gridR_arg (b := b) (low := low) (high := high) (.inr (.inl a2)))
    go_enter Tryd.func26, Tryd.ntmps26
    go_wp2_with fail
    rw [EQ.out, hR.out]
    exact ⟨rfl, Below.refl _ _⟩
  by_cases a3 : high < low
  · have hR := Lib.hid (gridR_arg (b := b) (den := den) (.inr (.inr a3)))
    go_enter Tryd.func26, Tryd.ntmps26
    go_wp2_with fail
    rw [EQ.out, hR.out]
    exact ⟨rfl, Below.refl _ _⟩
  have hn : ¬ (den < 1 ∨ 1048576 < den ∨ high < low) := by omega
  have HN := Lib.hid hn
  have KI := real_kind b hb
  have S2 := real_signed 1 (fSg b) (by omega) (by omega)
  have GR := real_grid b hb den (by omega) (by omega)
  have hdn : fDn b = if fKi b = 1 then false else fSg b := rfl
  have hk := fKi_all b
  have hlh : low ≤ high := by omega
  clear hn
  rcases hk with ⟨_, _, hk⟩ | ⟨_, _, hk⟩ | ⟨_, _, hk⟩ | hk45
  · rw [if_pos hk] at hdn
    have K1 : ∀ w, Calls Tryd.prog 39 #[.float .f64 b] w fun e w' => e = .returned (.tuple #[.int .i64 1, .bool false]) ∧ w' = w := fun w => by
      have q := KI w
      rw [hk, hdn] at q
      exact q
    have hR := Lib.hid (gridR_nan HN.out hk)
    clear KI GR S2 hk hdn
    go_enter Tryd.func26, Tryd.ntmps26
    go_wp2_with (go_at_call 39; with_reducible refine (K1 _).mono ?_; rintro e w1 ⟨rfl, rfl⟩)
    rw [EQ.out, hR.out]
    exact ⟨rfl, Below.refl _ _⟩
  · rw [if_neg (by omega)] at hdn
    have hR := gridR_inf HN.out hk
    cases hs : fSg b
    · rw [hs] at hdn S2 hR
      simp only [Bool.false_eq_true, if_false] at S2 hR
      have K1 : ∀ w, Calls Tryd.prog 39 #[.float .f64 b] w fun e w' => e = .returned (.tuple #[.int .i64 2, .bool false]) ∧ w' = w := fun w => by
        have q := KI w
        rw [hk, hdn] at q
        exact q
      have HR := Lib.hid hR
      clear KI GR hk hdn hR hs
      go_enter Tryd.func26, Tryd.ntmps26
      go_wp2_with (first | (go_at_call 39; with_reducible refine (K1 _).mono ?_; rintro e w1 ⟨rfl, rfl⟩) | (go_at_call 48; with_reducible refine (S2 _).mono ?_; rintro e w1 ⟨rfl, rfl⟩))
      rw [EQ.out, HR.out]
      exact ⟨rfl, Below.refl _ _⟩
    · rw [hs] at hdn S2 hR
      simp only [if_true] at S2 hR
      have K1 : ∀ w, Calls Tryd.prog 39 #[.float .f64 b] w fun e w' => e = .returned (.tuple #[.int .i64 2, .bool true]) ∧ w' = w := fun w => by
        have q := KI w
        rw [hk, hdn] at q
        exact q
      have HR := Lib.hid hR
      clear KI GR hk hdn hR hs
      go_enter Tryd.func26, Tryd.ntmps26
      go_wp2_with (first | (go_at_call 39; with_reducible refine (K1 _).mono ?_; rintro e w1 ⟨rfl, rfl⟩) | (go_at_call 48; with_reducible refine (S2 _).mono ?_; rintro e w1 ⟨rfl, rfl⟩))
      rw [EQ.out, HR.out]
      exact ⟨rfl, Below.refl _ _⟩
  · rw [if_neg (by omega)] at hdn
    have hR := gridR_num (b := b) HN.out (by omega) (by omega)
    rw [gN_zero hk] at hR
    have hcl := clampI_is (n := 0) hlh
    obtain ⟨s, es⟩ : ∃ s, fSg b = s := ⟨_, rfl⟩
    rw [es] at hdn
    have K1 : ∀ w, Calls Tryd.prog 39 #[.float .f64 b] w fun e w' => e = .returned (.tuple #[.int .i64 3, .bool s]) ∧ w' = w := fun w => by
      have q := KI w
      rw [hk, hdn] at q
      exact q
    have HR := Lib.hid hR
    clear KI GR hk hdn hR es S2
    go_enter Tryd.func26, Tryd.ntmps26
    go_wp2_with (go_at_call 39; with_reducible refine (K1 _).mono ?_; rintro e w1 ⟨rfl, rfl⟩)
    rw [EQ.out, HR.out]
    exact ⟨rfl, Below.refl _ _⟩
  · have hR := gridR_num (b := b) HN.out (by omega) (by omega)
    have hcl := clampI_is (n := gN b den) hlh
    have ho := gN_out (b := b) (den := den) (by omega)
    unfold GridA at GR
    obtain ⟨G, eG⟩ : ∃ G, gN b den = G := ⟨_, rfl⟩
    rw [eG] at hR hcl ho
    simp only [eG] at GR
    by_cases hf : IFit G
    · have G1 : ∀ w, Calls Tryd.prog 66 #[.float .f64 b, .int .i64 den] w fun e w' => e = .returned (.tuple #[.int .i64 G, .int .i64 0]) ∧ Below w.heap.size w w' := fun w => (GR w).mono fun e w' h => ⟨h.1 hf, h.2.2⟩
      have HR := Lib.hid hR
      rcases hk45 with ⟨_, _, hk⟩ | ⟨_, _, hk⟩
      all_goals
        rw [if_neg (by omega)] at hdn
        obtain ⟨s, es⟩ : ∃ s, fSg b = s := ⟨_, rfl⟩
        rw [es] at hdn
      ·
        have K1 : ∀ w, Calls Tryd.prog 39 #[.float .f64 b] w fun e w' => e = .returned (.tuple #[.int .i64 4, .bool s]) ∧ w' = w := fun w => by
          have q := KI w
          rw [hk, hdn] at q
          exact q
        clear KI GR hk hdn hR es S2 ho eG hf
        go_enter Tryd.func26, Tryd.ntmps26
        go_wp2_with (first | (go_at_call 39; with_reducible refine (K1 _).mono ?_; rintro e w1 ⟨rfl, rfl⟩) | (go_at_call 66; with_reducible refine (G1 _).mono ?_; rintro e w2 ⟨rfl, hb2⟩))
        rw [EQ.out, HR.out]
        exact ⟨rfl, (by repeat' (first | (with_reducible exact Below.refl _ _) | (with_reducible assumption) | (with_reducible refine below_alloc ?_ _ ?_) | (with_reducible refine below_set _ ?_ ?_) | (with_reducible refine Below.drew ?_) | (with_reducible refine below_dN ?_ _) | (apply below_thenA; assumption) | omega | (simp; done) | (simp; omega) | (simp [*]; done)))⟩
      ·
        have K1 : ∀ w, Calls Tryd.prog 39 #[.float .f64 b] w fun e w' => e = .returned (.tuple #[.int .i64 5, .bool s]) ∧ w' = w := fun w => by
          have q := KI w
          rw [hk, hdn] at q
          exact q
        clear KI GR hk hdn hR es S2 ho eG hf
        go_enter Tryd.func26, Tryd.ntmps26
        go_wp2_with (first | (go_at_call 39; with_reducible refine (K1 _).mono ?_; rintro e w1 ⟨rfl, rfl⟩) | (go_at_call 66; with_reducible refine (G1 _).mono ?_; rintro e w2 ⟨rfl, hb2⟩))
        rw [EQ.out, HR.out]
        exact ⟨rfl, (by repeat' (first | (with_reducible exact Below.refl _ _) | (with_reducible assumption) | (with_reducible refine below_alloc ?_ _ ?_) | (with_reducible refine below_set _ ?_ ?_) | (with_reducible refine Below.drew ?_) | (with_reducible refine below_dN ?_ _) | (apply below_thenA; assumption) | omega | (simp; done) | (simp; omega) | (simp [*]; done)))⟩
    · have ho1 := ho hf
      cases hs : fSg b
      all_goals
        rw [hs] at ho1
        have G1 : ∀ w, Calls Tryd.prog 66 #[.float .f64 b, .int .i64 den] w fun e w' => e = .returned (.tuple #[.int .i64 0, .int .i64 (sideI (fSg b))]) ∧ Below w.heap.size w w' := fun w => (GR w).mono fun e w' h => ⟨h.2.1 hf, h.2.2⟩
        rw [hs] at G1
        simp only [sideI, Bool.false_eq_true, if_false, if_true] at G1 ho1
      · have hR2 : gridR b den low high = (high, 0) := by
          rw [hR]
          have := HLo.out
          have := HHi.out
          unfold IFit at *
          unfold clampI
          rw [if_neg (by omega), if_pos (by omega)]
        have HR := Lib.hid hR2
        rcases hk45 with ⟨_, _, hk⟩ | ⟨_, _, hk⟩
        all_goals
          rw [if_neg (by omega), hs] at hdn
        ·
          have K1 : ∀ w, Calls Tryd.prog 39 #[.float .f64 b] w fun e w' => e = .returned (.tuple #[.int .i64 4, .bool false]) ∧ w' = w := fun w => by
            have q := KI w
            rw [hk, hdn] at q
            exact q
          clear KI GR hk hdn hR hR2 hs S2 ho eG hf hcl ho1
          go_enter Tryd.func26, Tryd.ntmps26
          go_wp2_with (first | (go_at_call 39; with_reducible refine (K1 _).mono ?_; rintro e w1 ⟨rfl, rfl⟩) | (go_at_call 66; with_reducible refine (G1 _).mono ?_; rintro e w2 ⟨rfl, hb2⟩))
          rw [EQ.out, HR.out]
          exact ⟨rfl, (by repeat' (first | (with_reducible exact Below.refl _ _) | (with_reducible assumption) | (with_reducible refine below_alloc ?_ _ ?_) | (with_reducible refine below_set _ ?_ ?_) | (with_reducible refine Below.drew ?_) | (with_reducible refine below_dN ?_ _) | (apply below_thenA; assumption) | omega | (simp; done) | (simp; omega) | (simp [*]; done)))⟩
        ·
          have K1 : ∀ w, Calls Tryd.prog 39 #[.float .f64 b] w fun e w' => e = .returned (.tuple #[.int .i64 5, .bool false]) ∧ w' = w := fun w => by
            have q := KI w
            rw [hk, hdn] at q
            exact q
          clear KI GR hk hdn hR hR2 hs S2 ho eG hf hcl ho1
          go_enter Tryd.func26, Tryd.ntmps26
          go_wp2_with (first | (go_at_call 39; with_reducible refine (K1 _).mono ?_; rintro e w1 ⟨rfl, rfl⟩) | (go_at_call 66; with_reducible refine (G1 _).mono ?_; rintro e w2 ⟨rfl, hb2⟩))
          rw [EQ.out, HR.out]
          exact ⟨rfl, (by repeat' (first | (with_reducible exact Below.refl _ _) | (with_reducible assumption) | (with_reducible refine below_alloc ?_ _ ?_) | (with_reducible refine below_set _ ?_ ?_) | (with_reducible refine Below.drew ?_) | (with_reducible refine below_dN ?_ _) | (apply below_thenA; assumption) | omega | (simp; done) | (simp; omega) | (simp [*]; done)))⟩
      · have hR2 : gridR b den low high = (low, 0) := by
          rw [hR]
          have := HLo.out
          unfold IFit at *
          unfold clampI
          rw [if_pos (by omega)]
        have HR := Lib.hid hR2
        rcases hk45 with ⟨_, _, hk⟩ | ⟨_, _, hk⟩
        all_goals
          rw [if_neg (by omega), hs] at hdn
        ·
          have K1 : ∀ w, Calls Tryd.prog 39 #[.float .f64 b] w fun e w' => e = .returned (.tuple #[.int .i64 4, .bool true]) ∧ w' = w := fun w => by
            have q := KI w
            rw [hk, hdn] at q
            exact q
          clear KI GR hk hdn hR hR2 hs S2 ho eG hf hcl ho1
          go_enter Tryd.func26, Tryd.ntmps26
          go_wp2_with (first | (go_at_call 39; with_reducible refine (K1 _).mono ?_; rintro e w1 ⟨rfl, rfl⟩) | (go_at_call 66; with_reducible refine (G1 _).mono ?_; rintro e w2 ⟨rfl, hb2⟩))
          rw [EQ.out, HR.out]
          exact ⟨rfl, (by repeat' (first | (with_reducible exact Below.refl _ _) | (with_reducible assumption) | (with_reducible refine below_alloc ?_ _ ?_) | (with_reducible refine below_set _ ?_ ?_) | (with_reducible refine Below.drew ?_) | (with_reducible refine below_dN ?_ _) | (apply below_thenA; assumption) | omega | (simp; done) | (simp; omega) | (simp [*]; done)))⟩
        ·
          have K1 : ∀ w, Calls Tryd.prog 39 #[.float .f64 b] w fun e w' => e = .returned (.tuple #[.int .i64 5, .bool true]) ∧ w' = w := fun w => by
            have q := KI w
            rw [hk, hdn] at q
            exact q
          clear KI GR hk hdn hR hR2 hs S2 ho eG hf hcl ho1
          go_enter Tryd.func26, Tryd.ntmps26
          go_wp2_with (first | (go_at_call 39; with_reducible refine (K1 _).mono ?_; rintro e w1 ⟨rfl, rfl⟩) | (go_at_call 66; with_reducible refine (G1 _).mono ?_; rintro e w2 ⟨rfl, hb2⟩))
          rw [EQ.out, HR.out]
          exact ⟨rfl, (by repeat' (first | (with_reducible exact Below.refl _ _) | (with_reducible assumption) | (with_reducible refine below_alloc ?_ _ ?_) | (with_reducible refine below_set _ ?_ ?_) | (with_reducible refine Below.drew ?_) | (with_reducible refine below_dN ?_ _) | (apply below_thenA; assumption) | omega | (simp; done) | (simp; omega) | (simp [*]; done)))⟩
end Go.Proofs.YtmkblfejoniccaaDoor
namespace Go.Proofs.YtmkblfejoniccaaDoor
open Go.RowKit
set_option linter.unusedSimpArgs false
set_option linter.unusedVariables false

theorem td64 (a : Int) : (a.tmod 64 < 0 → a.tdiv 64 - 1 = a / 64) ∧ (¬ a.tmod 64 < 0 → a.tdiv 64 = a / 64) ∧ (0 < a.tmod 64 → a.tdiv 64 + 1 = -((-a) / 64)) ∧ (¬ 0 < a.tmod 64 → a.tdiv 64 = -((-a) / 64)) := by
  rcases Int.lt_or_le a 0 with h | h
  · obtain ⟨b, rfl⟩ : ∃ b, a = -b := ⟨-a, by omega⟩
    have e1 : (-b).tdiv 64 = -(b / 64) := by rw [Int.neg_tdiv, Int.tdiv_eq_ediv_of_nonneg (by omega)]
    have e2 : (-b).tmod 64 = -(b % 64) := by rw [Int.neg_tmod, Int.tmod_eq_emod_of_nonneg (by omega)]
    rw [e1, e2]; omega
  · have e1 : a.tdiv 64 = a / 64 := Int.tdiv_eq_ediv_of_nonneg h
    have e2 : a.tmod 64 = a % 64 := Int.tmod_eq_emod_of_nonneg h
    rw [e1, e2]; omega
def LenB (n : Int) : Prop := -17592186044416 ≤ n ∧ n ≤ 17592186044416
/-- What a giving up with this error is. -/
def gave (c : Int) : List PanicEntry := [{ v := .iface 147 (.int .i64 c), recovered := false }]

set_option maxRecDepth 100000 in
set_option maxHeartbeats 1600000 in
theorem fix_floor (a : Int) (ha : IFit a) (w : World) :
    Calls Tryd.prog 84 #[.int .i64 a] w fun e w' => e = .returned (.int .i64 (a / 64)) ∧ w' = w := by
  obtain ⟨h1, h2⟩ := ha
  have T := Lib.hid (td64 a)
  obtain ⟨q, eq⟩ : ∃ q, a.tdiv 64 = q := ⟨_, rfl⟩
  obtain ⟨r, er⟩ : ∃ r, a.tmod 64 = r := ⟨_, rfl⟩
  by_cases h : r < 0
  · have E : Hid (q - 1 = a / 64) := Lib.hid (by rw [← eq]; exact T.out.1 (by rw [er]; exact h))
    have h3 : -9223372036854775807 ≤ q ∧ q ≤ 9223372036854775807 := by have := E.out; omega
    obtain ⟨h3, h4⟩ := h3
    go_enter Tryd.func84, Tryd.ntmps84
    go_wp2
    go_ret
    exact ⟨by rw [E.out]; rfl, rfl⟩
  · have E : Hid (q = a / 64) := Lib.hid (by rw [← eq]; exact T.out.2.1 (by rw [er]; exact h))
    have h3 : -9223372036854775807 ≤ q ∧ q ≤ 9223372036854775807 := by have := E.out; omega
    obtain ⟨h3, h4⟩ := h3
    go_enter Tryd.func84, Tryd.ntmps84
    go_wp2
    go_ret
    exact ⟨by rw [E.out]; rfl, rfl⟩
theorem fix_fail0 (w : World) : Calls Tryd.prog 105 #[.int .i64 0] w fun e w' => e = .returned (.tuple #[]) ∧ w' = w := by
  go_enter Tryd.func105, Tryd.ntmps105
  go_wp2_with fail
  go_end0
  exact ⟨rfl, rfl⟩
theorem fix_fail (c : Int) (hc : c ≠ 0) (w : World) : Calls Tryd.prog 105 #[.int .i64 c] w fun e w' => e = .panicked (gave c) ∧ w' = w := by
  have h : (c != 0) = true := by simp [hc]
  go_enter Tryd.func105, Tryd.ntmps105
  go_wp2_with fail
  simp [bodyPost, gave]
theorem fix_fail2 (w : World) : Calls Tryd.prog 105 #[.int .i64 2] w fun e w' => e = .panicked (gave 2) ∧ w' = w := fix_fail 2 (by decide) w
theorem fix_fail3 (w : World) : Calls Tryd.prog 105 #[.int .i64 3] w fun e w' => e = .panicked (gave 3) ∧ w' = w := fix_fail 3 (by decide) w
set_option maxRecDepth 100000 in
set_option maxHeartbeats 1600000 in
theorem fix_of (n : Int) (hn : IFit n) (h : LenB n) (w : World) : Calls Tryd.prog 106 #[.int .i64 n] w fun e w' => e = .returned (.int .i64 n) ∧ w' = w := by
  obtain ⟨h1, h2⟩ := h
  have d1 : decide (n < -17592186044416) = false := by simp; omega
  have d2 : decide (17592186044416 < n) = false := by simp; omega
  go_enter Tryd.func106, Tryd.ntmps106
  go_wp2_with fail
  go_ret
  exact ⟨rfl, rfl⟩
set_option maxRecDepth 100000 in
set_option maxHeartbeats 1600000 in
theorem fix_of_no (n : Int) (hn : IFit n) (h : ¬ LenB n) (w : World) : Calls Tryd.prog 106 #[.int .i64 n] w fun e w' => e = .panicked (gave 2) ∧ w' = w := by
  by_cases hlo : n < -17592186044416
  · have d1 : decide (n < -17592186044416) = true := by simp [hlo]
    go_enter Tryd.func106, Tryd.ntmps106
    go_wp2_with (go_at_call 105; with_reducible refine (fix_fail2 _).mono ?_; rintro e w1 ⟨rfl, rfl⟩)
    simp [bodyPost]
  · have d1 : decide (n < -17592186044416) = false := by simp; omega
    have hhi : 17592186044416 < n := by unfold LenB at h; omega
    have d2 : decide (17592186044416 < n) = true := by simp [hhi]
    go_enter Tryd.func106, Tryd.ntmps106
    go_wp2_with (go_at_call 105; with_reducible refine (fix_fail2 _).mono ?_; rintro e w1 ⟨rfl, rfl⟩)
    simp [bodyPost]
def clip (n : Int) : Int := min (max n (-52776558133248)) 52776558133248
theorem clip_lo (n : Int) : -52776558133248 ≤ clip n := by unfold clip; omega
theorem clip_hi (n : Int) : clip n ≤ 52776558133248 := by unfold clip; omega
end Go.Proofs.YtmkblfejoniccaaDoor
namespace Go.Proofs.YtmkblfejoniccaaDoor
open Go.RowKit
set_option linter.unusedSimpArgs false
set_option linter.unusedVariables false

theorem assert_gave (c : Int) (w : World) : (Instr.typeAssert (Value.iface 147 (.int .i64 c)) 20 147 true).run Tryd.prog w = .ok (.tuple #[.int .i64 c, .bool true]) w := by kernel_rfl
theorem LenB.fit {n : Int} (h : LenB n) : IFit n := by unfold LenB at h; unfold IFit; omega
set_option maxRecDepth 100000 in
set_option maxHeartbeats 1600000 in
/-- The deferred function of Try, where nothing has given up. -/
theorem fix_try1_idle (p : Addr) (w : World) :
    CallsD Tryd.prog 81 #[.pointer (some p)] .returning w fun e u' w' => e = .returned (.tuple #[]) ∧ u' = .returning ∧ w' = w := by
  refine callsD_of_wpS Tryd.func81 rfl fun c₀ cs hu => ?_
  have e0 : (#[Value.pointer (some p)] ++ Array.replicate (Tryd.f81.ntmps - #[Value.pointer (some p)].size) undef : Array Value) = #[.pointer (some p), undef, undef, undef, undef, undef, undef, undef, undef, undef, undef] := by rw [Tryd.ntmps81]; rfl
  rw [e0]
  apply wpS_seq
  apply wpS_region
  simp [wpOpsS, go_sem, recoverD, hu, Tryd.ntmps81, Exit.thenS]
  refine wpS_of_wp ?_
  go_wp2
  cases c₀
  simp_all [bodyPostS, results, Tryd.results81]
set_option maxRecDepth 100000 in
set_option maxHeartbeats 1600000 in
/-- The deferred function of Try, where something has given up. -/
theorem fix_try1_caught (p : Addr) (c : Int) (older : List PanicEntry) (w : World) (x : Value) (hc : w.cell? p = some x) (hz : w.frozen? p = false) :
    CallsD Tryd.prog 81 #[.pointer (some p)] (.panicking ({ v := .iface 147 (.int .i64 c), recovered := false } :: older)) w fun e u' w' =>
      e = .returned (.tuple #[]) ∧ u' = .panicking ({ v := .iface 147 (.int .i64 c), recovered := true } :: older) ∧ w' = w.setCell p (.int .i64 c) := by
  refine callsD_of_wpS Tryd.func81 rfl fun c₀ cs hu => ?_
  have e0 : (#[Value.pointer (some p)] ++ Array.replicate (Tryd.f81.ntmps - #[Value.pointer (some p)].size) undef : Array Value) = #[.pointer (some p), undef, undef, undef, undef, undef, undef, undef, undef, undef, undef] := by rw [Tryd.ntmps81]; rfl
  rw [e0]
  apply wpS_seq
  apply wpS_region
  simp [wpOpsS, go_sem, recoverD, hu, Tryd.ntmps81, Exit.thenS]
  refine wpS_of_wp ?_
  have ha := assert_gave c
  go_wp2
  cases c₀
  simp_all [bodyPostS, results, Tryd.results81]
set_option maxRecDepth 100000 in
set_option maxHeartbeats 1600000 in
/-- Try: what the function gives up with, or 0. -/
theorem fix_try (F : Nat) (cap : Array Value) (w : World) (R : Int → World → Prop) (hen : ∀ w, (callFunc F cap).run Tryd.prog w = .ok (.enter F cap) w)
    (h : Calls Tryd.prog F cap (w.alloc (.cells #[.int .i64 0] 26)) fun e w1 => w1.cell? ⟨w.heap.size, 0, none⟩ = some (.int .i64 0) ∧ w1.frozen? ⟨w.heap.size, 0, none⟩ = false ∧
      ((e = .returned (.tuple #[]) ∧ R 0 w1) ∨ (∃ c, e = .panicked (gave c) ∧ R c w1))) :
    Calls Tryd.prog 34 #[.func (.func F) #[] cap] w fun e w' => ∃ c w1, R c w1 ∧ e = .returned (.int .i64 c) ∧ w' = w1.setCell ⟨w.heap.size, 0, none⟩ (.int .i64 c) := by
  have hmf : ∀ (fn : Fn) (first cap : Array Value) (w : World), (Instr.makeFunc fn first cap).run Tryd.prog w = .ok (.func fn first cap) w := fun _ _ _ _ => rfl
  have hnn : ∀ w : World, (binOp BinOp.eql 1 (Value.func (Fn.func F) #[] cap) Value.nilFunc).run Tryd.prog w = .ok (.bool false) w := fun _ => by kernel_rfl
  go_enter_defers Tryd.func34, Tryd.ntmps34
  go_wp2_with fail
  refine h.mono ?_
  rintro e w1 ⟨e1, e2, h1⟩
  have e3 : ∀ v, (w1.setCell ⟨w.heap.size, 0, none⟩ v).cell? ⟨w.heap.size, 0, none⟩ = some v := fun v => World.cell?_setCell_same _ _ v e1
  rcases h1 with ⟨rfl, hR⟩ | ⟨c, rfl, hR⟩
  · go_wp2_with fail
    refine leaves_cons (f := 81) (args := #[.pointer (some ⟨w.heap.size, 0, none⟩)]) (by simp) (by simp [go_sem]) ?_
    refine (fix_try1_idle ⟨w.heap.size, 0, none⟩ _).mono ?_
    rintro e u' w'' ⟨rfl, rfl, rfl⟩
    simp only [Leaves, settle, results, Tryd.results34]
    simp [go_sem, e3]
    exact ⟨0, w1, hR, rfl, rfl⟩
  · refine leaves_cons (f := 81) (args := #[.pointer (some ⟨w.heap.size, 0, none⟩)]) (by simp) (by simp [go_sem]) ?_
    refine (fix_try1_caught ⟨w.heap.size, 0, none⟩ c [] w1 _ e1 e2).mono ?_
    rintro e u' w'' ⟨rfl, rfl, rfl⟩
    simp only [Leaves, settle, results, Tryd.results34]
    simp [go_sem, e3]
    simp only [Leaves, results, Tryd.results34]
    simp [go_sem, e3]
    exact ⟨c, w1, hR, rfl, rfl⟩

set_option maxRecDepth 100000 in
set_option maxHeartbeats 1600000 in
theorem fix_part (a n d : Int) (ha : IFit a) (hn : IFit n) (hd : IFit d) (h0 : d ≠ 0) (hL : LenB (fq (a * n) d)) (w : World) :
    Calls Tryd.prog 107 #[.int .i64 a, .int .i64 n, .int .i64 d] w fun e w' => e = .returned (.int .i64 (fq (a * n) d)) ∧ Below w.heap.size w w' := by
  have MD := wide_muldiv_fit a n d ha hn hd ⟨h0, hL.fit⟩
  have hne : (d == 0) = false := by simp [h0]
  obtain ⟨F, eF⟩ : ∃ F, fq (a * n) d = F := ⟨_, rfl⟩
  rw [eF] at MD hL ⊢
  have hF := hL.fit
  clear eF h0
  go_enter Tryd.func107, Tryd.ntmps107
  go_wp2_with (first
    | (go_at_call 115; with_reducible refine (MD _).mono ?_; rintro e w1 ⟨rfl, hb1⟩)
    | (go_at_call 106; with_reducible refine (fix_of F hF hL _).mono ?_; rintro e w2 ⟨rfl, rfl⟩))
  go_ret
  exact ⟨rfl, hb1⟩
set_option maxRecDepth 100000 in
set_option maxHeartbeats 1600000 in
theorem fix_part_zero (a n : Int) (w : World) :
    Calls Tryd.prog 107 #[.int .i64 a, .int .i64 n, .int .i64 0] w fun e w' => e = .panicked (gave 3) ∧ w' = w := by
  go_enter Tryd.func107, Tryd.ntmps107
  go_wp2_with (go_at_call 105; with_reducible refine (fix_fail3 _).mono ?_; rintro e w2 ⟨rfl, rfl⟩)
  simp [bodyPost]
set_option maxRecDepth 100000 in
set_option maxHeartbeats 1600000 in
theorem fix_part_no (a n d : Int) (ha : IFit a) (hn : IFit n) (hd : IFit d) (h0 : d ≠ 0) (hL : ¬ LenB (fq (a * n) d)) (w : World) :
    Calls Tryd.prog 107 #[.int .i64 a, .int .i64 n, .int .i64 d] w fun e w' => e = .panicked (gave 2) ∧ Below w.heap.size w w' := by
  have hne : (d == 0) = false := by simp [h0]
  by_cases hF : IFit (fq (a * n) d)
  · have MD := wide_muldiv_fit a n d ha hn hd ⟨h0, hF⟩
    obtain ⟨F, eF⟩ : ∃ F, fq (a * n) d = F := ⟨_, rfl⟩
    rw [eF] at MD hL hF
    clear eF h0
    go_enter Tryd.func107, Tryd.ntmps107
    go_wp2_with (first
      | (go_at_call 115; with_reducible refine (MD _).mono ?_; rintro e w1 ⟨rfl, hb1⟩)
      | (go_at_call 106; with_reducible refine (fix_of_no F hF hL _).mono ?_; rintro e w2 ⟨rfl, rfl⟩))
    simp [bodyPost]; exact hb1
  · have MD := wide_muldiv_no a n d ha hn hd (fun x => hF x.2)
    clear h0
    go_enter Tryd.func107, Tryd.ntmps107
    go_wp2_with (first
      | (go_at_call 115; with_reducible refine (MD _).mono ?_; rintro e w1 ⟨rfl, hb1⟩)
      | (go_at_call 105; with_reducible refine (fix_fail2 _).mono ?_; rintro e w2 ⟨rfl, rfl⟩))
    simp [bodyPost]; exact hb1
theorem fq_one (a : Int) : fq a 1 = a := by unfold fq; rw [if_neg (by decide), Int.ediv_one]
set_option maxRecDepth 100000 in
set_option maxHeartbeats 1600000 in
theorem fix_px (a : Int) (ha : IFit a) (hL : LenB (a * 64)) (w : World) :
    Calls Tryd.prog 83 #[.int .i64 a] w fun e w' => e = .returned (.int .i64 (a * 64)) ∧ Below w.heap.size w w' := by
  have PT := fix_part a 64 1 ha (by unfold IFit; omega) (by unfold IFit; omega) (by decide) (by rw [fq_one]; exact hL)
  rw [fq_one] at PT
  obtain ⟨F, eF⟩ : ∃ F, a * 64 = F := ⟨_, rfl⟩
  rw [eF] at PT ⊢
  clear eF hL
  go_enter Tryd.func83, Tryd.ntmps83
  go_wp2_with (go_at_call 107; with_reducible refine (PT _).mono ?_; rintro e w1 ⟨rfl, hb1⟩)
  go_ret
  exact ⟨rfl, hb1⟩

/-- A slice's numbers. -/
def IntsAt (w : World) (g off k : Nat) (xs : List Int) : Prop := xs.length = k ∧ (∀ i, i < k → IFit (xs.getD i 0)) ∧ ∀ i, i < k → w.cell? ⟨g, off + i, none⟩ = some (.int .i64 (xs.getD i 0))
/-- The sum, each sum on the way a length. -/
def addS : Int → List Int → Option Int
  | s, [] => some s
  | s, x :: xs => if -17592186044416 ≤ s + clip x ∧ s + clip x ≤ 17592186044416 then addS (s + clip x) xs else none
def AddAns (r : Option Int) (w : World) (e : Ending) (w' : World) : Prop := (match r with | some t => e = .returned (.int .i64 t) | none => e = .panicked (gave 2)) ∧ w' = w
theorem addS_cons_yes {s x : Int} {xs : List Int} (h : LenB (s + clip x)) : addS s (x :: xs) = addS (s + clip x) xs := by rw [addS]; exact if_pos ⟨h.1, h.2⟩
theorem addS_cons_no {s x : Int} {xs : List Int} (h : ¬ LenB (s + clip x)) : addS s (x :: xs) = none := by rw [addS]; exact if_neg (fun x => h ⟨x.1, x.2⟩)
end Go.Proofs.YtmkblfejoniccaaDoor
namespace Go.Proofs.YtmkblfejoniccaaDoor
open Go.RowKit
set_option linter.unusedSimpArgs false
set_option linter.unusedVariables false

/-- A block of one cell. -/
def One (w : World) (b : Nat) (T : TypeId) (x : Value) : Prop := w.heap[b]? = some (Obj.cells #[x] T (0, 0))
theorem One.cell {w : World} {b : Nat} {T : TypeId} {x : Value} (h : One w b T x) : w.cell? ⟨b, 0, none⟩ = some x := by rw [cell_of_row w b 0 _ _ _ h]; rfl
theorem One.free {w : World} {b : Nat} {T : TypeId} {x : Value} (h : One w b T x) : w.frozen? ⟨b, 0, none⟩ = false := by simp [World.frozen?, show w.heap[b]? = _ from h]
theorem One.lt {w : World} {b : Nat} {T : TypeId} {x : Value} (h : One w b T x) : b < w.heap.size := (Array.getElem?_eq_some_iff.1 h).1
theorem One.new (w : World) (T : TypeId) (x : Value) (b : Nat) (hb : b = w.heap.size) : One (w.alloc (.cells #[x] T)) b T x := by subst hb; exact heap_alloc_new w _
theorem One.alloc {w : World} {b : Nat} {T : TypeId} {x : Value} (h : One w b T x) (o : Obj) : One (w.alloc o) b T x := (Below.heap_alloc w o _ h.lt).trans h
theorem One.below {w w' : World} {b : Nat} {T : TypeId} {x : Value} (h : One w b T x) (hb : Below w.heap.size w w') : One w' b T x := (hb.block b h.lt).trans h
theorem One.set {w : World} {b : Nat} {T : TypeId} {x : Value} (h : One w b T x) (u : Value) : One (w.setCell ⟨b, 0, none⟩ u) b T u := by
  unfold One at *
  simp only [World.setCell, Array.getElem?_modify, if_true, h]
  rfl
theorem One.other {w : World} {b c : Nat} {T : TypeId} {x : Value} (h : One w b T x) (hc : b ≠ c) (u : Value) : One (w.setCell ⟨c, 0, none⟩ u) b T x := by
  unfold One at *
  rw [Below.heap_setCell _ _ _ _ hc]; exact h
theorem intsAt_new (w : World) (xs : List Int) (k : Nat) (hk : xs.length = k) (hf : ∀ i, i < k → IFit (xs.getD i 0)) : IntsAt (w.alloc (.cells (xs.map fun x => Value.int .i64 x).toArray 2)) w.heap.size 0 k xs := by
  refine ⟨hk, hf, fun i hi => ?_⟩
  rw [cell_of_row _ w.heap.size (0 + i) _ _ _ (heap_alloc_new w _)]
  simp [List.getD, List.getElem?_eq_getElem (show i < xs.length by omega)]

theorem if0 : IFit 0 := by unfold IFit; omega
end Go.Proofs.YtmkblfejoniccaaDoor
namespace Go.Proofs.YtmkblfejoniccaaDoor.BM
/-- The value of a list of pieces, the lowest first. -/
def bval : List Nat → Nat
  | [] => 0
  | d :: ds => d + 65536 * bval ds
def Dig (ds : List Nat) : Prop := ∀ d ∈ ds, d < 65536
/-- No nought at the end. -/
def Trim (ds : List Nat) : Prop := ∀ h : ds ≠ [], ds.getLast h ≠ 0
/-- At most so many pieces. -/
def Sz (n : Int) (k : Nat) : Prop := n.natAbs < 65536 ^ k

theorem Dig.nil : Dig [] := fun _ h => by cases h
theorem Dig.cons {d : Nat} {ds : List Nat} (h : d < 65536) (hs : Dig ds) : Dig (d :: ds) := by
  intro x hx
  rcases List.mem_cons.1 hx with rfl | hx
  · exact h
  · exact hs x hx
theorem Dig.tail {d : Nat} {ds : List Nat} (h : Dig (d :: ds)) : Dig ds := fun x hx => h x (List.mem_cons_of_mem _ hx)
theorem Dig.head {d : Nat} {ds : List Nat} (h : Dig (d :: ds)) : d < 65536 := h d (List.mem_cons_self ..)
theorem Dig.append {a b : List Nat} (ha : Dig a) (hb : Dig b) : Dig (a ++ b) := by
  intro x hx
  rcases List.mem_append.1 hx with h | h
  · exact ha x h
  · exact hb x h
theorem Dig.snoc {a : List Nat} {d : Nat} (ha : Dig a) (hd : d < 65536) : Dig (a ++ [d]) :=
  ha.append (Dig.cons hd Dig.nil)
theorem Dig.take {a : List Nat} (ha : Dig a) (k : Nat) : Dig (a.take k) := fun x hx => ha x (List.mem_of_mem_take hx)
theorem Dig.drop {a : List Nat} (ha : Dig a) (k : Nat) : Dig (a.drop k) := fun x hx => ha x (List.mem_of_mem_drop hx)
theorem Dig.get {a : List Nat} (ha : Dig a) (k : Nat) (h : k < a.length) : a[k] < 65536 := ha _ (List.getElem_mem h)
theorem Dig.getD {a : List Nat} (ha : Dig a) (k : Nat) : a.getD k 0 < 65536 := by
  by_cases h : k < a.length
  · simpa [List.getD, h] using ha.get k h
  · simp [List.getD, List.getElem?_eq_none (Nat.le_of_not_lt h)]
theorem Dig.set {a : List Nat} (ha : Dig a) (k v : Nat) (hv : v < 65536) : Dig (a.set k v) := by
  intro x hx
  rcases List.mem_or_eq_of_mem_set hx with h | rfl
  · exact ha x h
  · exact hv
theorem Dig.replicate (n : Nat) : Dig (List.replicate n 0) := by
  intro x hx
  have := List.eq_of_mem_replicate hx
  omega

theorem bval_append (a b : List Nat) : bval (a ++ b) = bval a + 65536 ^ a.length * bval b := by
  induction a with
  | nil => simp [bval]
  | cons d ds ih =>
    simp only [List.cons_append, bval, ih, List.length_cons, Nat.pow_succ, Nat.mul_add]
    rw [Nat.mul_comm (65536 ^ ds.length) 65536, Nat.mul_assoc]
    omega
theorem bval_snoc (a : List Nat) (d : Nat) : bval (a ++ [d]) = bval a + 65536 ^ a.length * d := by
  rw [bval_append]; simp [bval]
theorem bval_take_succ (a : List Nat) (k : Nat) (h : k < a.length) : bval (a.take (k + 1)) = bval (a.take k) + 65536 ^ k * a[k] := by
  rw [List.take_succ_eq_append_getElem h, bval_snoc, List.length_take, Nat.min_eq_left (by omega)]
theorem bval_replicate (n : Nat) : bval (List.replicate n 0) = 0 := by
  induction n with
  | zero => rfl
  | succ n ih => simp [List.replicate_succ, bval, ih]
theorem bval_lt {a : List Nat} (h : Dig a) : bval a < 65536 ^ a.length := by
  induction a with
  | nil => simp [bval]
  | cons d ds ih =>
    have := ih h.tail
    have := h.head
    simp only [bval, List.length_cons, Nat.pow_succ]
    omega
theorem bval_take_lt {a : List Nat} (h : Dig a) (k : Nat) : bval (a.take k) < 65536 ^ k := by
  have h1 := bval_lt (h.take k)
  have h2 : (a.take k).length ≤ k := List.length_take_le ..
  exact Nat.lt_of_lt_of_le h1 (Nat.pow_le_pow_right (by decide) h2)
theorem bval_split (a : List Nat) (k : Nat) (h : k ≤ a.length) : bval a = bval (a.take k) + 65536 ^ k * bval (a.drop k) := by
  have := bval_append (a.take k) (a.drop k)
  rw [List.take_append_drop, List.length_take, Nat.min_eq_left h] at this
  exact this
theorem bval_drop (a : List Nat) (k : Nat) (h : k < a.length) : bval (a.drop k) = a[k] + 65536 * bval (a.drop (k + 1)) := by
  rw [List.drop_eq_getElem_cons h]; rfl
/-- A piece is replaced. -/
theorem bval_set (a : List Nat) (k v : Nat) (h : k < a.length) : bval (a.set k v) + 65536 ^ k * a[k] = bval a + 65536 ^ k * v := by
  induction a generalizing k with
  | nil => simp at h
  | cons d ds ih =>
    cases k with
    | zero => simp [bval]; omega
    | succ k =>
      have h' : k < ds.length := by simpa using h
      have := ih k h'
      simp only [List.set_cons_succ, bval, List.getElem_cons_succ, Nat.pow_succ]
      rw [Nat.mul_comm (65536 ^ k) 65536, Nat.mul_assoc, Nat.mul_assoc]
      omega

theorem Trim.nil : Trim [] := fun h => absurd rfl h
/-- A trimmed list that isn't empty is at least so great. -/
theorem Trim.ge {a : List Nat} (h : Trim a) (hne : a ≠ []) : 65536 ^ (a.length - 1) ≤ bval a := by
  have h1 := List.dropLast_concat_getLast hne
  have h2 := h hne
  rw [← h1, bval_snoc]
  simp only [List.length_append, List.length_dropLast, List.length_singleton]
  have h3 : 1 ≤ a.getLast hne := by omega
  have h4 : a.length - 1 + 1 - 1 = a.length - 1 := by omega
  rw [h4]
  calc 65536 ^ (a.length - 1) = 65536 ^ (a.length - 1) * 1 := by omega
    _ ≤ 65536 ^ (a.length - 1) * a.getLast hne := Nat.mul_le_mul_left _ h3
    _ ≤ _ := by omega
theorem Trim.eq_nil {a : List Nat} (h : Trim a) (h0 : bval a = 0) : a = [] := by
  by_cases hne : a = []
  · exact hne
  · have := h.ge hne
    have : 0 < 65536 ^ (a.length - 1) := Nat.pow_pos (by decide)
    omega
theorem Trim.len {a : List Nat} (h : Trim a) {k : Nat} (hk : bval a < 65536 ^ k) : a.length ≤ k := by
  by_cases hne : a = []
  · simp [hne]
  · have h1 := h.ge hne
    have h2 : 65536 ^ (a.length - 1) < 65536 ^ k := Nat.lt_of_le_of_lt h1 hk
    have := (Nat.pow_lt_pow_iff_right (a := 65536) (by decide)).1 h2
    omega
theorem len_lt_bval {a b : List Nat} (ha : Dig a) (hb : Trim b) (h : a.length < b.length) : bval a < bval b := by
  have h1 := bval_lt ha
  have hne : b ≠ [] := by intro e; simp [e] at h
  have h2 := hb.ge hne
  have h3 : 65536 ^ a.length ≤ 65536 ^ (b.length - 1) := Nat.pow_le_pow_right (by decide) (by omega)
  omega
/-- Of one length, and from a place on the same: the place decides. -/
theorem bval_cmp_at {a b : List Nat} (ha : Dig a) (k : Nat) (hka : k < a.length) (hkb : k < b.length)
    (hs : a.drop (k + 1) = b.drop (k + 1)) (hl : a[k] < b[k]) : bval a < bval b := by
  rw [bval_split a k (by omega), bval_split b k (by omega), bval_drop a k hka, bval_drop b k hkb, hs]
  have h1 := bval_take_lt ha k
  generalize bval (b.drop (k + 1)) = t
  generalize hp : 65536 ^ k = p at *
  have h2 : p * (a[k] + 65536 * t) + p ≤ p * (b[k] + 65536 * t) := by
    rw [← Nat.mul_succ]
    exact Nat.mul_le_mul_left _ (by omega)
  omega

theorem Sz.mono {n : Int} {j k : Nat} (h : Sz n j) (hk : j ≤ k) : Sz n k :=
  Nat.lt_of_lt_of_le h (Nat.pow_le_pow_right (by decide) hk)
theorem Sz.neg {n : Int} {k : Nat} (h : Sz n k) : Sz (-n) k := by simpa [Sz] using h
theorem Sz.abs {n : Int} {k : Nat} (h : Sz n k) : Sz (n.natAbs : Int) k := by simpa [Sz] using h
theorem Sz.add {a b : Int} {k : Nat} (ha : Sz a k) (hb : Sz b k) : Sz (a + b) (k + 1) := by
  unfold Sz at *
  have := Int.natAbs_add_le a b
  rw [Nat.pow_succ]
  omega
theorem Sz.sub {a b : Int} {k : Nat} (ha : Sz a k) (hb : Sz b k) : Sz (a - b) (k + 1) := by
  rw [Int.sub_eq_add_neg]; exact ha.add hb.neg
theorem Sz.mul {a b : Int} {j k : Nat} (ha : Sz a j) (hb : Sz b k) : Sz (a * b) (j + k) := by
  unfold Sz at *
  rw [Int.natAbs_mul, Nat.pow_add]
  exact Nat.mul_lt_mul'' ha hb
theorem Sz.of_lt {n : Int} {k : Nat} (h : n.natAbs < 65536 ^ k) : Sz n k := h
theorem Sz.le {a b : Int} {k : Nat} (h : Sz b k) (hab : a.natAbs ≤ b.natAbs) : Sz a k := Nat.lt_of_le_of_lt hab h
theorem Sz.i64 {n : Int} (h1 : -9223372036854775808 ≤ n) (h2 : n ≤ 9223372036854775807) : Sz n 4 := by
  unfold Sz; have : (65536 : Nat) ^ 4 = 18446744073709551616 := by decide
  omega
theorem Sz.u64 {n : Int} (h1 : 0 ≤ n) (h2 : n ≤ 18446744073709551615) : Sz n 4 := by
  unfold Sz; have : (65536 : Nat) ^ 4 = 18446744073709551616 := by decide
  omega
end Go.Proofs.YtmkblfejoniccaaDoor.BM
namespace Go.Proofs.YtmkblfejoniccaaDoor
open Go.RowKit
set_option linter.unusedSimpArgs false
set_option linter.unusedVariables false

/-- The pieces as values. -/
def u64s (ds : List Nat) : List Value := ds.map fun (d : Nat) => Value.int .u64 (d : Int)
/-- With its sign. -/
def sgn (neg : Bool) (n : Nat) : Int := if neg then -(n : Int) else n
/-- The slice has these pieces. -/
def Pcs (w : World) (ao : Option Addr) (k cap : Nat) (ds : List Nat) : Prop :=
  w.ownsRow 0 22 1 (.slice ao k cap) k (u64s ds) ∧ ds.length = k ∧ BM.Dig ds
theorem Pcs.len {w : World} {ao : Option Addr} {k cap : Nat} {ds : List Nat} (h : Pcs w ao k cap ds) : ds.length = k := h.2.1
theorem Pcs.dig {w : World} {ao : Option Addr} {k cap : Nat} {ds : List Nat} (h : Pcs w ao k cap ds) : BM.Dig ds := h.2.2
theorem Pcs.shape {w : World} {ao : Option Addr} {k cap : Nat} {ds : List Nat} (h : Pcs w ao k cap ds) : k ≤ cap ∧ cap ≤ maxLen := by
  rcases h.1.2 with ⟨e, rfl⟩ | ⟨g, c, cur, e, _, _, h1, h2, _⟩
  · simp at e; omega
  · simp at e; omega
theorem Pcs.nil (w : World) : Pcs w none 0 0 [] := ⟨World.ownsRow_nil _ _ _ _, rfl, BM.Dig.nil⟩
theorem Pcs.cell {w : World} {ao : Option Addr} {k cap : Nat} {ds : List Nat} (h : Pcs w ao k cap ds) (i : Nat) (hi : i < k) :
    ∃ g, ao = some ⟨g, 0, none⟩ ∧ w.cell? ⟨g, i, none⟩ = some (.int .u64 (((ds.getD i 0 : Nat) : Int))) ∧ g < w.heap.size := by
  obtain ⟨h1, h2, h3⟩ := h
  rcases h1.2 with ⟨e, e2⟩ | ⟨g, c, cur, e, _, hg, hl, hm, hs, ht⟩
  · omega
  · obtain ⟨rfl, _⟩ : ao = some ⟨g, 0, none⟩ ∧ cap = c := by simpa using e
    have hc := h1.cells (g := g) rfl i (.int .u64 (((ds.getD i 0 : Nat) : Int))) (by
      unfold u64s
      rw [List.getElem?_map, List.getElem?_eq_getElem (by omega)]
      simp [List.getD, List.getElem?_eq_getElem (show i < ds.length by omega)])
    have hadd : (⟨g, 0, none⟩ : Addr).add i = ⟨g, i, none⟩ := by unfold Addr.add; split <;> simp_all
    rw [hadd] at hc
    refine ⟨g, rfl, hc, ?_⟩
    exact (Array.getElem?_eq_some_iff.1 hg).1
theorem ownsRow_below {w w' : World} {e : TypeId} {size : Nat} {v : Value} {n : Nat} {xs : List Value} (h : w.ownsRow 0 e size v n xs) (hb : Below w.heap.size w w') : w'.ownsRow 0 e size v n xs := by
  refine ⟨h.1, ?_⟩
  rcases h.2 with h | ⟨g, cap, cur, hv, hg, hh, r⟩
  · exact .inl h
  · refine .inr ⟨g, cap, cur, hv, hg, ?_, r⟩
    rw [hb.block g (Array.getElem?_eq_some_iff.1 hh).1]
    exact hh
theorem Pcs.keep {w w' : World} {ao : Option Addr} {k cap : Nat} {ds : List Nat} (h : Pcs w ao k cap ds) (hb : Below w.heap.size w w') : Pcs w' ao k cap ds :=
  ⟨ownsRow_below h.1 hb, h.2⟩
theorem Pcs.take {w : World} {ao : Option Addr} {k cap : Nat} {ds : List Nat} (h : Pcs w ao k cap ds) (j : Nat) (hj : j ≤ k) : Pcs w ao j cap (ds.take j) := by
  obtain ⟨h1, h2, h3⟩ := h
  refine ⟨⟨by simp [u64s, h2]; omega, ?_⟩, by simp [h2]; omega, h3.take j⟩
  rcases h1.2 with ⟨e, e2⟩ | ⟨g, c, cur, e, hb, hg, hl, hm, hs, ht⟩
  · simp at e
    exact .inl ⟨by simp [e]; omega, by omega⟩
  · simp at e
    refine .inr ⟨g, c, cur, by simp [e], hb, hg, by omega, hm, hs, ?_⟩
    have : cur.toList.take (j * 1) = (cur.toList.take (k * 1)).take j := by rw [List.take_take]; congr 1; omega
    rw [this, ht]
    simp [u64s, List.map_take]

/-- All blocks of pieces are as they were. -/
def Keeps (w w' : World) : Prop := ∀ (g : Nat) (cur : Array Value), w.heap[g]? = some (Obj.cells cur 22 (0, 0)) → w'.heap[g]? = some (Obj.cells cur 22 (0, 0))
/-- The block's cells are of this type. -/
def TyAt (w : World) (b : Nat) (T : TypeId) : Prop := ∃ (c : Array Value) (fr : Nat × Nat), w.heap[b]? = some (Obj.cells c T fr)
theorem TyAt.new (w : World) (c : Array Value) (T : TypeId) (b : Nat) (hb : b = w.heap.size) : TyAt (w.alloc (.cells c T)) b T := by
  subst hb
  exact ⟨c, (0, 0), heap_alloc_new w _⟩
theorem TyAt.lt {w : World} {b : Nat} {T : TypeId} (h : TyAt w b T) : b < w.heap.size := by
  obtain ⟨c, fr, h⟩ := h
  exact (Array.getElem?_eq_some_iff.1 h).1
theorem TyAt.alloc {w : World} {b : Nat} {T : TypeId} (h : TyAt w b T) (o : Obj) : TyAt (w.alloc o) b T := by
  have hl := h.lt
  obtain ⟨c, fr, h⟩ := h
  exact ⟨c, fr, by exact (Below.heap_alloc w o _ hl).trans h⟩
theorem TyAt.below {w w' : World} {b : Nat} {T : TypeId} (h : TyAt w b T) (hb : Below w.heap.size w w') : TyAt w' b T := by
  have hl := h.lt
  obtain ⟨c, fr, h⟩ := h
  exact ⟨c, fr, by rw [hb.block b hl]; exact h⟩
theorem TyAt.set {w : World} {b : Nat} {T : TypeId} (h : TyAt w b T) (a : Addr) (u : Value) : TyAt (w.setCell a u) b T := by
  obtain ⟨c, fr, h⟩ := h
  simp only [TyAt, World.setCell, Array.getElem?_modify]
  by_cases e : a.block = b
  · rw [if_pos e, h]
    exact ⟨_, _, rfl⟩
  · rw [if_neg e]
    exact ⟨c, fr, h⟩
theorem TyAt.drew {w : World} {b : Nat} {T : TypeId} (h : TyAt w b T) : TyAt w.drew b T := h
theorem TyAt.drewN {w : World} {b : Nat} {T : TypeId} (h : TyAt w b T) (n : Nat) : TyAt (w.drewN n) b T := h
theorem Keeps.refl (w : World) : Keeps w w := fun _ _ h => h
theorem Keeps.alloc {w w' : World} (h : Keeps w w') (o : Obj) : Keeps w (w'.alloc o) := fun g cur hg => by
  have := h g cur hg
  exact (Below.heap_alloc w' o _ (Array.getElem?_eq_some_iff.1 this).1).trans this
theorem Keeps.drew {w w' : World} (h : Keeps w w') : Keeps w w'.drew := h
theorem Keeps.drewN {w w' : World} (h : Keeps w w') (n : Nat) : Keeps w (w'.drewN n) := h
theorem Keeps.below {w w' w'' : World} (hb : Below w'.heap.size w' w'') (h : Keeps w w') : Keeps w w'' := fun g cur hg => by
  have := h g cur hg
  rw [hb.block g (Array.getElem?_eq_some_iff.1 this).1]; exact this
theorem Keeps.set {w w' : World} (h : Keeps w w') (a : Addr) (u : Value) {T : TypeId} (ht : TyAt w' a.block T) (hT : T ≠ 22) : Keeps w (w'.setCell a u) := fun g cur hg => by
  have h1 := h g cur hg
  obtain ⟨c, fr, h2⟩ := ht
  have hne : g ≠ a.block := by
    intro e
    subst e
    rw [h1] at h2
    simp at h2
    exact hT h2.2.1.symm
  rw [Below.heap_setCell _ _ _ _ hne]; exact h1
theorem Pcs.keeps {w w' : World} {ao : Option Addr} {k cap : Nat} {ds : List Nat} (h : Pcs w ao k cap ds) (hb : Keeps w w') : Pcs w' ao k cap ds := by
  refine ⟨⟨h.1.1, ?_⟩, h.2⟩
  rcases h.1.2 with h | ⟨g, c, cur, hv, hg, hh, r⟩
  · exact .inl h
  · exact .inr ⟨g, c, cur, hv, hg, hb g cur hh, r⟩

/-- How a whole number lies in memory. -/
def IsBig (w : World) (neg : Bool) (ao : Option Addr) (k cap : Nat) (n : Int) : Prop :=
  ∃ ds, Pcs w ao k cap ds ∧ BM.Trim ds ∧ (neg = true → ds ≠ []) ∧ n = sgn neg (BM.bval ds)
theorem IsBig.keep {w w' : World} {neg : Bool} {ao : Option Addr} {k cap : Nat} {n : Int} (h : IsBig w neg ao k cap n) (hb : Below w.heap.size w w') : IsBig w' neg ao k cap n := by
  obtain ⟨ds, h1, h2⟩ := h
  exact ⟨ds, h1.keep hb, h2⟩
theorem IsBig.keeps {w w' : World} {neg : Bool} {ao : Option Addr} {k cap : Nat} {n : Int} (h : IsBig w neg ao k cap n) (hb : Keeps w w') : IsBig w' neg ao k cap n := by
  obtain ⟨ds, h1, h2⟩ := h
  exact ⟨ds, h1.keeps hb, h2⟩
/-- What a function answers that gives back a whole number. -/
def BigRet (n : Int) (w : World) (e : Ending) (w' : World) : Prop :=
  ∃ neg ao k cap, e = .returned (.agg #[.bool neg, .slice ao k cap]) ∧ IsBig w' neg ao k cap n ∧ Below w.heap.size w w'

set_option maxRecDepth 100000 in
set_option maxHeartbeats 400000 in
theorem big_trim (neg : Bool) (ao : Option Addr) (k cap : Nat) (ds : List Nat) (w : World) (h : Pcs w ao k cap ds) (hk : k ≤ 1000000) :
    Calls Tryd.prog 65 #[.agg #[.bool neg, .slice ao k cap]] w (BigRet (sgn neg (BM.bval ds)) w) := by
  have hcap := h.shape
  go_enter Tryd.func65, Tryd.ntmps65
  go_wp2
  go_loopg [] k (fun g wr => ∃ j : Nat, j ≤ k ∧ g = j ∧ (w.alloc (.cells #[.bool neg, .slice ao j cap] 41)).alloc (.cells #[.bool false, .slice none 0 0] 41) = wr ∧ BM.bval (ds.take j) = BM.bval ds)
  case atStart => exact ⟨k, Nat.le_refl _, rfl, rfl, by rw [List.take_of_length_le (by rw [h.len]; exact Nat.le_refl _)]⟩
  case round =>
    obtain ⟨j, hj, rfl, rfl, hv⟩ := hrel
    have HV := Lib.hid hv
    clear hv
    by_cases hj0 : gk = 0
    · subst hj0
      go_wp2
      simp [bodyPost, results, Tryd.results65, go_sem]
      have e0 : BM.bval ds = 0 := by rw [← HV.out]; rfl
      exact ⟨false, ao, 0, cap, rfl, ⟨[], (h.take 0 (Nat.zero_le _)).keep (by repeat' (first | (with_reducible exact Below.refl _ _) | (with_reducible assumption) | (with_reducible refine below_alloc ?_ _ ?_) | (with_reducible refine below_set _ ?_ ?_) | (with_reducible refine Below.drew ?_) | (with_reducible refine below_dN ?_ _) | (apply below_thenA; assumption) | omega | (simp; done) | (simp; omega) | (simp [*]; done))), BM.Trim.nil, fun h => (by cases h), by rw [e0]; cases neg <;> rfl⟩, (by repeat' (first | (with_reducible exact Below.refl _ _) | (with_reducible assumption) | (with_reducible refine below_alloc ?_ _ ?_) | (with_reducible refine below_set _ ?_ ?_) | (with_reducible refine Below.drew ?_) | (with_reducible refine below_dN ?_ _) | (apply below_thenA; assumption) | omega | (simp; done) | (simp; omega) | (simp [*]; done)))⟩
    · obtain ⟨g, rfl, hc, hg⟩ := h.cell (gk - 1) (by omega)
      have HD := h.dig.getD (gk - 1)
      obtain ⟨d, hd⟩ : ∃ d, d = ds.getD (gk - 1) 0 := ⟨_, rfl⟩
      rw [← hd] at hc HD
      have HDD := Lib.hid hd
      clear hd
      have hg1 : g < w.heap.size + 1 := by omega
      have hg2 : g ≤ w.heap.size := by omega
      have hj1 : 0 < gk := by omega
      by_cases h0 : d = 0
      · subst h0
        go_wp2
        go_roundg (gk - 1)
        case measure => omega
        case rel =>
          refine ⟨gk - 1, by omega, rfl, rfl, ?_⟩
          have e : gk = gk - 1 + 1 := by omega
          have hl : gk - 1 < ds.length := by rw [h.len]; omega
          have hz : ds[gk - 1] = 0 := by have := HDD.out; simp [List.getD, hl] at this; exact this.symm
          rw [← HV.out, e, BM.bval_take_succ ds (gk - 1) hl, hz]
          simp
      · have h0' : ((d : Int) == 0) = false := by simp [h0]
        go_wp2
        simp [bodyPost, results, Tryd.results65, go_sem]
        have hl : gk - 1 < ds.length := by rw [h.len]; omega
        have hz : ds[gk - 1] ≠ 0 := by have := HDD.out; simp [List.getD, hl] at this; omega
        have ht : BM.Trim (ds.take gk) := by
          intro hne
          have hlen : (ds.take gk).length = gk := by rw [List.length_take]; omega
          rw [List.getLast_eq_getElem]
          simp only [hlen, List.getElem_take]
          exact hz
        have hne : ds.take gk ≠ [] := by
          intro e
          have hlen : (ds.take gk).length = gk := by rw [List.length_take]; omega
          rw [e] at hlen
          simp at hlen
          omega
        exact ⟨neg, _, gk, cap, rfl, ⟨ds.take gk, (h.take gk hj).keep (by repeat' (first | (with_reducible exact Below.refl _ _) | (with_reducible assumption) | (with_reducible refine below_alloc ?_ _ ?_) | (with_reducible refine below_set _ ?_ ?_) | (with_reducible refine Below.drew ?_) | (with_reducible refine below_dN ?_ _) | (apply below_thenA; assumption) | omega | (simp; done) | (simp; omega) | (simp [*]; done))), ht, fun _ => hne, by rw [HV.out]⟩, (by repeat' (first | (with_reducible exact Below.refl _ _) | (with_reducible assumption) | (with_reducible refine below_alloc ?_ _ ?_) | (with_reducible refine below_set _ ?_ ?_) | (with_reducible refine Below.drew ?_) | (with_reducible refine below_dN ?_ _) | (apply below_thenA; assumption) | omega | (simp; done) | (simp; omega) | (simp [*]; done)))⟩
end Go.Proofs.YtmkblfejoniccaaDoor
namespace Go.Proofs.YtmkblfejoniccaaDoor
open Go.RowKit
set_option linter.unusedSimpArgs false
set_option linter.unusedVariables false

def cmpN (a b : Nat) : Int := if a < b then -1 else if b < a then 1 else 0
theorem cmpN_lt {a b : Nat} (h : a < b) : cmpN a b = -1 := if_pos h
theorem cmpN_gt {a b : Nat} (h : b < a) : cmpN a b = 1 := by unfold cmpN; rw [if_neg (by omega), if_pos h]
theorem cmpN_eq {a b : Nat} (h : a = b) : cmpN a b = 0 := by unfold cmpN; rw [if_neg (by omega), if_neg (by omega)]

set_option maxRecDepth 100000 in
set_option maxHeartbeats 400000 in
theorem big_sizes (ao bo : Option Addr) (k m cap cap' : Nat) (xs ys : List Nat) (w : World) (ha : Pcs w ao k cap xs) (hb : Pcs w bo m cap' ys) (ta : BM.Trim xs) (tb : BM.Trim ys) (hk : k ≤ 1000000) (hm : m ≤ 1000000) :
    Calls Tryd.prog 64 #[.slice ao k cap, .slice bo m cap'] w fun e w' => e = .returned (.int .i64 (cmpN (BM.bval xs) (BM.bval ys))) ∧ Below w.heap.size w w' := by
  have la := ha.len
  have lb := hb.len
  have LA := Lib.hid la
  have LB := Lib.hid lb
  clear la lb
  rcases Nat.lt_trichotomy k m with hlt | rfl | hgt
  · have e := cmpN_lt (BM.len_lt_bval ha.dig tb (by rw [LA.out, LB.out]; exact hlt))
    have E := Lib.hid e
    clear e
    have hne : ((k : Int) != (m : Int)) = true := by simp; omega
    go_enter Tryd.func64, Tryd.ntmps64
    go_wp2
    go_ret
    exact ⟨ret_int (by rw [E.out]), (by repeat' (first | (with_reducible exact Below.refl _ _) | (with_reducible assumption) | (with_reducible refine below_alloc ?_ _ ?_) | (with_reducible refine below_set _ ?_ ?_) | (with_reducible refine Below.drew ?_) | (with_reducible refine below_dN ?_ _) | (apply below_thenA; assumption) | omega | (simp; done) | (simp; omega) | (simp [*]; done)))⟩
  · have HQ : Hid (∀ i, i < k → xs.getD i 0 < 65536 ∧ ys.getD i 0 < 65536) := fun i _ => ⟨ha.dig.getD i, hb.dig.getD i⟩
    go_enter Tryd.func64, Tryd.ntmps64
    go_wp2
    go_loopg [5] k (fun g s wr => ∃ (j n : Nat), j ≤ k ∧ g = j ∧ s = .int .i64 ((j : Int) - 1) ∧ w.drewN n = wr ∧ xs.drop j = ys.drop j)
    case atStart => exact ⟨k, 0, Nat.le_refl _, rfl, rfl, rfl, by rw [List.drop_eq_nil_of_le (by rw [LA.out]; exact Nat.le_refl _), List.drop_eq_nil_of_le (by rw [LB.out]; exact Nat.le_refl _)]⟩
    case round =>
      obtain ⟨j, n, hj, rfl, rfl, rfl, hd⟩ := hrel
      have HD := Lib.hid hd
      clear hd
      by_cases hj0 : gk = 0
      · subst hj0
        have e : BM.bval xs = BM.bval ys := by have := HD.out; simp at this; rw [this]
        have E := Lib.hid (cmpN_eq e)
        clear e
        go_wp2
        go_ret
        exact ⟨ret_int (by rw [E.out]), (by repeat' (first | (with_reducible exact Below.refl _ _) | (with_reducible assumption) | (with_reducible refine below_alloc ?_ _ ?_) | (with_reducible refine below_set _ ?_ ?_) | (with_reducible refine Below.drew ?_) | (with_reducible refine below_dN ?_ _) | (apply below_thenA; assumption) | omega | (simp; done) | (simp; omega) | (simp [*]; done)))⟩
      · obtain ⟨g, rfl, hc, hg⟩ := ha.cell (gk - 1) (by omega)
        obtain ⟨g', rfl, hc', hg'⟩ := hb.cell (gk - 1) (by omega)
        have hla : gk - 1 < xs.length := by rw [LA.out]; omega
        have hlb : gk - 1 < ys.length := by rw [LB.out]; omega
        have ga : xs.getD (gk - 1) 0 = xs[gk - 1] := by simp [List.getD, hla]
        have gb : ys.getD (gk - 1) 0 = ys[gk - 1] := by simp [List.getD, hlb]
        have es : xs.drop (gk - 1 + 1) = ys.drop (gk - 1 + 1) := by rw [show gk - 1 + 1 = gk by omega]; exact HD.out
        have CL := Lib.hid (BM.bval_cmp_at ha.dig (gk - 1) hla hlb es)
        have CG := Lib.hid (BM.bval_cmp_at hb.dig (gk - 1) hlb hla es.symm)
        rw [← ga, ← gb] at CL CG
        have RR := Lib.hid (show xs.getD (gk - 1) 0 = ys.getD (gk - 1) 0 → xs.drop (gk - 1) = ys.drop (gk - 1) from fun h => by
          rw [List.drop_eq_getElem_cons hla, List.drop_eq_getElem_cons hlb, es, ← ga, ← gb, h])
        clear ga gb es hla hlb
        obtain ⟨x, hx⟩ : ∃ x, x = xs.getD (gk - 1) 0 := ⟨_, rfl⟩
        obtain ⟨y, hy⟩ : ∃ y, y = ys.getD (gk - 1) 0 := ⟨_, rfl⟩
        rw [← hx] at hc CL CG RR
        rw [← hy] at hc' CL CG RR
        clear hx hy
        have hj1 : 0 < gk := by omega
        have i1 : 0 ≤ (gk : Int) - 1 := by omega
        have i2 : (gk : Int) - 1 < (k : Int) := by omega
        rcases Nat.lt_trichotomy x y with hl | hl | hl
        · have e := Lib.hid (cmpN_lt (CL.out hl))
          have hl' : (x : Int) < (y : Int) := by omega
          clear hl
          go_wp2
          go_quiet (fail)
          go_wp2
          go_ret
          exact ⟨ret_int (by rw [e.out]), (by repeat' (first | (with_reducible exact Below.refl _ _) | (with_reducible assumption) | (with_reducible refine below_alloc ?_ _ ?_) | (with_reducible refine below_set _ ?_ ?_) | (with_reducible refine Below.drew ?_) | (with_reducible refine below_dN ?_ _) | (apply below_thenA; assumption) | omega | (simp; done) | (simp; omega) | (simp [*]; done)))⟩
        · subst hl
          go_wp2
          go_quiet (fail)
          go_wp2
          go_quiet (fail)
          go_wp2
          go_roundg (gk - 1)
          case measure => omega
          case rel =>
            exact ⟨gk - 1, _, by omega, rfl, by congr 1; omega, rfl, RR.out (by first | trivial | rfl)⟩
        · have e := Lib.hid (cmpN_gt (CG.out hl))
          have hl' : (y : Int) < (x : Int) := by omega
          clear hl
          go_wp2
          go_quiet (fail)
          go_wp2
          go_quiet (fail)
          go_wp2
          go_ret
          exact ⟨ret_int (by rw [e.out]), (by repeat' (first | (with_reducible exact Below.refl _ _) | (with_reducible assumption) | (with_reducible refine below_alloc ?_ _ ?_) | (with_reducible refine below_set _ ?_ ?_) | (with_reducible refine Below.drew ?_) | (with_reducible refine below_dN ?_ _) | (apply below_thenA; assumption) | omega | (simp; done) | (simp; omega) | (simp [*]; done)))⟩
  · have e := cmpN_gt (BM.len_lt_bval hb.dig ta (by rw [LA.out, LB.out]; exact hgt))
    have E := Lib.hid e
    clear e
    have hne : ((k : Int) != (m : Int)) = true := by simp; omega
    go_enter Tryd.func64, Tryd.ntmps64
    go_wp2
    go_ret
    exact ⟨ret_int (by rw [E.out]), (by repeat' (first | (with_reducible exact Below.refl _ _) | (with_reducible assumption) | (with_reducible refine below_alloc ?_ _ ?_) | (with_reducible refine below_set _ ?_ ?_) | (with_reducible refine Below.drew ?_) | (with_reducible refine below_dN ?_ _) | (apply below_thenA; assumption) | omega | (simp; done) | (simp; omega) | (simp [*]; done)))⟩
end Go.Proofs.YtmkblfejoniccaaDoor
