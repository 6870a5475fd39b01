/-
  The reference of layer 3: Grid.
-/
/-
  The reference of layer 9: Decode.
-/
/-
  Package math/bits: TrailingZeros64, of a table that lies in a package-level variable; package real: finite.
-/
/-
  Layer 11 (style): what a length may be, what a number is in its parts, the bounds of a word; the small functions.
-/
import Derived.Test.YtmkblfejoniccaaDoorZ8
import Derived.Test.YtmkblfejoniccaaDoorZ3
import Derived.Shelf.Spec.TrailingZeros
namespace Go.Proofs.YtmkblfejoniccaaDoor
open Go.RowKit
set_option linter.unusedSimpArgs false
set_option linter.unusedVariables false

theorem Below.to0 {w w2 w3 : World} {o1 o2 : Obj} (h : Below ((w2.alloc o1).alloc o2).heap.size ((w2.alloc o1).alloc o2) w3) (h1 : w.heap.size ≤ w2.heap.size) (h0 : Below w.heap.size w w2) : Below w.heap.size w w3 := (h0.alloc h1 o1 |>.alloc (by simp; omega) o2).trans (h.mono (by simp; omega))
theorem sz_ediv {X D : Int} {K : Nat} (h : BM.Sz X K) (hD : 0 < D) : BM.Sz (X / D) K := by
  refine BM.Sz.le h ?_
  by_cases h0 : 0 ≤ X
  · have h1 := Int.ediv_nonneg h0 (show 0 ≤ D by omega)
    have h2 := Int.ediv_le_self D h0
    omega
  · have h1 : X ≤ X / D := (Int.le_ediv_iff_mul_le hD).2 (by
      have := Int.mul_nonpos_of_nonpos_of_nonneg (show X ≤ 0 by omega) (show 0 ≤ D - 1 by omega)
      rw [Int.mul_sub, Int.mul_one] at this
      omega)
    have h2 : X / D < 0 := Int.ediv_neg_of_neg_of_pos (by omega) hD
    omega
set_option maxRecDepth 100000 in
set_option maxHeartbeats 6400000 in
theorem ref3_grid (b : Nat) (hb : b < 18446744073709551616) (den low high : Int) (hd : IFit den) (hl : IFit low) (hh : IFit high) (w : World) : Calls Tryd.prog 27 #[.int .u64 (b : Int), .int .i64 den, .int .i64 low, .int .i64 high] w fun e w' => e = .returned (.tuple #[.int .i64 ((gridR b den low high).1), .int .i64 ((gridR b den low high).2)]) ∧ Below w.heap.size w w' := by
  obtain ⟨Q, eQ⟩ : ∃ Q : Ending → World → Prop, Q = fun e w' => e = .returned (.tuple #[.int .i64 ((gridR b den low high).1), .int .i64 ((gridR b den low high).2)]) ∧ Below w.heap.size w w' := ⟨_, rfl⟩
  rw [← eQ]
  have EQ := Lib.hid eQ
  have HLo := Lib.hid hl
  have HHi := Lib.hid hh
  clear eQ
  by_cases a1 : den < 1
  · have hR := Lib.hid (gridR_arg (b := b) (low := low) (high := high) (.inl a1))
    go_enter Tryd.func27, Tryd.ntmps27
    go_wp2_with fail
    rw [EQ.out, hR.out]
    exact ⟨rfl, Below.refl _ _⟩
  by_cases a2 : 1048576 < den
  · have hR := Lib.hid (gridR_arg (b := b) (low := low) (high := high) (.inr (.inl a2)))
    go_enter Tryd.func27, Tryd.ntmps27
    go_wp2_with fail
    rw [EQ.out, hR.out]
    exact ⟨rfl, Below.refl _ _⟩
  by_cases a3 : high < low
  · have hR := Lib.hid (gridR_arg (b := b) (den := den) (.inr (.inr a3)))
    go_enter Tryd.func27, Tryd.ntmps27
    go_wp2_with fail
    rw [EQ.out, hR.out]
    exact ⟨rfl, Below.refl _ _⟩
  have hn : ¬ (den < 1 ∨ 1048576 < den ∨ high < low) := by omega
  have HN := Lib.hid hn
  have KI := ref3_kind b hb
  have hdn : fDn b = if fKi b = 1 then false else fSg b := rfl
  by_cases k1 : fKi b = 1
  · rw [if_pos k1] at hdn
    have K1 : ∀ w, Calls Tryd.prog 22 #[.int .u64 (b : Int)] w fun e w' => e = .returned (.tuple #[.int .i64 1, .bool false]) ∧ w' = w := fun w => by
      have q := KI w
      rw [k1, hdn] at q
      exact q
    have hR := Lib.hid (gridR_nan HN.out k1)
    clear KI k1 hdn hn
    go_enter Tryd.func27, Tryd.ntmps27
    go_wp2_with (go_at_call 22; with_reducible refine (K1 _).mono ?_; rintro e w1 ⟨rfl, rfl⟩)
    rw [EQ.out, hR.out]
    exact ⟨rfl, Below.refl _ _⟩
  rw [if_neg k1] at hdn
  by_cases k2 : fKi b = 2
  · have hR := gridR_inf HN.out k2
    cases hs : fSg b
    · rw [hs] at hdn hR
      simp only [Bool.false_eq_true, if_false] at hR
      have K1 : ∀ w, Calls Tryd.prog 22 #[.int .u64 (b : Int)] w fun e w' => e = .returned (.tuple #[.int .i64 2, .bool false]) ∧ w' = w := fun w => by
        have q := KI w
        rw [k2, hdn] at q
        exact q
      have HR := Lib.hid hR
      clear KI k1 k2 hdn hn hR hs
      go_enter Tryd.func27, Tryd.ntmps27
      go_wp2_with (go_at_call 22; with_reducible refine (K1 _).mono ?_; rintro e w1 ⟨rfl, rfl⟩)
      rw [EQ.out, HR.out]
      exact ⟨rfl, Below.refl _ _⟩
    · rw [hs] at hdn hR
      simp only [if_true] at hR
      have K1 : ∀ w, Calls Tryd.prog 22 #[.int .u64 (b : Int)] w fun e w' => e = .returned (.tuple #[.int .i64 2, .bool true]) ∧ w' = w := fun w => by
        have q := KI w
        rw [k2, hdn] at q
        exact q
      have HR := Lib.hid hR
      clear KI k1 k2 hdn hn hR hs
      go_enter Tryd.func27, Tryd.ntmps27
      go_wp2_with (go_at_call 22; with_reducible refine (K1 _).mono ?_; rintro e w1 ⟨rfl, rfl⟩)
      rw [EQ.out, HR.out]
      exact ⟨rfl, Below.refl _ _⟩
  have FR := ref3_fraction b hb
  have hR := gridR_num (b := b) HN.out k1 k2
  have hpo : -1074 ≤ fPo b ∧ fPo b ≤ 972 := by
    have := fEx_lt b
    unfold fPo; split <;> omega
  have sW : BM.Sz (fNu b) 4 := by have := fNu_bnd b; exact BM.Sz.i64 (by omega) (by omega)
  have sU : BM.Sz (fUp b : Int) 1000 := by unfold fUp; exact (pow_sz _).mono (by omega)
  have sL : BM.Sz (fLo b : Int) 1100 := by unfold fLo; exact (pow_sz _).mono (by omega)
  have hLp : (0 : Int) < (fLo b : Int) := by unfold fLo; exact Int.natCast_pos.2 (Nat.pow_pos (by omega))
  have sN := BM.Sz.mul sW sU
  have hg : gN b den = (2 * (fNu b * (fUp b : Int) * den) + (fLo b : Int)) / (2 * (fLo b : Int)) := rfl
  rw [hg] at hR
  obtain ⟨k, ek⟩ : ∃ k, fKi b = k := ⟨_, rfl⟩
  obtain ⟨dn, edn⟩ : ∃ k, fDn b = k := ⟨_, rfl⟩
  obtain ⟨N, eN⟩ : ∃ N, fNu b * (fUp b : Int) = N := ⟨_, rfl⟩
  obtain ⟨L, eL⟩ : ∃ L : Int, (fLo b : Int) = L := ⟨_, rfl⟩
  rw [eN] at FR sN hR
  rw [eL] at FR sL hLp hR
  rw [ek] at k1 k2
  rw [ek, edn] at KI
  have q1 : ((k : Int) == 1) = false := by simp; omega
  have q2 : ((k : Int) == 2) = false := by simp; omega
  have sd := BM.Sz.i64 hd.1 hd.2
  have s2 := BM.Sz.u64 (n := 2) (by omega) (by omega)
  have sND := BM.Sz.mul sN sd
  have s2ND := BM.Sz.mul s2 sND
  obtain ⟨X, eX⟩ : ∃ X, 2 * (N * den) + L = X := ⟨_, rfl⟩
  have sX : BM.Sz X 1101 := by rw [← eX]; exact BM.Sz.add (s2ND.mono (by omega)) sL
  have s2L := BM.Sz.mul s2 sL
  rw [eX] at hR
  have DN := fun na nb ax bx k m ca cb W (h1 : IsBig W na ax k ca X) (h2 : IsBig W nb bx m cb (2 * L)) hk hm => big_down na nb ax bx k m ca cb X (2 * L) W h1 h2 hk hm (by omega)
  have hfq : fq X (2 * L) = X / (2 * L) := by unfold fq; rw [if_neg (by omega)]
  obtain ⟨F, eF⟩ : ∃ F, X / (2 * L) = F := ⟨_, rfl⟩
  obtain ⟨R, eR⟩ : ∃ R, fr X (2 * L) = R := ⟨_, rfl⟩
  have sF : BM.Sz F 1101 := by rw [← eF]; exact sz_ediv sX (by omega)
  rw [hfq, eF, eR] at DN
  rw [eF] at hR
  have HR := Lib.hid hR
  obtain ⟨d1, d2⟩ := hd
  obtain ⟨l1, l2⟩ := hl
  obtain ⟨h1, h2⟩ := hh
  have hlh : low ≤ high := by omega
  clear hn hR hdn hg ek edn eN eL eF eR hfq k1 k2 hLp hpo sW sU
  go_enter Tryd.func27, Tryd.ntmps27
  go_upto_region 12 with (first
    | (go_at_call 22; with_reducible refine (KI _).mono ?_; rintro e w1 ⟨rfl, rfl⟩)
    | (go_at_call 50; with_reducible refine (FR _).mono ?_; rintro e w2 hR2; obtain ⟨n1, x1, k1, c1, n2, x2, k2, c2, rfl, I1, I2, hb2⟩ := BigRet2.out hR2)
    | (go_at_call 67; with_reducible refine (big_ofu2 _).mono ?_; rintro e w3 hR3; obtain ⟨n3, x3, k3, c3, rfl, I3, hb3⟩ := BigRet.out hR3))
  have hB3 : Below w1.heap.size w1 w3 := by
    have h1 := hb2.size
    have h2 := hb3.size
    simp at h2
    exact Below.to0 hb3 h1 hb2
  refine wp_worldF (fun W => Blk W w2.heap.size #[.bool n1, .slice x1 k1 c1] 41 ∧ Blk W (w2.heap.size + 1) #[.bool n2, .slice x2 k2 c2] 41 ∧ Blk W w3.heap.size #[.bool n3, .slice x3 k3 c3] 41 ∧ IsBig W n1 x1 k1 c1 N ∧ IsBig W n2 x2 k2 c2 L ∧ IsBig W n3 x3 k3 c3 2 ∧ Below w1.heap.size w1 W) ?_ ?_
  · have h1 := hb2.size
    have h2 := hb3.size
    simp at h2
    exact ⟨((((Blk.new w2 _ _ _ rfl).alloc _).below hb3).alloc _), (((Blk.new _ _ _ _ (by simp)).below hb3).alloc _), Blk.new _ _ _ _ rfl, ((I1.keep (by exact (by repeat' (first | (with_reducible exact Below.refl _ _) | (with_reducible assumption) | (with_reducible refine below_alloc ?_ _ ?_) | (with_reducible refine below_set _ ?_ ?_) | (with_reducible refine Below.drew ?_) | (with_reducible refine below_dN ?_ _) | (apply below_thenA; assumption) | omega | (simp; done) | (simp; omega) | (simp [*]; done))))).keep hb3).keep (by exact (by repeat' (first | (with_reducible exact Below.refl _ _) | (with_reducible assumption) | (with_reducible refine below_alloc ?_ _ ?_) | (with_reducible refine below_set _ ?_ ?_) | (with_reducible refine Below.drew ?_) | (with_reducible refine below_dN ?_ _) | (apply below_thenA; assumption) | omega | (simp; done) | (simp; omega) | (simp [*]; done)))), ((I2.keep (by exact (by repeat' (first | (with_reducible exact Below.refl _ _) | (with_reducible assumption) | (with_reducible refine below_alloc ?_ _ ?_) | (with_reducible refine below_set _ ?_ ?_) | (with_reducible refine Below.drew ?_) | (with_reducible refine below_dN ?_ _) | (apply below_thenA; assumption) | omega | (simp; done) | (simp; omega) | (simp [*]; done))))).keep hb3).keep (by exact (by repeat' (first | (with_reducible exact Below.refl _ _) | (with_reducible assumption) | (with_reducible refine below_alloc ?_ _ ?_) | (with_reducible refine below_set _ ?_ ?_) | (with_reducible refine Below.drew ?_) | (with_reducible refine below_dN ?_ _) | (apply below_thenA; assumption) | omega | (simp; done) | (simp; omega) | (simp [*]; done)))), I3.keep (by exact (by repeat' (first | (with_reducible exact Below.refl _ _) | (with_reducible assumption) | (with_reducible refine below_alloc ?_ _ ?_) | (with_reducible refine below_set _ ?_ ?_) | (with_reducible refine Below.drew ?_) | (with_reducible refine below_dN ?_ _) | (apply below_thenA; assumption) | omega | (simp; done) | (simp; omega) | (simp [*]; done)))), by have hs3 := hB3.size; exact (by repeat' (first | (with_reducible exact Below.refl _ _) | (with_reducible assumption) | (with_reducible refine below_alloc ?_ _ ?_) | (with_reducible refine below_set _ ?_ ?_) | (with_reducible refine Below.drew ?_) | (with_reducible refine below_dN ?_ _) | (apply below_thenA; assumption) | omega | (simp; done) | (simp; omega) | (simp [*]; done)))⟩
  have hz7 : w1.heap.size ≤ w2.heap.size := hb2.size
  have hz8 : w2.heap.size + 2 ≤ w3.heap.size := by have := hb3.size; simp at this; exact this
  rintro W1 ⟨t1, t2, t3, J1, J2, J3, hB⟩
  clear I1 I2 I3 hb2 hb3 hR2 hR3 hB3 FR KI q1 q2 a1 a2 a3
  obtain ⟨p1, e1⟩ : ∃ p, w2.heap.size = p := ⟨_, rfl⟩
  obtain ⟨p3, e3⟩ : ∃ p, w3.heap.size = p := ⟨_, rfl⟩
  rw [e1, e3] at hz8
  rw [e1] at hz7 t1 t2
  rw [e3] at t3
  rw [e1, e3]
  clear e1 e3
  have hW1 := hB.size
  have hl3 := t3.lt
  go_upto_region 12 with (fail)
  rename_i K0 hK0
  refine wp_region_calm (fun w' => Below w1.heap.size w1 w' ∧ Blk w' p1 #[.bool n1, .slice x1 k1 c1] 41 ∧ Blk w' (p1 + 1) #[.bool n2, .slice x2 k2 c2] 41 ∧ Blk w' p3 #[.bool n3, .slice x3 k3 c3] 41 ∧ IsBig w' n1 x1 k1 c1 N ∧ IsBig w' n2 x2 k2 c2 L ∧ IsBig w' n3 x3 k3 c3 2 ∧ W1.heap.size ≤ w'.heap.size) [] (fun w' => True) [bigC 2, bigC N, Is (.int .i64 den), bigC den, bigC (N * den), bigC (2 * (N * den)), bigC L, bigC (2 * (N * den) + L), bxV W1.heap.size 41 2, boxAt 8 W1.heap.size (2 * (N * den) + L)] [8] (by kernel_rfl) (by kernel_rfl) (by kernel_rfl) (by kernel_rfl) ⟨hB.drew, t1, t2, t3, J1.drewd, J2.drewd, J3.drewd, Nat.le_refl _⟩ trivial ?_ ?_ ?_ ?_ ?_
  · rintro W W' ⟨hBB, u1, u2, u3, i1, i2, i3, hl⟩ hb
    exact ⟨hBB.trans (hb.mono hBB.size), u1.below hb, u2.below hb, u3.below hb, i1.keep hb, i2.keep hb, i3.keep hb, Nat.le_trans hl hb.size⟩
  · exact fun _ _ _ _ _ => trivial
  · intro k vs W hk h
    obtain rfl : k = 8 := (by simpa using hk) <;> (obtain ⟨b, cs, e, h1, h2, h3⟩ := h; exact ⟨b, e, h2.lt⟩)
  · intro Q; clear hK0 hB t1 t2 t3 J1 J2 J3 DN
    refine ⟨?_, ?_, ?_, ?_, ?_, ?_, ?_, ?_, ?_, ?_, trivial⟩
    · intro vs W hW hW0 hd hne hold K hK hA hL; clear hne hA hL; have hBB := hW.1; have u1 := hW.2.1; have u2 := hW.2.2.1; have u3 := hW.2.2.2.1; have i1 := hW.2.2.2.2.1; have i2 := hW.2.2.2.2.2.1; have i3 := hW.2.2.2.2.2.2.1; have hl := hW.2.2.2.2.2.2.2; simp only [puts, Act.put, List.setIfInBounds_toArray, List.set_cons_zero, List.set_cons_succ, Nat.zero_add, Nat.reduceAdd] at hK ⊢; have q1 := u3.cell 0 _ rfl; have q2 := u3.cell 1 _ rfl; clear hd hold; go_simp; exact hK.out rfl _ _ (Below.refl _ _) ⟨n3, x3, k3, c3, rfl, i3⟩
    · intro vs W hW hW0 hd hne hold K hK hA hL; clear hne hA hL; have hBB := hW.1; have u1 := hW.2.1; have u2 := hW.2.2.1; have u3 := hW.2.2.2.1; have i1 := hW.2.2.2.2.1; have i2 := hW.2.2.2.2.2.1; have i3 := hW.2.2.2.2.2.2.1; have hl := hW.2.2.2.2.2.2.2; simp only [puts, Act.put, List.setIfInBounds_toArray, List.set_cons_zero, List.set_cons_succ, Nat.zero_add, Nat.reduceAdd] at hK ⊢; have q1 := u1.cell 0 _ rfl; have q2 := u1.cell 1 _ rfl; clear hd hold; go_simp; exact hK.out rfl _ _ (Below.refl _ _) ⟨n1, x1, k1, c1, rfl, i1⟩
    · intro vs W hW hW0 hd hne hold K hK hA hL; clear hne hA hL; have hBB := hW.1; have u1 := hW.2.1; have u2 := hW.2.2.1; have u3 := hW.2.2.2.1; have i1 := hW.2.2.2.2.1; have i2 := hW.2.2.2.2.2.1; have i3 := hW.2.2.2.2.2.2.1; have hl := hW.2.2.2.2.2.2.2; simp only [puts, Act.put, List.setIfInBounds_toArray, List.set_cons_zero, List.set_cons_succ, Nat.zero_add, Nat.reduceAdd] at hK ⊢; clear hd hold; go_simp; exact hK.out rfl _ _ (Below.refl _ _) rfl
    · intro vs W hW hW0 hd hne hold K hK hA hL; clear hne hA hL; have hBB := hW.1; have u1 := hW.2.1; have u2 := hW.2.2.1; have u3 := hW.2.2.2.1; have i1 := hW.2.2.2.2.1; have i2 := hW.2.2.2.2.2.1; have i3 := hW.2.2.2.2.2.2.1; have hl := hW.2.2.2.2.2.2.2; simp only [puts, Act.put, List.setIfInBounds_toArray, List.set_cons_zero, List.set_cons_succ, Nat.zero_add, Nat.reduceAdd] at hK ⊢; have eb : vs 2 = _ := hd 2 (by kernel_rfl); clear hd hold; simp only [eb] at hK; go_simp; refine (big_of den d1 d2 _).mono ?_; (rintro e wx ⟨f1, f2, f3, f4, rfl, If, hbx⟩); go_simp; exact hK.out rfl _ _ hbx ⟨f1, f2, f3, f4, rfl, If⟩
    · intro vs W hW hW0 hd hne hold K hK hA hL; clear hne hA hL; have hBB := hW.1; have u1 := hW.2.1; have u2 := hW.2.2.1; have u3 := hW.2.2.2.1; have i1 := hW.2.2.2.2.1; have i2 := hW.2.2.2.2.2.1; have i3 := hW.2.2.2.2.2.2.1; have hl := hW.2.2.2.2.2.2.2; simp only [puts, Act.put, List.setIfInBounds_toArray, List.set_cons_zero, List.set_cons_succ, Nat.zero_add, Nat.reduceAdd] at hK ⊢; (have hxb : BigV N (vs 1) W := hd 1 (by kernel_rfl)); obtain ⟨b1, b2, b3, b4, eb, Ib⟩ := hxb; (have hxc : BigV den (vs 3) W := hd 3 (by kernel_rfl)); obtain ⟨c1, c2, c3, c4, ec, Ic⟩ := hxc; have z1 := Ib.le sN; have z2 := Ic.le sd; clear hd hold; simp only [eb, ec] at hK; go_simp; refine (big_times b1 c1 b2 c2 b3 c3 b4 c4 N den _ Ib Ic (by omega) (by omega)).mono ?_; (rintro e wx ⟨f1, f2, f3, f4, rfl, If, hbx⟩); go_simp; exact hK.out rfl _ _ hbx ⟨f1, f2, f3, f4, rfl, If⟩
    · intro vs W hW hW0 hd hne hold K hK hA hL; clear hne hA hL; have hBB := hW.1; have u1 := hW.2.1; have u2 := hW.2.2.1; have u3 := hW.2.2.2.1; have i1 := hW.2.2.2.2.1; have i2 := hW.2.2.2.2.2.1; have i3 := hW.2.2.2.2.2.2.1; have hl := hW.2.2.2.2.2.2.2; simp only [puts, Act.put, List.setIfInBounds_toArray, List.set_cons_zero, List.set_cons_succ, Nat.zero_add, Nat.reduceAdd] at hK ⊢; (have hxb : BigV 2 (vs 0) W := hd 0 (by kernel_rfl)); obtain ⟨b1, b2, b3, b4, eb, Ib⟩ := hxb; (have hxc : BigV (N * den) (vs 4) W := hd 4 (by kernel_rfl)); obtain ⟨c1, c2, c3, c4, ec, Ic⟩ := hxc; have z1 := Ib.le s2; have z2 := Ic.le sND; clear hd hold; simp only [eb, ec] at hK; go_simp; refine (big_times b1 c1 b2 c2 b3 c3 b4 c4 2 (N * den) _ Ib Ic (by omega) (by omega)).mono ?_; (rintro e wx ⟨f1, f2, f3, f4, rfl, If, hbx⟩); go_simp; exact hK.out rfl _ _ hbx ⟨f1, f2, f3, f4, rfl, If⟩
    · intro vs W hW hW0 hd hne hold K hK hA hL; clear hne hA hL; have hBB := hW.1; have u1 := hW.2.1; have u2 := hW.2.2.1; have u3 := hW.2.2.2.1; have i1 := hW.2.2.2.2.1; have i2 := hW.2.2.2.2.2.1; have i3 := hW.2.2.2.2.2.2.1; have hl := hW.2.2.2.2.2.2.2; simp only [puts, Act.put, List.setIfInBounds_toArray, List.set_cons_zero, List.set_cons_succ, Nat.zero_add, Nat.reduceAdd] at hK ⊢; have q1 := u2.cell 0 _ rfl; have q2 := u2.cell 1 _ rfl; clear hd hold; go_simp; exact hK.out rfl _ _ (Below.refl _ _) ⟨n2, x2, k2, c2, rfl, i2⟩
    · intro vs W hW hW0 hd hne hold K hK hA hL; clear hne hA hL; have hBB := hW.1; have u1 := hW.2.1; have u2 := hW.2.2.1; have u3 := hW.2.2.2.1; have i1 := hW.2.2.2.2.1; have i2 := hW.2.2.2.2.2.1; have i3 := hW.2.2.2.2.2.2.1; have hl := hW.2.2.2.2.2.2.2; simp only [puts, Act.put, List.setIfInBounds_toArray, List.set_cons_zero, List.set_cons_succ, Nat.zero_add, Nat.reduceAdd] at hK ⊢; (have hxb : BigV (2 * (N * den)) (vs 5) W := hd 5 (by kernel_rfl)); obtain ⟨b1, b2, b3, b4, eb, Ib⟩ := hxb; (have hxc : BigV L (vs 6) W := hd 6 (by kernel_rfl)); obtain ⟨c1, c2, c3, c4, ec, Ic⟩ := hxc; have z1 := Ib.le s2ND; have z2 := Ic.le sL; clear hd hold; simp only [eb, ec] at hK; go_simp; refine (big_plus b1 c1 b2 c2 b3 c3 b4 c4 (2 * (N * den)) L _ Ib Ic (by omega) (by omega)).mono ?_; (rintro e wx ⟨f1, f2, f3, f4, rfl, If, hbx⟩); go_simp; exact hK.out rfl _ _ hbx ⟨f1, f2, f3, f4, rfl, If⟩
    · intro vs W hW hW0 hd hne hold K hK hA hL; clear hne hK hL; have hBB := hW.1; have u1 := hW.2.1; have u2 := hW.2.2.1; have u3 := hW.2.2.2.1; have i1 := hW.2.2.2.2.1; have i2 := hW.2.2.2.2.2.1; have i3 := hW.2.2.2.2.2.2.1; have hl := hW.2.2.2.2.2.2.2; simp only [puts, Act.put, List.setIfInBounds_toArray, List.set_cons_zero, List.set_cons_succ, Nat.zero_add, Nat.reduceAdd] at hA ⊢; clear hd hold; go_simp; exact hA.out W.heap.size _ ((Below.refl _ _).alloc (Nat.le_refl _) _) (Nat.le_refl _) ⟨W.heap.size, _, rfl, hl, Blk.new _ _ _ _ rfl, rfl⟩
    · intro vs W hW hW0 hd hne hold K hK hA hL; clear hK hA; have hBB := hW.1; have u1 := hW.2.1; have u2 := hW.2.2.1; have u3 := hW.2.2.2.1; have i1 := hW.2.2.2.2.1; have i2 := hW.2.2.2.2.2.1; have i3 := hW.2.2.2.2.2.2.1; have hl := hW.2.2.2.2.2.2.2; simp only [puts, Act.put, List.setIfInBounds_toArray, List.set_cons_zero, List.set_cons_succ, Nat.zero_add, Nat.reduceAdd] at hL ⊢; (have hxc : BigV (2 * (N * den) + L) (vs 7) W := hd 7 (by kernel_rfl)); obtain ⟨c1, c2, c3, c4, ec, Ic⟩ := hxc; (have hxb : BxV W1.heap.size 41 2 (vs 8) W := hd 8 (by kernel_rfl)); obtain ⟨b, cs0, eb, hlb, t0, hsz⟩ := hxb; obtain ⟨z0, q0⟩ := t0.cellx 0 (by omega); have p0 := t0.free 0; obtain ⟨z1, q1⟩ := t0.cellx 1 (by omega); have p1 := t0.free 1; have tb := t0.set2 hsz (.bool c1) (.slice c2 c3 c4); have hbt := But.set2 (b := b) W (.bool c1) (.slice c2 c3 c4); clear hd hold; simp only [ec, eb] at hL; have HSZ := Lib.hid hsz; clear hsz; have HNE := Lib.hid hne; clear hne; go_simp; have hne := HNE.out; have hsz := HSZ.out; refine hL.out rfl undef _ ⟨hbt.to hBB (by omega) hBB.size, u1.but hbt (by omega), u2.but hbt (by omega), u3.but hbt (by omega), i1.but hbt t0 (by decide), i2.but hbt t0 (by decide), i3.but hbt t0 (by decide), Nat.le_trans hl hbt.size⟩ (fun _ => trivial) ⟨b, c1, c2, c3, c4, eb, hlb, tb, IsBig.but Ic hbt t0 (by decide)⟩ ?_; exact claims_keep ⟨.inr fun h => BigV.but h hbt t0 (by decide), .inr fun h => BigV.but h hbt t0 (by decide), .inr is_keep, .inr fun h => BigV.but h hbt t0 (by decide), .inr fun h => BigV.but h hbt t0 (by decide), .inr fun h => BigV.but h hbt t0 (by decide), .inr fun h => BigV.but h hbt t0 (by decide), .inr fun h => BigV.but h hbt t0 (by decide), .inr fun h => BxV.but h hbt t0 tb (by rw [hsz]; rfl), .inl rfl, trivial⟩
  · intro va WA hW hV _
    obtain ⟨hBA, u1, u2, u3, i1, i2, i3, hlA⟩ := hW
    have h9 : BoxBig W1.heap.size (2 * (N * den) + L) (va 8) WA := hV 9 (by decide)
    obtain ⟨p5, n5, x5, k5, c5, e5, hl5, t5, I5⟩ := h9
    replace t5 : Blk WA p5 #[.bool n5, .slice x5 k5 c5] 41 := t5
    rw [eX] at I5
    clear hV
    simp only [puts, Act.put, List.setIfInBounds_toArray, List.set_cons_zero, List.set_cons_succ, Nat.zero_add, Nat.reduceAdd, e5]
    refine hK0 _ _ ?_
    clear hK0 e5 sND s2ND sN sd J1 J2 J3 t1 t2 t3 hB hl3
    have hWA := hBA.size
    have hl5' := t5.lt
    have hl2' := u2.lt
    have hl3' := u3.lt
    go_upto_region 13 with (fail)
    rename_i K1 hK1
    refine wp_region_calm (fun w' => Below w1.heap.size w1 w' ∧ Blk w' (p1 + 1) #[.bool n2, .slice x2 k2 c2] 41 ∧ Blk w' p3 #[.bool n3, .slice x3 k3 c3] 41 ∧ Blk w' p5 #[.bool n5, .slice x5 k5 c5] 41 ∧ IsBig w' n2 x2 k2 c2 L ∧ IsBig w' n3 x3 k3 c3 2 ∧ IsBig w' n5 x5 k5 c5 X ∧ WA.heap.size ≤ w'.heap.size) [] (fun w' => True) [bigC X, bigC 2, bigC L, bigC (2 * L), big2C F R, big2C F R, bigC F, bigC R, bxV WA.heap.size 41 2, bxV WA.heap.size 41 2, boxAt 8 WA.heap.size F, Cl.any] [8, 9] (by kernel_rfl) (by kernel_rfl) (by kernel_rfl) (by kernel_rfl) ⟨hBA.drew, u2, u3, t5, i2.drewd, i3.drewd, I5.drewd, Nat.le_refl _⟩ trivial ?_ ?_ ?_ ?_ ?_
    · rintro W W' ⟨hBB, v2, v3, v5, y2, y3, y5, hl⟩ hb
      exact ⟨hBB.trans (hb.mono hBB.size), v2.below hb, v3.below hb, v5.below hb, y2.keep hb, y3.keep hb, y5.keep hb, Nat.le_trans hl hb.size⟩
    · exact fun _ _ _ _ _ => trivial
    · intro k vs W hk h
      rcases (by simpa using hk : k = 8 ∨ k = 9) with rfl | rfl <;> (obtain ⟨b, cs, e, h1, h2, h3⟩ := h; exact ⟨b, e, h2.lt⟩)
    · intro Q; clear hK1 hBA u1 u2 u3 t5 i1 i2 i3 I5
      refine ⟨?_, ?_, ?_, ?_, ?_, ?_, ?_, ?_, ?_, ?_, ?_, ?_, trivial⟩
      · intro vs W hW hW0 hd hne hold K hK hA hL; clear hne hA hL; have hBB := hW.1; have v2 := hW.2.1; have v3 := hW.2.2.1; have v5 := hW.2.2.2.1; have y2 := hW.2.2.2.2.1; have y3 := hW.2.2.2.2.2.1; have y5 := hW.2.2.2.2.2.2.1; have hl := hW.2.2.2.2.2.2.2; simp only [puts, Act.put, List.setIfInBounds_toArray, List.set_cons_zero, List.set_cons_succ, Nat.zero_add, Nat.reduceAdd] at hK ⊢; have q1 := v5.cell 0 _ rfl; have q2 := v5.cell 1 _ rfl; clear hd hold; go_simp; exact hK.out rfl _ _ (Below.refl _ _) ⟨n5, x5, k5, c5, rfl, y5⟩
      · intro vs W hW hW0 hd hne hold K hK hA hL; clear hne hA hL; have hBB := hW.1; have v2 := hW.2.1; have v3 := hW.2.2.1; have v5 := hW.2.2.2.1; have y2 := hW.2.2.2.2.1; have y3 := hW.2.2.2.2.2.1; have y5 := hW.2.2.2.2.2.2.1; have hl := hW.2.2.2.2.2.2.2; simp only [puts, Act.put, List.setIfInBounds_toArray, List.set_cons_zero, List.set_cons_succ, Nat.zero_add, Nat.reduceAdd] at hK ⊢; have q1 := v3.cell 0 _ rfl; have q2 := v3.cell 1 _ rfl; clear hd hold; go_simp; exact hK.out rfl _ _ (Below.refl _ _) ⟨n3, x3, k3, c3, rfl, y3⟩
      · intro vs W hW hW0 hd hne hold K hK hA hL; clear hne hA hL; have hBB := hW.1; have v2 := hW.2.1; have v3 := hW.2.2.1; have v5 := hW.2.2.2.1; have y2 := hW.2.2.2.2.1; have y3 := hW.2.2.2.2.2.1; have y5 := hW.2.2.2.2.2.2.1; have hl := hW.2.2.2.2.2.2.2; simp only [puts, Act.put, List.setIfInBounds_toArray, List.set_cons_zero, List.set_cons_succ, Nat.zero_add, Nat.reduceAdd] at hK ⊢; have q1 := v2.cell 0 _ rfl; have q2 := v2.cell 1 _ rfl; clear hd hold; go_simp; exact hK.out rfl _ _ (Below.refl _ _) ⟨n2, x2, k2, c2, rfl, y2⟩
      · intro vs W hW hW0 hd hne hold K hK hA hL; clear hne hA hL; have hBB := hW.1; have v2 := hW.2.1; have v3 := hW.2.2.1; have v5 := hW.2.2.2.1; have y2 := hW.2.2.2.2.1; have y3 := hW.2.2.2.2.2.1; have y5 := hW.2.2.2.2.2.2.1; have hl := hW.2.2.2.2.2.2.2; simp only [puts, Act.put, List.setIfInBounds_toArray, List.set_cons_zero, List.set_cons_succ, Nat.zero_add, Nat.reduceAdd] at hK ⊢; (have hxb : BigV 2 (vs 1) W := hd 1 (by kernel_rfl)); obtain ⟨b1, b2, b3, b4, eb, Ib⟩ := hxb; (have hxc : BigV L (vs 2) W := hd 2 (by kernel_rfl)); obtain ⟨c1, c2, c3, c4, ec, Ic⟩ := hxc; have z1 := Ib.le s2; have z2 := Ic.le sL; clear hd hold; simp only [eb, ec] at hK; go_simp; refine (big_times b1 c1 b2 c2 b3 c3 b4 c4 2 L _ Ib Ic (by omega) (by omega)).mono ?_; (rintro e wx ⟨f1, f2, f3, f4, rfl, If, hbx⟩); go_simp; exact hK.out rfl _ _ hbx ⟨f1, f2, f3, f4, rfl, If⟩
      · intro vs W hW hW0 hd hne hold K hK hA hL; clear hne hA hL; have hBB := hW.1; have v2 := hW.2.1; have v3 := hW.2.2.1; have v5 := hW.2.2.2.1; have y2 := hW.2.2.2.2.1; have y3 := hW.2.2.2.2.2.1; have y5 := hW.2.2.2.2.2.2.1; have hl := hW.2.2.2.2.2.2.2; simp only [puts, Act.put, List.setIfInBounds_toArray, List.set_cons_zero, List.set_cons_succ, Nat.zero_add, Nat.reduceAdd] at hK ⊢; (have hxb : BigV X (vs 0) W := hd 0 (by kernel_rfl)); obtain ⟨b1, b2, b3, b4, eb, Ib⟩ := hxb; (have hxc : BigV (2 * L) (vs 3) W := hd 3 (by kernel_rfl)); obtain ⟨c1, c2, c3, c4, ec, Ic⟩ := hxc; have z1 := Ib.le sX; have z2 := Ic.le s2L; clear hd hold; simp only [eb, ec] at hK; go_simp; refine (DN b1 c1 b2 c2 b3 c3 b4 c4 _ Ib Ic (by omega) (by omega)).mono ?_; (rintro e wx ⟨f1, f2, f3, f4, u1, u2, u3, u4, rfl, If, Ig, hbx⟩); go_simp; exact hK.out rfl _ _ hbx ⟨f1, f2, f3, f4, u1, u2, u3, u4, rfl, If, Ig⟩
      · intro vs W hW hW0 hd hne hold K hK hA hL; clear hne hA hL; have hBB := hW.1; have v2 := hW.2.1; have v3 := hW.2.2.1; have v5 := hW.2.2.2.1; have y2 := hW.2.2.2.2.1; have y3 := hW.2.2.2.2.2.1; have y5 := hW.2.2.2.2.2.2.1; have hl := hW.2.2.2.2.2.2.2; simp only [puts, Act.put, List.setIfInBounds_toArray, List.set_cons_zero, List.set_cons_succ, Nat.zero_add, Nat.reduceAdd] at hK ⊢; have h1 : Big2V F R (vs 4) W := hd 4 (by kernel_rfl); obtain ⟨f1, f2, f3, f4, u1, u2, u3, u4, e1, If, Ig⟩ := h1; clear hd hold; simp only [e1] at hK; go_simp; exact hK.out rfl _ _ (Below.refl _ _) ⟨f1, f2, f3, f4, u1, u2, u3, u4, rfl, If, Ig⟩
      · intro vs W hW hW0 hd hne hold K hK hA hL; clear hne hA hL; have hBB := hW.1; have v2 := hW.2.1; have v3 := hW.2.2.1; have v5 := hW.2.2.2.1; have y2 := hW.2.2.2.2.1; have y3 := hW.2.2.2.2.2.1; have y5 := hW.2.2.2.2.2.2.1; have hl := hW.2.2.2.2.2.2.2; simp only [puts, Act.put, List.setIfInBounds_toArray, List.set_cons_zero, List.set_cons_succ, Nat.zero_add, Nat.reduceAdd] at hK ⊢; have h1 : Big2V F R (vs 5) W := hd 5 (by kernel_rfl); obtain ⟨f1, f2, f3, f4, u1, u2, u3, u4, e1, If, Ig⟩ := h1; clear hd hold; simp only [e1] at hK; go_simp; exact hK.out rfl _ _ (Below.refl _ _) ⟨f1, f2, f3, f4, rfl, If⟩
      · intro vs W hW hW0 hd hne hold K hK hA hL; clear hne hA hL; have hBB := hW.1; have v2 := hW.2.1; have v3 := hW.2.2.1; have v5 := hW.2.2.2.1; have y2 := hW.2.2.2.2.1; have y3 := hW.2.2.2.2.2.1; have y5 := hW.2.2.2.2.2.2.1; have hl := hW.2.2.2.2.2.2.2; simp only [puts, Act.put, List.setIfInBounds_toArray, List.set_cons_zero, List.set_cons_succ, Nat.zero_add, Nat.reduceAdd] at hK ⊢; have h1 : Big2V F R (vs 5) W := hd 5 (by kernel_rfl); obtain ⟨f1, f2, f3, f4, u1, u2, u3, u4, e1, If, Ig⟩ := h1; clear hd hold; simp only [e1] at hK; go_simp; exact hK.out rfl _ _ (Below.refl _ _) ⟨u1, u2, u3, u4, rfl, Ig⟩
      · intro vs W hW hW0 hd hne hold K hK hA hL; clear hne hK hL; have hBB := hW.1; have v2 := hW.2.1; have v3 := hW.2.2.1; have v5 := hW.2.2.2.1; have y2 := hW.2.2.2.2.1; have y3 := hW.2.2.2.2.2.1; have y5 := hW.2.2.2.2.2.2.1; have hl := hW.2.2.2.2.2.2.2; simp only [puts, Act.put, List.setIfInBounds_toArray, List.set_cons_zero, List.set_cons_succ, Nat.zero_add, Nat.reduceAdd] at hA ⊢; clear hd hold; go_simp; exact hA.out W.heap.size _ ((Below.refl _ _).alloc (Nat.le_refl _) _) (Nat.le_refl _) ⟨W.heap.size, _, rfl, hl, Blk.new _ _ _ _ rfl, rfl⟩
      · intro vs W hW hW0 hd hne hold K hK hA hL; clear hne hK hL; have hBB := hW.1; have v2 := hW.2.1; have v3 := hW.2.2.1; have v5 := hW.2.2.2.1; have y2 := hW.2.2.2.2.1; have y3 := hW.2.2.2.2.2.1; have y5 := hW.2.2.2.2.2.2.1; have hl := hW.2.2.2.2.2.2.2; simp only [puts, Act.put, List.setIfInBounds_toArray, List.set_cons_zero, List.set_cons_succ, Nat.zero_add, Nat.reduceAdd] at hA ⊢; clear hd hold; go_simp; exact hA.out W.heap.size _ ((Below.refl _ _).alloc (Nat.le_refl _) _) (Nat.le_refl _) ⟨W.heap.size, _, rfl, hl, Blk.new _ _ _ _ rfl, rfl⟩
      · intro vs W hW hW0 hd hne hold K hK hA hL; clear hK hA; have hBB := hW.1; have v2 := hW.2.1; have v3 := hW.2.2.1; have v5 := hW.2.2.2.1; have y2 := hW.2.2.2.2.1; have y3 := hW.2.2.2.2.2.1; have y5 := hW.2.2.2.2.2.2.1; have hl := hW.2.2.2.2.2.2.2; simp only [puts, Act.put, List.setIfInBounds_toArray, List.set_cons_zero, List.set_cons_succ, Nat.zero_add, Nat.reduceAdd] at hL ⊢; (have hxc : BigV F (vs 6) W := hd 6 (by kernel_rfl)); obtain ⟨c1, c2, c3, c4, ec, Ic⟩ := hxc; (have hxb : BxV WA.heap.size 41 2 (vs 8) W := hd 8 (by kernel_rfl)); obtain ⟨b, cs0, eb, hlb, t0, hsz⟩ := hxb; obtain ⟨z0, q0⟩ := t0.cellx 0 (by omega); have p0 := t0.free 0; obtain ⟨z1, q1⟩ := t0.cellx 1 (by omega); have p1 := t0.free 1; have tb := t0.set2 hsz (.bool c1) (.slice c2 c3 c4); have hbt := But.set2 (b := b) W (.bool c1) (.slice c2 c3 c4); clear hd hold; simp only [ec, eb] at hL; have HSZ := Lib.hid hsz; clear hsz; have HNE := Lib.hid hne; clear hne; go_simp; have hne := HNE.out; have hsz := HSZ.out; refine hL.out rfl undef _ ⟨hbt.to hBB (by omega) hBB.size, v2.but hbt (by omega), v3.but hbt (by omega), v5.but hbt (by omega), y2.but hbt t0 (by decide), y3.but hbt t0 (by decide), y5.but hbt t0 (by decide), Nat.le_trans hl hbt.size⟩ (fun _ => trivial) ⟨b, c1, c2, c3, c4, eb, hlb, tb, IsBig.but Ic hbt t0 (by decide)⟩ ?_; exact claims_keep ⟨.inr fun h => BigV.but h hbt t0 (by decide), .inr fun h => BigV.but h hbt t0 (by decide), .inr fun h => BigV.but h hbt t0 (by decide), .inr fun h => BigV.but h hbt t0 (by decide), .inr fun h => Big2V.but h hbt t0 (by decide), .inr fun h => Big2V.but h hbt t0 (by decide), .inr fun h => BigV.but h hbt t0 (by decide), .inr fun h => BigV.but h hbt t0 (by decide), .inr fun h => BxV.but h hbt t0 tb (by rw [hsz]; rfl), .inr fun h => BxV.but h hbt t0 tb (by rw [hsz]; rfl), .inl rfl, .inr fun _ => trivial, trivial⟩
      · intro vs W hW hW0 hd hne hold K hK hA hL; clear hK hA; have hBB := hW.1; have v2 := hW.2.1; have v3 := hW.2.2.1; have v5 := hW.2.2.2.1; have y2 := hW.2.2.2.2.1; have y3 := hW.2.2.2.2.2.1; have y5 := hW.2.2.2.2.2.2.1; have hl := hW.2.2.2.2.2.2.2; simp only [puts, Act.put, List.setIfInBounds_toArray, List.set_cons_zero, List.set_cons_succ, Nat.zero_add, Nat.reduceAdd] at hL ⊢; (have hxc : BigV R (vs 7) W := hd 7 (by kernel_rfl)); obtain ⟨c1, c2, c3, c4, ec, Ic⟩ := hxc; (have hxb : BxV WA.heap.size 41 2 (vs 9) W := hd 9 (by kernel_rfl)); obtain ⟨b, cs0, eb, hlb, t0, hsz⟩ := hxb; obtain ⟨z0, q0⟩ := t0.cellx 0 (by omega); have p0 := t0.free 0; obtain ⟨z1, q1⟩ := t0.cellx 1 (by omega); have p1 := t0.free 1; have tb := t0.set2 hsz (.bool c1) (.slice c2 c3 c4); have hbt := But.set2 (b := b) W (.bool c1) (.slice c2 c3 c4); clear hd hold; simp only [ec, eb] at hL; have HSZ := Lib.hid hsz; clear hsz; have HNE := Lib.hid hne; clear hne; go_simp; have hne := HNE.out; have hsz := HSZ.out; have hnb : vs 8 ≠ .pointer (some ⟨b, 0, none⟩) := fun x => hne 9 8 (by decide) (by kernel_rfl) (by rw [eb, x]); refine hL.out rfl undef _ ⟨hbt.to hBB (by omega) hBB.size, v2.but hbt (by omega), v3.but hbt (by omega), v5.but hbt (by omega), y2.but hbt t0 (by decide), y3.but hbt t0 (by decide), y5.but hbt t0 (by decide), Nat.le_trans hl hbt.size⟩ (fun _ => trivial) trivial ?_; exact claims_keep ⟨.inr fun h => BigV.but h hbt t0 (by decide), .inr fun h => BigV.but h hbt t0 (by decide), .inr fun h => BigV.but h hbt t0 (by decide), .inr fun h => BigV.but h hbt t0 (by decide), .inr fun h => Big2V.but h hbt t0 (by decide), .inr fun h => Big2V.but h hbt t0 (by decide), .inr fun h => BigV.but h hbt t0 (by decide), .inr fun h => BigV.but h hbt t0 (by decide), .inr fun h => BxV.but h hbt t0 tb (by rw [hsz]; rfl), .inr fun h => BxV.but h hbt t0 tb (by rw [hsz]; rfl), .inr fun h => BoxBig.but h hbt t0 (by decide) hnb, .inl rfl, trivial⟩
    · intro vb WB hW hV _
      obtain ⟨hBC, -⟩ := hW
      have h9 : BoxBig WA.heap.size F (vb 8) WB := hV 10 (by decide)
      obtain ⟨p7, n7, x7, k7, c7, e7, hl7, t7, I7⟩ := h9
      replace t7 : Blk WB p7 #[.bool n7, .slice x7 k7 c7] 41 := t7
      clear hV hBA u1 u2 u3 t5 i1 i2 i3 I5
      simp only [puts, Act.put, List.setIfInBounds_toArray, List.set_cons_zero, List.set_cons_succ, Nat.zero_add, Nat.reduceAdd, e7]
      refine hK1 _ _ ?_
      clear hK1 e7 DN sX s2L s2 sL eX
      have hWB := hBC.size
      have z7 := I7.le sF
      go_upto_region 14 with (fail)
      rename_i K2 hK2
      refine wp_region_calm (fun w' => Below w1.heap.size w1 w' ∧ Blk w' p7 #[.bool n7, .slice x7 k7 c7] 41 ∧ IsBig w' n7 x7 k7 c7 F) [] (fun w' => True) [bigC F, Is (.int .i64 low), bigC low, Is (.int .i64 (cmpI F low)), Is (.bool (decide (cmpI F low < 0)))] [] (by kernel_rfl) (by kernel_rfl) (by kernel_rfl) (by kernel_rfl) ⟨hBC.drew, t7, I7.drewd⟩ trivial ?_ ?_ ?_ ?_ ?_
      · rintro W W' ⟨hBB, v7, y7⟩ hb
        exact ⟨hBB.trans (hb.mono hBB.size), v7.below hb, y7.keep hb⟩
      · exact fun _ _ _ _ _ => trivial
      · intro k vs W hk h
        exact absurd hk (by simp)
      · intro Q; clear hK2 hBC t7 I7
        refine ⟨?_, ?_, ?_, ?_, ?_, trivial⟩
        · intro vs W hW hW0 hd hne hold K hK hA hL; clear hne hA hL; have hBB := hW.1; have v7 := hW.2.1; have y7 := hW.2.2; simp only [puts, Act.put, List.setIfInBounds_toArray, List.set_cons_zero, List.set_cons_succ, Nat.zero_add, Nat.reduceAdd] at hK ⊢; have q1 := v7.cell 0 _ rfl; have q2 := v7.cell 1 _ rfl; clear hd hold; go_simp; exact hK.out rfl _ _ (Below.refl _ _) ⟨n7, x7, k7, c7, rfl, y7⟩
        · intro vs W hW hW0 hd hne hold K hK hA hL; clear hne hA hL; have hBB := hW.1; have v7 := hW.2.1; have y7 := hW.2.2; simp only [puts, Act.put, List.setIfInBounds_toArray, List.set_cons_zero, List.set_cons_succ, Nat.zero_add, Nat.reduceAdd] at hK ⊢; clear hd hold; go_simp; exact hK.out rfl _ _ (Below.refl _ _) rfl
        · intro vs W hW hW0 hd hne hold K hK hA hL; clear hne hA hL; have hBB := hW.1; have v7 := hW.2.1; have y7 := hW.2.2; simp only [puts, Act.put, List.setIfInBounds_toArray, List.set_cons_zero, List.set_cons_succ, Nat.zero_add, Nat.reduceAdd] at hK ⊢; have eb : vs 1 = _ := hd 1 (by kernel_rfl); clear hd hold; simp only [eb] at hK; go_simp; refine (big_of low l1 l2 _).mono ?_; (rintro e wx ⟨f1, f2, f3, f4, rfl, If, hbx⟩); go_simp; exact hK.out rfl _ _ hbx ⟨f1, f2, f3, f4, rfl, If⟩
        · intro vs W hW hW0 hd hne hold K hK hA hL; clear hne hA hL; have hBB := hW.1; have v7 := hW.2.1; have y7 := hW.2.2; simp only [puts, Act.put, List.setIfInBounds_toArray, List.set_cons_zero, List.set_cons_succ, Nat.zero_add, Nat.reduceAdd] at hK ⊢; (have hxb : BigV F (vs 0) W := hd 0 (by kernel_rfl)); obtain ⟨b1, b2, b3, b4, eb, Ib⟩ := hxb; (have hxc : BigV low (vs 2) W := hd 2 (by kernel_rfl)); obtain ⟨c1, c2, c3, c4, ec, Ic⟩ := hxc; have z1 := Ib.le sF; have z2 := Ic.le (BM.Sz.i64 l1 l2); clear hd hold; simp only [eb, ec] at hK; go_simp; refine (big_cmp b1 c1 b2 c2 b3 c3 b4 c4 F low _ Ib Ic (by omega) (by omega)).mono ?_; (rintro e wx ⟨rfl, hbx⟩); go_simp; exact hK.out rfl _ _ hbx rfl
        · intro vs W hW hW0 hd hne hold K hK hA hL; clear hne hA hL; have hBB := hW.1; have v7 := hW.2.1; have y7 := hW.2.2; simp only [puts, Act.put, List.setIfInBounds_toArray, List.set_cons_zero, List.set_cons_succ, Nat.zero_add, Nat.reduceAdd] at hK ⊢; have e3 : vs 3 = _ := hd 3 (by kernel_rfl); clear hd hold; simp only [e3] at hK; go_simp; exact hK.out rfl _ _ (Below.refl _ _) rfl
      · intro vc WC hW hV _
        obtain ⟨hBD, u7, i7⟩ := hW
        have e4 : vc 4 = .bool (decide (cmpI F low < 0)) := hV 4 (by decide)
        clear hV hBC t7 I7
        simp only [puts, Act.put, List.setIfInBounds_toArray, List.set_cons_zero, List.set_cons_succ, Nat.zero_add, Nat.reduceAdd, e4]
        refine hK2 _ _ ?_
        clear hK2 e4
        have hc1 : decide (cmpI F low < 0) = decide (F < low) := by
          unfold cmpI
          by_cases h : F < low
          · simp [h]
          · simp only [h, if_false]; split <;> simp
        rw [hc1]
        clear hc1
        by_cases g1 : F < low
        · have hR2 : gridR b den low high = (low, 0) := by rw [HR.out]; unfold clampI; rw [if_pos g1]
          have HR2 := Lib.hid hR2
          clear hR2
          go_wp2_with fail
          rw [EQ.out, HR2.out]
          exact ⟨rfl, hBD⟩
        · have g1b : decide (F < low) = false := by simp; omega
          rw [g1b]
          clear g1b
          go_upto_region 16 with (fail)
          go_upto_region 16 with (fail)
          rename_i K3 hK3
          refine wp_region_calm (fun w' => Below w1.heap.size w1 w' ∧ Blk w' p7 #[.bool n7, .slice x7 k7 c7] 41 ∧ IsBig w' n7 x7 k7 c7 F) [] (fun w' => True) [bigC F, Is (.int .i64 high), bigC high, Is (.int .i64 (cmpI F high)), Is (.bool (decide (0 < cmpI F high)))] [] (by kernel_rfl) (by kernel_rfl) (by kernel_rfl) (by kernel_rfl) ⟨hBD.drew, u7, i7.drewd⟩ trivial ?_ ?_ ?_ ?_ ?_
          · rintro W W' ⟨hBB, v7, y7⟩ hb
            exact ⟨hBB.trans (hb.mono hBB.size), v7.below hb, y7.keep hb⟩
          · exact fun _ _ _ _ _ => trivial
          · intro k vs W hk h
            exact absurd hk (by simp)
          · intro Q; clear hK3 hBD u7 i7
            refine ⟨?_, ?_, ?_, ?_, ?_, trivial⟩
            · intro vs W hW hW0 hd hne hold K hK hA hL; clear hne hA hL; have hBB := hW.1; have v7 := hW.2.1; have y7 := hW.2.2; simp only [puts, Act.put, List.setIfInBounds_toArray, List.set_cons_zero, List.set_cons_succ, Nat.zero_add, Nat.reduceAdd] at hK ⊢; have q1 := v7.cell 0 _ rfl; have q2 := v7.cell 1 _ rfl; clear hd hold; go_simp; exact hK.out rfl _ _ (Below.refl _ _) ⟨n7, x7, k7, c7, rfl, y7⟩
            · intro vs W hW hW0 hd hne hold K hK hA hL; clear hne hA hL; have hBB := hW.1; have v7 := hW.2.1; have y7 := hW.2.2; simp only [puts, Act.put, List.setIfInBounds_toArray, List.set_cons_zero, List.set_cons_succ, Nat.zero_add, Nat.reduceAdd] at hK ⊢; clear hd hold; go_simp; exact hK.out rfl _ _ (Below.refl _ _) rfl
            · intro vs W hW hW0 hd hne hold K hK hA hL; clear hne hA hL; have hBB := hW.1; have v7 := hW.2.1; have y7 := hW.2.2; simp only [puts, Act.put, List.setIfInBounds_toArray, List.set_cons_zero, List.set_cons_succ, Nat.zero_add, Nat.reduceAdd] at hK ⊢; have eb : vs 1 = _ := hd 1 (by kernel_rfl); clear hd hold; simp only [eb] at hK; go_simp; refine (big_of high h1 h2 _).mono ?_; (rintro e wx ⟨f1, f2, f3, f4, rfl, If, hbx⟩); go_simp; exact hK.out rfl _ _ hbx ⟨f1, f2, f3, f4, rfl, If⟩
            · intro vs W hW hW0 hd hne hold K hK hA hL; clear hne hA hL; have hBB := hW.1; have v7 := hW.2.1; have y7 := hW.2.2; simp only [puts, Act.put, List.setIfInBounds_toArray, List.set_cons_zero, List.set_cons_succ, Nat.zero_add, Nat.reduceAdd] at hK ⊢; (have hxb : BigV F (vs 0) W := hd 0 (by kernel_rfl)); obtain ⟨b1, b2, b3, b4, eb, Ib⟩ := hxb; (have hxc : BigV high (vs 2) W := hd 2 (by kernel_rfl)); obtain ⟨c1, c2, c3, c4, ec, Ic⟩ := hxc; have z1 := Ib.le sF; have z2 := Ic.le (BM.Sz.i64 h1 h2); clear hd hold; simp only [eb, ec] at hK; go_simp; refine (big_cmp b1 c1 b2 c2 b3 c3 b4 c4 F high _ Ib Ic (by omega) (by omega)).mono ?_; (rintro e wx ⟨rfl, hbx⟩); go_simp; exact hK.out rfl _ _ hbx rfl
            · intro vs W hW hW0 hd hne hold K hK hA hL; clear hne hA hL; have hBB := hW.1; have v7 := hW.2.1; have y7 := hW.2.2; simp only [puts, Act.put, List.setIfInBounds_toArray, List.set_cons_zero, List.set_cons_succ, Nat.zero_add, Nat.reduceAdd] at hK ⊢; have e3 : vs 3 = _ := hd 3 (by kernel_rfl); clear hd hold; simp only [e3] at hK; go_simp; exact hK.out rfl _ _ (Below.refl _ _) rfl
          · intro vd WD hW hV _
            obtain ⟨hBE, u8, i8⟩ := hW
            have e4 : vd 4 = .bool (decide (0 < cmpI F high)) := hV 4 (by decide)
            clear hV hBD u7 i7
            simp only [puts, Act.put, List.setIfInBounds_toArray, List.set_cons_zero, List.set_cons_succ, Nat.zero_add, Nat.reduceAdd, e4]
            refine hK3 _ _ ?_
            clear hK3 e4
            have hc1 : decide (0 < cmpI F high) = decide (high < F) := by
              unfold cmpI
              by_cases h : F < high
              · rw [if_pos h, decide_eq_false (show ¬ (0 : Int) < -1 by omega), decide_eq_false (show ¬ high < F by omega)]
              · rw [if_neg h]
                by_cases h' : high < F
                · rw [if_pos h', decide_eq_true h', decide_eq_true (show (0 : Int) < 1 by omega)]
                · rw [if_neg h', decide_eq_false h', decide_eq_false (show ¬ (0 : Int) < 0 by omega)]
            rw [hc1]
            clear hc1
            by_cases g2 : high < F
            · have hR2 : gridR b den low high = (high, 0) := by rw [HR.out]; unfold clampI; rw [if_neg g1, if_pos g2]
              have HR2 := Lib.hid hR2
              clear hR2
              go_wp2_with fail
              rw [EQ.out, HR2.out]
              exact ⟨rfl, hBE⟩
            · have hR2 : gridR b den low high = (F, 0) := by rw [HR.out]; unfold clampI; rw [if_neg g1, if_neg g2]
              have HR2 := Lib.hid hR2
              have g2b : decide (high < F) = false := by simp; omega
              have hi : intV F = F := by unfold intV; rw [show intB F = true by unfold intB; simp; omega]; rfl
              have IT := big_int n7 x7 k7 c7 F WD i8 (by omega)
              rw [hi] at IT
              obtain ⟨ib, eib⟩ : ∃ v, intB F = v := ⟨_, rfl⟩
              rw [eib] at IT
              have q1 := u8.cell 0 _ rfl
              have q2 := u8.cell 1 _ rfl
              clear hR2 hi eib
              go_wp2_with (go_at_call 69; with_reducible refine IT.mono ?_; rintro e w9 ⟨rfl, hb9⟩)
              rw [EQ.out, HR2.out]
              exact ⟨rfl, hBE.trans (hb9.mono hBE.size)⟩
end Go.Proofs.YtmkblfejoniccaaDoor
namespace Go.Proofs.YtmkblfejoniccaaDoor
open Go.RowKit
set_option linter.unusedSimpArgs false
set_option linter.unusedVariables false

theorem ne_dec (x : Int) : (x != 0) = decide (x ≠ 0) := by by_cases h : x = 0 <;> simp [h]
/-- Is a power of two in a sum? -/
def mayB (m p : Int) : Bool := decide (m / p % 2 ≠ 0)
theorem may_tab : (List.range 256).all (fun m => ((bits .and .i64 (m : Int) 1 == 0) == !(mayB m 1)) && ((bits .and .i64 (m : Int) 2 == 0) == !(mayB m 2)) && ((bits .and .i64 (m : Int) 4 == 0) == !(mayB m 4)) && ((bits .and .i64 (m : Int) 8 == 0) == !(mayB m 8))) = true := by kernel_rfl
theorem may_bits {m : Int} (h0 : 0 ≤ m) (h1 : m ≤ 255) : (bits .and .i64 m 1 == 0) = !(mayB m 1) ∧ (bits .and .i64 m 2 == 0) = !(mayB m 2) ∧ (bits .and .i64 m 4 == 0) = !(mayB m 4) ∧ (bits .and .i64 m 8 == 0) = !(mayB m 8) := by
  obtain ⟨n, rfl⟩ := Int.eq_ofNat_of_zero_le h0
  have := List.all_eq_true.1 may_tab n (List.mem_range.2 (by omega))
  simp only [Bool.and_eq_true, beq_iff_eq] at this
  exact ⟨this.1.1.1, this.1.1.2, this.1.2, this.2⟩
set_option maxRecDepth 100000 in
set_option maxHeartbeats 1600000 in
theorem ref9_may (m p : Int) (h0 : 0 ≤ m) (h1 : m ≤ 255) (hp : p = 1 ∨ p = 2 ∨ p = 4 ∨ p = 8) (w : World) : Calls Tryd.prog 103 #[.int .i64 m, .int .i64 p] w fun e w' => e = .returned (.bool (mayB m p)) ∧ w' = w := by
  unfold mayB
  rcases hp with rfl | rfl | rfl | rfl
  · have e1 := Int.tmod_eq_emod_of_nonneg (a := m) (b := 2) (by omega)
    go_enter Tryd.func103, Tryd.ntmps103
    go_wp2_with fail
    go_ret
    refine ⟨?_, rfl⟩
    show Ending.returned (.bool (m % 2 != 0)) = _
    rw [ne_dec, Int.ediv_one]
  · have e1 := Int.tmod_eq_emod_of_nonneg (a := m / 2) (b := 2) (by omega)
    go_enter Tryd.func103, Tryd.ntmps103
    go_wp2_with fail
    go_ret
    refine ⟨?_, rfl⟩
    show Ending.returned (.bool (m / 2 % 2 != 0)) = _
    rw [ne_dec]
  · have e1 := Int.tmod_eq_emod_of_nonneg (a := m / 4) (b := 2) (by omega)
    go_enter Tryd.func103, Tryd.ntmps103
    go_wp2_with fail
    go_ret
    refine ⟨?_, rfl⟩
    show Ending.returned (.bool (m / 4 % 2 != 0)) = _
    rw [ne_dec]
  · have e1 := Int.tmod_eq_emod_of_nonneg (a := m / 8) (b := 2) (by omega)
    go_enter Tryd.func103, Tryd.ntmps103
    go_wp2_with fail
    go_ret
    refine ⟨?_, rfl⟩
    show Ending.returned (.bool (m / 8 % 2 != 0)) = _
    rw [ne_dec]
set_option maxRecDepth 100000 in
set_option maxHeartbeats 3200000 in
theorem ref9_decode (b : Nat) (hb : b < 18446744073709551616) (pct a1 a2 a4 a8 : Bool) (m : Int) (M1 : ∀ w, Calls Tryd.prog 103 #[.int .i64 m, .int .i64 1] w fun e w' => e = .returned (.bool a1) ∧ w' = w) (M2 : ∀ w, Calls Tryd.prog 103 #[.int .i64 m, .int .i64 2] w fun e w' => e = .returned (.bool a2) ∧ w' = w) (M4 : ∀ w, Calls Tryd.prog 103 #[.int .i64 m, .int .i64 4] w fun e w' => e = .returned (.bool a4) ∧ w' = w) (M8 : ∀ w, Calls Tryd.prog 103 #[.int .i64 m, .int .i64 8] w fun e w' => e = .returned (.bool a8) ∧ w' = w) (w : World) :
    Calls Tryd.prog 76 #[.int .u64 (b : Int), .bool pct, .int .i64 m] w fun e w' => e = .returned (.tuple #[.agg #[.int .i64 ((vD b pct a1 a2 a4 a8).1), .int .i64 ((vD b pct a1 a2 a4 a8).2.1)], .int .i64 ((vD b pct a1 a2 a4 a8).2.2)]) ∧ Below w.heap.size w w' := by
  have KI := ref3_kind b hb
  have GR := fun W => ref3_grid b hb 64 (-2000000000) 2000000000 (by unfold IFit; omega) (by unfold IFit; omega) (by unfold IFit; omega) W
  have hdn : fDn b = if fKi b = 1 then false else fSg b := rfl
  obtain ⟨r, er⟩ : ∃ r, vD b pct a1 a2 a4 a8 = r := ⟨_, rfl⟩
  rw [er]
  obtain ⟨K, n, c⟩ := r
  dsimp only
  unfold vD at er
  obtain ⟨s, es⟩ : ∃ s, fSg b = s := ⟨_, rfl⟩
  rw [es] at er hdn
  by_cases k1 : fKi b = 1
  · rw [if_pos k1] at hdn er
    have K1 : ∀ w, Calls Tryd.prog 22 #[.int .u64 (b : Int)] w fun e w' => e = .returned (.tuple #[.int .i64 1, .bool false]) ∧ w' = w := fun w => by
      have q := KI w
      rw [k1, hdn] at q
      exact q
    clear KI GR k1 hdn es M2 M4 M8
    cases a1
    · simp only [Bool.false_eq_true, if_false] at er
      obtain ⟨rfl, rfl, rfl⟩ : 0 = K ∧ 0 = n ∧ 4 = c := by simpa using er
      clear er
      go_enter Tryd.func76, Tryd.ntmps76
      go_wp2_with (first
        | (go_at_call 22; with_reducible refine (K1 _).mono ?_; rintro e w1 ⟨rfl, rfl⟩)
        | (go_at_call 103; with_reducible refine (M1 _).mono ?_; rintro e w1 ⟨rfl, rfl⟩)
        | (go_at_call 103; with_reducible refine (M2 _).mono ?_; rintro e w1 ⟨rfl, rfl⟩)
        | (go_at_call 103; with_reducible refine (M4 _).mono ?_; rintro e w1 ⟨rfl, rfl⟩)
        | (go_at_call 103; with_reducible refine (M8 _).mono ?_; rintro e w1 ⟨rfl, rfl⟩)
        | (go_at_call 27; with_reducible refine (GR _).mono ?_; rintro e w2 ⟨rfl, hb2⟩; have hs2 := hb2.size; simp at hs2; obtain ⟨hc2, hf2⟩ := bcell hb2))
      (go_light; simp [bodyPost, results, Tryd.results76, go_sem, *])
      exact (by repeat' (first | (with_reducible exact Below.refl _ _) | (with_reducible assumption) | (with_reducible refine below_alloc ?_ _ ?_) | (with_reducible refine below_set _ ?_ ?_) | (with_reducible refine Below.drew ?_) | (with_reducible refine below_dN ?_ _) | (apply below_thenA; assumption) | omega | (simp; done) | (simp; omega) | (simp [*]; done)))
    · simp only [if_true] at er
      obtain ⟨rfl, rfl, rfl⟩ : 1 = K ∧ 0 = n ∧ 0 = c := by simpa using er
      clear er
      go_enter Tryd.func76, Tryd.ntmps76
      go_wp2_with (first
        | (go_at_call 22; with_reducible refine (K1 _).mono ?_; rintro e w1 ⟨rfl, rfl⟩)
        | (go_at_call 103; with_reducible refine (M1 _).mono ?_; rintro e w1 ⟨rfl, rfl⟩)
        | (go_at_call 103; with_reducible refine (M2 _).mono ?_; rintro e w1 ⟨rfl, rfl⟩)
        | (go_at_call 103; with_reducible refine (M4 _).mono ?_; rintro e w1 ⟨rfl, rfl⟩)
        | (go_at_call 103; with_reducible refine (M8 _).mono ?_; rintro e w1 ⟨rfl, rfl⟩)
        | (go_at_call 27; with_reducible refine (GR _).mono ?_; rintro e w2 ⟨rfl, hb2⟩; have hs2 := hb2.size; simp at hs2; obtain ⟨hc2, hf2⟩ := bcell hb2))
      (go_light; simp [bodyPost, results, Tryd.results76, go_sem, *])
      exact (by repeat' (first | (with_reducible exact Below.refl _ _) | (with_reducible assumption) | (with_reducible refine below_alloc ?_ _ ?_) | (with_reducible refine below_set _ ?_ ?_) | (with_reducible refine Below.drew ?_) | (with_reducible refine below_dN ?_ _) | (apply below_thenA; assumption) | omega | (simp; done) | (simp; omega) | (simp [*]; done)))
  rw [if_neg k1] at hdn er
  by_cases k2 : fKi b = 2
  · rw [if_pos k2] at er
    have K1 : ∀ w, Calls Tryd.prog 22 #[.int .u64 (b : Int)] w fun e w' => e = .returned (.tuple #[.int .i64 2, .bool s]) ∧ w' = w := fun w => by
      have q := KI w
      rw [k2, hdn] at q
      exact q
    clear KI GR k1 k2 hdn es M1 M4 M8
    cases s
    · cases a2
      · simp only [Bool.false_or, Bool.not_false, if_true] at er
        obtain ⟨rfl, rfl, rfl⟩ : 0 = K ∧ 0 = n ∧ 5 = c := by simpa using er
        clear er
        go_enter Tryd.func76, Tryd.ntmps76
        go_wp2_with (first
          | (go_at_call 22; with_reducible refine (K1 _).mono ?_; rintro e w1 ⟨rfl, rfl⟩)
          | (go_at_call 103; with_reducible refine (M1 _).mono ?_; rintro e w1 ⟨rfl, rfl⟩)
          | (go_at_call 103; with_reducible refine (M2 _).mono ?_; rintro e w1 ⟨rfl, rfl⟩)
          | (go_at_call 103; with_reducible refine (M4 _).mono ?_; rintro e w1 ⟨rfl, rfl⟩)
          | (go_at_call 103; with_reducible refine (M8 _).mono ?_; rintro e w1 ⟨rfl, rfl⟩)
          | (go_at_call 27; with_reducible refine (GR _).mono ?_; rintro e w2 ⟨rfl, hb2⟩; have hs2 := hb2.size; simp at hs2; obtain ⟨hc2, hf2⟩ := bcell hb2))
        (go_light; simp [bodyPost, results, Tryd.results76, go_sem, *])
        exact (by repeat' (first | (with_reducible exact Below.refl _ _) | (with_reducible assumption) | (with_reducible refine below_alloc ?_ _ ?_) | (with_reducible refine below_set _ ?_ ?_) | (with_reducible refine Below.drew ?_) | (with_reducible refine below_dN ?_ _) | (apply below_thenA; assumption) | omega | (simp; done) | (simp; omega) | (simp [*]; done)))
      · simp only [Bool.false_or, Bool.not_true, Bool.false_eq_true, if_false] at er
        obtain ⟨rfl, rfl, rfl⟩ : 2 = K ∧ 0 = n ∧ 0 = c := by simpa using er
        clear er
        go_enter Tryd.func76, Tryd.ntmps76
        go_wp2_with (first
          | (go_at_call 22; with_reducible refine (K1 _).mono ?_; rintro e w1 ⟨rfl, rfl⟩)
          | (go_at_call 103; with_reducible refine (M1 _).mono ?_; rintro e w1 ⟨rfl, rfl⟩)
          | (go_at_call 103; with_reducible refine (M2 _).mono ?_; rintro e w1 ⟨rfl, rfl⟩)
          | (go_at_call 103; with_reducible refine (M4 _).mono ?_; rintro e w1 ⟨rfl, rfl⟩)
          | (go_at_call 103; with_reducible refine (M8 _).mono ?_; rintro e w1 ⟨rfl, rfl⟩)
          | (go_at_call 27; with_reducible refine (GR _).mono ?_; rintro e w2 ⟨rfl, hb2⟩; have hs2 := hb2.size; simp at hs2; obtain ⟨hc2, hf2⟩ := bcell hb2))
        (go_light; simp [bodyPost, results, Tryd.results76, go_sem, *])
        exact (by repeat' (first | (with_reducible exact Below.refl _ _) | (with_reducible assumption) | (with_reducible refine below_alloc ?_ _ ?_) | (with_reducible refine below_set _ ?_ ?_) | (with_reducible refine Below.drew ?_) | (with_reducible refine below_dN ?_ _) | (apply below_thenA; assumption) | omega | (simp; done) | (simp; omega) | (simp [*]; done)))
    · simp only [Bool.true_or, if_true] at er
      obtain ⟨rfl, rfl, rfl⟩ : 0 = K ∧ 0 = n ∧ 5 = c := by simpa using er
      clear er
      go_enter Tryd.func76, Tryd.ntmps76
      go_wp2_with (first
        | (go_at_call 22; with_reducible refine (K1 _).mono ?_; rintro e w1 ⟨rfl, rfl⟩)
        | (go_at_call 103; with_reducible refine (M1 _).mono ?_; rintro e w1 ⟨rfl, rfl⟩)
        | (go_at_call 103; with_reducible refine (M2 _).mono ?_; rintro e w1 ⟨rfl, rfl⟩)
        | (go_at_call 103; with_reducible refine (M4 _).mono ?_; rintro e w1 ⟨rfl, rfl⟩)
        | (go_at_call 103; with_reducible refine (M8 _).mono ?_; rintro e w1 ⟨rfl, rfl⟩)
        | (go_at_call 27; with_reducible refine (GR _).mono ?_; rintro e w2 ⟨rfl, hb2⟩; have hs2 := hb2.size; simp at hs2; obtain ⟨hc2, hf2⟩ := bcell hb2))
      (go_light; simp [bodyPost, results, Tryd.results76, go_sem, *])
      exact (by repeat' (first | (with_reducible exact Below.refl _ _) | (with_reducible assumption) | (with_reducible refine below_alloc ?_ _ ?_) | (with_reducible refine below_set _ ?_ ?_) | (with_reducible refine Below.drew ?_) | (with_reducible refine below_dN ?_ _) | (apply below_thenA; assumption) | omega | (simp; done) | (simp; omega) | (simp [*]; done)))
  rw [if_neg k2] at er
  rw [gridR_num (by omega) k1 k2] at GR
  dsimp only at GR
  obtain ⟨k, ek⟩ : ∃ k, fKi b = k := ⟨_, rfl⟩
  rw [ek] at k1 k2
  rw [ek, hdn] at KI
  have K1 := KI
  have q1 : ((k : Int) == 1) = false := by simp; omega
  have q2 : ((k : Int) == 2) = false := by simp; omega
  unfold vN at er
  obtain ⟨G, eG⟩ : ∃ G, gN b 64 = G := ⟨_, rfl⟩
  rw [eG] at er GR
  have hcl : (G < -1073741824 → clampI G (-2000000000) 2000000000 < -1073741824) ∧ (1073741824 < G → 1073741824 < clampI G (-2000000000) 2000000000) ∧ (-1073741824 ≤ G → G ≤ 1073741824 → clampI G (-2000000000) 2000000000 = G) := by
    unfold clampI
    refine ⟨fun h => ?_, fun h => ?_, fun h h' => ?_⟩
    all_goals split
    all_goals first | omega | (split <;> omega)
  obtain ⟨g, eg⟩ : ∃ g, clampI G (-2000000000) 2000000000 = g := ⟨_, rfl⟩
  rw [eg] at hcl GR
  clear KI eG eg k1 k2 ek hdn es M1 M2
  cases pct
  · clear M4
    simp only [Bool.false_and, Bool.true_and, Bool.not_true, Bool.not_false, Bool.false_eq_true, if_false, if_true] at er
    by_cases h1 : G < -1073741824
    · rw [if_pos (.inl h1)] at er
      have hg := hcl.1 h1
      obtain ⟨rfl, rfl, rfl⟩ : 0 = K ∧ 0 = n ∧ 2 = c := by simpa using er
      clear er h1 hcl M8
      go_enter Tryd.func76, Tryd.ntmps76
      go_wp2_with (first
        | (go_at_call 22; with_reducible refine (K1 _).mono ?_; rintro e w1 ⟨rfl, rfl⟩)
        | (go_at_call 103; with_reducible refine (M1 _).mono ?_; rintro e w1 ⟨rfl, rfl⟩)
        | (go_at_call 103; with_reducible refine (M2 _).mono ?_; rintro e w1 ⟨rfl, rfl⟩)
        | (go_at_call 103; with_reducible refine (M4 _).mono ?_; rintro e w1 ⟨rfl, rfl⟩)
        | (go_at_call 103; with_reducible refine (M8 _).mono ?_; rintro e w1 ⟨rfl, rfl⟩)
        | (go_at_call 27; with_reducible refine (GR _).mono ?_; rintro e w2 ⟨rfl, hb2⟩; have hs2 := hb2.size; simp at hs2; obtain ⟨hc2, hf2⟩ := bcell hb2))
      (go_light; simp [bodyPost, results, Tryd.results76, go_sem, *])
      exact (by repeat' (first | (with_reducible exact Below.refl _ _) | (with_reducible assumption) | (with_reducible refine below_alloc ?_ _ ?_) | (with_reducible refine below_set _ ?_ ?_) | (with_reducible refine Below.drew ?_) | (with_reducible refine below_dN ?_ _) | (apply below_thenA; assumption) | omega | (simp; done) | (simp; omega) | (simp [*]; done)))
    by_cases h2 : 1073741824 < G
    · rw [if_pos (.inr h2)] at er
      have hg := hcl.2.1 h2
      have d1 : decide (g < -1073741824) = false := by simp; omega
      obtain ⟨rfl, rfl, rfl⟩ : 0 = K ∧ 0 = n ∧ 2 = c := by simpa using er
      clear er h1 h2 hcl M8
      go_enter Tryd.func76, Tryd.ntmps76
      go_wp2_with (first
        | (go_at_call 22; with_reducible refine (K1 _).mono ?_; rintro e w1 ⟨rfl, rfl⟩)
        | (go_at_call 103; with_reducible refine (M1 _).mono ?_; rintro e w1 ⟨rfl, rfl⟩)
        | (go_at_call 103; with_reducible refine (M2 _).mono ?_; rintro e w1 ⟨rfl, rfl⟩)
        | (go_at_call 103; with_reducible refine (M4 _).mono ?_; rintro e w1 ⟨rfl, rfl⟩)
        | (go_at_call 103; with_reducible refine (M8 _).mono ?_; rintro e w1 ⟨rfl, rfl⟩)
        | (go_at_call 27; with_reducible refine (GR _).mono ?_; rintro e w2 ⟨rfl, hb2⟩; have hs2 := hb2.size; simp at hs2; obtain ⟨hc2, hf2⟩ := bcell hb2))
      (go_light; simp [bodyPost, results, Tryd.results76, go_sem, *])
      exact (by repeat' (first | (with_reducible exact Below.refl _ _) | (with_reducible assumption) | (with_reducible refine below_alloc ?_ _ ?_) | (with_reducible refine below_set _ ?_ ?_) | (with_reducible refine Below.drew ?_) | (with_reducible refine below_dN ?_ _) | (apply below_thenA; assumption) | omega | (simp; done) | (simp; omega) | (simp [*]; done)))
    rw [if_neg (by omega)] at er
    obtain rfl : g = G := hcl.2.2 (by omega) (by omega)
    clear hcl
    have d1 : decide (g < -1073741824) = false := by simp; omega
    have d2 : decide (1073741824 < g) = false := by simp; omega
    by_cases h3 : g < 0
    · cases a8
      · rw [if_pos ⟨h3, rfl⟩] at er
        obtain ⟨rfl, rfl, rfl⟩ : 0 = K ∧ 0 = n ∧ 11 = c := by simpa using er
        clear er h1 h2
        go_enter Tryd.func76, Tryd.ntmps76
        go_wp2_with (first
          | (go_at_call 22; with_reducible refine (K1 _).mono ?_; rintro e w1 ⟨rfl, rfl⟩)
          | (go_at_call 103; with_reducible refine (M1 _).mono ?_; rintro e w1 ⟨rfl, rfl⟩)
          | (go_at_call 103; with_reducible refine (M2 _).mono ?_; rintro e w1 ⟨rfl, rfl⟩)
          | (go_at_call 103; with_reducible refine (M4 _).mono ?_; rintro e w1 ⟨rfl, rfl⟩)
          | (go_at_call 103; with_reducible refine (M8 _).mono ?_; rintro e w1 ⟨rfl, rfl⟩)
          | (go_at_call 27; with_reducible refine (GR _).mono ?_; rintro e w2 ⟨rfl, hb2⟩; have hs2 := hb2.size; simp at hs2; obtain ⟨hc2, hf2⟩ := bcell hb2))
        (go_light; simp [bodyPost, results, Tryd.results76, go_sem, *])
        exact (by repeat' (first | (with_reducible exact Below.refl _ _) | (with_reducible assumption) | (with_reducible refine below_alloc ?_ _ ?_) | (with_reducible refine below_set _ ?_ ?_) | (with_reducible refine Below.drew ?_) | (with_reducible refine below_dN ?_ _) | (apply below_thenA; assumption) | omega | (simp; done) | (simp; omega) | (simp [*]; done)))
      · rw [if_neg (by simp)] at er
        obtain ⟨rfl, rfl, rfl⟩ : 3 = K ∧ g = n ∧ 0 = c := by simpa using er
        clear er h1 h2
        go_enter Tryd.func76, Tryd.ntmps76
        go_wp2_with (first
          | (go_at_call 22; with_reducible refine (K1 _).mono ?_; rintro e w1 ⟨rfl, rfl⟩)
          | (go_at_call 103; with_reducible refine (M1 _).mono ?_; rintro e w1 ⟨rfl, rfl⟩)
          | (go_at_call 103; with_reducible refine (M2 _).mono ?_; rintro e w1 ⟨rfl, rfl⟩)
          | (go_at_call 103; with_reducible refine (M4 _).mono ?_; rintro e w1 ⟨rfl, rfl⟩)
          | (go_at_call 103; with_reducible refine (M8 _).mono ?_; rintro e w1 ⟨rfl, rfl⟩)
          | (go_at_call 27; with_reducible refine (GR _).mono ?_; rintro e w2 ⟨rfl, hb2⟩; have hs2 := hb2.size; simp at hs2; obtain ⟨hc2, hf2⟩ := bcell hb2))
        (go_light; simp [bodyPost, results, Tryd.results76, go_sem, *])
        exact (by repeat' (first | (with_reducible exact Below.refl _ _) | (with_reducible assumption) | (with_reducible refine below_alloc ?_ _ ?_) | (with_reducible refine below_set _ ?_ ?_) | (with_reducible refine Below.drew ?_) | (with_reducible refine below_dN ?_ _) | (apply below_thenA; assumption) | omega | (simp; done) | (simp; omega) | (simp [*]; done)))
    · have d3 : decide (g < 0) = false := by simp; omega
      rw [if_neg (fun q => h3 q.1)] at er
      obtain ⟨rfl, rfl, rfl⟩ : 3 = K ∧ g = n ∧ 0 = c := by simpa using er
      clear er h1 h2 h3 M8
      go_enter Tryd.func76, Tryd.ntmps76
      go_wp2_with (first
        | (go_at_call 22; with_reducible refine (K1 _).mono ?_; rintro e w1 ⟨rfl, rfl⟩)
        | (go_at_call 103; with_reducible refine (M1 _).mono ?_; rintro e w1 ⟨rfl, rfl⟩)
        | (go_at_call 103; with_reducible refine (M2 _).mono ?_; rintro e w1 ⟨rfl, rfl⟩)
        | (go_at_call 103; with_reducible refine (M4 _).mono ?_; rintro e w1 ⟨rfl, rfl⟩)
        | (go_at_call 103; with_reducible refine (M8 _).mono ?_; rintro e w1 ⟨rfl, rfl⟩)
        | (go_at_call 27; with_reducible refine (GR _).mono ?_; rintro e w2 ⟨rfl, hb2⟩; have hs2 := hb2.size; simp at hs2; obtain ⟨hc2, hf2⟩ := bcell hb2))
      (go_light; simp [bodyPost, results, Tryd.results76, go_sem, *])
      exact (by repeat' (first | (with_reducible exact Below.refl _ _) | (with_reducible assumption) | (with_reducible refine below_alloc ?_ _ ?_) | (with_reducible refine below_set _ ?_ ?_) | (with_reducible refine Below.drew ?_) | (with_reducible refine below_dN ?_ _) | (apply below_thenA; assumption) | omega | (simp; done) | (simp; omega) | (simp [*]; done)))
  · cases a4
    · simp only [Bool.true_and, Bool.not_false, if_true] at er
      obtain ⟨rfl, rfl, rfl⟩ : 0 = K ∧ 0 = n ∧ 11 = c := by simpa using er
      clear er GR hcl M8
      go_enter Tryd.func76, Tryd.ntmps76
      go_wp2_with (first
        | (go_at_call 22; with_reducible refine (K1 _).mono ?_; rintro e w1 ⟨rfl, rfl⟩)
        | (go_at_call 103; with_reducible refine (M1 _).mono ?_; rintro e w1 ⟨rfl, rfl⟩)
        | (go_at_call 103; with_reducible refine (M2 _).mono ?_; rintro e w1 ⟨rfl, rfl⟩)
        | (go_at_call 103; with_reducible refine (M4 _).mono ?_; rintro e w1 ⟨rfl, rfl⟩)
        | (go_at_call 103; with_reducible refine (M8 _).mono ?_; rintro e w1 ⟨rfl, rfl⟩)
        | (go_at_call 27; with_reducible refine (GR _).mono ?_; rintro e w2 ⟨rfl, hb2⟩; have hs2 := hb2.size; simp at hs2; obtain ⟨hc2, hf2⟩ := bcell hb2))
      (go_light; simp [bodyPost, results, Tryd.results76, go_sem, *])
      exact (by repeat' (first | (with_reducible exact Below.refl _ _) | (with_reducible assumption) | (with_reducible refine below_alloc ?_ _ ?_) | (with_reducible refine below_set _ ?_ ?_) | (with_reducible refine Below.drew ?_) | (with_reducible refine below_dN ?_ _) | (apply below_thenA; assumption) | omega | (simp; done) | (simp; omega) | (simp [*]; done)))
    ·
      simp only [Bool.false_and, Bool.true_and, Bool.not_true, Bool.not_false, Bool.false_eq_true, if_false, if_true] at er
      by_cases h1 : G < -1073741824
      · rw [if_pos (.inl h1)] at er
        have hg := hcl.1 h1
        obtain ⟨rfl, rfl, rfl⟩ : 0 = K ∧ 0 = n ∧ 2 = c := by simpa using er
        clear er h1 hcl M8
        go_enter Tryd.func76, Tryd.ntmps76
        go_wp2_with (first
          | (go_at_call 22; with_reducible refine (K1 _).mono ?_; rintro e w1 ⟨rfl, rfl⟩)
          | (go_at_call 103; with_reducible refine (M1 _).mono ?_; rintro e w1 ⟨rfl, rfl⟩)
          | (go_at_call 103; with_reducible refine (M2 _).mono ?_; rintro e w1 ⟨rfl, rfl⟩)
          | (go_at_call 103; with_reducible refine (M4 _).mono ?_; rintro e w1 ⟨rfl, rfl⟩)
          | (go_at_call 103; with_reducible refine (M8 _).mono ?_; rintro e w1 ⟨rfl, rfl⟩)
          | (go_at_call 27; with_reducible refine (GR _).mono ?_; rintro e w2 ⟨rfl, hb2⟩; have hs2 := hb2.size; simp at hs2; obtain ⟨hc2, hf2⟩ := bcell hb2))
        (go_light; simp [bodyPost, results, Tryd.results76, go_sem, *])
        exact (by repeat' (first | (with_reducible exact Below.refl _ _) | (with_reducible assumption) | (with_reducible refine below_alloc ?_ _ ?_) | (with_reducible refine below_set _ ?_ ?_) | (with_reducible refine Below.drew ?_) | (with_reducible refine below_dN ?_ _) | (apply below_thenA; assumption) | omega | (simp; done) | (simp; omega) | (simp [*]; done)))
      by_cases h2 : 1073741824 < G
      · rw [if_pos (.inr h2)] at er
        have hg := hcl.2.1 h2
        have d1 : decide (g < -1073741824) = false := by simp; omega
        obtain ⟨rfl, rfl, rfl⟩ : 0 = K ∧ 0 = n ∧ 2 = c := by simpa using er
        clear er h1 h2 hcl M8
        go_enter Tryd.func76, Tryd.ntmps76
        go_wp2_with (first
          | (go_at_call 22; with_reducible refine (K1 _).mono ?_; rintro e w1 ⟨rfl, rfl⟩)
          | (go_at_call 103; with_reducible refine (M1 _).mono ?_; rintro e w1 ⟨rfl, rfl⟩)
          | (go_at_call 103; with_reducible refine (M2 _).mono ?_; rintro e w1 ⟨rfl, rfl⟩)
          | (go_at_call 103; with_reducible refine (M4 _).mono ?_; rintro e w1 ⟨rfl, rfl⟩)
          | (go_at_call 103; with_reducible refine (M8 _).mono ?_; rintro e w1 ⟨rfl, rfl⟩)
          | (go_at_call 27; with_reducible refine (GR _).mono ?_; rintro e w2 ⟨rfl, hb2⟩; have hs2 := hb2.size; simp at hs2; obtain ⟨hc2, hf2⟩ := bcell hb2))
        (go_light; simp [bodyPost, results, Tryd.results76, go_sem, *])
        exact (by repeat' (first | (with_reducible exact Below.refl _ _) | (with_reducible assumption) | (with_reducible refine below_alloc ?_ _ ?_) | (with_reducible refine below_set _ ?_ ?_) | (with_reducible refine Below.drew ?_) | (with_reducible refine below_dN ?_ _) | (apply below_thenA; assumption) | omega | (simp; done) | (simp; omega) | (simp [*]; done)))
      rw [if_neg (by omega)] at er
      obtain rfl : g = G := hcl.2.2 (by omega) (by omega)
      clear hcl
      have d1 : decide (g < -1073741824) = false := by simp; omega
      have d2 : decide (1073741824 < g) = false := by simp; omega
      by_cases h3 : g < 0
      · cases a8
        · rw [if_pos ⟨h3, rfl⟩] at er
          obtain ⟨rfl, rfl, rfl⟩ : 0 = K ∧ 0 = n ∧ 11 = c := by simpa using er
          clear er h1 h2
          go_enter Tryd.func76, Tryd.ntmps76
          go_wp2_with (first
            | (go_at_call 22; with_reducible refine (K1 _).mono ?_; rintro e w1 ⟨rfl, rfl⟩)
            | (go_at_call 103; with_reducible refine (M1 _).mono ?_; rintro e w1 ⟨rfl, rfl⟩)
            | (go_at_call 103; with_reducible refine (M2 _).mono ?_; rintro e w1 ⟨rfl, rfl⟩)
            | (go_at_call 103; with_reducible refine (M4 _).mono ?_; rintro e w1 ⟨rfl, rfl⟩)
            | (go_at_call 103; with_reducible refine (M8 _).mono ?_; rintro e w1 ⟨rfl, rfl⟩)
            | (go_at_call 27; with_reducible refine (GR _).mono ?_; rintro e w2 ⟨rfl, hb2⟩; have hs2 := hb2.size; simp at hs2; obtain ⟨hc2, hf2⟩ := bcell hb2))
          (go_light; simp [bodyPost, results, Tryd.results76, go_sem, *])
          exact (by repeat' (first | (with_reducible exact Below.refl _ _) | (with_reducible assumption) | (with_reducible refine below_alloc ?_ _ ?_) | (with_reducible refine below_set _ ?_ ?_) | (with_reducible refine Below.drew ?_) | (with_reducible refine below_dN ?_ _) | (apply below_thenA; assumption) | omega | (simp; done) | (simp; omega) | (simp [*]; done)))
        · rw [if_neg (by simp)] at er
          obtain ⟨rfl, rfl, rfl⟩ : 4 = K ∧ g = n ∧ 0 = c := by simpa using er
          clear er h1 h2
          go_enter Tryd.func76, Tryd.ntmps76
          go_wp2_with (first
            | (go_at_call 22; with_reducible refine (K1 _).mono ?_; rintro e w1 ⟨rfl, rfl⟩)
            | (go_at_call 103; with_reducible refine (M1 _).mono ?_; rintro e w1 ⟨rfl, rfl⟩)
            | (go_at_call 103; with_reducible refine (M2 _).mono ?_; rintro e w1 ⟨rfl, rfl⟩)
            | (go_at_call 103; with_reducible refine (M4 _).mono ?_; rintro e w1 ⟨rfl, rfl⟩)
            | (go_at_call 103; with_reducible refine (M8 _).mono ?_; rintro e w1 ⟨rfl, rfl⟩)
            | (go_at_call 27; with_reducible refine (GR _).mono ?_; rintro e w2 ⟨rfl, hb2⟩; have hs2 := hb2.size; simp at hs2; obtain ⟨hc2, hf2⟩ := bcell hb2))
          (go_light; simp [bodyPost, results, Tryd.results76, go_sem, *])
          exact (by repeat' (first | (with_reducible exact Below.refl _ _) | (with_reducible assumption) | (with_reducible refine below_alloc ?_ _ ?_) | (with_reducible refine below_set _ ?_ ?_) | (with_reducible refine Below.drew ?_) | (with_reducible refine below_dN ?_ _) | (apply below_thenA; assumption) | omega | (simp; done) | (simp; omega) | (simp [*]; done)))
      · have d3 : decide (g < 0) = false := by simp; omega
        rw [if_neg (fun q => h3 q.1)] at er
        obtain ⟨rfl, rfl, rfl⟩ : 4 = K ∧ g = n ∧ 0 = c := by simpa using er
        clear er h1 h2 h3 M8
        go_enter Tryd.func76, Tryd.ntmps76
        go_wp2_with (first
          | (go_at_call 22; with_reducible refine (K1 _).mono ?_; rintro e w1 ⟨rfl, rfl⟩)
          | (go_at_call 103; with_reducible refine (M1 _).mono ?_; rintro e w1 ⟨rfl, rfl⟩)
          | (go_at_call 103; with_reducible refine (M2 _).mono ?_; rintro e w1 ⟨rfl, rfl⟩)
          | (go_at_call 103; with_reducible refine (M4 _).mono ?_; rintro e w1 ⟨rfl, rfl⟩)
          | (go_at_call 103; with_reducible refine (M8 _).mono ?_; rintro e w1 ⟨rfl, rfl⟩)
          | (go_at_call 27; with_reducible refine (GR _).mono ?_; rintro e w2 ⟨rfl, hb2⟩; have hs2 := hb2.size; simp at hs2; obtain ⟨hc2, hf2⟩ := bcell hb2))
        (go_light; simp [bodyPost, results, Tryd.results76, go_sem, *])
        exact (by repeat' (first | (with_reducible exact Below.refl _ _) | (with_reducible assumption) | (with_reducible refine below_alloc ?_ _ ?_) | (with_reducible refine below_set _ ?_ ?_) | (with_reducible refine Below.drew ?_) | (with_reducible refine below_dN ?_ _) | (apply below_thenA; assumption) | omega | (simp; done) | (simp; omega) | (simp [*]; done)))
theorem dec_any (b : Nat) (hb : b < 18446744073709551616) (pct : Bool) (m : Int) (h0 : 0 ≤ m) (h1 : m ≤ 255) : ∃ K n c : Int, (∀ w, Calls Tryd.prog 73 #[.agg #[.float .f64 b, .bool pct], .int .i64 m] w fun e w' => e = .returned (.tuple #[.agg #[.int .i64 K, .int .i64 n], .int .i64 c]) ∧ Below w.heap.size w w') ∧
    (∀ w, Calls Tryd.prog 76 #[.int .u64 (b : Int), .bool pct, .int .i64 m] w fun e w' => e = .returned (.tuple #[.agg #[.int .i64 K, .int .i64 n], .int .i64 c]) ∧ Below w.heap.size w w') := by
  obtain ⟨m1, m2, m4, m8⟩ := may_bits h0 h1
  exact ⟨_, _, _, fun w => val_decode b hb pct _ _ _ _ m m1 m2 m4 m8 w, fun w => ref9_decode b hb pct _ _ _ _ m (fun w => ref9_may m 1 h0 h1 (.inl rfl) w) (fun w => ref9_may m 2 h0 h1 (.inr (.inl rfl)) w) (fun w => ref9_may m 4 h0 h1 (.inr (.inr (.inl rfl))) w) (fun w => ref9_may m 8 h0 h1 (.inr (.inr (.inr rfl))) w) w⟩
end Go.Proofs.YtmkblfejoniccaaDoor
namespace Go.Proofs.YtmkblfejoniccaaDoor
open Go.RowKit
set_option linter.unusedSimpArgs false
set_option linter.unusedVariables false

/-- The table lies in its variable. -/
def TabW (w : World) : Prop := 2 < w.heap.size ∧ TabAt 2 Lib.deBruijn64tab w
theorem TabW.below {w w' : World} (h : TabW w) (hb : Below w.heap.size w w') : TabW w' :=
  ⟨Nat.lt_of_lt_of_le h.1 hb.size, fun j hj => ((bcell hb).1 _ _ h.1).trans (h.2 j hj)⟩
theorem TabW.from {w w1 w' : World} (h : TabW w) (hb : Below w.heap.size w w') : TabW w' := h.below hb
theorem TabW.alloc {w : World} (h : TabW w) (o : Obj) : TabW (w.alloc o) := h.below ((Below.refl _ _).alloc (Nat.le_refl _) o)
theorem TabW.drew {w : World} (h : TabW w) : TabW w.drew := h
theorem TabW.drewN {w : World} (h : TabW w) (n : Nat) : TabW (w.drewN n) := h
theorem TabW.but {w w' : World} {b : Nat} (h : TabW w) (hb : But b w w') (hne : 2 ≠ b) : TabW w' := by
  refine ⟨Nat.lt_of_lt_of_le h.1 hb.size, fun j hj => ?_⟩
  have e := hb.block _ h.1 hne
  have := h.2 j hj
  unfold World.cell? at this ⊢
  simp only [e]
  exact this
set_option maxRecDepth 100000 in
set_option maxHeartbeats 1600000 in
theorem tz_core (x k idx : Nat) (w : World) (hx0 : ((x : Int) == 0) = false)
    (key : IntKind.u64.wrap (bits BinOp.and IntKind.u64 (x : Int) (IntKind.u64.wrap (-(x : Int))) * 285870213051353865) / 288230376151711744 = (idx : Int))
    (hi : idx < 64) (hk : k < 64) (hcell : w.cell? ⟨2, idx, none⟩ = some (.int .u8 k)) :
    Calls Tryd.prog 46 #[.int .u64 x] w fun e w' => e = .returned (.int .i64 ((k : Int))) ∧ w' = w := by
  go_enter Tryd.func46, Tryd.ntmps46
  go_wp2_with (simp only [key])
  (go_light; simp [bodyPost, results, Tryd.results46, go_sem, *])
theorem bits_tz (x : Nat) (hx : x < 18446744073709551616) (h0 : x ≠ 0) (w : World) (hT : TabW w) :
    Calls Tryd.prog 46 #[.int .u64 x] w fun e w' => e = .returned (.int .i64 (((Lib.ctz 64 x : Nat) : Int))) ∧ w' = w := by
  obtain ⟨hlow, hk⟩ := Lib.lowest_bit 64 x h0 hx
  obtain ⟨hi, htab⟩ := Lib.deBruijn64_at _ hk
  have hcell := hT.2 _ hi
  rw [htab] at hcell
  exact tz_core x _ _ w (by simp; omega) (tz64_key x _ hx h0 hlow) hi hk hcell
theorem ctz_spec (x : Nat) (hx : x < 18446744073709551616) (h0 : x ≠ 0) : ∃ m, x = 2 ^ Lib.ctz 64 x * (2 * m + 1) ∧ Lib.ctz 64 x < 64 := by
  unfold Lib.ctz
  rw [if_neg h0]
  exact Lib.ctzFrom_spec 64 x (by omega) hx
set_option maxRecDepth 100000 in
set_option maxHeartbeats 1600000 in
theorem real_finite (b : Nat) (hb : b < 18446744073709551616) (w : World) : Calls Tryd.prog 44 #[.float .f64 b] w fun e w' => e = .returned (.int .i64 (if fKi b = 1 then 4 else if fKi b = 2 then 5 else 0)) ∧ w' = w := by
  have KI := real_kind b hb
  obtain ⟨k, ek⟩ : ∃ x, fKi b = x := ⟨_, rfl⟩
  rw [ek] at KI ⊢
  by_cases h1 : k = 1
  · subst h1
    go_enter Tryd.func44, Tryd.ntmps44
    go_wp2_with (go_at_call 39; with_reducible refine (KI _).mono ?_; rintro e w1 ⟨rfl, rfl⟩)
    (go_light; simp [bodyPost, results, Tryd.results44, go_sem, *])
  · rw [if_neg h1]
    have q1 : ((k : Int) == 1) = false := by simp; omega
    by_cases h2 : k = 2
    · subst h2
      go_enter Tryd.func44, Tryd.ntmps44
      go_wp2_with (go_at_call 39; with_reducible refine (KI _).mono ?_; rintro e w1 ⟨rfl, rfl⟩)
      (go_light; simp [bodyPost, results, Tryd.results44, go_sem, *])
    · rw [if_neg h2]
      have q2 : ((k : Int) == 2) = false := by simp; omega
      go_enter Tryd.func44, Tryd.ntmps44
      go_wp2_with (go_at_call 39; with_reducible refine (KI _).mono ?_; rintro e w1 ⟨rfl, rfl⟩)
      (go_light; simp [bodyPost, results, Tryd.results44, go_sem, *])
end Go.Proofs.YtmkblfejoniccaaDoor
namespace Go.Proofs.YtmkblfejoniccaaDoor
open Go.RowKit
set_option linter.unusedSimpArgs false
set_option linter.unusedVariables false

def myL (i : Nat) : Int := [5, 5, 5, 5, 6, 6, 13, 13, 13, 13, 4, 4, 4, 4, 13, 13, 13, 13, 5].getD i 0
def numT : List Int := [64, 0, 1073741824, 64, 0, 1073741824, 64, 0, 1073741824, 64, 0, 1073741824, 1, -1000, 1000, 4096, 0, 4096000, 4096, 0, 4096000, 64, 0, 1073741824, 64, 0, 1073741824, 64, 0, 1073741824]
def wrdT : List Int := [1, 1, 4, 1, 1, 3, 1, 1, 3, 1, 1, 2, 1, -1000, 1000, 1, 1, 4, 1, 1, 3, 1, 1, 6, 1, 1, 4, 1, 0, 4, 1, 1, 7, 1, 1, 4]
/-- The two tables lie in their variables. -/
structure StyW (w : World) : Prop where
  nsz : 5 < w.heap.size
  wsz : 1 < w.heap.size
  num : ∀ j, j < 30 → w.cell? ⟨5, j, none⟩ = some (.int .i64 (numT.getD j 0))
  wrd : ∀ j, j < 36 → w.cell? ⟨1, j, none⟩ = some (.int .i64 (wrdT.getD j 0))
theorem StyW.below {w w' : World} (h : StyW w) (hb : Below w.heap.size w w') : StyW w' :=
  ⟨Nat.lt_of_lt_of_le h.nsz hb.size, Nat.lt_of_lt_of_le h.wsz hb.size, fun j hj => ((bcell hb).1 _ _ h.nsz).trans (h.num j hj), fun j hj => ((bcell hb).1 _ _ h.wsz).trans (h.wrd j hj)⟩
/-- A number in its parts: the number, why there is none. -/
def nF (i b : Nat) : Int × Int :=
  if fKi b = 1 ∧ i = 4 then (0, 0) else if fKi b = 1 ∧ i = 9 then (1280, 0) else gridR b (numT.getD (3 * i) 0) (numT.getD (3 * i + 1) 0) (numT.getD (3 * i + 2) 0)
def okW (i : Nat) (n : Int) : Bool := decide (wrdT.getD (3 * i + 1) 0 ≤ n) && decide (n ≤ wrdT.getD (3 * i + 2) 0)
set_option maxRecDepth 100000 in
set_option maxHeartbeats 3200000 in
theorem sty_may (i : Nat) (hi : i < 19) (w : World) : Calls Tryd.prog 74 #[.int .i64 ((i : Int))] w fun e w' => e = .returned (.int .i64 (myL i)) ∧ w' = w := by
  match i, hi with
  | 0, _ =>
    show Calls Tryd.prog 74 #[.int .i64 0] w fun e w' => e = .returned (.int .i64 5) ∧ w' = w
    go_enter Tryd.func74, Tryd.ntmps74
    go_wp2_with fail
    go_ret
    exact ⟨rfl, rfl⟩
  | 1, _ =>
    show Calls Tryd.prog 74 #[.int .i64 1] w fun e w' => e = .returned (.int .i64 5) ∧ w' = w
    go_enter Tryd.func74, Tryd.ntmps74
    go_wp2_with fail
    go_ret
    exact ⟨rfl, rfl⟩
  | 2, _ =>
    show Calls Tryd.prog 74 #[.int .i64 2] w fun e w' => e = .returned (.int .i64 5) ∧ w' = w
    go_enter Tryd.func74, Tryd.ntmps74
    go_wp2_with fail
    go_ret
    exact ⟨rfl, rfl⟩
  | 3, _ =>
    show Calls Tryd.prog 74 #[.int .i64 3] w fun e w' => e = .returned (.int .i64 5) ∧ w' = w
    go_enter Tryd.func74, Tryd.ntmps74
    go_wp2_with fail
    go_ret
    exact ⟨rfl, rfl⟩
  | 4, _ =>
    show Calls Tryd.prog 74 #[.int .i64 4] w fun e w' => e = .returned (.int .i64 6) ∧ w' = w
    go_enter Tryd.func74, Tryd.ntmps74
    go_wp2_with fail
    go_ret
    exact ⟨rfl, rfl⟩
  | 5, _ =>
    show Calls Tryd.prog 74 #[.int .i64 5] w fun e w' => e = .returned (.int .i64 6) ∧ w' = w
    go_enter Tryd.func74, Tryd.ntmps74
    go_wp2_with fail
    go_ret
    exact ⟨rfl, rfl⟩
  | 6, _ =>
    show Calls Tryd.prog 74 #[.int .i64 6] w fun e w' => e = .returned (.int .i64 13) ∧ w' = w
    go_enter Tryd.func74, Tryd.ntmps74
    go_wp2_with fail
    go_ret
    exact ⟨rfl, rfl⟩
  | 7, _ =>
    show Calls Tryd.prog 74 #[.int .i64 7] w fun e w' => e = .returned (.int .i64 13) ∧ w' = w
    go_enter Tryd.func74, Tryd.ntmps74
    go_wp2_with fail
    go_ret
    exact ⟨rfl, rfl⟩
  | 8, _ =>
    show Calls Tryd.prog 74 #[.int .i64 8] w fun e w' => e = .returned (.int .i64 13) ∧ w' = w
    go_enter Tryd.func74, Tryd.ntmps74
    go_wp2_with fail
    go_ret
    exact ⟨rfl, rfl⟩
  | 9, _ =>
    show Calls Tryd.prog 74 #[.int .i64 9] w fun e w' => e = .returned (.int .i64 13) ∧ w' = w
    go_enter Tryd.func74, Tryd.ntmps74
    go_wp2_with fail
    go_ret
    exact ⟨rfl, rfl⟩
  | 10, _ =>
    show Calls Tryd.prog 74 #[.int .i64 10] w fun e w' => e = .returned (.int .i64 4) ∧ w' = w
    go_enter Tryd.func74, Tryd.ntmps74
    go_wp2_with fail
    go_ret
    exact ⟨rfl, rfl⟩
  | 11, _ =>
    show Calls Tryd.prog 74 #[.int .i64 11] w fun e w' => e = .returned (.int .i64 4) ∧ w' = w
    go_enter Tryd.func74, Tryd.ntmps74
    go_wp2_with fail
    go_ret
    exact ⟨rfl, rfl⟩
  | 12, _ =>
    show Calls Tryd.prog 74 #[.int .i64 12] w fun e w' => e = .returned (.int .i64 4) ∧ w' = w
    go_enter Tryd.func74, Tryd.ntmps74
    go_wp2_with fail
    go_ret
    exact ⟨rfl, rfl⟩
  | 13, _ =>
    show Calls Tryd.prog 74 #[.int .i64 13] w fun e w' => e = .returned (.int .i64 4) ∧ w' = w
    go_enter Tryd.func74, Tryd.ntmps74
    go_wp2_with fail
    go_ret
    exact ⟨rfl, rfl⟩
  | 14, _ =>
    show Calls Tryd.prog 74 #[.int .i64 14] w fun e w' => e = .returned (.int .i64 13) ∧ w' = w
    go_enter Tryd.func74, Tryd.ntmps74
    go_wp2_with fail
    go_ret
    exact ⟨rfl, rfl⟩
  | 15, _ =>
    show Calls Tryd.prog 74 #[.int .i64 15] w fun e w' => e = .returned (.int .i64 13) ∧ w' = w
    go_enter Tryd.func74, Tryd.ntmps74
    go_wp2_with fail
    go_ret
    exact ⟨rfl, rfl⟩
  | 16, _ =>
    show Calls Tryd.prog 74 #[.int .i64 16] w fun e w' => e = .returned (.int .i64 13) ∧ w' = w
    go_enter Tryd.func74, Tryd.ntmps74
    go_wp2_with fail
    go_ret
    exact ⟨rfl, rfl⟩
  | 17, _ =>
    show Calls Tryd.prog 74 #[.int .i64 17] w fun e w' => e = .returned (.int .i64 13) ∧ w' = w
    go_enter Tryd.func74, Tryd.ntmps74
    go_wp2_with fail
    go_ret
    exact ⟨rfl, rfl⟩
  | 18, _ =>
    show Calls Tryd.prog 74 #[.int .i64 18] w fun e w' => e = .returned (.int .i64 5) ∧ w' = w
    go_enter Tryd.func74, Tryd.ntmps74
    go_wp2_with fail
    go_ret
    exact ⟨rfl, rfl⟩
  | n + 19, h => exact absurd h (by omega)
set_option maxRecDepth 100000 in
set_option maxHeartbeats 3200000 in
theorem ref11_may (i : Nat) (hi : i < 19) (w : World) : Calls Tryd.prog 77 #[.int .i64 ((i : Int))] w fun e w' => e = .returned (.int .i64 (myL i)) ∧ w' = w := by
  match i, hi with
  | 0, _ =>
    show Calls Tryd.prog 77 #[.int .i64 0] w fun e w' => e = .returned (.int .i64 5) ∧ w' = w
    go_enter Tryd.func77, Tryd.ntmps77
    go_wp2_with fail
    go_ret
    exact ⟨rfl, rfl⟩
  | 1, _ =>
    show Calls Tryd.prog 77 #[.int .i64 1] w fun e w' => e = .returned (.int .i64 5) ∧ w' = w
    go_enter Tryd.func77, Tryd.ntmps77
    go_wp2_with fail
    go_ret
    exact ⟨rfl, rfl⟩
  | 2, _ =>
    show Calls Tryd.prog 77 #[.int .i64 2] w fun e w' => e = .returned (.int .i64 5) ∧ w' = w
    go_enter Tryd.func77, Tryd.ntmps77
    go_wp2_with fail
    go_ret
    exact ⟨rfl, rfl⟩
  | 3, _ =>
    show Calls Tryd.prog 77 #[.int .i64 3] w fun e w' => e = .returned (.int .i64 5) ∧ w' = w
    go_enter Tryd.func77, Tryd.ntmps77
    go_wp2_with fail
    go_ret
    exact ⟨rfl, rfl⟩
  | 4, _ =>
    show Calls Tryd.prog 77 #[.int .i64 4] w fun e w' => e = .returned (.int .i64 6) ∧ w' = w
    go_enter Tryd.func77, Tryd.ntmps77
    go_wp2_with fail
    go_ret
    exact ⟨rfl, rfl⟩
  | 5, _ =>
    show Calls Tryd.prog 77 #[.int .i64 5] w fun e w' => e = .returned (.int .i64 6) ∧ w' = w
    go_enter Tryd.func77, Tryd.ntmps77
    go_wp2_with fail
    go_ret
    exact ⟨rfl, rfl⟩
  | 6, _ =>
    show Calls Tryd.prog 77 #[.int .i64 6] w fun e w' => e = .returned (.int .i64 13) ∧ w' = w
    go_enter Tryd.func77, Tryd.ntmps77
    go_wp2_with fail
    go_ret
    exact ⟨rfl, rfl⟩
  | 7, _ =>
    show Calls Tryd.prog 77 #[.int .i64 7] w fun e w' => e = .returned (.int .i64 13) ∧ w' = w
    go_enter Tryd.func77, Tryd.ntmps77
    go_wp2_with fail
    go_ret
    exact ⟨rfl, rfl⟩
  | 8, _ =>
    show Calls Tryd.prog 77 #[.int .i64 8] w fun e w' => e = .returned (.int .i64 13) ∧ w' = w
    go_enter Tryd.func77, Tryd.ntmps77
    go_wp2_with fail
    go_ret
    exact ⟨rfl, rfl⟩
  | 9, _ =>
    show Calls Tryd.prog 77 #[.int .i64 9] w fun e w' => e = .returned (.int .i64 13) ∧ w' = w
    go_enter Tryd.func77, Tryd.ntmps77
    go_wp2_with fail
    go_ret
    exact ⟨rfl, rfl⟩
  | 10, _ =>
    show Calls Tryd.prog 77 #[.int .i64 10] w fun e w' => e = .returned (.int .i64 4) ∧ w' = w
    go_enter Tryd.func77, Tryd.ntmps77
    go_wp2_with fail
    go_ret
    exact ⟨rfl, rfl⟩
  | 11, _ =>
    show Calls Tryd.prog 77 #[.int .i64 11] w fun e w' => e = .returned (.int .i64 4) ∧ w' = w
    go_enter Tryd.func77, Tryd.ntmps77
    go_wp2_with fail
    go_ret
    exact ⟨rfl, rfl⟩
  | 12, _ =>
    show Calls Tryd.prog 77 #[.int .i64 12] w fun e w' => e = .returned (.int .i64 4) ∧ w' = w
    go_enter Tryd.func77, Tryd.ntmps77
    go_wp2_with fail
    go_ret
    exact ⟨rfl, rfl⟩
  | 13, _ =>
    show Calls Tryd.prog 77 #[.int .i64 13] w fun e w' => e = .returned (.int .i64 4) ∧ w' = w
    go_enter Tryd.func77, Tryd.ntmps77
    go_wp2_with fail
    go_ret
    exact ⟨rfl, rfl⟩
  | 14, _ =>
    show Calls Tryd.prog 77 #[.int .i64 14] w fun e w' => e = .returned (.int .i64 13) ∧ w' = w
    go_enter Tryd.func77, Tryd.ntmps77
    go_wp2_with fail
    go_ret
    exact ⟨rfl, rfl⟩
  | 15, _ =>
    show Calls Tryd.prog 77 #[.int .i64 15] w fun e w' => e = .returned (.int .i64 13) ∧ w' = w
    go_enter Tryd.func77, Tryd.ntmps77
    go_wp2_with fail
    go_ret
    exact ⟨rfl, rfl⟩
  | 16, _ =>
    show Calls Tryd.prog 77 #[.int .i64 16] w fun e w' => e = .returned (.int .i64 13) ∧ w' = w
    go_enter Tryd.func77, Tryd.ntmps77
    go_wp2_with fail
    go_ret
    exact ⟨rfl, rfl⟩
  | 17, _ =>
    show Calls Tryd.prog 77 #[.int .i64 17] w fun e w' => e = .returned (.int .i64 13) ∧ w' = w
    go_enter Tryd.func77, Tryd.ntmps77
    go_wp2_with fail
    go_ret
    exact ⟨rfl, rfl⟩
  | 18, _ =>
    show Calls Tryd.prog 77 #[.int .i64 18] w fun e w' => e = .returned (.int .i64 5) ∧ w' = w
    go_enter Tryd.func77, Tryd.ntmps77
    go_wp2_with fail
    go_ret
    exact ⟨rfl, rfl⟩
  | n + 19, h => exact absurd h (by omega)
end Go.Proofs.YtmkblfejoniccaaDoor
