/-
  The reference of layer 3: Grid.
-/
/-
  The functions of package ratio, each by its contract. Fourth part: Half.
-/
/-
  The statements of layer 2 that name no reference: what each begins with; RatioScales.
-/
/-
  The statements of layer 2 that name the reference: RatioMakes.
-/
/-
  The statements of layer 1 that name no reference: what their functions compute.
-/
/-
  The statements of layer 1 that name no reference: WideOrder.
-/
/-
  The statements of layer 1 that name the reference. First part: same, WideMuls.
-/
/-
  The functions of package ratio, each by its contract. Last part: Cmp, Times; and the plain law of a product in lowest terms.
-/
/-
  The functions of package ratio, each by its contract: Times.
-/
/-
  The functions of package ratio, each by its contract: Times of a ratio that may not be; Of whatever it is given.
-/
/-
  Floats in plain numbers: what a word is read as; the nearest word.
-/
import Derived.Test.YtmkblfejoniccaaDoorZ7
import Derived.Test.YtmkblfejoniccaaDoorZ2
import Derived.Deep.DeepCutAuto
import Derived.Test.YtmkblfejoniccaaDoorZ5
import Derived.Test.YtmkblfejoniccaaDoorZ1
import GoSem.Core.Float
namespace Go.Proofs.YtmkblfejoniccaaDoor
open Go.RowKit
set_option linter.unusedSimpArgs false
set_option linter.unusedVariables false

theorem Below.to0 {w w2 w3 : World} {o1 o2 : Obj} (h : Below ((w2.alloc o1).alloc o2).heap.size ((w2.alloc o1).alloc o2) w3) (h1 : w.heap.size ≤ w2.heap.size) (h0 : Below w.heap.size w w2) : Below w.heap.size w w3 := (h0.alloc h1 o1 |>.alloc (by simp; omega) o2).trans (h.mono (by simp; omega))
theorem sz_ediv {X D : Int} {K : Nat} (h : BM.Sz X K) (hD : 0 < D) : BM.Sz (X / D) K := by
  refine BM.Sz.le h ?_
  by_cases h0 : 0 ≤ X
  · have h1 := Int.ediv_nonneg h0 (show 0 ≤ D by omega)
    have h2 := Int.ediv_le_self D h0
    omega
  · have h1 : X ≤ X / D := (Int.le_ediv_iff_mul_le hD).2 (by
      have := Int.mul_nonpos_of_nonpos_of_nonneg (show X ≤ 0 by omega) (show 0 ≤ D - 1 by omega)
      rw [Int.mul_sub, Int.mul_one] at this
      omega)
    have h2 : X / D < 0 := Int.ediv_neg_of_neg_of_pos (by omega) hD
    omega
set_option maxRecDepth 100000 in
set_option maxHeartbeats 6400000 in
theorem ref3_grid (b : Nat) (hb : b < 18446744073709551616) (den low high : Int) (hd : IFit den) (hl : IFit low) (hh : IFit high) (w : World) : Calls Tryd.prog 27 #[.int .u64 (b : Int), .int .i64 den, .int .i64 low, .int .i64 high] w fun e w' => e = .returned (.tuple #[.int .i64 ((gridR b den low high).1), .int .i64 ((gridR b den low high).2)]) ∧ Below w.heap.size w w' := by
  obtain ⟨Q, eQ⟩ : ∃ Q : Ending → World → Prop, Q = fun e w' => e = .returned (.tuple #[.int .i64 ((gridR b den low high).1), .int .i64 ((gridR b den low high).2)]) ∧ Below w.heap.size w w' := ⟨_, rfl⟩
  rw [← eQ]
  have EQ := Lib.hid eQ
  have HLo := Lib.hid hl
  have HHi := Lib.hid hh
  clear eQ
  by_cases a1 : den < 1
  · have hR := Lib.hid (gridR_arg (b := b) (low := low) (high := high) (.inl a1))
    go_enter Tryd.func27, Tryd.ntmps27
    go_wp2_with fail
    rw [EQ.out, hR.out]
    exact ⟨rfl, Below.refl _ _⟩
  by_cases a2 : 1048576 < den
  · have hR := Lib.hid (gridR_arg (b := b) (low := low) (high := high) (.inr (.inl a2)))
    go_enter Tryd.func27, Tryd.ntmps27
    go_wp2_with fail
    rw [EQ.out, hR.out]
    exact ⟨rfl, Below.refl _ _⟩
  by_cases a3 : high < low
  · have hR := Lib.hid (gridR_arg (b := b) (den := den) (.inr (.inr a3)))
    go_enter Tryd.func27, Tryd.ntmps27
    go_wp2_with fail
    rw [EQ.out, hR.out]
    exact ⟨rfl, Below.refl _ _⟩
  have hn : ¬ (den < 1 ∨ 1048576 < den ∨ high < low) := by omega
  have HN := Lib.hid hn
  have KI := ref3_kind b hb
  have hdn : fDn b = if fKi b = 1 then false else fSg b := rfl
  by_cases k1 : fKi b = 1
  · rw [if_pos k1] at hdn
    have K1 : ∀ w, Calls Tryd.prog 22 #[.int .u64 (b : Int)] w fun e w' => e = .returned (.tuple #[.int .i64 1, .bool false]) ∧ w' = w := fun w => by
      have q := KI w
      rw [k1, hdn] at q
      exact q
    have hR := Lib.hid (gridR_nan HN.out k1)
    clear KI k1 hdn hn
    go_enter Tryd.func27, Tryd.ntmps27
    go_wp2_with (go_at_call 22; with_reducible refine (K1 _).mono ?_; rintro e w1 ⟨rfl, rfl⟩)
    rw [EQ.out, hR.out]
    exact ⟨rfl, Below.refl _ _⟩
  rw [if_neg k1] at hdn
  by_cases k2 : fKi b = 2
  · have hR := gridR_inf HN.out k2
    cases hs : fSg b
    · rw [hs] at hdn hR
      simp only [Bool.false_eq_true, if_false] at hR
      have K1 : ∀ w, Calls Tryd.prog 22 #[.int .u64 (b : Int)] w fun e w' => e = .returned (.tuple #[.int .i64 2, .bool false]) ∧ w' = w := fun w => by
        have q := KI w
        rw [k2, hdn] at q
        exact q
      have HR := Lib.hid hR
      clear KI k1 k2 hdn hn hR hs
      go_enter Tryd.func27, Tryd.ntmps27
      go_wp2_with (go_at_call 22; with_reducible refine (K1 _).mono ?_; rintro e w1 ⟨rfl, rfl⟩)
      rw [EQ.out, HR.out]
      exact ⟨rfl, Below.refl _ _⟩
    · rw [hs] at hdn hR
      simp only [if_true] at hR
      have K1 : ∀ w, Calls Tryd.prog 22 #[.int .u64 (b : Int)] w fun e w' => e = .returned (.tuple #[.int .i64 2, .bool true]) ∧ w' = w := fun w => by
        have q := KI w
        rw [k2, hdn] at q
        exact q
      have HR := Lib.hid hR
      clear KI k1 k2 hdn hn hR hs
      go_enter Tryd.func27, Tryd.ntmps27
      go_wp2_with (go_at_call 22; with_reducible refine (K1 _).mono ?_; rintro e w1 ⟨rfl, rfl⟩)
      rw [EQ.out, HR.out]
      exact ⟨rfl, Below.refl _ _⟩
  have FR := ref3_fraction b hb
  have hR := gridR_num (b := b) HN.out k1 k2
  have hpo : -1074 ≤ fPo b ∧ fPo b ≤ 972 := by
    have := fEx_lt b
    unfold fPo; split <;> omega
  have sW : BM.Sz (fNu b) 4 := by have := fNu_bnd b; exact BM.Sz.i64 (by omega) (by omega)
  have sU : BM.Sz (fUp b : Int) 1000 := by unfold fUp; exact (pow_sz _).mono (by omega)
  have sL : BM.Sz (fLo b : Int) 1100 := by unfold fLo; exact (pow_sz _).mono (by omega)
  have hLp : (0 : Int) < (fLo b : Int) := by unfold fLo; exact Int.natCast_pos.2 (Nat.pow_pos (by omega))
  have sN := BM.Sz.mul sW sU
  have hg : gN b den = (2 * (fNu b * (fUp b : Int) * den) + (fLo b : Int)) / (2 * (fLo b : Int)) := rfl
  rw [hg] at hR
  obtain ⟨k, ek⟩ : ∃ k, fKi b = k := ⟨_, rfl⟩
  obtain ⟨dn, edn⟩ : ∃ k, fDn b = k := ⟨_, rfl⟩
  obtain ⟨N, eN⟩ : ∃ N, fNu b * (fUp b : Int) = N := ⟨_, rfl⟩
  obtain ⟨L, eL⟩ : ∃ L : Int, (fLo b : Int) = L := ⟨_, rfl⟩
  rw [eN] at FR sN hR
  rw [eL] at FR sL hLp hR
  rw [ek] at k1 k2
  rw [ek, edn] at KI
  have q1 : ((k : Int) == 1) = false := by simp; omega
  have q2 : ((k : Int) == 2) = false := by simp; omega
  have sd := BM.Sz.i64 hd.1 hd.2
  have s2 := BM.Sz.u64 (n := 2) (by omega) (by omega)
  have sND := BM.Sz.mul sN sd
  have s2ND := BM.Sz.mul s2 sND
  obtain ⟨X, eX⟩ : ∃ X, 2 * (N * den) + L = X := ⟨_, rfl⟩
  have sX : BM.Sz X 1101 := by rw [← eX]; exact BM.Sz.add (s2ND.mono (by omega)) sL
  have s2L := BM.Sz.mul s2 sL
  rw [eX] at hR
  have DN := fun na nb ax bx k m ca cb W (h1 : IsBig W na ax k ca X) (h2 : IsBig W nb bx m cb (2 * L)) hk hm => big_down na nb ax bx k m ca cb X (2 * L) W h1 h2 hk hm (by omega)
  have hfq : fq X (2 * L) = X / (2 * L) := by unfold fq; rw [if_neg (by omega)]
  obtain ⟨F, eF⟩ : ∃ F, X / (2 * L) = F := ⟨_, rfl⟩
  obtain ⟨R, eR⟩ : ∃ R, fr X (2 * L) = R := ⟨_, rfl⟩
  have sF : BM.Sz F 1101 := by rw [← eF]; exact sz_ediv sX (by omega)
  rw [hfq, eF, eR] at DN
  rw [eF] at hR
  have HR := Lib.hid hR
  obtain ⟨d1, d2⟩ := hd
  obtain ⟨l1, l2⟩ := hl
  obtain ⟨h1, h2⟩ := hh
  have hlh : low ≤ high := by omega
  clear hn hR hdn hg ek edn eN eL eF eR hfq k1 k2 hLp hpo sW sU
  go_enter Tryd.func27, Tryd.ntmps27
  go_upto_region 12 with (first
    | (go_at_call 22; with_reducible refine (KI _).mono ?_; rintro e w1 ⟨rfl, rfl⟩)
    | (go_at_call 50; with_reducible refine (FR _).mono ?_; rintro e w2 hR2; obtain ⟨n1, x1, k1, c1, n2, x2, k2, c2, rfl, I1, I2, hb2⟩ := BigRet2.out hR2)
    | (go_at_call 67; with_reducible refine (big_ofu2 _).mono ?_; rintro e w3 hR3; obtain ⟨n3, x3, k3, c3, rfl, I3, hb3⟩ := BigRet.out hR3))
  have hB3 : Below w1.heap.size w1 w3 := by
    have h1 := hb2.size
    have h2 := hb3.size
    simp at h2
    exact Below.to0 hb3 h1 hb2
  refine wp_worldF (fun W => Blk W w2.heap.size #[.bool n1, .slice x1 k1 c1] 41 ∧ Blk W (w2.heap.size + 1) #[.bool n2, .slice x2 k2 c2] 41 ∧ Blk W w3.heap.size #[.bool n3, .slice x3 k3 c3] 41 ∧ IsBig W n1 x1 k1 c1 N ∧ IsBig W n2 x2 k2 c2 L ∧ IsBig W n3 x3 k3 c3 2 ∧ Below w1.heap.size w1 W) ?_ ?_
  · have h1 := hb2.size
    have h2 := hb3.size
    simp at h2
    exact ⟨((((Blk.new w2 _ _ _ rfl).alloc _).below hb3).alloc _), (((Blk.new _ _ _ _ (by simp)).below hb3).alloc _), Blk.new _ _ _ _ rfl, ((I1.keep (by exact (by repeat' (first | (with_reducible exact Below.refl _ _) | (with_reducible assumption) | (with_reducible refine below_alloc ?_ _ ?_) | (with_reducible refine below_set _ ?_ ?_) | (with_reducible refine Below.drew ?_) | (with_reducible refine below_dN ?_ _) | (apply below_thenA; assumption) | omega | (simp; done) | (simp; omega) | (simp [*]; done))))).keep hb3).keep (by exact (by repeat' (first | (with_reducible exact Below.refl _ _) | (with_reducible assumption) | (with_reducible refine below_alloc ?_ _ ?_) | (with_reducible refine below_set _ ?_ ?_) | (with_reducible refine Below.drew ?_) | (with_reducible refine below_dN ?_ _) | (apply below_thenA; assumption) | omega | (simp; done) | (simp; omega) | (simp [*]; done)))), ((I2.keep (by exact (by repeat' (first | (with_reducible exact Below.refl _ _) | (with_reducible assumption) | (with_reducible refine below_alloc ?_ _ ?_) | (with_reducible refine below_set _ ?_ ?_) | (with_reducible refine Below.drew ?_) | (with_reducible refine below_dN ?_ _) | (apply below_thenA; assumption) | omega | (simp; done) | (simp; omega) | (simp [*]; done))))).keep hb3).keep (by exact (by repeat' (first | (with_reducible exact Below.refl _ _) | (with_reducible assumption) | (with_reducible refine below_alloc ?_ _ ?_) | (with_reducible refine below_set _ ?_ ?_) | (with_reducible refine Below.drew ?_) | (with_reducible refine below_dN ?_ _) | (apply below_thenA; assumption) | omega | (simp; done) | (simp; omega) | (simp [*]; done)))), I3.keep (by exact (by repeat' (first | (with_reducible exact Below.refl _ _) | (with_reducible assumption) | (with_reducible refine below_alloc ?_ _ ?_) | (with_reducible refine below_set _ ?_ ?_) | (with_reducible refine Below.drew ?_) | (with_reducible refine below_dN ?_ _) | (apply below_thenA; assumption) | omega | (simp; done) | (simp; omega) | (simp [*]; done)))), by have hs3 := hB3.size; exact (by repeat' (first | (with_reducible exact Below.refl _ _) | (with_reducible assumption) | (with_reducible refine below_alloc ?_ _ ?_) | (with_reducible refine below_set _ ?_ ?_) | (with_reducible refine Below.drew ?_) | (with_reducible refine below_dN ?_ _) | (apply below_thenA; assumption) | omega | (simp; done) | (simp; omega) | (simp [*]; done)))⟩
  have hz7 : w1.heap.size ≤ w2.heap.size := hb2.size
  have hz8 : w2.heap.size + 2 ≤ w3.heap.size := by have := hb3.size; simp at this; exact this
  rintro W1 ⟨t1, t2, t3, J1, J2, J3, hB⟩
  clear I1 I2 I3 hb2 hb3 hR2 hR3 hB3 FR KI q1 q2 a1 a2 a3
  obtain ⟨p1, e1⟩ : ∃ p, w2.heap.size = p := ⟨_, rfl⟩
  obtain ⟨p3, e3⟩ : ∃ p, w3.heap.size = p := ⟨_, rfl⟩
  rw [e1, e3] at hz8
  rw [e1] at hz7 t1 t2
  rw [e3] at t3
  rw [e1, e3]
  clear e1 e3
  have hW1 := hB.size
  have hl3 := t3.lt
  go_upto_region 12 with (fail)
  rename_i K0 hK0
  refine wp_region_calm (fun w' => Below w1.heap.size w1 w' ∧ Blk w' p1 #[.bool n1, .slice x1 k1 c1] 41 ∧ Blk w' (p1 + 1) #[.bool n2, .slice x2 k2 c2] 41 ∧ Blk w' p3 #[.bool n3, .slice x3 k3 c3] 41 ∧ IsBig w' n1 x1 k1 c1 N ∧ IsBig w' n2 x2 k2 c2 L ∧ IsBig w' n3 x3 k3 c3 2 ∧ W1.heap.size ≤ w'.heap.size) [] (fun w' => True) [bigC 2, bigC N, Is (.int .i64 den), bigC den, bigC (N * den), bigC (2 * (N * den)), bigC L, bigC (2 * (N * den) + L), bxV W1.heap.size 41 2, boxAt 8 W1.heap.size (2 * (N * den) + L)] [8] (by kernel_rfl) (by kernel_rfl) (by kernel_rfl) (by kernel_rfl) ⟨hB.drew, t1, t2, t3, J1.drewd, J2.drewd, J3.drewd, Nat.le_refl _⟩ trivial ?_ ?_ ?_ ?_ ?_
  · rintro W W' ⟨hBB, u1, u2, u3, i1, i2, i3, hl⟩ hb
    exact ⟨hBB.trans (hb.mono hBB.size), u1.below hb, u2.below hb, u3.below hb, i1.keep hb, i2.keep hb, i3.keep hb, Nat.le_trans hl hb.size⟩
  · exact fun _ _ _ _ _ => trivial
  · intro k vs W hk h
    obtain rfl : k = 8 := (by simpa using hk) <;> (obtain ⟨b, cs, e, h1, h2, h3⟩ := h; exact ⟨b, e, h2.lt⟩)
  · intro Q; clear hK0 hB t1 t2 t3 J1 J2 J3 DN
    refine ⟨?_, ?_, ?_, ?_, ?_, ?_, ?_, ?_, ?_, ?_, trivial⟩
    · intro vs W hW hW0 hd hne hold K hK hA hL; clear hne hA hL; have hBB := hW.1; have u1 := hW.2.1; have u2 := hW.2.2.1; have u3 := hW.2.2.2.1; have i1 := hW.2.2.2.2.1; have i2 := hW.2.2.2.2.2.1; have i3 := hW.2.2.2.2.2.2.1; have hl := hW.2.2.2.2.2.2.2; simp only [puts, Act.put, List.setIfInBounds_toArray, List.set_cons_zero, List.set_cons_succ, Nat.zero_add, Nat.reduceAdd] at hK ⊢; have q1 := u3.cell 0 _ rfl; have q2 := u3.cell 1 _ rfl; clear hd hold; go_simp; exact hK.out rfl _ _ (Below.refl _ _) ⟨n3, x3, k3, c3, rfl, i3⟩
    · intro vs W hW hW0 hd hne hold K hK hA hL; clear hne hA hL; have hBB := hW.1; have u1 := hW.2.1; have u2 := hW.2.2.1; have u3 := hW.2.2.2.1; have i1 := hW.2.2.2.2.1; have i2 := hW.2.2.2.2.2.1; have i3 := hW.2.2.2.2.2.2.1; have hl := hW.2.2.2.2.2.2.2; simp only [puts, Act.put, List.setIfInBounds_toArray, List.set_cons_zero, List.set_cons_succ, Nat.zero_add, Nat.reduceAdd] at hK ⊢; have q1 := u1.cell 0 _ rfl; have q2 := u1.cell 1 _ rfl; clear hd hold; go_simp; exact hK.out rfl _ _ (Below.refl _ _) ⟨n1, x1, k1, c1, rfl, i1⟩
    · intro vs W hW hW0 hd hne hold K hK hA hL; clear hne hA hL; have hBB := hW.1; have u1 := hW.2.1; have u2 := hW.2.2.1; have u3 := hW.2.2.2.1; have i1 := hW.2.2.2.2.1; have i2 := hW.2.2.2.2.2.1; have i3 := hW.2.2.2.2.2.2.1; have hl := hW.2.2.2.2.2.2.2; simp only [puts, Act.put, List.setIfInBounds_toArray, List.set_cons_zero, List.set_cons_succ, Nat.zero_add, Nat.reduceAdd] at hK ⊢; clear hd hold; go_simp; exact hK.out rfl _ _ (Below.refl _ _) rfl
    · intro vs W hW hW0 hd hne hold K hK hA hL; clear hne hA hL; have hBB := hW.1; have u1 := hW.2.1; have u2 := hW.2.2.1; have u3 := hW.2.2.2.1; have i1 := hW.2.2.2.2.1; have i2 := hW.2.2.2.2.2.1; have i3 := hW.2.2.2.2.2.2.1; have hl := hW.2.2.2.2.2.2.2; simp only [puts, Act.put, List.setIfInBounds_toArray, List.set_cons_zero, List.set_cons_succ, Nat.zero_add, Nat.reduceAdd] at hK ⊢; have eb : vs 2 = _ := hd 2 (by kernel_rfl); clear hd hold; simp only [eb] at hK; go_simp; refine (big_of den d1 d2 _).mono ?_; (rintro e wx ⟨f1, f2, f3, f4, rfl, If, hbx⟩); go_simp; exact hK.out rfl _ _ hbx ⟨f1, f2, f3, f4, rfl, If⟩
    · intro vs W hW hW0 hd hne hold K hK hA hL; clear hne hA hL; have hBB := hW.1; have u1 := hW.2.1; have u2 := hW.2.2.1; have u3 := hW.2.2.2.1; have i1 := hW.2.2.2.2.1; have i2 := hW.2.2.2.2.2.1; have i3 := hW.2.2.2.2.2.2.1; have hl := hW.2.2.2.2.2.2.2; simp only [puts, Act.put, List.setIfInBounds_toArray, List.set_cons_zero, List.set_cons_succ, Nat.zero_add, Nat.reduceAdd] at hK ⊢; (have hxb : BigV N (vs 1) W := hd 1 (by kernel_rfl)); obtain ⟨b1, b2, b3, b4, eb, Ib⟩ := hxb; (have hxc : BigV den (vs 3) W := hd 3 (by kernel_rfl)); obtain ⟨c1, c2, c3, c4, ec, Ic⟩ := hxc; have z1 := Ib.le sN; have z2 := Ic.le sd; clear hd hold; simp only [eb, ec] at hK; go_simp; refine (big_times b1 c1 b2 c2 b3 c3 b4 c4 N den _ Ib Ic (by omega) (by omega)).mono ?_; (rintro e wx ⟨f1, f2, f3, f4, rfl, If, hbx⟩); go_simp; exact hK.out rfl _ _ hbx ⟨f1, f2, f3, f4, rfl, If⟩
    · intro vs W hW hW0 hd hne hold K hK hA hL; clear hne hA hL; have hBB := hW.1; have u1 := hW.2.1; have u2 := hW.2.2.1; have u3 := hW.2.2.2.1; have i1 := hW.2.2.2.2.1; have i2 := hW.2.2.2.2.2.1; have i3 := hW.2.2.2.2.2.2.1; have hl := hW.2.2.2.2.2.2.2; simp only [puts, Act.put, List.setIfInBounds_toArray, List.set_cons_zero, List.set_cons_succ, Nat.zero_add, Nat.reduceAdd] at hK ⊢; (have hxb : BigV 2 (vs 0) W := hd 0 (by kernel_rfl)); obtain ⟨b1, b2, b3, b4, eb, Ib⟩ := hxb; (have hxc : BigV (N * den) (vs 4) W := hd 4 (by kernel_rfl)); obtain ⟨c1, c2, c3, c4, ec, Ic⟩ := hxc; have z1 := Ib.le s2; have z2 := Ic.le sND; clear hd hold; simp only [eb, ec] at hK; go_simp; refine (big_times b1 c1 b2 c2 b3 c3 b4 c4 2 (N * den) _ Ib Ic (by omega) (by omega)).mono ?_; (rintro e wx ⟨f1, f2, f3, f4, rfl, If, hbx⟩); go_simp; exact hK.out rfl _ _ hbx ⟨f1, f2, f3, f4, rfl, If⟩
    · intro vs W hW hW0 hd hne hold K hK hA hL; clear hne hA hL; have hBB := hW.1; have u1 := hW.2.1; have u2 := hW.2.2.1; have u3 := hW.2.2.2.1; have i1 := hW.2.2.2.2.1; have i2 := hW.2.2.2.2.2.1; have i3 := hW.2.2.2.2.2.2.1; have hl := hW.2.2.2.2.2.2.2; simp only [puts, Act.put, List.setIfInBounds_toArray, List.set_cons_zero, List.set_cons_succ, Nat.zero_add, Nat.reduceAdd] at hK ⊢; have q1 := u2.cell 0 _ rfl; have q2 := u2.cell 1 _ rfl; clear hd hold; go_simp; exact hK.out rfl _ _ (Below.refl _ _) ⟨n2, x2, k2, c2, rfl, i2⟩
    · intro vs W hW hW0 hd hne hold K hK hA hL; clear hne hA hL; have hBB := hW.1; have u1 := hW.2.1; have u2 := hW.2.2.1; have u3 := hW.2.2.2.1; have i1 := hW.2.2.2.2.1; have i2 := hW.2.2.2.2.2.1; have i3 := hW.2.2.2.2.2.2.1; have hl := hW.2.2.2.2.2.2.2; simp only [puts, Act.put, List.setIfInBounds_toArray, List.set_cons_zero, List.set_cons_succ, Nat.zero_add, Nat.reduceAdd] at hK ⊢; (have hxb : BigV (2 * (N * den)) (vs 5) W := hd 5 (by kernel_rfl)); obtain ⟨b1, b2, b3, b4, eb, Ib⟩ := hxb; (have hxc : BigV L (vs 6) W := hd 6 (by kernel_rfl)); obtain ⟨c1, c2, c3, c4, ec, Ic⟩ := hxc; have z1 := Ib.le s2ND; have z2 := Ic.le sL; clear hd hold; simp only [eb, ec] at hK; go_simp; refine (big_plus b1 c1 b2 c2 b3 c3 b4 c4 (2 * (N * den)) L _ Ib Ic (by omega) (by omega)).mono ?_; (rintro e wx ⟨f1, f2, f3, f4, rfl, If, hbx⟩); go_simp; exact hK.out rfl _ _ hbx ⟨f1, f2, f3, f4, rfl, If⟩
    · intro vs W hW hW0 hd hne hold K hK hA hL; clear hne hK hL; have hBB := hW.1; have u1 := hW.2.1; have u2 := hW.2.2.1; have u3 := hW.2.2.2.1; have i1 := hW.2.2.2.2.1; have i2 := hW.2.2.2.2.2.1; have i3 := hW.2.2.2.2.2.2.1; have hl := hW.2.2.2.2.2.2.2; simp only [puts, Act.put, List.setIfInBounds_toArray, List.set_cons_zero, List.set_cons_succ, Nat.zero_add, Nat.reduceAdd] at hA ⊢; clear hd hold; go_simp; exact hA.out W.heap.size _ ((Below.refl _ _).alloc (Nat.le_refl _) _) (Nat.le_refl _) ⟨W.heap.size, _, rfl, hl, Blk.new _ _ _ _ rfl, rfl⟩
    · intro vs W hW hW0 hd hne hold K hK hA hL; clear hK hA; have hBB := hW.1; have u1 := hW.2.1; have u2 := hW.2.2.1; have u3 := hW.2.2.2.1; have i1 := hW.2.2.2.2.1; have i2 := hW.2.2.2.2.2.1; have i3 := hW.2.2.2.2.2.2.1; have hl := hW.2.2.2.2.2.2.2; simp only [puts, Act.put, List.setIfInBounds_toArray, List.set_cons_zero, List.set_cons_succ, Nat.zero_add, Nat.reduceAdd] at hL ⊢; (have hxc : BigV (2 * (N * den) + L) (vs 7) W := hd 7 (by kernel_rfl)); obtain ⟨c1, c2, c3, c4, ec, Ic⟩ := hxc; (have hxb : BxV W1.heap.size 41 2 (vs 8) W := hd 8 (by kernel_rfl)); obtain ⟨b, cs0, eb, hlb, t0, hsz⟩ := hxb; obtain ⟨z0, q0⟩ := t0.cellx 0 (by omega); have p0 := t0.free 0; obtain ⟨z1, q1⟩ := t0.cellx 1 (by omega); have p1 := t0.free 1; have tb := t0.set2 hsz (.bool c1) (.slice c2 c3 c4); have hbt := But.set2 (b := b) W (.bool c1) (.slice c2 c3 c4); clear hd hold; simp only [ec, eb] at hL; have HSZ := Lib.hid hsz; clear hsz; have HNE := Lib.hid hne; clear hne; go_simp; have hne := HNE.out; have hsz := HSZ.out; refine hL.out rfl undef _ ⟨hbt.to hBB (by omega) hBB.size, u1.but hbt (by omega), u2.but hbt (by omega), u3.but hbt (by omega), i1.but hbt t0 (by decide), i2.but hbt t0 (by decide), i3.but hbt t0 (by decide), Nat.le_trans hl hbt.size⟩ (fun _ => trivial) ⟨b, c1, c2, c3, c4, eb, hlb, tb, IsBig.but Ic hbt t0 (by decide)⟩ ?_; exact claims_keep ⟨.inr fun h => BigV.but h hbt t0 (by decide), .inr fun h => BigV.but h hbt t0 (by decide), .inr is_keep, .inr fun h => BigV.but h hbt t0 (by decide), .inr fun h => BigV.but h hbt t0 (by decide), .inr fun h => BigV.but h hbt t0 (by decide), .inr fun h => BigV.but h hbt t0 (by decide), .inr fun h => BigV.but h hbt t0 (by decide), .inr fun h => BxV.but h hbt t0 tb (by rw [hsz]; rfl), .inl rfl, trivial⟩
  · intro va WA hW hV _
    obtain ⟨hBA, u1, u2, u3, i1, i2, i3, hlA⟩ := hW
    have h9 : BoxBig W1.heap.size (2 * (N * den) + L) (va 8) WA := hV 9 (by decide)
    obtain ⟨p5, n5, x5, k5, c5, e5, hl5, t5, I5⟩ := h9
    replace t5 : Blk WA p5 #[.bool n5, .slice x5 k5 c5] 41 := t5
    rw [eX] at I5
    clear hV
    simp only [puts, Act.put, List.setIfInBounds_toArray, List.set_cons_zero, List.set_cons_succ, Nat.zero_add, Nat.reduceAdd, e5]
    refine hK0 _ _ ?_
    clear hK0 e5 sND s2ND sN sd J1 J2 J3 t1 t2 t3 hB hl3
    have hWA := hBA.size
    have hl5' := t5.lt
    have hl2' := u2.lt
    have hl3' := u3.lt
    go_upto_region 13 with (fail)
    rename_i K1 hK1
    refine wp_region_calm (fun w' => Below w1.heap.size w1 w' ∧ Blk w' (p1 + 1) #[.bool n2, .slice x2 k2 c2] 41 ∧ Blk w' p3 #[.bool n3, .slice x3 k3 c3] 41 ∧ Blk w' p5 #[.bool n5, .slice x5 k5 c5] 41 ∧ IsBig w' n2 x2 k2 c2 L ∧ IsBig w' n3 x3 k3 c3 2 ∧ IsBig w' n5 x5 k5 c5 X ∧ WA.heap.size ≤ w'.heap.size) [] (fun w' => True) [bigC X, bigC 2, bigC L, bigC (2 * L), big2C F R, big2C F R, bigC F, bigC R, bxV WA.heap.size 41 2, bxV WA.heap.size 41 2, boxAt 8 WA.heap.size F, Cl.any] [8, 9] (by kernel_rfl) (by kernel_rfl) (by kernel_rfl) (by kernel_rfl) ⟨hBA.drew, u2, u3, t5, i2.drewd, i3.drewd, I5.drewd, Nat.le_refl _⟩ trivial ?_ ?_ ?_ ?_ ?_
    · rintro W W' ⟨hBB, v2, v3, v5, y2, y3, y5, hl⟩ hb
      exact ⟨hBB.trans (hb.mono hBB.size), v2.below hb, v3.below hb, v5.below hb, y2.keep hb, y3.keep hb, y5.keep hb, Nat.le_trans hl hb.size⟩
    · exact fun _ _ _ _ _ => trivial
    · intro k vs W hk h
      rcases (by simpa using hk : k = 8 ∨ k = 9) with rfl | rfl <;> (obtain ⟨b, cs, e, h1, h2, h3⟩ := h; exact ⟨b, e, h2.lt⟩)
    · intro Q; clear hK1 hBA u1 u2 u3 t5 i1 i2 i3 I5
      refine ⟨?_, ?_, ?_, ?_, ?_, ?_, ?_, ?_, ?_, ?_, ?_, ?_, trivial⟩
      · intro vs W hW hW0 hd hne hold K hK hA hL; clear hne hA hL; have hBB := hW.1; have v2 := hW.2.1; have v3 := hW.2.2.1; have v5 := hW.2.2.2.1; have y2 := hW.2.2.2.2.1; have y3 := hW.2.2.2.2.2.1; have y5 := hW.2.2.2.2.2.2.1; have hl := hW.2.2.2.2.2.2.2; simp only [puts, Act.put, List.setIfInBounds_toArray, List.set_cons_zero, List.set_cons_succ, Nat.zero_add, Nat.reduceAdd] at hK ⊢; have q1 := v5.cell 0 _ rfl; have q2 := v5.cell 1 _ rfl; clear hd hold; go_simp; exact hK.out rfl _ _ (Below.refl _ _) ⟨n5, x5, k5, c5, rfl, y5⟩
      · intro vs W hW hW0 hd hne hold K hK hA hL; clear hne hA hL; have hBB := hW.1; have v2 := hW.2.1; have v3 := hW.2.2.1; have v5 := hW.2.2.2.1; have y2 := hW.2.2.2.2.1; have y3 := hW.2.2.2.2.2.1; have y5 := hW.2.2.2.2.2.2.1; have hl := hW.2.2.2.2.2.2.2; simp only [puts, Act.put, List.setIfInBounds_toArray, List.set_cons_zero, List.set_cons_succ, Nat.zero_add, Nat.reduceAdd] at hK ⊢; have q1 := v3.cell 0 _ rfl; have q2 := v3.cell 1 _ rfl; clear hd hold; go_simp; exact hK.out rfl _ _ (Below.refl _ _) ⟨n3, x3, k3, c3, rfl, y3⟩
      · intro vs W hW hW0 hd hne hold K hK hA hL; clear hne hA hL; have hBB := hW.1; have v2 := hW.2.1; have v3 := hW.2.2.1; have v5 := hW.2.2.2.1; have y2 := hW.2.2.2.2.1; have y3 := hW.2.2.2.2.2.1; have y5 := hW.2.2.2.2.2.2.1; have hl := hW.2.2.2.2.2.2.2; simp only [puts, Act.put, List.setIfInBounds_toArray, List.set_cons_zero, List.set_cons_succ, Nat.zero_add, Nat.reduceAdd] at hK ⊢; have q1 := v2.cell 0 _ rfl; have q2 := v2.cell 1 _ rfl; clear hd hold; go_simp; exact hK.out rfl _ _ (Below.refl _ _) ⟨n2, x2, k2, c2, rfl, y2⟩
      · intro vs W hW hW0 hd hne hold K hK hA hL; clear hne hA hL; have hBB := hW.1; have v2 := hW.2.1; have v3 := hW.2.2.1; have v5 := hW.2.2.2.1; have y2 := hW.2.2.2.2.1; have y3 := hW.2.2.2.2.2.1; have y5 := hW.2.2.2.2.2.2.1; have hl := hW.2.2.2.2.2.2.2; simp only [puts, Act.put, List.setIfInBounds_toArray, List.set_cons_zero, List.set_cons_succ, Nat.zero_add, Nat.reduceAdd] at hK ⊢; (have hxb : BigV 2 (vs 1) W := hd 1 (by kernel_rfl)); obtain ⟨b1, b2, b3, b4, eb, Ib⟩ := hxb; (have hxc : BigV L (vs 2) W := hd 2 (by kernel_rfl)); obtain ⟨c1, c2, c3, c4, ec, Ic⟩ := hxc; have z1 := Ib.le s2; have z2 := Ic.le sL; clear hd hold; simp only [eb, ec] at hK; go_simp; refine (big_times b1 c1 b2 c2 b3 c3 b4 c4 2 L _ Ib Ic (by omega) (by omega)).mono ?_; (rintro e wx ⟨f1, f2, f3, f4, rfl, If, hbx⟩); go_simp; exact hK.out rfl _ _ hbx ⟨f1, f2, f3, f4, rfl, If⟩
      · intro vs W hW hW0 hd hne hold K hK hA hL; clear hne hA hL; have hBB := hW.1; have v2 := hW.2.1; have v3 := hW.2.2.1; have v5 := hW.2.2.2.1; have y2 := hW.2.2.2.2.1; have y3 := hW.2.2.2.2.2.1; have y5 := hW.2.2.2.2.2.2.1; have hl := hW.2.2.2.2.2.2.2; simp only [puts, Act.put, List.setIfInBounds_toArray, List.set_cons_zero, List.set_cons_succ, Nat.zero_add, Nat.reduceAdd] at hK ⊢; (have hxb : BigV X (vs 0) W := hd 0 (by kernel_rfl)); obtain ⟨b1, b2, b3, b4, eb, Ib⟩ := hxb; (have hxc : BigV (2 * L) (vs 3) W := hd 3 (by kernel_rfl)); obtain ⟨c1, c2, c3, c4, ec, Ic⟩ := hxc; have z1 := Ib.le sX; have z2 := Ic.le s2L; clear hd hold; simp only [eb, ec] at hK; go_simp; refine (DN b1 c1 b2 c2 b3 c3 b4 c4 _ Ib Ic (by omega) (by omega)).mono ?_; (rintro e wx ⟨f1, f2, f3, f4, u1, u2, u3, u4, rfl, If, Ig, hbx⟩); go_simp; exact hK.out rfl _ _ hbx ⟨f1, f2, f3, f4, u1, u2, u3, u4, rfl, If, Ig⟩
      · intro vs W hW hW0 hd hne hold K hK hA hL; clear hne hA hL; have hBB := hW.1; have v2 := hW.2.1; have v3 := hW.2.2.1; have v5 := hW.2.2.2.1; have y2 := hW.2.2.2.2.1; have y3 := hW.2.2.2.2.2.1; have y5 := hW.2.2.2.2.2.2.1; have hl := hW.2.2.2.2.2.2.2; simp only [puts, Act.put, List.setIfInBounds_toArray, List.set_cons_zero, List.set_cons_succ, Nat.zero_add, Nat.reduceAdd] at hK ⊢; have h1 : Big2V F R (vs 4) W := hd 4 (by kernel_rfl); obtain ⟨f1, f2, f3, f4, u1, u2, u3, u4, e1, If, Ig⟩ := h1; clear hd hold; simp only [e1] at hK; go_simp; exact hK.out rfl _ _ (Below.refl _ _) ⟨f1, f2, f3, f4, u1, u2, u3, u4, rfl, If, Ig⟩
      · intro vs W hW hW0 hd hne hold K hK hA hL; clear hne hA hL; have hBB := hW.1; have v2 := hW.2.1; have v3 := hW.2.2.1; have v5 := hW.2.2.2.1; have y2 := hW.2.2.2.2.1; have y3 := hW.2.2.2.2.2.1; have y5 := hW.2.2.2.2.2.2.1; have hl := hW.2.2.2.2.2.2.2; simp only [puts, Act.put, List.setIfInBounds_toArray, List.set_cons_zero, List.set_cons_succ, Nat.zero_add, Nat.reduceAdd] at hK ⊢; have h1 : Big2V F R (vs 5) W := hd 5 (by kernel_rfl); obtain ⟨f1, f2, f3, f4, u1, u2, u3, u4, e1, If, Ig⟩ := h1; clear hd hold; simp only [e1] at hK; go_simp; exact hK.out rfl _ _ (Below.refl _ _) ⟨f1, f2, f3, f4, rfl, If⟩
      · intro vs W hW hW0 hd hne hold K hK hA hL; clear hne hA hL; have hBB := hW.1; have v2 := hW.2.1; have v3 := hW.2.2.1; have v5 := hW.2.2.2.1; have y2 := hW.2.2.2.2.1; have y3 := hW.2.2.2.2.2.1; have y5 := hW.2.2.2.2.2.2.1; have hl := hW.2.2.2.2.2.2.2; simp only [puts, Act.put, List.setIfInBounds_toArray, List.set_cons_zero, List.set_cons_succ, Nat.zero_add, Nat.reduceAdd] at hK ⊢; have h1 : Big2V F R (vs 5) W := hd 5 (by kernel_rfl); obtain ⟨f1, f2, f3, f4, u1, u2, u3, u4, e1, If, Ig⟩ := h1; clear hd hold; simp only [e1] at hK; go_simp; exact hK.out rfl _ _ (Below.refl _ _) ⟨u1, u2, u3, u4, rfl, Ig⟩
      · intro vs W hW hW0 hd hne hold K hK hA hL; clear hne hK hL; have hBB := hW.1; have v2 := hW.2.1; have v3 := hW.2.2.1; have v5 := hW.2.2.2.1; have y2 := hW.2.2.2.2.1; have y3 := hW.2.2.2.2.2.1; have y5 := hW.2.2.2.2.2.2.1; have hl := hW.2.2.2.2.2.2.2; simp only [puts, Act.put, List.setIfInBounds_toArray, List.set_cons_zero, List.set_cons_succ, Nat.zero_add, Nat.reduceAdd] at hA ⊢; clear hd hold; go_simp; exact hA.out W.heap.size _ ((Below.refl _ _).alloc (Nat.le_refl _) _) (Nat.le_refl _) ⟨W.heap.size, _, rfl, hl, Blk.new _ _ _ _ rfl, rfl⟩
      · intro vs W hW hW0 hd hne hold K hK hA hL; clear hne hK hL; have hBB := hW.1; have v2 := hW.2.1; have v3 := hW.2.2.1; have v5 := hW.2.2.2.1; have y2 := hW.2.2.2.2.1; have y3 := hW.2.2.2.2.2.1; have y5 := hW.2.2.2.2.2.2.1; have hl := hW.2.2.2.2.2.2.2; simp only [puts, Act.put, List.setIfInBounds_toArray, List.set_cons_zero, List.set_cons_succ, Nat.zero_add, Nat.reduceAdd] at hA ⊢; clear hd hold; go_simp; exact hA.out W.heap.size _ ((Below.refl _ _).alloc (Nat.le_refl _) _) (Nat.le_refl _) ⟨W.heap.size, _, rfl, hl, Blk.new _ _ _ _ rfl, rfl⟩
      · intro vs W hW hW0 hd hne hold K hK hA hL; clear hK hA; have hBB := hW.1; have v2 := hW.2.1; have v3 := hW.2.2.1; have v5 := hW.2.2.2.1; have y2 := hW.2.2.2.2.1; have y3 := hW.2.2.2.2.2.1; have y5 := hW.2.2.2.2.2.2.1; have hl := hW.2.2.2.2.2.2.2; simp only [puts, Act.put, List.setIfInBounds_toArray, List.set_cons_zero, List.set_cons_succ, Nat.zero_add, Nat.reduceAdd] at hL ⊢; (have hxc : BigV F (vs 6) W := hd 6 (by kernel_rfl)); obtain ⟨c1, c2, c3, c4, ec, Ic⟩ := hxc; (have hxb : BxV WA.heap.size 41 2 (vs 8) W := hd 8 (by kernel_rfl)); obtain ⟨b, cs0, eb, hlb, t0, hsz⟩ := hxb; obtain ⟨z0, q0⟩ := t0.cellx 0 (by omega); have p0 := t0.free 0; obtain ⟨z1, q1⟩ := t0.cellx 1 (by omega); have p1 := t0.free 1; have tb := t0.set2 hsz (.bool c1) (.slice c2 c3 c4); have hbt := But.set2 (b := b) W (.bool c1) (.slice c2 c3 c4); clear hd hold; simp only [ec, eb] at hL; have HSZ := Lib.hid hsz; clear hsz; have HNE := Lib.hid hne; clear hne; go_simp; have hne := HNE.out; have hsz := HSZ.out; refine hL.out rfl undef _ ⟨hbt.to hBB (by omega) hBB.size, v2.but hbt (by omega), v3.but hbt (by omega), v5.but hbt (by omega), y2.but hbt t0 (by decide), y3.but hbt t0 (by decide), y5.but hbt t0 (by decide), Nat.le_trans hl hbt.size⟩ (fun _ => trivial) ⟨b, c1, c2, c3, c4, eb, hlb, tb, IsBig.but Ic hbt t0 (by decide)⟩ ?_; exact claims_keep ⟨.inr fun h => BigV.but h hbt t0 (by decide), .inr fun h => BigV.but h hbt t0 (by decide), .inr fun h => BigV.but h hbt t0 (by decide), .inr fun h => BigV.but h hbt t0 (by decide), .inr fun h => Big2V.but h hbt t0 (by decide), .inr fun h => Big2V.but h hbt t0 (by decide), .inr fun h => BigV.but h hbt t0 (by decide), .inr fun h => BigV.but h hbt t0 (by decide), .inr fun h => BxV.but h hbt t0 tb (by rw [hsz]; rfl), .inr fun h => BxV.but h hbt t0 tb (by rw [hsz]; rfl), .inl rfl, .inr fun _ => trivial, trivial⟩
      · intro vs W hW hW0 hd hne hold K hK hA hL; clear hK hA; have hBB := hW.1; have v2 := hW.2.1; have v3 := hW.2.2.1; have v5 := hW.2.2.2.1; have y2 := hW.2.2.2.2.1; have y3 := hW.2.2.2.2.2.1; have y5 := hW.2.2.2.2.2.2.1; have hl := hW.2.2.2.2.2.2.2; simp only [puts, Act.put, List.setIfInBounds_toArray, List.set_cons_zero, List.set_cons_succ, Nat.zero_add, Nat.reduceAdd] at hL ⊢; (have hxc : BigV R (vs 7) W := hd 7 (by kernel_rfl)); obtain ⟨c1, c2, c3, c4, ec, Ic⟩ := hxc; (have hxb : BxV WA.heap.size 41 2 (vs 9) W := hd 9 (by kernel_rfl)); obtain ⟨b, cs0, eb, hlb, t0, hsz⟩ := hxb; obtain ⟨z0, q0⟩ := t0.cellx 0 (by omega); have p0 := t0.free 0; obtain ⟨z1, q1⟩ := t0.cellx 1 (by omega); have p1 := t0.free 1; have tb := t0.set2 hsz (.bool c1) (.slice c2 c3 c4); have hbt := But.set2 (b := b) W (.bool c1) (.slice c2 c3 c4); clear hd hold; simp only [ec, eb] at hL; have HSZ := Lib.hid hsz; clear hsz; have HNE := Lib.hid hne; clear hne; go_simp; have hne := HNE.out; have hsz := HSZ.out; have hnb : vs 8 ≠ .pointer (some ⟨b, 0, none⟩) := fun x => hne 9 8 (by decide) (by kernel_rfl) (by rw [eb, x]); refine hL.out rfl undef _ ⟨hbt.to hBB (by omega) hBB.size, v2.but hbt (by omega), v3.but hbt (by omega), v5.but hbt (by omega), y2.but hbt t0 (by decide), y3.but hbt t0 (by decide), y5.but hbt t0 (by decide), Nat.le_trans hl hbt.size⟩ (fun _ => trivial) trivial ?_; exact claims_keep ⟨.inr fun h => BigV.but h hbt t0 (by decide), .inr fun h => BigV.but h hbt t0 (by decide), .inr fun h => BigV.but h hbt t0 (by decide), .inr fun h => BigV.but h hbt t0 (by decide), .inr fun h => Big2V.but h hbt t0 (by decide), .inr fun h => Big2V.but h hbt t0 (by decide), .inr fun h => BigV.but h hbt t0 (by decide), .inr fun h => BigV.but h hbt t0 (by decide), .inr fun h => BxV.but h hbt t0 tb (by rw [hsz]; rfl), .inr fun h => BxV.but h hbt t0 tb (by rw [hsz]; rfl), .inr fun h => BoxBig.but h hbt t0 (by decide) hnb, .inl rfl, trivial⟩
    · intro vb WB hW hV _
      obtain ⟨hBC, -⟩ := hW
      have h9 : BoxBig WA.heap.size F (vb 8) WB := hV 10 (by decide)
      obtain ⟨p7, n7, x7, k7, c7, e7, hl7, t7, I7⟩ := h9
      replace t7 : Blk WB p7 #[.bool n7, .slice x7 k7 c7] 41 := t7
      clear hV hBA u1 u2 u3 t5 i1 i2 i3 I5
      simp only [puts, Act.put, List.setIfInBounds_toArray, List.set_cons_zero, List.set_cons_succ, Nat.zero_add, Nat.reduceAdd, e7]
      refine hK1 _ _ ?_
      clear hK1 e7 DN sX s2L s2 sL eX
      have hWB := hBC.size
      have z7 := I7.le sF
      go_upto_region 14 with (fail)
      rename_i K2 hK2
      refine wp_region_calm (fun w' => Below w1.heap.size w1 w' ∧ Blk w' p7 #[.bool n7, .slice x7 k7 c7] 41 ∧ IsBig w' n7 x7 k7 c7 F) [] (fun w' => True) [bigC F, Is (.int .i64 low), bigC low, Is (.int .i64 (cmpI F low)), Is (.bool (decide (cmpI F low < 0)))] [] (by kernel_rfl) (by kernel_rfl) (by kernel_rfl) (by kernel_rfl) ⟨hBC.drew, t7, I7.drewd⟩ trivial ?_ ?_ ?_ ?_ ?_
      · rintro W W' ⟨hBB, v7, y7⟩ hb
        exact ⟨hBB.trans (hb.mono hBB.size), v7.below hb, y7.keep hb⟩
      · exact fun _ _ _ _ _ => trivial
      · intro k vs W hk h
        exact absurd hk (by simp)
      · intro Q; clear hK2 hBC t7 I7
        refine ⟨?_, ?_, ?_, ?_, ?_, trivial⟩
        · intro vs W hW hW0 hd hne hold K hK hA hL; clear hne hA hL; have hBB := hW.1; have v7 := hW.2.1; have y7 := hW.2.2; simp only [puts, Act.put, List.setIfInBounds_toArray, List.set_cons_zero, List.set_cons_succ, Nat.zero_add, Nat.reduceAdd] at hK ⊢; have q1 := v7.cell 0 _ rfl; have q2 := v7.cell 1 _ rfl; clear hd hold; go_simp; exact hK.out rfl _ _ (Below.refl _ _) ⟨n7, x7, k7, c7, rfl, y7⟩
        · intro vs W hW hW0 hd hne hold K hK hA hL; clear hne hA hL; have hBB := hW.1; have v7 := hW.2.1; have y7 := hW.2.2; simp only [puts, Act.put, List.setIfInBounds_toArray, List.set_cons_zero, List.set_cons_succ, Nat.zero_add, Nat.reduceAdd] at hK ⊢; clear hd hold; go_simp; exact hK.out rfl _ _ (Below.refl _ _) rfl
        · intro vs W hW hW0 hd hne hold K hK hA hL; clear hne hA hL; have hBB := hW.1; have v7 := hW.2.1; have y7 := hW.2.2; simp only [puts, Act.put, List.setIfInBounds_toArray, List.set_cons_zero, List.set_cons_succ, Nat.zero_add, Nat.reduceAdd] at hK ⊢; have eb : vs 1 = _ := hd 1 (by kernel_rfl); clear hd hold; simp only [eb] at hK; go_simp; refine (big_of low l1 l2 _).mono ?_; (rintro e wx ⟨f1, f2, f3, f4, rfl, If, hbx⟩); go_simp; exact hK.out rfl _ _ hbx ⟨f1, f2, f3, f4, rfl, If⟩
        · intro vs W hW hW0 hd hne hold K hK hA hL; clear hne hA hL; have hBB := hW.1; have v7 := hW.2.1; have y7 := hW.2.2; simp only [puts, Act.put, List.setIfInBounds_toArray, List.set_cons_zero, List.set_cons_succ, Nat.zero_add, Nat.reduceAdd] at hK ⊢; (have hxb : BigV F (vs 0) W := hd 0 (by kernel_rfl)); obtain ⟨b1, b2, b3, b4, eb, Ib⟩ := hxb; (have hxc : BigV low (vs 2) W := hd 2 (by kernel_rfl)); obtain ⟨c1, c2, c3, c4, ec, Ic⟩ := hxc; have z1 := Ib.le sF; have z2 := Ic.le (BM.Sz.i64 l1 l2); clear hd hold; simp only [eb, ec] at hK; go_simp; refine (big_cmp b1 c1 b2 c2 b3 c3 b4 c4 F low _ Ib Ic (by omega) (by omega)).mono ?_; (rintro e wx ⟨rfl, hbx⟩); go_simp; exact hK.out rfl _ _ hbx rfl
        · intro vs W hW hW0 hd hne hold K hK hA hL; clear hne hA hL; have hBB := hW.1; have v7 := hW.2.1; have y7 := hW.2.2; simp only [puts, Act.put, List.setIfInBounds_toArray, List.set_cons_zero, List.set_cons_succ, Nat.zero_add, Nat.reduceAdd] at hK ⊢; have e3 : vs 3 = _ := hd 3 (by kernel_rfl); clear hd hold; simp only [e3] at hK; go_simp; exact hK.out rfl _ _ (Below.refl _ _) rfl
      · intro vc WC hW hV _
        obtain ⟨hBD, u7, i7⟩ := hW
        have e4 : vc 4 = .bool (decide (cmpI F low < 0)) := hV 4 (by decide)
        clear hV hBC t7 I7
        simp only [puts, Act.put, List.setIfInBounds_toArray, List.set_cons_zero, List.set_cons_succ, Nat.zero_add, Nat.reduceAdd, e4]
        refine hK2 _ _ ?_
        clear hK2 e4
        have hc1 : decide (cmpI F low < 0) = decide (F < low) := by
          unfold cmpI
          by_cases h : F < low
          · simp [h]
          · simp only [h, if_false]; split <;> simp
        rw [hc1]
        clear hc1
        by_cases g1 : F < low
        · have hR2 : gridR b den low high = (low, 0) := by rw [HR.out]; unfold clampI; rw [if_pos g1]
          have HR2 := Lib.hid hR2
          clear hR2
          go_wp2_with fail
          rw [EQ.out, HR2.out]
          exact ⟨rfl, hBD⟩
        · have g1b : decide (F < low) = false := by simp; omega
          rw [g1b]
          clear g1b
          go_upto_region 16 with (fail)
          go_upto_region 16 with (fail)
          rename_i K3 hK3
          refine wp_region_calm (fun w' => Below w1.heap.size w1 w' ∧ Blk w' p7 #[.bool n7, .slice x7 k7 c7] 41 ∧ IsBig w' n7 x7 k7 c7 F) [] (fun w' => True) [bigC F, Is (.int .i64 high), bigC high, Is (.int .i64 (cmpI F high)), Is (.bool (decide (0 < cmpI F high)))] [] (by kernel_rfl) (by kernel_rfl) (by kernel_rfl) (by kernel_rfl) ⟨hBD.drew, u7, i7.drewd⟩ trivial ?_ ?_ ?_ ?_ ?_
          · rintro W W' ⟨hBB, v7, y7⟩ hb
            exact ⟨hBB.trans (hb.mono hBB.size), v7.below hb, y7.keep hb⟩
          · exact fun _ _ _ _ _ => trivial
          · intro k vs W hk h
            exact absurd hk (by simp)
          · intro Q; clear hK3 hBD u7 i7
            refine ⟨?_, ?_, ?_, ?_, ?_, trivial⟩
            · intro vs W hW hW0 hd hne hold K hK hA hL; clear hne hA hL; have hBB := hW.1; have v7 := hW.2.1; have y7 := hW.2.2; simp only [puts, Act.put, List.setIfInBounds_toArray, List.set_cons_zero, List.set_cons_succ, Nat.zero_add, Nat.reduceAdd] at hK ⊢; have q1 := v7.cell 0 _ rfl; have q2 := v7.cell 1 _ rfl; clear hd hold; go_simp; exact hK.out rfl _ _ (Below.refl _ _) ⟨n7, x7, k7, c7, rfl, y7⟩
            · intro vs W hW hW0 hd hne hold K hK hA hL; clear hne hA hL; have hBB := hW.1; have v7 := hW.2.1; have y7 := hW.2.2; simp only [puts, Act.put, List.setIfInBounds_toArray, List.set_cons_zero, List.set_cons_succ, Nat.zero_add, Nat.reduceAdd] at hK ⊢; clear hd hold; go_simp; exact hK.out rfl _ _ (Below.refl _ _) rfl
            · intro vs W hW hW0 hd hne hold K hK hA hL; clear hne hA hL; have hBB := hW.1; have v7 := hW.2.1; have y7 := hW.2.2; simp only [puts, Act.put, List.setIfInBounds_toArray, List.set_cons_zero, List.set_cons_succ, Nat.zero_add, Nat.reduceAdd] at hK ⊢; have eb : vs 1 = _ := hd 1 (by kernel_rfl); clear hd hold; simp only [eb] at hK; go_simp; refine (big_of high h1 h2 _).mono ?_; (rintro e wx ⟨f1, f2, f3, f4, rfl, If, hbx⟩); go_simp; exact hK.out rfl _ _ hbx ⟨f1, f2, f3, f4, rfl, If⟩
            · intro vs W hW hW0 hd hne hold K hK hA hL; clear hne hA hL; have hBB := hW.1; have v7 := hW.2.1; have y7 := hW.2.2; simp only [puts, Act.put, List.setIfInBounds_toArray, List.set_cons_zero, List.set_cons_succ, Nat.zero_add, Nat.reduceAdd] at hK ⊢; (have hxb : BigV F (vs 0) W := hd 0 (by kernel_rfl)); obtain ⟨b1, b2, b3, b4, eb, Ib⟩ := hxb; (have hxc : BigV high (vs 2) W := hd 2 (by kernel_rfl)); obtain ⟨c1, c2, c3, c4, ec, Ic⟩ := hxc; have z1 := Ib.le sF; have z2 := Ic.le (BM.Sz.i64 h1 h2); clear hd hold; simp only [eb, ec] at hK; go_simp; refine (big_cmp b1 c1 b2 c2 b3 c3 b4 c4 F high _ Ib Ic (by omega) (by omega)).mono ?_; (rintro e wx ⟨rfl, hbx⟩); go_simp; exact hK.out rfl _ _ hbx rfl
            · intro vs W hW hW0 hd hne hold K hK hA hL; clear hne hA hL; have hBB := hW.1; have v7 := hW.2.1; have y7 := hW.2.2; simp only [puts, Act.put, List.setIfInBounds_toArray, List.set_cons_zero, List.set_cons_succ, Nat.zero_add, Nat.reduceAdd] at hK ⊢; have e3 : vs 3 = _ := hd 3 (by kernel_rfl); clear hd hold; simp only [e3] at hK; go_simp; exact hK.out rfl _ _ (Below.refl _ _) rfl
          · intro vd WD hW hV _
            obtain ⟨hBE, u8, i8⟩ := hW
            have e4 : vd 4 = .bool (decide (0 < cmpI F high)) := hV 4 (by decide)
            clear hV hBD u7 i7
            simp only [puts, Act.put, List.setIfInBounds_toArray, List.set_cons_zero, List.set_cons_succ, Nat.zero_add, Nat.reduceAdd, e4]
            refine hK3 _ _ ?_
            clear hK3 e4
            have hc1 : decide (0 < cmpI F high) = decide (high < F) := by
              unfold cmpI
              by_cases h : F < high
              · rw [if_pos h, decide_eq_false (show ¬ (0 : Int) < -1 by omega), decide_eq_false (show ¬ high < F by omega)]
              · rw [if_neg h]
                by_cases h' : high < F
                · rw [if_pos h', decide_eq_true h', decide_eq_true (show (0 : Int) < 1 by omega)]
                · rw [if_neg h', decide_eq_false h', decide_eq_false (show ¬ (0 : Int) < 0 by omega)]
            rw [hc1]
            clear hc1
            by_cases g2 : high < F
            · have hR2 : gridR b den low high = (high, 0) := by rw [HR.out]; unfold clampI; rw [if_neg g1, if_pos g2]
              have HR2 := Lib.hid hR2
              clear hR2
              go_wp2_with fail
              rw [EQ.out, HR2.out]
              exact ⟨rfl, hBE⟩
            · have hR2 : gridR b den low high = (F, 0) := by rw [HR.out]; unfold clampI; rw [if_neg g1, if_neg g2]
              have HR2 := Lib.hid hR2
              have g2b : decide (high < F) = false := by simp; omega
              have hi : intV F = F := by unfold intV; rw [show intB F = true by unfold intB; simp; omega]; rfl
              have IT := big_int n7 x7 k7 c7 F WD i8 (by omega)
              rw [hi] at IT
              obtain ⟨ib, eib⟩ : ∃ v, intB F = v := ⟨_, rfl⟩
              rw [eib] at IT
              have q1 := u8.cell 0 _ rfl
              have q2 := u8.cell 1 _ rfl
              clear hR2 hi eib
              go_wp2_with (go_at_call 69; with_reducible refine IT.mono ?_; rintro e w9 ⟨rfl, hb9⟩)
              rw [EQ.out, HR2.out]
              exact ⟨rfl, hBE.trans (hb9.mono hBE.size)⟩
end Go.Proofs.YtmkblfejoniccaaDoor
namespace Go.Proofs.YtmkblfejoniccaaDoor
open Go.RowKit
set_option linter.unusedSimpArgs false
set_option linter.unusedVariables false

/-- A block of two cells of a wide number. -/
def Qx (w : World) (b : Nat) (x y : Value) : Prop := w.heap[b]? = some (Obj.cells #[x, y] 156 (0, 0))
theorem Qx.cells {w : World} {b : Nat} {x y : Value} (h : Qx w b x y) : w.cell? ⟨b, 0, none⟩ = some x ∧ w.cell? ⟨b, 1, none⟩ = some y ∧ w.frozen? ⟨b, 0, none⟩ = false ∧ w.frozen? ⟨b, 1, none⟩ = false := by
  refine ⟨by rw [cell_of_row w b 0 _ _ _ h]; rfl, by rw [cell_of_row w b 1 _ _ _ h]; rfl, ?_, ?_⟩ <;> simp [World.frozen?, show w.heap[b]? = _ from h]
theorem Qx.lt {w : World} {b : Nat} {x y : Value} (h : Qx w b x y) : b < w.heap.size := (Array.getElem?_eq_some_iff.1 h).1
theorem Qx.new (w : World) (x y : Value) (b : Nat) (hb : b = w.heap.size) : Qx (w.alloc (.cells #[x, y] 156)) b x y := by subst hb; exact heap_alloc_new w _
theorem Qx.alloc {w : World} {b : Nat} {x y : Value} (h : Qx w b x y) (o : Obj) : Qx (w.alloc o) b x y := (Below.heap_alloc w o _ h.lt).trans h
theorem Qx.below {w w' : World} {b : Nat} {x y : Value} (h : Qx w b x y) (hb : Below w.heap.size w w') : Qx w' b x y := (hb.block b h.lt).trans h
theorem Qx.belowX {w w' : World} {b : Nat} {x y : Value} (hb : Below w.heap.size w w') (h : Qx w b x y) : Qx w' b x y := h.below hb
theorem Qx.drew {w : World} {b : Nat} {x y : Value} (h : Qx w b x y) : Qx w.drew b x y := h
theorem Qx.put {w : World} {b : Nat} {x y : Value} (h : Qx w b x y) (u v : Value) : Qx ((w.setCell ⟨b, 0, none⟩ u).setCell ⟨b, 1, none⟩ v) b u v := by
  unfold Qx at *
  have h1 : (w.setCell ⟨b, 0, none⟩ u).heap[b]? = some (Obj.cells #[u, y] 156 (0, 0)) := by
    simp only [World.setCell, Array.getElem?_modify, if_true, h]; rfl
  simp only [World.setCell, Array.getElem?_modify, if_true] at h1 ⊢
  rw [h1]; rfl
theorem Qx.putE {w : World} {b : Nat} (h : ∃ x y, Qx w b x y) (u v : Value) : Qx ((w.setCell ⟨b, 0, none⟩ u).setCell ⟨b, 1, none⟩ v) b u v := by
  obtain ⟨x, y, h⟩ := h; exact h.put u v
theorem Rx.alloc {w : World} {b : Nat} {x y : Value} (h : Rx w b x y) (o : Obj) : Rx (w.alloc o) b x y := (Below.heap_alloc w o _ h.lt).trans h
/-- The ratio's box stands. -/
def RE (w : World) (b : Nat) (x y : Value) (wX : World) : Prop := Rx wX b x y ∧ Below w.heap.size w wX
section
variable {w wX w' : World} {b : Nat} {x y : Value}
theorem RE.tx (h : RE w b x y wX) : Rx wX b x y := h.1
theorem RE.bl (h : RE w b x y wX) : Below w.heap.size w wX := h.2
theorem RE.alloc (h : RE w b x y wX) (o : Obj) : RE w b x y (wX.alloc o) := ⟨h.tx.alloc o, h.bl.alloc h.bl.size o⟩
theorem RE.drew (h : RE w b x y wX) : RE w b x y wX.drew := ⟨h.tx, h.bl.drew⟩
theorem RE.below (hb : Below wX.heap.size wX w') (h : RE w b x y wX) : RE w b x y w' := ⟨h.tx.below hb, h.bl.trans (hb.mono h.bl.size)⟩
theorem RE.set (h : RE w b x y wX) (c o : Nat) (v : Value) (h5 : ¬ b = c) (hb : w.heap.size ≤ c) : RE w b x y (wX.setCell ⟨c, o, none⟩ v) :=
  ⟨(Below.heap_setCell _ _ _ _ h5).trans h.tx, h.bl.setCell (p := ⟨c, o, none⟩) hb v⟩
theorem RE.n1 (h : RE w b x y wX) : Qx (wX.alloc (.cells #[.int .i64 0, .int .u64 0] 156)) wX.heap.size (.int .i64 0) (.int .u64 0) := Qx.new _ _ _ _ rfl
theorem RE.cells (h : RE w b x y wX) : wX.cell? ⟨b, 0, none⟩ = some x ∧ wX.cell? ⟨b, 1, none⟩ = some y := ⟨h.tx.cells.1, h.tx.cells.2.1⟩
theorem RE.nes (h : RE w b x y wX) : ¬ b = wX.heap.size ∧ w.heap.size ≤ wX.heap.size ∧ b < wX.heap.size := by
  have a := h.tx.lt
  have c := h.bl.size
  omega
end

/-- The quotient rounded to the nearest number, a half upwards. -/
def hq (a d : Int) : Int := if d - fr a d ≤ fr a d then fq a d + 1 else fq a d
/-- What Half answers. -/
def HalfAns (x N D : Int) (w : World) (e : Ending) (w' : World) : Prop :=
  (goodB N D = false → e = .returned (.tuple #[.int .i64 0, .int .i64 1])) ∧ (goodB N D = true → IFit (hq (x * N) D) → e = .returned (.tuple #[.int .i64 (hq (x * N) D), .int .i64 0])) ∧
  (goodB N D = true → ¬ IFit (hq (x * N) D) → e = .returned (.tuple #[.int .i64 0, .int .i64 2])) ∧ Below w.heap.size w w'
def CutH (w : World) (F R : Int) (N D : Value) (s6 s7 s8 : Value) (wx : World) : Prop :=
  ∃ b qh ql, s6 = .pointer (some ⟨b, 0, none⟩) ∧ s7 = .int .i64 R ∧ s8 = .bool true ∧ Wd qh ql F ∧ Qx wx b (.int .i64 qh) (.int .u64 ql) ∧ RE w w.heap.size N D wx ∧ w.heap.size ≤ b

end Go.Proofs.YtmkblfejoniccaaDoor
namespace Go.Proofs.YtmkblfejoniccaaDoor
open Go.RowKit
set_option linter.unusedSimpArgs false
set_option linter.unusedVariables false

set_option maxRecDepth 100000 in
set_option maxHeartbeats 1600000 in
theorem rat_of_zero (n : Int) (w : World) : Calls Tryd.prog 19 #[.int .i64 n, .int .i64 0] w fun e w' => e = .returned (.tuple #[.agg #[.int .i64 0, .int .i64 0], .int .i64 3]) ∧ Below w.heap.size w w' := by
  have t1 := Rx.new w (.int .i64 0) (.int .i64 0) _ rfl
  have hB1 : Below w.heap.size w (w.alloc (.cells #[.int .i64 0, .int .i64 0] 25)) := (by repeat' (first | (with_reducible exact Below.refl _ _) | (with_reducible assumption) | (with_reducible refine below_alloc ?_ _ ?_) | (with_reducible refine below_set _ ?_ ?_) | (with_reducible refine Below.drew ?_) | (with_reducible refine below_dN ?_ _) | (apply below_thenA; assumption) | omega | (simp; done) | (simp; omega) | (simp [*]; done)))
  obtain ⟨p1, p2, p3, p4⟩ := t1.cells
  go_enter Tryd.func19, Tryd.ntmps19
  go_wp2_with fail
  (go_light; simp [bodyPost, results, Tryd.results19, go_sem, *])
theorem rat_down_ok (x N D F : Int) (hx : IFit x) (hN : IFit N) (hD : IFit D) (hg : goodB N D = true) (hF : fq (x * N) D = F) (hf : IFit F) (w : World) :
    Calls Tryd.prog 104 #[.agg #[.int .i64 N, .int .i64 D], .int .i64 x] w fun e w' => e = .returned (.tuple #[.int .i64 F, .int .i64 0]) ∧ Below w.heap.size w w' := by
  subst hF
  exact (rat_down x N D hx hN hD w).mono fun _ _ h => ⟨h.2.1 hg hf, h.2.2.2⟩
theorem rat_good_ok (N D : Int) (hN : IFit N) (hD : IFit D) (hg : goodB N D = true) (w : World) :
    Calls Tryd.prog 18 #[.agg #[.int .i64 N, .int .i64 D]] w fun e w' => e = .returned (.bool true) ∧ Below w.heap.size w w' := by
  have := rat_good N D hN hD w; rwa [hg] at this
theorem rat_of_small (p q : Int) (p1 : 1 ≤ p) (p2 : p ≤ 4096) (q1 : 1 ≤ q) (q2 : q ≤ 4096) :
    ∃ N D : Int, 1 ≤ N ∧ N ≤ 4096 ∧ 1 ≤ D ∧ D ≤ 4096 ∧ goodB N D = true ∧
      ∀ W, Calls Tryd.prog 19 #[.int .i64 p, .int .i64 q] W fun e w' => e = .returned (.tuple #[.agg #[.int .i64 N, .int .i64 D], .int .i64 0]) ∧ Below W.heap.size W w' := by
  have hg : 0 < Nat.gcd p.natAbs q.natAbs := Nat.gcd_pos_of_pos_right _ (by omega)
  have hco := Nat.coprime_div_gcd_div_gcd hg
  have h1 : 0 < p.natAbs / Nat.gcd p.natAbs q.natAbs := Nat.div_pos (Nat.le_of_dvd (by omega) (Nat.gcd_dvd_left _ _)) hg
  have h2 : 0 < q.natAbs / Nat.gcd p.natAbs q.natAbs := Nat.div_pos (Nat.le_of_dvd (by omega) (Nat.gcd_dvd_right _ _)) hg
  have h3 : p.natAbs / Nat.gcd p.natAbs q.natAbs ≤ p.natAbs := Nat.div_le_self _ _
  have h4 : q.natAbs / Nat.gcd p.natAbs q.natAbs ≤ q.natAbs := Nat.div_le_self _ _
  have OF := fun W => rat_of_pos p q (by unfold IFit; omega) (by unfold IFit; omega) (by omega) (.inr (.inr ⟨by omega, by omega⟩)) _ _ rfl rfl W
  obtain ⟨A, eA⟩ : ∃ A, p.natAbs / Nat.gcd p.natAbs q.natAbs = A := ⟨_, rfl⟩
  obtain ⟨B, eB⟩ : ∃ B, q.natAbs / Nat.gcd p.natAbs q.natAbs = B := ⟨_, rfl⟩
  rw [eA, eB] at hco
  rw [eA] at h1 h3
  rw [eB] at h2 h4
  refine ⟨(A : Int), (B : Int), by omega, by omega, by omega, by omega, ?_, fun W => ?_⟩
  · unfold goodB
    rw [Int.natAbs_natCast, Int.natAbs_natCast, show Nat.gcd A B = 1 from hco]
    simp; omega
  · have h := OF W
    rw [eA, eB] at h
    refine h.mono fun e w' x => ⟨?_, x.2.2⟩
    have := x.1 ⟨by unfold limR; simp; omega, by omega⟩
    simpa using this
theorem scales_plain (x N D : Int) (x1 : -35184372088832 ≤ x) (x2 : x ≤ 35184372088831) (N1 : 1 ≤ N) (N2 : N ≤ 4096) (D1 : 1 ≤ D) (D2 : D ≤ 4096) (hg : goodB N D = true) :
    (0 ≤ x * N - fq (x * N) D * D ∧ x * N - fq (x * N) D * D < D) ∧ (-D ≤ 2 * (x * N - hq (x * N) D * D) ∧ 2 * (x * N - hq (x * N) D * D) < D) ∧
    (-144115188075855872 ≤ x * N ∧ x * N ≤ 144115188075855872) ∧ (-144115188075855872 ≤ fq (x * N) D ∧ fq (x * N) D ≤ 144115188075855872) ∧
    (hq (x * N) D = fq (x * N) D ∨ hq (x * N) D = fq (x * N) D + 1) ∧ (N = D → fq (x * N) D = x ∧ hq (x * N) D = x) := by
  have b1 : -144115188075855872 ≤ x * N ∧ x * N ≤ 144115188075855872 := by
    have h1 : (x + 35184372088832) * N ≥ 0 := Int.mul_nonneg (by omega) (by omega)
    have h2 : (35184372088832 - x) * N ≥ 0 := Int.mul_nonneg (by omega) (by omega)
    rw [Int.add_mul] at h1
    rw [Int.sub_mul] at h2
    omega
  have hfr : fr (x * N) D = x * N - fq (x * N) D * D := rfl
  have hr : 0 ≤ fr (x * N) D ∧ fr (x * N) D < D := by
    rw [fr_pos (by omega)]
    exact ⟨Int.emod_nonneg _ (by omega), Int.emod_lt_of_pos _ (by omega)⟩
  have hab := fq_abs (a := x * N) (d := D) (by omega)
  have hq1 : hq (x * N) D = fq (x * N) D ∧ ¬ D - fr (x * N) D ≤ fr (x * N) D ∨ hq (x * N) D = fq (x * N) D + 1 ∧ D - fr (x * N) D ≤ fr (x * N) D := by
    unfold hq
    by_cases h : D - fr (x * N) D ≤ fr (x * N) D
    · rw [if_pos h]; exact .inr ⟨rfl, h⟩
    · rw [if_neg h]; exact .inl ⟨rfl, h⟩
  refine ⟨by omega, ?_, b1, by omega, by omega, fun e => ?_⟩
  · rcases hq1 with ⟨h, h'⟩ | ⟨h, h'⟩
    · rw [h]; omega
    · rw [h, Int.add_mul]; omega
  · subst e
    have h1 : N = 1 := by
      unfold goodB at hg
      simp at hg
      omega
    subst h1
    have e1 : fq (x * 1) 1 = x := by unfold fq; rw [if_neg (by decide)]; omega
    refine ⟨e1, ?_⟩
    unfold hq fr
    rw [e1, if_neg (by omega)]
theorem fq_mono {a b D : Int} (hD : 1 ≤ D) (h : a ≤ b) : fq a D ≤ fq b D := by
  unfold fq
  rw [if_neg (by omega), if_neg (by omega)]
  exact Int.ediv_le_ediv (by omega) h

end Go.Proofs.YtmkblfejoniccaaDoor
namespace Go.Proofs.YtmkblfejoniccaaDoor
open Go.RowKit
set_option linter.unusedSimpArgs false
set_option linter.unusedVariables false

/-- The two numbers of a ratio in lowest terms. -/
def numR (n d : Int) : Int := if decide (n < 0) = decide (d < 0) then ((n.natAbs / Nat.gcd n.natAbs d.natAbs : Nat) : Int) else -((n.natAbs / Nat.gcd n.natAbs d.natAbs : Nat) : Int)
def denR (n d : Int) : Int := ((d.natAbs / Nat.gcd n.natAbs d.natAbs : Nat) : Int)
def fitR (n d : Int) : Prop := IFit (numR n d) ∧ IFit (denR n d)
theorem rat_of_any (n d : Int) (hn : IFit n) (hd : IFit d) (h0 : d ≠ 0) (w : World) :
    Calls Tryd.prog 19 #[.int .i64 n, .int .i64 d] w fun e w' => (fitR n d → e = .returned (.tuple #[.agg #[.int .i64 (numR n d), .int .i64 (denR n d)], .int .i64 0])) ∧ (¬ fitR n d → e = .returned (.tuple #[.agg #[.int .i64 0, .int .i64 0], .int .i64 2])) ∧ Below w.heap.size w w' := by
  have hA : n = 0 → n.natAbs / Nat.gcd n.natAbs d.natAbs = 0 := fun h => by subst h; simp
  have hs : (n ≠ 0 ∧ ((n < 0 ∧ 0 < d) ∨ (0 < n ∧ d < 0))) ∨ (n = 0 ∨ (n < 0 ∧ d < 0) ∨ (0 < n ∧ 0 < d)) := by omega
  have N1 := fun hz hs => rat_of_neg n d hn hd h0 hz hs _ _ rfl rfl w
  have N2 := fun hs => rat_of_pos n d hn hd h0 hs _ _ rfl rfl w
  unfold fitR numR denR
  obtain ⟨A, eA⟩ : ∃ A, n.natAbs / Nat.gcd n.natAbs d.natAbs = A := ⟨_, rfl⟩
  obtain ⟨B, eB⟩ : ∃ B, d.natAbs / Nat.gcd n.natAbs d.natAbs = B := ⟨_, rfl⟩
  rw [eA] at hA
  rw [eA, eB] at N1 N2
  rw [eA, eB]
  clear eA eB
  rcases hs with ⟨hz, hs⟩ | hs
  · have e1 : ¬ (decide (n < 0) = decide (d < 0)) := by
      rcases hs with ⟨h, h'⟩ | ⟨h, h'⟩
      · rw [show decide (n < 0) = true by simp [h], show decide (d < 0) = false by simp; omega]; decide
      · rw [show decide (n < 0) = false by simp; omega, show decide (d < 0) = true by simp [h']]; decide
    rw [if_neg e1]
    refine (N1 hz hs).mono fun e w' h => ⟨fun hf => ?_, fun hf => ?_, h.2.2⟩
    · exact h.1 ⟨by unfold limR; simp; unfold IFit at hf; omega, by unfold IFit at hf; omega⟩
    · refine h.2.1 fun hc => hf ⟨?_, ?_⟩
      · have := hc.1; unfold limR at this; simp at this; unfold IFit; omega
      · have := hc.2; unfold IFit; omega
  · have e1 : (if decide (n < 0) = decide (d < 0) then (A : Int) else -(A : Int)) = (A : Int) := by
      rcases hs with h | ⟨h, h'⟩ | ⟨h, h'⟩
      · rw [hA h]; simp
      · rw [show decide (n < 0) = true by simp [h], show decide (d < 0) = true by simp [h']]; rfl
      · rw [show decide (n < 0) = false by simp; omega, show decide (d < 0) = false by simp; omega]; rfl
    rw [e1]
    refine (N2 hs).mono fun e w' h => ⟨fun hf => ?_, fun hf => ?_, h.2.2⟩
    · exact h.1 ⟨by unfold limR; simp; unfold IFit at hf; omega, by unfold IFit at hf; omega⟩
    · refine h.2.1 fun hc => hf ⟨?_, ?_⟩
      · have := hc.1; unfold limR at this; simp at this; unfold IFit; omega
      · have := hc.2; unfold IFit; omega
theorem good_low (n d : Int) (hd : d ≠ 0) : goodB (numR n d) (denR n d) = true := by
  have hg : 0 < Nat.gcd n.natAbs d.natAbs := Nat.gcd_pos_of_pos_right _ (by omega)
  have hco := Nat.coprime_div_gcd_div_gcd hg
  have h2 : 0 < d.natAbs / Nat.gcd n.natAbs d.natAbs := Nat.div_pos (Nat.le_of_dvd (by omega) (Nat.gcd_dvd_right _ _)) hg
  unfold numR denR
  obtain ⟨A, eA⟩ : ∃ A, n.natAbs / Nat.gcd n.natAbs d.natAbs = A := ⟨_, rfl⟩
  obtain ⟨B, eB⟩ : ∃ B, d.natAbs / Nat.gcd n.natAbs d.natAbs = B := ⟨_, rfl⟩
  rw [eA, eB] at hco
  rw [eB] at h2
  rw [eA, eB]
  have e : (if decide (n < 0) = decide (d < 0) then (A : Int) else -(A : Int)).natAbs = A := by split <;> omega
  unfold goodB
  rw [e, Int.natAbs_natCast, show Nat.gcd A B = 1 from hco]
  simp; omega
theorem rat_of_yes (n d N D : Int) (hn : IFit n) (hd : IFit d) (h0 : d ≠ 0) (hf : fitR n d) (eN : numR n d = N) (eD : denR n d = D) (w : World) :
    Calls Tryd.prog 19 #[.int .i64 n, .int .i64 d] w fun e w' => e = .returned (.tuple #[.agg #[.int .i64 N, .int .i64 D], .int .i64 0]) ∧ Below w.heap.size w w' := by
  subst eN eD
  exact (rat_of_any n d hn hd h0 w).mono fun e w' h => ⟨h.1 hf, h.2.2⟩
theorem rat_of_no (n d : Int) (hn : IFit n) (hd : IFit d) (h0 : d ≠ 0) (hf : ¬ fitR n d) (w : World) :
    Calls Tryd.prog 19 #[.int .i64 n, .int .i64 d] w fun e w' => e = .returned (.tuple #[.agg #[.int .i64 0, .int .i64 0], .int .i64 2]) ∧ Below w.heap.size w w' :=
  (rat_of_any n d hn hd h0 w).mono fun e w' h => ⟨h.2.1 hf, h.2.2⟩
theorem ref_low (n d N D : Int) (na nb : Bool) (xa xb : Option Addr) (ka kb ca cb : Nat) (w : World) (ha : IsBig w na xa ka ca n) (hb : IsBig w nb xb kb cb d) (hn : IFit n) (hd : IFit d) (h0 : d ≠ 0) (eN : numR n d = N) (eD : denR n d = D) :
    Calls Tryd.prog 51 #[.agg #[.bool na, .slice xa ka ca], .agg #[.bool nb, .slice xb kb cb]] w (BigRet2 N D w) := by
  have e4 : (65536 : Nat) ^ 4 = 18446744073709551616 := by decide
  have := ref_lowest na nb xa xb ka kb ca cb 4 n d w ha hb (by unfold IFit at hn; omega) (by unfold IFit at hd; omega) (by omega) h0
  subst eN eD
  rw [ha.sign, hb.sign] at this ⊢
  exact this
theorem ref_ints_at (na nb : Bool) (xa xb : Option Addr) (ka kb ca cb : Nat) (X Y : Int) (w : World) (ha : IsBig w na xa ka ca X) (hb : IsBig w nb xb kb cb Y) (h1 : X.natAbs < 65536 ^ 4) (h2 : Y.natAbs < 65536 ^ 4) :
    Calls Tryd.prog 52 #[.agg #[.bool na, .slice xa ka ca], .agg #[.bool nb, .slice xb kb cb]] w fun e w' =>
      (IFit X ∧ IFit Y → e = .returned (.tuple #[.int .i64 X, .int .i64 Y, .bool true])) ∧ (¬ (IFit X ∧ IFit Y) → ∃ v u, e = .returned (.tuple #[.int .i64 v, .int .i64 u, .bool false])) ∧ Below w.heap.size w w' := by
  have k1 := ha.le (K := 4) h1
  have k2 := hb.le (K := 4) h2
  refine (ref_ints na nb xa xb ka kb ca cb X Y w ha hb (by omega) (by omega)).mono fun e w' h => ⟨fun hf => ?_, fun hf => ?_, h.2⟩
  · have i1 : intB X = true := (intB_iff' X).2 hf.1
    have i2 : intB Y = true := (intB_iff' Y).2 hf.2
    have := h.1
    unfold intV at this
    rw [i1, i2] at this
    exact this
  · have : (intB X && intB Y) = false := by
      rw [Bool.eq_false_iff]
      intro h
      simp at h
      exact hf ⟨(intB_iff' X).1 h.1, (intB_iff' Y).1 h.2⟩
    have h1 := h.1
    rw [this] at h1
    exact ⟨_, _, h1⟩

theorem numR_le (n d : Int) : (numR n d).natAbs ≤ n.natAbs := by
  have h3 : n.natAbs / Nat.gcd n.natAbs d.natAbs ≤ n.natAbs := Nat.div_le_self _ _
  unfold numR
  obtain ⟨A, eA⟩ : ∃ A, n.natAbs / Nat.gcd n.natAbs d.natAbs = A := ⟨_, rfl⟩
  rw [eA] at h3 ⊢
  split <;> omega
theorem denR_le (n d : Int) : (denR n d).natAbs ≤ d.natAbs := by
  have h3 : d.natAbs / Nat.gcd n.natAbs d.natAbs ≤ d.natAbs := Nat.div_le_self _ _
  unfold denR
  rw [Int.natAbs_natCast]
  exact h3
end Go.Proofs.YtmkblfejoniccaaDoor
namespace Go.Proofs.YtmkblfejoniccaaDoor
open Go.RowKit
set_option linter.unusedSimpArgs false
set_option linter.unusedVariables false

theorem bzE2 {n : Nat} {W w1 : World} {G : Prop} (hb : Below W.heap.size W w1) (h : n + 2 ≤ W.heap.size) (k : (n + 1 < w1.heap.size ∧ n + 1 ≤ w1.heap.size ∧ n < w1.heap.size) → G) : G := by
  have := hb.size
  exact k (by omega)
theorem fr_fit {a c : Int} (hc : IFit c) (h0 : c ≠ 0) : IFit (fr a c) := by
  unfold IFit at *
  rcases Int.lt_or_le c 0 with h | h
  · rw [fr_neg h]
    have := Int.emod_nonneg (-a) (show -c ≠ 0 by omega)
    have := Int.emod_lt_of_pos (-a) (show 0 < -c by omega)
    omega
  · rw [fr_pos (by omega)]
    have := Int.emod_nonneg a h0
    have := Int.emod_lt_of_pos a (show 0 < c by omega)
    omega

end Go.Proofs.YtmkblfejoniccaaDoor
namespace Go.Proofs.YtmkblfejoniccaaDoor
open Go.RowKit
set_option linter.unusedSimpArgs false
set_option linter.unusedVariables false

/-- A box of two cells. -/
def Bx (w : World) (b : Nat) (T : TypeId) (x y : Value) : Prop := w.heap[b]? = some (Obj.cells #[x, y] T (0, 0))
theorem Bx.cells {w : World} {b : Nat} {T : TypeId} {x y : Value} (h : Bx w b T x y) : w.cell? ⟨b, 0, none⟩ = some x ∧ w.cell? ⟨b, 1, none⟩ = some y ∧ w.frozen? ⟨b, 0, none⟩ = false ∧ w.frozen? ⟨b, 1, none⟩ = false := by
  refine ⟨by rw [cell_of_row w b 0 _ _ _ h]; rfl, by rw [cell_of_row w b 1 _ _ _ h]; rfl, ?_, ?_⟩ <;> simp [World.frozen?, show w.heap[b]? = _ from h]
theorem Bx.lt {w : World} {b : Nat} {T : TypeId} {x y : Value} (h : Bx w b T x y) : b < w.heap.size := (Array.getElem?_eq_some_iff.1 h).1
theorem Bx.alloc {w : World} {b : Nat} {T : TypeId} {x y : Value} (h : Bx w b T x y) (o : Obj) : Bx (w.alloc o) b T x y := (Below.heap_alloc w o _ h.lt).trans h
theorem Bx.new (w : World) (T : TypeId) (x y : Value) (b : Nat) (hb : b = w.heap.size) : Bx (w.alloc (.cells #[x, y] T)) b T x y := by
  subst hb; exact heap_alloc_new w _
theorem Bx.below {w w' : World} {b : Nat} {T : TypeId} {x y : Value} (h : Bx w b T x y) (hb : Below w.heap.size w w') : Bx w' b T x y := (hb.block b h.lt).trans h
theorem Bx.drew {w : World} {b : Nat} {T : TypeId} {x y : Value} (h : Bx w b T x y) : Bx w.drew b T x y := h

/-- What Add and Neg answer: the number, if it fits. -/
def AnsW (n : Int) (w : World) (e : Ending) (w' : World) : Prop := ∃ vh vl ok, e = .returned (.tuple #[.agg #[.int .i64 vh, .int .u64 vl], .bool ok]) ∧ (ok = true → Wd vh vl n) ∧ Below w.heap.size w w'
theorem AnsW.out {n : Int} {w : World} {e : Ending} {w' : World} (h : AnsW n w e w') : ∃ vh vl ok, e = .returned (.tuple #[.agg #[.int .i64 vh, .int .u64 vl], .bool ok]) ∧ (ok = true → Wd vh vl n) ∧ Below w.heap.size w w' := h
theorem WAns.any {n : Int} {w : World} {e : Ending} {w' : World} (h : WAns n w.heap.size w e w') : AnsW n w e w' := by
  by_cases hf : WFit n
  · exact ⟨_, _, true, h.1 hf, fun _ => Wd.of hf, h.2.2⟩
  · exact ⟨_, _, false, h.2.1 hf, fun e => by simp at e, h.2.2⟩
theorem wide_add_any (a b h1 l1 h2 l2 : Int) (ha : Wd h1 l1 a) (hb : Wd h2 l2 b) (w : World) :
    Calls Tryd.prog 99 #[.agg #[.int .i64 h1, .int .u64 l1], .agg #[.int .i64 h2, .int .u64 l2]] w (AnsW (a + b) w) := (wide_add a b h1 l1 h2 l2 ha hb w).mono fun _ _ h => h.any
theorem Wd.eq1 {h1 l1 h2 l2 x y : Int} (hx : Wd h1 l1 x) (hy : Wd h2 l2 y) (h : h1 = h2) (l : l1 = l2) : x = y := by unfold Wd at *; subst h; subst l; omega
theorem Wd.eq2 {h1 l1 h2 l2 x y : Int} (hx : Wd h1 l1 x) (hy : Wd h2 l2 y) (h : x = y) : h1 = h2 ∧ l1 = l2 := by unfold Wd at *; omega
theorem cmp3_flip (a b : Int) : cmp3 b a = -cmp3 a b := by
  unfold cmp3
  by_cases h : a < b
  · rw [if_pos h, if_neg (by omega), if_pos h]; rfl
  · by_cases h2 : b < a
    · rw [if_pos h2, if_neg h, if_pos h2]
    · rw [if_neg h2, if_neg h, if_neg h, if_neg h2]; rfl
theorem cmp3_shift (a b c : Int) : cmp3 (a + c) (b + c) = cmp3 a b := by
  unfold cmp3
  by_cases h : a < b
  · rw [if_pos h, if_pos (by omega)]
  · by_cases h2 : b < a
    · rw [if_neg h, if_pos h2, if_neg (by omega), if_pos (by omega)]
    · rw [if_neg h, if_neg h2, if_neg (by omega), if_neg (by omega)]
theorem cmp3_negs (a b : Int) : cmp3 (-a) (-b) = -cmp3 a b := by
  rw [← cmp3_flip]
  unfold cmp3
  by_cases h : a < b
  · rw [if_neg (by omega), if_pos (by omega), if_neg (by omega), if_pos h]
  · by_cases h2 : b < a
    · rw [if_pos (by omega), if_pos h2]
    · rw [if_neg (by omega), if_neg (by omega), if_neg h2, if_neg h]
theorem cmp3_cases (a b : Int) : (cmp3 a b = -1 ∧ a < b) ∨ (cmp3 a b = 0 ∧ a = b) ∨ (cmp3 a b = 1 ∧ b < a) := by
  unfold cmp3
  by_cases h : a < b
  · rw [if_pos h]; exact .inl ⟨rfl, h⟩
  · by_cases h2 : b < a
    · rw [if_neg h, if_pos h2]; exact .inr (.inr ⟨rfl, h2⟩)
    · rw [if_neg h, if_neg h2]; exact .inr (.inl ⟨rfl, by omega⟩)
def Boxes3 (w wc : World) (b7 b8 b9 : Nat) (h1 l1 h2 l2 h3 l3 : Int) : Prop :=
  Bx wc b7 156 (.int .i64 h1) (.int .u64 l1) ∧ Bx wc b8 156 (.int .i64 h2) (.int .u64 l2) ∧ Bx wc b9 156 (.int .i64 h3) (.int .u64 l3) ∧ Below w.heap.size w wc
theorem Boxes3.step {w wc wd : World} {b7 b8 b9 : Nat} {h1 l1 h2 l2 h3 l3 : Int} (h : Boxes3 w wc b7 b8 b9 h1 l1 h2 l2 h3 l3) (hb : Below wc.heap.size wc wd) : Boxes3 w wd b7 b8 b9 h1 l1 h2 l2 h3 l3 :=
  ⟨h.1.below hb, h.2.1.below hb, h.2.2.1.below hb, h.2.2.2.trans (hb.mono h.2.2.2.size)⟩
theorem Boxes3.alloc {w wc : World} {b7 b8 b9 : Nat} {h1 l1 h2 l2 h3 l3 : Int} (h : Boxes3 w wc b7 b8 b9 h1 l1 h2 l2 h3 l3) (o : Obj) : Boxes3 w (wc.alloc o) b7 b8 b9 h1 l1 h2 l2 h3 l3 :=
  ⟨h.1.alloc o, h.2.1.alloc o, h.2.2.1.alloc o, h.2.2.2.alloc h.2.2.2.size o⟩
theorem Boxes3.c1 {w wc : World} {b7 b8 b9 : Nat} {h1 l1 h2 l2 h3 l3 : Int} (h : Boxes3 w wc b7 b8 b9 h1 l1 h2 l2 h3 l3) : Bx wc b7 156 (.int .i64 h1) (.int .u64 l1) := h.1
theorem Boxes3.c2 {w wc : World} {b7 b8 b9 : Nat} {h1 l1 h2 l2 h3 l3 : Int} (h : Boxes3 w wc b7 b8 b9 h1 l1 h2 l2 h3 l3) : Bx wc b8 156 (.int .i64 h2) (.int .u64 l2) := h.2.1
theorem Boxes3.c3 {w wc : World} {b7 b8 b9 : Nat} {h1 l1 h2 l2 h3 l3 : Int} (h : Boxes3 w wc b7 b8 b9 h1 l1 h2 l2 h3 l3) : Bx wc b9 156 (.int .i64 h3) (.int .u64 l3) := h.2.2.1
def Cut3 (w : World) (h1 l1 h2 l2 h3 l3 : Int) (s7 s8 s9 : Value) (wc : World) : Prop :=
  ∃ b7 b8 b9, s7 = .pointer (some ⟨b7, 0, none⟩) ∧ s8 = .pointer (some ⟨b8, 0, none⟩) ∧ s9 = .pointer (some ⟨b9, 0, none⟩) ∧ Boxes3 w wc b7 b8 b9 h1 l1 h2 l2 h3 l3

end Go.Proofs.YtmkblfejoniccaaDoor
namespace Go.Proofs.YtmkblfejoniccaaDoor
open Go.RowKit
set_option linter.unusedSimpArgs false
set_option linter.unusedVariables false

theorem Bx.ty {w : World} {b : Nat} {T : TypeId} {x y : Value} (h : Bx w b T x y) : TyAt w b T := ⟨_, _, h⟩
theorem cmpI_self (n : Int) : cmpI n n = 0 := by unfold cmpI; rw [if_neg (by omega), if_neg (by omega)]
theorem big_cmp_eq (na nb : Bool) (ax bx : Option Addr) (k m ca cb : Nat) (a : Int) (w : World) (ha : IsBig w na ax k ca a) (hb : IsBig w nb bx m cb a) (hk : k ≤ 1000000) (hm : m ≤ 1000000) :
    Calls Tryd.prog 24 #[.agg #[.bool na, .slice ax k ca], .agg #[.bool nb, .slice bx m cb]] w fun e w' => e = .returned (.int .i64 0) ∧ Below w.heap.size w w' := by
  have := big_cmp na nb ax bx k m ca cb a a w ha hb hk hm
  rwa [cmpI_self] at this
theorem Wd.sz {h l n : Int} (hW : Wd h l n) : BM.Sz n 9 := by
  have : (65536 : Nat) ^ 9 = 22300745198530623141535718272648361505980416 := by decide
  unfold Wd at hW; unfold BM.Sz; omega
theorem wide_mul_at (a b p ph pl : Int) (ha : IFit a) (hb : IFit b) (hp : a * b = p) (e1 : p / 18446744073709551616 = ph) (e2 : p % 18446744073709551616 = pl) (w : World) :
    Calls Tryd.prog 96 #[.int .i64 a, .int .i64 b] w fun e w' => e = .returned (.agg #[.int .i64 ph, .int .u64 pl]) ∧ Below w.heap.size w w' := by
  subst hp; subst e1; subst e2; exact wide_mul a b ha.1 ha.2 hb.1 hb.2 w
theorem wide_of_at (a h l : Int) (ha : IFit a) (e1 : a / 18446744073709551616 = h) (e2 : a % 18446744073709551616 = l) (w : World) :
    Calls Tryd.prog 100 #[.int .i64 a] w fun e w' => e = .returned (.agg #[.int .i64 h, .int .u64 l]) ∧ Below w.heap.size w w' := by
  subst e1; subst e2; exact wide_of a ha.1 ha.2 w
theorem intB_iff (p : Int) : intB p = true ↔ IFit p := by unfold intB IFit; simp; omega
theorem wide_int_any (p h l : Int) (hW : Wd h l p) (w : World) :
    Calls Tryd.prog 97 #[.agg #[.int .i64 h, .int .u64 l]] w fun e w' => e = .returned (.tuple #[.int .i64 (intV p), .bool (intB p)]) ∧ Below w.heap.size w w' := by
  by_cases h : IFit p
  · have e : intB p = true := (intB_iff p).2 h
    unfold intV
    rw [e]; exact wide_int_fit p _ _ hW h w
  · have e : intB p = false := by rw [Bool.eq_false_iff]; exact fun x => h ((intB_iff p).1 x)
    unfold intV
    rw [e]; exact wide_int_no p _ _ hW h w

end Go.Proofs.YtmkblfejoniccaaDoor
namespace Go.Proofs.YtmkblfejoniccaaDoor
open Go.RowKit
set_option linter.unusedSimpArgs false
set_option linter.unusedVariables false

theorem gcd_pairs (n1 n2 d1 d2 : Nat) (h1 : Nat.gcd n1 d1 = 1) (h2 : Nat.gcd n2 d2 = 1) (p1 : 0 < d1) (p2 : 0 < d2) :
    Nat.gcd (n1 * n2) (d1 * d2) = Nat.gcd n1 d2 * Nat.gcd n2 d1 ∧
    n1 * n2 / (Nat.gcd n1 d2 * Nat.gcd n2 d1) = (n1 / Nat.gcd n1 d2) * (n2 / Nat.gcd n2 d1) ∧
    d1 * d2 / (Nat.gcd n1 d2 * Nat.gcd n2 d1) = (d2 / Nat.gcd n1 d2) * (d1 / Nat.gcd n2 d1) := by
  have q1 : 0 < Nat.gcd n1 d2 := Nat.gcd_pos_of_pos_right _ p2
  have q2 : 0 < Nat.gcd n2 d1 := Nat.gcd_pos_of_pos_right _ p1
  have c1 := Nat.coprime_div_gcd_div_gcd q1
  have c2 := Nat.coprime_div_gcd_div_gcd q2
  have e1 : n1 = Nat.gcd n1 d2 * (n1 / Nat.gcd n1 d2) := (Nat.mul_div_cancel' (Nat.gcd_dvd_left _ _)).symm
  have e2 : d2 = Nat.gcd n1 d2 * (d2 / Nat.gcd n1 d2) := (Nat.mul_div_cancel' (Nat.gcd_dvd_right _ _)).symm
  have e3 : n2 = Nat.gcd n2 d1 * (n2 / Nat.gcd n2 d1) := (Nat.mul_div_cancel' (Nat.gcd_dvd_left _ _)).symm
  have e4 : d1 = Nat.gcd n2 d1 * (d1 / Nat.gcd n2 d1) := (Nat.mul_div_cancel' (Nat.gcd_dvd_right _ _)).symm
  generalize Nat.gcd n1 d2 = g1 at *
  generalize Nat.gcd n2 d1 = g2 at *
  generalize n1 / g1 = a at *
  generalize d2 / g1 = e at *
  generalize n2 / g2 = b at *
  generalize d1 / g2 = c at *
  subst e1 e2 e3 e4
  have h3 : Nat.Coprime a c := Nat.Coprime.coprime_dvd_left ⟨g1, Nat.mul_comm _ _⟩ (Nat.Coprime.coprime_dvd_right ⟨g2, Nat.mul_comm _ _⟩ h1)
  have h4 : Nat.Coprime b e := Nat.Coprime.coprime_dvd_left ⟨g2, Nat.mul_comm _ _⟩ (Nat.Coprime.coprime_dvd_right ⟨g1, Nat.mul_comm _ _⟩ h2)
  have h5 : Nat.gcd (a * b) (c * e) = 1 := Nat.Coprime.mul_left (Nat.Coprime.mul_right h3 c1) (Nat.Coprime.mul_right c2 h4)
  have x1 : g1 * a * (g2 * b) = (g1 * g2) * (a * b) := by rw [Nat.mul_assoc, Nat.mul_assoc, Nat.mul_left_comm a]
  have x2 : g2 * c * (g1 * e) = (g1 * g2) * (c * e) := by rw [Nat.mul_assoc, Nat.mul_left_comm c, ← Nat.mul_assoc, Nat.mul_comm g2]
  have x3 : 0 < g1 * g2 := Nat.mul_pos q1 q2
  refine ⟨?_, ?_, ?_⟩
  · rw [x1, x2, Nat.gcd_mul_left, h5, Nat.mul_one]
  · rw [x1, Nat.mul_div_cancel_left _ x3]
  · rw [x2, Nat.mul_div_cancel_left _ x3, Nat.mul_comm]
theorem numR_pos (n d : Int) (hd : 1 ≤ d) : numR n d = if n < 0 then -((n.natAbs / Nat.gcd n.natAbs d.natAbs : Nat) : Int) else ((n.natAbs / Nat.gcd n.natAbs d.natAbs : Nat) : Int) := by
  unfold numR
  rw [show decide (d < 0) = false by simp; omega]
  by_cases h : n < 0
  · rw [if_neg (by simp [h]), if_pos h]
  · rw [if_pos (by simp; omega), if_neg h]
theorem low_pairs (n1 n2 d1 d2 : Int) (p1 : 1 ≤ d1) (p2 : 1 ≤ d2) (h1 : Nat.gcd n1.natAbs d1.natAbs = 1) (h2 : Nat.gcd n2.natAbs d2.natAbs = 1) :
    numR (n1 * n2) (d1 * d2) = numR n1 d2 * numR n2 d1 ∧ denR (n1 * n2) (d1 * d2) = denR n1 d2 * denR n2 d1 := by
  obtain ⟨g1, g2, g3⟩ := gcd_pairs n1.natAbs n2.natAbs d1.natAbs d2.natAbs h1 h2 (by omega) (by omega)
  have hd : 1 ≤ d1 * d2 := by
    have := Int.mul_le_mul p1 p2 (by omega) (by omega)
    omega
  refine ⟨?_, ?_⟩
  · rw [numR_pos _ _ hd, numR_pos _ _ p2, numR_pos _ _ p1, Int.natAbs_mul, Int.natAbs_mul, g1, g2]
    have z1 : n1 = 0 → n1.natAbs / Nat.gcd n1.natAbs d2.natAbs = 0 := fun h => by subst h; simp
    have z2 : n2 = 0 → n2.natAbs / Nat.gcd n2.natAbs d1.natAbs = 0 := fun h => by subst h; simp
    generalize n1.natAbs / Nat.gcd n1.natAbs d2.natAbs = a at *
    generalize n2.natAbs / Nat.gcd n2.natAbs d1.natAbs = b at *
    rw [Int.natCast_mul]
    rcases Int.lt_trichotomy n1 0 with s1 | s1 | s1
    · rcases Int.lt_trichotomy n2 0 with s2 | s2 | s2
      · have : 0 < n1 * n2 := Int.mul_pos_of_neg_of_neg s1 s2
        rw [if_neg (by omega), if_pos s1, if_pos s2, Int.neg_mul_neg]
      · subst s2; rw [z2 rfl]; simp
      · have : n1 * n2 < 0 := Int.mul_neg_of_neg_of_pos s1 s2
        rw [if_pos this, if_pos s1, if_neg (by omega), Int.neg_mul]
    · subst s1; rw [z1 rfl]; simp
    · rcases Int.lt_trichotomy n2 0 with s2 | s2 | s2
      · have : n1 * n2 < 0 := Int.mul_neg_of_pos_of_neg s1 s2
        rw [if_pos this, if_neg (by omega), if_pos s2, Int.mul_neg]
      · subst s2; rw [z2 rfl]; simp
      · have : 0 < n1 * n2 := Int.mul_pos s1 s2
        rw [if_neg (by omega), if_neg (by omega), if_neg (by omega)]
  · unfold denR
    rw [Int.natAbs_mul, Int.natAbs_mul, g1, g3, Int.natCast_mul]
theorem mul_wfit {a b : Int} (ha : IFit a) (hb : IFit b) : WFit (a * b) := by
  obtain ⟨a1, a2⟩ := ha
  obtain ⟨b1, b2⟩ := hb
  have h1 : a.natAbs ≤ 9223372036854775808 := by omega
  have h2 : b.natAbs ≤ 9223372036854775808 := by omega
  have h3 := Nat.mul_le_mul h1 h2
  rw [← Int.natAbs_mul] at h3
  unfold WFit
  omega
theorem rx_blk {w : World} {b : Nat} {x y : Value} (h : Rx w b x y) : w.cell? ⟨b, 0, none⟩ = some x ∧ w.cell? ⟨b, 1, none⟩ = some y := ⟨h.cells.1, h.cells.2.1⟩
end Go.Proofs.YtmkblfejoniccaaDoor
namespace Go.Proofs.YtmkblfejoniccaaDoor
open Go.RowKit
set_option linter.unusedSimpArgs false
set_option linter.unusedVariables false

theorem fit_low {n d : Int} (hn : IFit n) (hd : IFit d) (h1 : 1 ≤ d) : fitR n d := by
  have e1 := numR_le n d
  have e2 := denR_le n d
  have e3 := numR_pos n d h1
  have e4 : n.natAbs / Nat.gcd n.natAbs d.natAbs ≤ n.natAbs := Nat.div_le_self _ _
  obtain ⟨A, eA⟩ : ∃ A, n.natAbs / Nat.gcd n.natAbs d.natAbs = A := ⟨_, rfl⟩
  rw [eA] at e3 e4
  have e5 : 0 ≤ denR n d := by unfold denR; exact Int.natCast_nonneg _
  unfold fitR IFit at *
  refine ⟨?_, by omega⟩
  rw [e3]
  by_cases h : n < 0
  · rw [if_pos h]; omega
  · rw [if_neg h]; omega
/-- What Times answers for two good ratios: the product, if both its numbers are ints. -/
def TimesAns (p q : Int) (w : World) (e : Ending) (w' : World) : Prop :=
  (intB p = true ∧ intB q = true → e = .returned (.tuple #[.agg #[.int .i64 p, .int .i64 q], .int .i64 0])) ∧ (¬ (intB p = true ∧ intB q = true) → e = .returned (.tuple #[.agg #[.int .i64 0, .int .i64 0], .int .i64 2])) ∧ Below w.heap.size w w'
end Go.Proofs.YtmkblfejoniccaaDoor
namespace Go.Proofs.YtmkblfejoniccaaDoor
open Go.RowKit
set_option linter.unusedSimpArgs false
set_option linter.unusedVariables false

/-- What Of answers, whatever it is given. -/
def ofB (n d : Int) : Bool := intB (numR n d) && intB (denR n d)
theorem ofB_iff {n d : Int} : ofB n d = true ↔ fitR n d := by
  unfold ofB fitR
  rw [Bool.and_eq_true, intB_iff', intB_iff']
def ofN (n d : Int) : Int := if d = 0 then 0 else if ofB n d then numR n d else 0
def ofD (n d : Int) : Int := if d = 0 then 0 else if ofB n d then denR n d else 0
def ofE (n d : Int) : Int := if d = 0 then 3 else if ofB n d then 0 else 2
theorem rat_of_all (n d : Int) (hn : IFit n) (hd : IFit d) (w : World) :
    Calls Tryd.prog 19 #[.int .i64 n, .int .i64 d] w fun e w' => e = .returned (.tuple #[.agg #[.int .i64 (ofN n d), .int .i64 (ofD n d)], .int .i64 (ofE n d)]) ∧ Below w.heap.size w w' := by
  unfold ofN ofD ofE
  by_cases h0 : d = 0
  · subst h0
    simp only [if_true]
    exact rat_of_zero n w
  · simp only [if_neg h0]
    refine (rat_of_any n d hn hd h0 w).mono fun e w' h => ?_
    by_cases hf : ofB n d = true
    · simp only [if_pos hf]
      exact ⟨h.1 (ofB_iff.1 hf), h.2.2⟩
    · simp only [if_neg hf]
      exact ⟨h.2.1 (fun x => hf (ofB_iff.2 x)), h.2.2⟩
theorem ofE_zero {n d : Int} (h : ofE n d = 0) : IFit (ofN n d) ∧ IFit (ofD n d) ∧ goodB (ofN n d) (ofD n d) = true := by
  unfold ofE at h
  by_cases h0 : d = 0
  · rw [if_pos h0] at h; cases h
  · rw [if_neg h0] at h
    by_cases hf : ofB n d = true
    · unfold ofN ofD
      simp only [if_neg h0, if_pos hf]
      have := ofB_iff.1 hf
      exact ⟨this.1, this.2, good_low n d h0⟩
    · rw [if_neg hf] at h; cases h
end Go.Proofs.YtmkblfejoniccaaDoor
namespace Go.Proofs.YtmkblfejoniccaaDoor
open Go.RowKit
set_option linter.unusedSimpArgs false
set_option linter.unusedVariables false

/-- A finite float. -/
def Fin64 (b : Nat) : Prop := b < 18446744073709551616 ∧ fKi b ≠ 1 ∧ fKi b ≠ 2
theorem fin_ex {b : Nat} (h : Fin64 b) : fEx b ≠ 2047 := by
  intro e
  obtain ⟨_, h1, h2⟩ := h
  unfold fKi at h1 h2
  rw [if_pos e] at h1 h2
  split at h1
  · split at h2 <;> omega
  · omega
theorem fin_of {b : Nat} (hb : b < 18446744073709551616) (h : fEx b ≠ 2047) : Fin64 b := by
  refine ⟨hb, ?_, ?_⟩ <;> unfold fKi <;> rw [if_neg h] <;> split <;> (try split) <;> omega
theorem dbl_sw : Ieee.double.signWeight = 9223372036854775808 := by decide
theorem dbl_bi : Ieee.double.binade = 4503599627370496 := by decide
theorem dbl_inf : Ieee.double.infRung = 9218868437227405312 := by decide
theorem dbl_lp : Ieee.double.leastPlace = -1074 := by decide
theorem dbl_fb : Ieee.double.fractionBits = 52 := rfl
theorem read_fin {b : Nat} (h : Fin64 b) : Ieee.double.read b = .number (fSg b) (fWh b) (fPo b) := by
  have hx := fin_ex h
  have hb := h.1
  unfold Ieee.Format.read
  rw [dbl_sw, dbl_bi, dbl_inf, dbl_lp]
  have es : (b / 9223372036854775808 % 2 == 1) = fSg b := by
    unfold fSg
    by_cases h : b / 9223372036854775808 = 1
    · rw [decide_eq_true h, h]; rfl
    · rw [decide_eq_false h, show b / 9223372036854775808 = 0 by omega]; rfl
  have hex : fEx b = b % 9223372036854775808 / 4503599627370496 := by unfold fEx; omega
  have hma : fMa b = b % 9223372036854775808 % 4503599627370496 := by unfold fMa; omega
  have hel := fEx_lt b
  have hml := fMa_lt b
  simp only [es]
  obtain ⟨r, er⟩ : ∃ r, b % 9223372036854775808 = r := ⟨_, rfl⟩
  rw [er] at hex hma
  rw [er]
  unfold fWh fPo
  by_cases h0 : fEx b = 0
  · rw [if_pos h0, if_pos h0, if_pos (by omega), hma]
    congr 1
    omega
  · rw [if_neg h0, if_neg h0, if_neg (by omega), if_pos (by omega), hma, hex]
    congr 1
    · omega
    · omega
/-- A finite float as a whole number of the least parts. -/
def fV (b : Nat) : Int := fNu b * ((2 ^ (fPo b + 1074).toNat : Nat) : Int)
theorem fPo_ge (b : Nat) : -1074 ≤ fPo b := by unfold fPo; split <;> omega
theorem signed_eq (s : Bool) (m k : Nat) : Ieee.signed s m k = (if s then -(m : Int) else (m : Int)) * ((2 ^ k : Nat) : Int) := by
  unfold Ieee.signed
  rw [Nat.shiftLeft_eq]
  cases s
  · simp
  · simp [Int.neg_mul]
theorem fV_signed (b : Nat) : fV b = Ieee.signed (fSg b) (fWh b) (fPo b + 1074).toNat := by
  rw [signed_eq]; rfl
theorem signed_scale (s : Bool) (m k d : Nat) : Ieee.signed s m (k + d) = Ieee.signed s m k * ((2 ^ d : Nat) : Int) := by
  rw [signed_eq, signed_eq, Nat.pow_add]
  simp [Int.mul_assoc]
theorem cmp_mul (a b : Int) {c : Int} (hc : 0 < c) : compare (a * c) (b * c) = compare a b := by
  rw [Int.compare_eq_ite_lt, Int.compare_eq_ite_lt]
  have h1 : a * c < b * c ↔ a < b := ⟨fun h => Int.lt_of_mul_lt_mul_right h (by omega), fun h => Int.mul_lt_mul_of_pos_right h hc⟩
  have h2 : b * c < a * c ↔ b < a := ⟨fun h => Int.lt_of_mul_lt_mul_right h (by omega), fun h => Int.mul_lt_mul_of_pos_right h hc⟩
  simp only [h1, h2]
theorem two_pos (k : Nat) : (0 : Int) < ((2 ^ k : Nat) : Int) := by
  have := Nat.pow_pos (n := k) (show 0 < 2 by omega)
  omega
theorem order_fin {x y : Nat} (hx : Fin64 x) (hy : Fin64 y) : Ieee.double.order x y = some (compare (fV x) (fV y)) := by
  unfold Ieee.Format.order
  rw [read_fin hx, read_fin hy]
  unfold Ieee.Datum.order
  simp only
  congr 1
  have gx := fPo_ge x
  have gy := fPo_ge y
  rw [fV_signed, fV_signed]
  obtain ⟨d, hd⟩ : ∃ d : Nat, min (fPo x) (fPo y) + 1074 = d := ⟨(min (fPo x) (fPo y) + 1074).toNat, by omega⟩
  rw [show (fPo x + 1074).toNat = (fPo x - min (fPo x) (fPo y)).toNat + d by omega, show (fPo y + 1074).toNat = (fPo y - min (fPo x) (fPo y)).toNat + d by omega, signed_scale, signed_scale, cmp_mul _ _ (two_pos d)]
theorem pow_parts (p : Int) (k : Nat) (h : -(k : Int) ≤ p) : ((2 ^ (p + (k : Int)).toNat : Nat) : Int) * ((2 ^ (-p).toNat : Nat) : Int) = ((2 ^ p.toNat : Nat) : Int) * ((2 ^ k : Nat) : Int) := by
  have ee : (p + (k : Int)).toNat + (-p).toNat = p.toNat + k := by omega
  rw [← Int.natCast_mul, ← Int.natCast_mul, ← Nat.pow_add, ← Nat.pow_add, ee]
/-- The grid's place by the least parts. -/
theorem gN_fV (b : Nat) (den : Int) : gN b den = (2 * den * fV b + ((2 ^ 1074 : Nat) : Int)) / (2 * ((2 ^ 1074 : Nat) : Int)) := by
  have g := fPo_ge b
  have e : fV b * (fLo b : Int) = fNu b * (fUp b : Int) * ((2 ^ 1074 : Nat) : Int) := by
    unfold fV fLo fUp
    rw [Int.mul_assoc, Int.mul_assoc]
    refine congrArg (fun t => fNu b * t) ?_
    exact pow_parts (fPo b) 1074 (by omega)
  have hL : (0 : Int) < (fLo b : Int) := two_pos _
  unfold gN
  have hP := two_pos 1074
  obtain ⟨P, eP⟩ : ∃ P : Int, ((2 ^ 1074 : Nat) : Int) = P := ⟨_, rfl⟩
  rw [eP] at e hP ⊢
  obtain ⟨L, eL⟩ : ∃ L : Int, (fLo b : Int) = L := ⟨_, rfl⟩
  rw [eL] at e hL ⊢
  obtain ⟨N, eN⟩ : ∃ N : Int, fNu b * (fUp b : Int) = N := ⟨_, rfl⟩
  rw [eN] at e ⊢
  obtain ⟨V, eV⟩ : ∃ V : Int, fV b = V := ⟨_, rfl⟩
  rw [eV] at e ⊢
  rw [← Int.mul_ediv_mul_of_pos_left (2 * (N * den) + L) (2 * L) hP, ← Int.mul_ediv_mul_of_pos_left (2 * den * V + P) (2 * P) hL]
  have e1 : (2 * (N * den) + L) * P = (2 * den * V + P) * L := by
    rw [Int.add_mul, Int.add_mul, show 2 * den * V * L = 2 * den * (V * L) by rw [Int.mul_assoc], e, Int.mul_comm L P]
    congr 1
    rw [Int.mul_assoc 2 den, show den * (N * P) = N * den * P by rw [Int.mul_comm den, Int.mul_assoc, Int.mul_comm P, Int.mul_assoc], Int.mul_assoc]
  rw [e1, show 2 * L * P = 2 * P * L by rw [Int.mul_assoc, Int.mul_comm L P, Int.mul_assoc]]
theorem gN_mono {x y : Nat} {den : Int} (hd : 0 ≤ den) (h : fV x ≤ fV y) : gN x den ≤ gN y den := by
  rw [gN_fV, gN_fV]
  have hP := two_pos 1074
  refine Int.ediv_le_ediv (by omega) ?_
  have := Int.mul_le_mul_of_nonneg_left h (show 0 ≤ 2 * den by omega)
  omega
/-- The grid's place is at most half a part away. -/
theorem gN_half (b : Nat) (den : Int) : -((2 ^ 1074 : Nat) : Int) ≤ 2 * (den * fV b - gN b den * ((2 ^ 1074 : Nat) : Int)) ∧ 2 * (den * fV b - gN b den * ((2 ^ 1074 : Nat) : Int)) ≤ ((2 ^ 1074 : Nat) : Int) := by
  rw [gN_fV]
  have hP := two_pos 1074
  obtain ⟨P, eP⟩ : ∃ P : Int, ((2 ^ 1074 : Nat) : Int) = P := ⟨_, rfl⟩
  rw [eP] at hP ⊢
  rw [Int.mul_assoc]
  obtain ⟨X, eX⟩ : ∃ X : Int, den * fV b = X := ⟨_, rfl⟩
  rw [eX]
  have h1 := Int.emod_nonneg (2 * X + P) (show 2 * P ≠ 0 by omega)
  have h2 := Int.emod_lt_of_pos (2 * X + P) (show 0 < 2 * P by omega)
  have h3 := Int.mul_ediv_add_emod (2 * X + P) (2 * P)
  obtain ⟨q, eq⟩ : ∃ q : Int, (2 * X + P) / (2 * P) = q := ⟨_, rfl⟩
  rw [eq] at h3 ⊢
  rw [Int.mul_assoc, Int.mul_comm P q] at h3
  omega
end Go.Proofs.YtmkblfejoniccaaDoor
