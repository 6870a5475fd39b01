/-
  The law RealNearest: the walk.
-/
import Derived.Test.YtmkblfejoniccaaDoorYReT
import Derived.Test.YtmkblfejoniccaaDoorYReL
namespace Go.Proofs.YtmkblfejoniccaaDoor
open Go.RowKit
set_option linter.unusedSimpArgs false
set_option linter.unusedVariables false

/-- What stands while the floats beside are asked. -/
def NrL (w0 : World) (N D X Y : Int) (p5 p6 : Nat) (W : World) : Prop :=
  Below w0.heap.size w0 W ∧ Blk W p5 #[.int .i64 N, .int .i64 D] 25 ∧ BigB W p6 X ∧ BigB W (p6 + 1) Y
theorem NrL.below {w0 : World} {N D X Y : Int} {p5 p6 : Nat} {W W' : World} (h : NrL w0 N D X Y p5 p6 W) (hb : Below W.heap.size W W') : NrL w0 N D X Y p5 p6 W' :=
  ⟨h.1.trans (hb.mono h.1.size), h.2.1.below hb, h.2.2.1.below hb, h.2.2.2.below hb⟩
theorem NrL.bl {w0 : World} {N D X Y : Int} {p5 p6 : Nat} {W : World} (h : NrL w0 N D X Y p5 p6 W) : Below w0.heap.size w0 W := h.1
theorem NrL.ra {w0 : World} {N D X Y : Int} {p5 p6 : Nat} {W : World} (h : NrL w0 N D X Y p5 p6 W) : Blk W p5 #[.int .i64 N, .int .i64 D] 25 := h.2.1
theorem NrL.b1 {w0 : World} {N D X Y : Int} {p5 p6 : Nat} {W : World} (h : NrL w0 N D X Y p5 p6 W) : BigB W p6 X := h.2.2.1
theorem NrL.b2 {w0 : World} {N D X Y : Int} {p5 p6 : Nat} {W : World} (h : NrL w0 N D X Y p5 p6 W) : BigB W (p6 + 1) Y := h.2.2.2
theorem NrL.drew {w0 : World} {N D X Y : Int} {p5 p6 : Nat} {W : World} (h : NrL w0 N D X Y p5 p6 W) : NrL w0 N D X Y p5 p6 W.drew := h.below (Below.refl _ _).drew
set_option maxRecDepth 100000 in
set_option maxHeartbeats 3200000 in
theorem law_nearest_no (n d : Int) (hn : IFit n) (hd : IFit d) (h : ofE n d ≠ 0) (w : World) (hT : TabW w) : Calls Tryd.prog 4 #[.int .i64 n, .int .i64 d] w fun e w' => e = .returned (.bool true) ∧ Below w.heap.size w w' := by
  have SP := fun W hW => speaks03 W hW
  have OF := rat_of_all n d hn hd
  have NR := real_Nearest n 0 hn (by unfold IFit; omega)
  have hnb : nrB n 0 = 9221120237041090561 := by
    unfold nrB
    rw [if_pos (by unfold goodB; rw [decide_eq_false (by omega)]; rfl)]
  rw [hnb] at NR
  have m1 : (FloatKind.f64.format.order 9221120237041090561 9221120237041090561 != some .eq) = true := by decide
  have q0 : (ofE n d != 0) = true := by simpa using h
  obtain ⟨N, eN⟩ : ∃ x, ofN n d = x := ⟨_, rfl⟩
  obtain ⟨D, eD⟩ : ∃ x, ofD n d = x := ⟨_, rfl⟩
  obtain ⟨E, eE⟩ : ∃ x, ofE n d = x := ⟨_, rfl⟩
  rw [eN, eD, eE] at OF
  rw [eE] at q0
  have HT := Lib.hid hT
  clear hT eN eD eE hnb h
  go_enter Tryd.func4, Tryd.ntmps4
  go_upto_region 4 with (first
    | (go_at_call 14; with_reducible refine (SP _ HT.out).mono ?_; rintro e w1 ⟨rfl, hb1⟩)
    | (go_at_call 19; with_reducible refine (OF _).mono ?_; rintro e w2 ⟨rfl, hb2⟩))
  have hB2 := hb1.trans (hb2.mono hb1.size)
  refine wp_worldF (fun W => Below w.heap.size w W) (by have hs := hB2.size; exact (by repeat' (first | (with_reducible exact Below.refl _ _) | (with_reducible assumption) | (with_reducible refine below_alloc ?_ _ ?_) | (with_reducible refine below_set _ ?_ ?_) | (with_reducible refine Below.drew ?_) | (with_reducible refine below_dN ?_ _) | (apply below_thenA; assumption) | omega | (simp; done) | (simp; omega) | (simp [*]; done)))) ?_
  rintro W3 hB3
  clear hb1 hb2 hB2 SP OF
  go_wp2_with (go_at_call 20; with_reducible refine (NR _).mono ?_; rintro e w5 ⟨rfl, hb5⟩)
  go_ret
  exact ⟨rfl, hB3.trans (hb5.mono hB3.size)⟩
set_option maxRecDepth 100000 in
set_option maxHeartbeats 6400000 in
theorem law_nearest_yes (n d : Int) (hn : IFit n) (hd : IFit d) (h : ofE n d = 0) (w : World) (hT : TabW w) : Calls Tryd.prog 4 #[.int .i64 n, .int .i64 d] w fun e w' => e = .returned (.bool true) ∧ Below w.heap.size w w' := by
  have SP := fun W hW => speaks03 W hW
  have OF := rat_of_all n d hn hd
  obtain ⟨f1, f2, f3⟩ := ofE_zero h
  rw [h] at OF
  obtain ⟨N, eN⟩ : ∃ x, ofN n d = x := ⟨_, rfl⟩
  obtain ⟨D, eD⟩ : ∃ x, ofD n d = x := ⟨_, rfl⟩
  rw [eN, eD] at OF f3
  rw [eN] at f1
  rw [eD] at f2
  clear eN eD h hn hd
  have NR := real_Nearest N D f1 f2
  have HT := Lib.hid hT
  clear hT
  by_cases h0 : N = 0
  · subst h0
    have hnb : nrB 0 D = 0 := by
      unfold nrB
      rw [if_neg (by rw [f3]; decide), if_pos rfl]
    rw [hnb] at NR
    have FB : ∀ w, (callFunc 21 #[.float .f64 0]).run Tryd.prog w = .ok (.value (.int .u64 0)) w := flo_bits 0
    clear hnb f1 f2 f3
    go_enter Tryd.func4, Tryd.ntmps4
    go_upto_region 4 with (first
      | (go_at_call 14; with_reducible refine (SP _ HT.out).mono ?_; rintro e w1 ⟨rfl, hb1⟩)
      | (go_at_call 19; with_reducible refine (OF _).mono ?_; rintro e w2 ⟨rfl, hb2⟩))
    have hB2 := hb1.trans (hb2.mono hb1.size)
    refine wp_worldF (fun W => Below w.heap.size w W ∧ Blk W w2.heap.size #[.int .i64 0, .int .i64 D] 25) ⟨by have hs := hB2.size; exact (by repeat' (first | (with_reducible exact Below.refl _ _) | (with_reducible assumption) | (with_reducible refine below_alloc ?_ _ ?_) | (with_reducible refine below_set _ ?_ ?_) | (with_reducible refine Below.drew ?_) | (with_reducible refine below_dN ?_ _) | (apply below_thenA; assumption) | omega | (simp; done) | (simp; omega) | (simp [*]; done))), Blk.new w2 _ _ _ rfl⟩ ?_
    rintro W3 ⟨hB3, t3⟩
    clear hb1 hb2 hB2 SP OF
    have k0 := t3.cell 0 _ rfl
    have k1 := t3.cell 1 _ rfl
    go_upto_region 9 with (go_at_call 20; with_reducible refine (NR _).mono ?_; rintro e w5 ⟨rfl, hb5⟩)
    have t5 := t3.below hb5
    have hB5 := hB3.trans (hb5.mono hB3.size)
    clear k0 k1 t3 hb5 hB3
    have k0 := t5.cell 0 _ rfl
    go_wp2_with fail
    go_ret
    exact ⟨rfl, hB5⟩
  · obtain ⟨b, hb⟩ : ∃ b, nrB N D = b := ⟨_, rfl⟩
    obtain ⟨b1, b2, b3, b4, b5, b6⟩ := near_law f1 f2 f3 h0 hb
    rw [hb] at NR
    have KI := ref3_kind b b1
    rw [b4, b5] at KI
    obtain ⟨c0, hc0⟩ : ∃ c, c + 1 = b := ⟨b - 1, by omega⟩
    obtain ⟨c1, hc1⟩ : ∃ c, c = b + 1 := ⟨_, rfl⟩
    have A0 := law_apart b b1 N D f1 f2
    have A1 := law_apart c0 (by omega) N D f1 f2
    have A2 := law_apart c1 (by omega) N D f1 f2
    have L1 := b6 c0 (.inl hc0)
    have L2 := b6 c1 (.inr hc1)
    have S1 : IntKind.u64.wrap ((b : Int) - 1) = (c0 : Int) := by rw [IntKind.wrap_u64]; omega
    have S2 : IntKind.u64.wrap ((c0 : Int) + 2) = (c1 : Int) := by rw [IntKind.wrap_u64]; omega
    have S3 : (c0 : Int) + 2 = (c1 : Int) := by omega
    have FB := flo_bits b
    have n0 : (N == 0) = false := by simp; omega
    have hneg : (decide (N < 0) != decide (N < 0)) = false := by simp
    have szd : ∀ c, BM.Sz ((((fP c * D - N * fQ c).natAbs : Nat) : Int)) 1105 ∧ BM.Sz (fQ c * D) 1104 := fun c =>
      ⟨(BM.Sz.sub ((BM.Sz.mul (fP_sz c) (BM.Sz.i64 f2.1 f2.2)).mono (by omega)) ((BM.Sz.mul (BM.Sz.i64 f1.1 f1.2) (fQ_sz c)).mono (by omega))).abs, BM.Sz.mul (fQ_sz c) (BM.Sz.i64 f2.1 f2.2)⟩
    have A0' : ∀ w, Calls Tryd.prog 23 #[.int .u64 (b : Int), .agg #[.int .i64 N, .int .i64 D]] w (BigRet2 (((fP b * D - N * fQ b).natAbs : Nat) : Int) (fQ b * D) w) := A0
    unfold besideI at L1 L2
    obtain ⟨X0, eX0⟩ : ∃ x : Int, (((fP b * D - N * fQ b).natAbs : Nat) : Int) = x := ⟨_, rfl⟩
    obtain ⟨Y0, eY0⟩ : ∃ x : Int, fQ b * D = x := ⟨_, rfl⟩
    obtain ⟨P1, eP1⟩ : ∃ x : Int, (((fP c0 * D - N * fQ c0).natAbs : Nat) : Int) = x := ⟨_, rfl⟩
    obtain ⟨Q1, eQ1⟩ : ∃ x : Int, fQ c0 * D = x := ⟨_, rfl⟩
    obtain ⟨P2, eP2⟩ : ∃ x : Int, (((fP c1 * D - N * fQ c1).natAbs : Nat) : Int) = x := ⟨_, rfl⟩
    obtain ⟨Q2, eQ2⟩ : ∃ x : Int, fQ c1 * D = x := ⟨_, rfl⟩
    obtain ⟨sX0, sY0⟩ := szd b
    obtain ⟨sP1, sQ1⟩ := szd c0
    obtain ⟨sP2, sQ2⟩ := szd c1
    rw [eX0] at A0 L1 L2 sX0
    rw [eY0] at A0 L1 L2 sY0
    rw [eP1] at A1 L1 sP1
    rw [eQ1] at A1 L1 sQ1
    rw [eP2] at A2 L2 sP2
    rw [eQ2] at A2 L2 sQ2
    obtain ⟨C1, eC1⟩ : ∃ x : Int, cmpI (X0 * Q1) (P1 * Y0) = x := ⟨_, rfl⟩
    obtain ⟨C2, eC2⟩ : ∃ x : Int, cmpI (X0 * Q2) (P2 * Y0) = x := ⟨_, rfl⟩
    rw [eC1] at L1
    rw [eC2] at L2
    obtain ⟨ev, eev⟩ : ∃ x : Bool, ((b : Int) % 2 == 1) = x := ⟨_, rfl⟩
    have hev : b % 2 = 0 → ev = false := fun h => by rw [← eev]; simp; omega
    have E1 : (C1 < 0 ∧ True) ∨ (C1 = 0 ∧ ev = false) := by
      by_cases h : C1 = 0
      · exact .inr ⟨h, hev (L1.2 h)⟩
      · exact .inl ⟨by have := L1.1; omega, trivial⟩
    have E2 : (C2 < 0 ∧ True) ∨ (C2 = 0 ∧ ev = false) := by
      by_cases h : C2 = 0
      · exact .inr ⟨h, hev (L2.2 h)⟩
      · exact .inl ⟨by have := L2.1; omega, trivial⟩
    have bc0 : c0 < 18446744073709551616 := by omega
    have bc1 : c1 < 18446744073709551616 := by omega
    clear hc0 hc1
    clear A0' szd eX0 eY0 eP1 eQ1 eP2 eQ2 L1 L2 hev b6 b5 b4 hb f1 f2 f3 h0
    go_enter Tryd.func4, Tryd.ntmps4
    go_upto_region 4 with (first
      | (go_at_call 14; with_reducible refine (SP _ HT.out).mono ?_; rintro e w1 ⟨rfl, hb1⟩)
      | (go_at_call 19; with_reducible refine (OF _).mono ?_; rintro e w2 ⟨rfl, hb2⟩))
    have hB2 := hb1.trans (hb2.mono hb1.size)
    refine wp_worldF (fun W => Below w.heap.size w W ∧ Blk W w2.heap.size #[.int .i64 N, .int .i64 D] 25) ⟨by have hs := hB2.size; exact (by repeat' (first | (with_reducible exact Below.refl _ _) | (with_reducible assumption) | (with_reducible refine below_alloc ?_ _ ?_) | (with_reducible refine below_set _ ?_ ?_) | (with_reducible refine Below.drew ?_) | (with_reducible refine below_dN ?_ _) | (apply below_thenA; assumption) | omega | (simp; done) | (simp; omega) | (simp [*]; done))), Blk.new w2 _ _ _ rfl⟩ ?_
    obtain ⟨p5, e5⟩ : ∃ p, w2.heap.size = p := ⟨_, rfl⟩
    rw [e5]
    rintro W3 ⟨hB3, t3⟩
    clear hb1 hb2 hB2 SP OF e5
    have k0 := t3.cell 0 _ rfl
    have k1 := t3.cell 1 _ rfl
    go_upto_region 8 with (go_at_call 20; with_reducible refine (NR _).mono ?_; rintro e w5 ⟨rfl, hb5⟩)
    have t5 := t3.below hb5
    have hB5 := hB3.trans (hb5.mono hB3.size)
    clear k0 k1 t3 hb5 hB3 NR
    have k0 := t5.cell 0 _ rfl
    have k1 := t5.cell 1 _ rfl
    go_upto_region 15 with (first
      | (go_at_call 22; with_reducible refine (KI _).mono ?_; rintro e w6 ⟨rfl, rfl⟩)
      | (go_at_call 23; with_reducible refine (A0 _).mono ?_; rintro e w7 hR7; obtain ⟨n7, x7, k7, d7, m7, y7, l7, g7, rfl, I6, I7, hb7⟩ := BigRet2.out hR7))
    refine wp_worldF (NrL w N D X0 Y0 p5 w7.heap.size) ?_ ?_
    · have hB7 := hB5.trans (hb7.mono hB5.size)
      exact ⟨by have hs := hB7.size; exact (by repeat' (first | (with_reducible exact Below.refl _ _) | (with_reducible assumption) | (with_reducible refine below_alloc ?_ _ ?_) | (with_reducible refine below_set _ ?_ ?_) | (with_reducible refine Below.drew ?_) | (with_reducible refine below_dN ?_ _) | (apply below_thenA; assumption) | omega | (simp; done) | (simp; omega) | (simp [*]; done))), ((t5.below hb7).alloc _).alloc _, ⟨n7, x7, k7, d7, (Blk.new w7 _ _ _ rfl).alloc _, I6.keep (by exact (by repeat' (first | (with_reducible exact Below.refl _ _) | (with_reducible assumption) | (with_reducible refine below_alloc ?_ _ ?_) | (with_reducible refine below_set _ ?_ ?_) | (with_reducible refine Below.drew ?_) | (with_reducible refine below_dN ?_ _) | (apply below_thenA; assumption) | omega | (simp; done) | (simp; omega) | (simp [*]; done))))⟩, ⟨m7, y7, l7, g7, Blk.new _ _ _ _ (by simp), I7.keep (by exact (by repeat' (first | (with_reducible exact Below.refl _ _) | (with_reducible assumption) | (with_reducible refine below_alloc ?_ _ ?_) | (with_reducible refine below_set _ ?_ ?_) | (with_reducible refine Below.drew ?_) | (with_reducible refine below_dN ?_ _) | (apply below_thenA; assumption) | omega | (simp; done) | (simp; omega) | (simp [*]; done))))⟩⟩
    obtain ⟨p6, e6⟩ : ∃ p, w7.heap.size = p := ⟨_, rfl⟩
    rw [e6]
    clear e6 hR7 hb7 I6 I7 t5 hB5 k0 k1 KI A0
    intro W7 T7
    go_wp2_with fail
    go_loopg [14] 2 (fun gk s14 wr => ∃ (j : Nat), j ≤ 2 ∧ gk = 2 - j ∧ s14 = .int .i64 ((j : Int)) ∧ NrL w N D X0 Y0 p5 p6 wr)
    case atStart => exact ⟨0, by omega, by omega, rfl, T7⟩
    case round =>
      clear T7
      obtain ⟨j, hj, rfl, rfl, T7⟩ := hrel
      by_cases hj2 : j < 2
      · have k0 := T7.ra.cell 0 _ rfl
        have k1 := T7.ra.cell 1 _ rfl
        rcases (show j = 0 ∨ j = 1 by omega) with rfl | rfl
        · clear A2 E2 eC2 sP2 sQ2
          go_upto_region 19 with (go_at_call 23; with_reducible refine (A1 _).mono ?_; rintro e w8 hR8; obtain ⟨n8, x8, k8, c8, n9, x9, k9, c9, rfl, I8, I9, hb8⟩ := BigRet2.out hR8)
          refine wp_worldF (fun W => NrL w N D X0 Y0 p5 p6 W ∧ BigB W w8.heap.size P1 ∧ BigB W (w8.heap.size + 1) Q1) ?_ ?_
          · have T8 := T7.below hb8
            refine ⟨(T8.below (by exact (by repeat' (first | (with_reducible exact Below.refl _ _) | (with_reducible assumption) | (with_reducible refine below_alloc ?_ _ ?_) | (with_reducible refine below_set _ ?_ ?_) | (with_reducible refine Below.drew ?_) | (with_reducible refine below_dN ?_ _) | (apply below_thenA; assumption) | omega | (simp; done) | (simp; omega) | (simp [*]; done))))).below (by exact (by repeat' (first | (with_reducible exact Below.refl _ _) | (with_reducible assumption) | (with_reducible refine below_alloc ?_ _ ?_) | (with_reducible refine below_set _ ?_ ?_) | (with_reducible refine Below.drew ?_) | (with_reducible refine below_dN ?_ _) | (apply below_thenA; assumption) | omega | (simp; done) | (simp; omega) | (simp [*]; done)))), ⟨n8, x8, k8, c8, (Blk.new w8 _ _ _ rfl).alloc _, I8.keep (by exact (by repeat' (first | (with_reducible exact Below.refl _ _) | (with_reducible assumption) | (with_reducible refine below_alloc ?_ _ ?_) | (with_reducible refine below_set _ ?_ ?_) | (with_reducible refine Below.drew ?_) | (with_reducible refine below_dN ?_ _) | (apply below_thenA; assumption) | omega | (simp; done) | (simp; omega) | (simp [*]; done))))⟩, ⟨n9, x9, k9, c9, Blk.new _ _ _ _ (by simp), I9.keep (by exact (by repeat' (first | (with_reducible exact Below.refl _ _) | (with_reducible assumption) | (with_reducible refine below_alloc ?_ _ ?_) | (with_reducible refine below_set _ ?_ ?_) | (with_reducible refine Below.drew ?_) | (with_reducible refine below_dN ?_ _) | (apply below_thenA; assumption) | omega | (simp; done) | (simp; omega) | (simp [*]; done))))⟩⟩
          obtain ⟨p8, e8⟩ : ∃ p, w8.heap.size = p := ⟨_, rfl⟩
          rw [e8]
          clear e8 hR8 hb8 I8 I9 T7 k0 k1
          rintro W9 ⟨T9, U1, U2⟩
          go_upto_region 19 with (fail)
          rename_i K0 hK0
          refine wp_region_calm (fun w' => NrL w N D X0 Y0 p5 p6 w' ∧ BigB w' p8 P1 ∧ BigB w' (p8 + 1) Q1) [] (fun w' => True) [bigC X0, bigC Q1, bigC (X0 * Q1), bigC P1, bigC Y0, bigC (P1 * Y0), Is (.int .i64 C1), Is (.int .i64 C1)] [] (by kernel_rfl) (by kernel_rfl) (by kernel_rfl) (by kernel_rfl) ⟨T9.drew, U1.drew, U2.drew⟩ trivial ?_ ?_ ?_ ?_ ?_
          · rintro W W' ⟨hP, hU, hV2⟩ hb
            exact ⟨hP.below hb, hU.below hb, hV2.below hb⟩
          · exact fun _ _ _ _ _ => trivial
          · intro k vs W hk h
            exact absurd hk (by simp)
          · intro Q; clear hK0 T9 U1 U2
            refine ⟨?_, ?_, ?_, ?_, ?_, ?_, ?_, ?_, trivial⟩
            · intro vs W hW hW0 hd hne hold K hK hA hL; clear hne hA hL; have hP := hW.1; have hU := hW.2.1; have hV2 := hW.2.2; simp only [puts, Act.put, List.setIfInBounds_toArray, List.set_cons_zero, List.set_cons_succ, Nat.zero_add, Nat.reduceAdd] at hK ⊢; obtain ⟨n1, x1, k1, d1, t, i⟩ := hP.b1; have q1 := t.cell 0 _ rfl; have q2 := t.cell 1 _ rfl; clear hd hold; go_simp; exact hK.out rfl _ _ (Below.refl _ _) ⟨n1, x1, k1, d1, rfl, i⟩
            · intro vs W hW hW0 hd hne hold K hK hA hL; clear hne hA hL; have hP := hW.1; have hU := hW.2.1; have hV2 := hW.2.2; simp only [puts, Act.put, List.setIfInBounds_toArray, List.set_cons_zero, List.set_cons_succ, Nat.zero_add, Nat.reduceAdd] at hK ⊢; obtain ⟨n1, x1, k1, d1, t, i⟩ := hV2; have q1 := t.cell 0 _ rfl; have q2 := t.cell 1 _ rfl; clear hd hold; go_simp; exact hK.out rfl _ _ (Below.refl _ _) ⟨n1, x1, k1, d1, rfl, i⟩
            · intro vs W hW hW0 hd hne hold K hK hA hL; clear hne hA hL; have hP := hW.1; have hU := hW.2.1; have hV2 := hW.2.2; simp only [puts, Act.put, List.setIfInBounds_toArray, List.set_cons_zero, List.set_cons_succ, Nat.zero_add, Nat.reduceAdd] at hK ⊢; (have hxb : BigV X0 (vs 0) W := hd 0 (by kernel_rfl)); obtain ⟨b1, b2, b3, b4, eb, Ib⟩ := hxb; (have hxc : BigV Q1 (vs 1) W := hd 1 (by kernel_rfl)); obtain ⟨c1, c2, c3, c4, ec, Ic⟩ := hxc; have z1 := Ib.le sX0; have z2 := Ic.le sQ1; clear hd hold; simp only [eb, ec] at hK; go_simp; refine (big_times b1 c1 b2 c2 b3 c3 b4 c4 X0 Q1 _ Ib Ic (by omega) (by omega)).mono ?_; (rintro e wx ⟨f1, f2, f3, f4, rfl, If, hbx⟩); go_simp; exact hK.out rfl _ _ hbx ⟨f1, f2, f3, f4, rfl, If⟩
            · intro vs W hW hW0 hd hne hold K hK hA hL; clear hne hA hL; have hP := hW.1; have hU := hW.2.1; have hV2 := hW.2.2; simp only [puts, Act.put, List.setIfInBounds_toArray, List.set_cons_zero, List.set_cons_succ, Nat.zero_add, Nat.reduceAdd] at hK ⊢; obtain ⟨n1, x1, k1, d1, t, i⟩ := hU; have q1 := t.cell 0 _ rfl; have q2 := t.cell 1 _ rfl; clear hd hold; go_simp; exact hK.out rfl _ _ (Below.refl _ _) ⟨n1, x1, k1, d1, rfl, i⟩
            · intro vs W hW hW0 hd hne hold K hK hA hL; clear hne hA hL; have hP := hW.1; have hU := hW.2.1; have hV2 := hW.2.2; simp only [puts, Act.put, List.setIfInBounds_toArray, List.set_cons_zero, List.set_cons_succ, Nat.zero_add, Nat.reduceAdd] at hK ⊢; obtain ⟨n1, x1, k1, d1, t, i⟩ := hP.b2; have q1 := t.cell 0 _ rfl; have q2 := t.cell 1 _ rfl; clear hd hold; go_simp; exact hK.out rfl _ _ (Below.refl _ _) ⟨n1, x1, k1, d1, rfl, i⟩
            · intro vs W hW hW0 hd hne hold K hK hA hL; clear hne hA hL; have hP := hW.1; have hU := hW.2.1; have hV2 := hW.2.2; simp only [puts, Act.put, List.setIfInBounds_toArray, List.set_cons_zero, List.set_cons_succ, Nat.zero_add, Nat.reduceAdd] at hK ⊢; (have hxb : BigV P1 (vs 3) W := hd 3 (by kernel_rfl)); obtain ⟨b1, b2, b3, b4, eb, Ib⟩ := hxb; (have hxc : BigV Y0 (vs 4) W := hd 4 (by kernel_rfl)); obtain ⟨c1, c2, c3, c4, ec, Ic⟩ := hxc; have z1 := Ib.le sP1; have z2 := Ic.le sY0; clear hd hold; simp only [eb, ec] at hK; go_simp; refine (big_times b1 c1 b2 c2 b3 c3 b4 c4 P1 Y0 _ Ib Ic (by omega) (by omega)).mono ?_; (rintro e wx ⟨f1, f2, f3, f4, rfl, If, hbx⟩); go_simp; exact hK.out rfl _ _ hbx ⟨f1, f2, f3, f4, rfl, If⟩
            · intro vs W hW hW0 hd hne hold K hK hA hL; clear hne hA hL; have hP := hW.1; have hU := hW.2.1; have hV2 := hW.2.2; simp only [puts, Act.put, List.setIfInBounds_toArray, List.set_cons_zero, List.set_cons_succ, Nat.zero_add, Nat.reduceAdd] at hK ⊢; (have hxb : BigV (X0 * Q1) (vs 2) W := hd 2 (by kernel_rfl)); obtain ⟨b1, b2, b3, b4, eb, Ib⟩ := hxb; (have hxc : BigV (P1 * Y0) (vs 5) W := hd 5 (by kernel_rfl)); obtain ⟨c1, c2, c3, c4, ec, Ic⟩ := hxc; have z1 := Ib.le (BM.Sz.mul sX0 sQ1); have z2 := Ic.le (BM.Sz.mul sP1 sY0); have BC := big_cmp b1 c1 b2 c2 b3 c3 b4 c4 (X0 * Q1) (P1 * Y0) _ Ib Ic (by omega) (by omega); rw [eC1] at BC; clear hd hold; simp only [eb, ec] at hK; go_simp; refine (BC).mono ?_; (rintro e wx ⟨rfl, hbx⟩); go_simp; exact hK.out rfl _ _ hbx rfl
            · intro vs W hW hW0 hd hne hold K hK hA hL; clear hne hA hL; have hP := hW.1; have hU := hW.2.1; have hV2 := hW.2.2; simp only [puts, Act.put, List.setIfInBounds_toArray, List.set_cons_zero, List.set_cons_succ, Nat.zero_add, Nat.reduceAdd] at hK ⊢; have e6 : vs 6 = _ := hd 6 (by kernel_rfl); clear hd hold; simp only [e6] at hK; go_simp; exact hK.out rfl _ _ (Below.refl _ _) rfl
          · intro va WA hW hV _
            obtain ⟨T10, -, -⟩ := hW
            have e7 : va 7 = .int .i64 C1 := hV 7 (by decide)
            clear hV
            simp only [puts, Act.put, List.setIfInBounds_toArray, List.set_cons_zero, List.set_cons_succ, Nat.zero_add, Nat.reduceAdd, e7]
            refine hK0 _ _ ?_
            clear hK0 e7
            rcases E1 with ⟨hc, hc'⟩ | ⟨hc, hc'⟩
            · have z1 : decide (0 < C1) = false := by simp; omega
              have z2 : (C1 == 0) = false := by simp; omega
              go_wp2_with fail
              go_roundg (2 - (0 + 1))
              case measure => omega
              case rel => exact ⟨0 + 1, by omega, rfl, by go_num, T10⟩
            · subst hc
              go_wp2_with fail
              go_roundg (2 - (0 + 1))
              case measure => omega
              case rel => exact ⟨0 + 1, by omega, rfl, by go_num, T10⟩
        · clear A1 E1 eC1 sP1 sQ1
          go_upto_region 19 with (go_at_call 23; with_reducible refine (A2 _).mono ?_; rintro e w8 hR8; obtain ⟨n8, x8, k8, c8, n9, x9, k9, c9, rfl, I8, I9, hb8⟩ := BigRet2.out hR8)

          refine wp_worldF (fun W => NrL w N D X0 Y0 p5 p6 W ∧ BigB W w8.heap.size P2 ∧ BigB W (w8.heap.size + 1) Q2) ?_ ?_
          · have T8 := T7.below hb8
            refine ⟨(T8.below (by exact (by repeat' (first | (with_reducible exact Below.refl _ _) | (with_reducible assumption) | (with_reducible refine below_alloc ?_ _ ?_) | (with_reducible refine below_set _ ?_ ?_) | (with_reducible refine Below.drew ?_) | (with_reducible refine below_dN ?_ _) | (apply below_thenA; assumption) | omega | (simp; done) | (simp; omega) | (simp [*]; done))))).below (by exact (by repeat' (first | (with_reducible exact Below.refl _ _) | (with_reducible assumption) | (with_reducible refine below_alloc ?_ _ ?_) | (with_reducible refine below_set _ ?_ ?_) | (with_reducible refine Below.drew ?_) | (with_reducible refine below_dN ?_ _) | (apply below_thenA; assumption) | omega | (simp; done) | (simp; omega) | (simp [*]; done)))), ⟨n8, x8, k8, c8, (Blk.new w8 _ _ _ rfl).alloc _, I8.keep (by exact (by repeat' (first | (with_reducible exact Below.refl _ _) | (with_reducible assumption) | (with_reducible refine below_alloc ?_ _ ?_) | (with_reducible refine below_set _ ?_ ?_) | (with_reducible refine Below.drew ?_) | (with_reducible refine below_dN ?_ _) | (apply below_thenA; assumption) | omega | (simp; done) | (simp; omega) | (simp [*]; done))))⟩, ⟨n9, x9, k9, c9, Blk.new _ _ _ _ (by simp), I9.keep (by exact (by repeat' (first | (with_reducible exact Below.refl _ _) | (with_reducible assumption) | (with_reducible refine below_alloc ?_ _ ?_) | (with_reducible refine below_set _ ?_ ?_) | (with_reducible refine Below.drew ?_) | (with_reducible refine below_dN ?_ _) | (apply below_thenA; assumption) | omega | (simp; done) | (simp; omega) | (simp [*]; done))))⟩⟩
          obtain ⟨p8, e8⟩ : ∃ p, w8.heap.size = p := ⟨_, rfl⟩
          rw [e8]
          clear e8 hR8 hb8 I8 I9 T7 k0 k1
          rintro W9 ⟨T9, U1, U2⟩
          go_upto_region 19 with (fail)
          rename_i K0 hK0
          refine wp_region_calm (fun w' => NrL w N D X0 Y0 p5 p6 w' ∧ BigB w' p8 P2 ∧ BigB w' (p8 + 1) Q2) [] (fun w' => True) [bigC X0, bigC Q2, bigC (X0 * Q2), bigC P2, bigC Y0, bigC (P2 * Y0), Is (.int .i64 C2), Is (.int .i64 C2)] [] (by kernel_rfl) (by kernel_rfl) (by kernel_rfl) (by kernel_rfl) ⟨T9.drew, U1.drew, U2.drew⟩ trivial ?_ ?_ ?_ ?_ ?_
          · rintro W W' ⟨hP, hU, hV2⟩ hb
            exact ⟨hP.below hb, hU.below hb, hV2.below hb⟩
          · exact fun _ _ _ _ _ => trivial
          · intro k vs W hk h
            exact absurd hk (by simp)
          · intro Q; clear hK0 T9 U1 U2
            refine ⟨?_, ?_, ?_, ?_, ?_, ?_, ?_, ?_, trivial⟩
            · intro vs W hW hW0 hd hne hold K hK hA hL; clear hne hA hL; have hP := hW.1; have hU := hW.2.1; have hV2 := hW.2.2; simp only [puts, Act.put, List.setIfInBounds_toArray, List.set_cons_zero, List.set_cons_succ, Nat.zero_add, Nat.reduceAdd] at hK ⊢; obtain ⟨n1, x1, k1, d1, t, i⟩ := hP.b1; have q1 := t.cell 0 _ rfl; have q2 := t.cell 1 _ rfl; clear hd hold; go_simp; exact hK.out rfl _ _ (Below.refl _ _) ⟨n1, x1, k1, d1, rfl, i⟩
            · intro vs W hW hW0 hd hne hold K hK hA hL; clear hne hA hL; have hP := hW.1; have hU := hW.2.1; have hV2 := hW.2.2; simp only [puts, Act.put, List.setIfInBounds_toArray, List.set_cons_zero, List.set_cons_succ, Nat.zero_add, Nat.reduceAdd] at hK ⊢; obtain ⟨n1, x1, k1, d1, t, i⟩ := hV2; have q1 := t.cell 0 _ rfl; have q2 := t.cell 1 _ rfl; clear hd hold; go_simp; exact hK.out rfl _ _ (Below.refl _ _) ⟨n1, x1, k1, d1, rfl, i⟩
            · intro vs W hW hW0 hd hne hold K hK hA hL; clear hne hA hL; have hP := hW.1; have hU := hW.2.1; have hV2 := hW.2.2; simp only [puts, Act.put, List.setIfInBounds_toArray, List.set_cons_zero, List.set_cons_succ, Nat.zero_add, Nat.reduceAdd] at hK ⊢; (have hxb : BigV X0 (vs 0) W := hd 0 (by kernel_rfl)); obtain ⟨b1, b2, b3, b4, eb, Ib⟩ := hxb; (have hxc : BigV Q2 (vs 1) W := hd 1 (by kernel_rfl)); obtain ⟨c1, c2, c3, c4, ec, Ic⟩ := hxc; have z1 := Ib.le sX0; have z2 := Ic.le sQ2; clear hd hold; simp only [eb, ec] at hK; go_simp; refine (big_times b1 c1 b2 c2 b3 c3 b4 c4 X0 Q2 _ Ib Ic (by omega) (by omega)).mono ?_; (rintro e wx ⟨f1, f2, f3, f4, rfl, If, hbx⟩); go_simp; exact hK.out rfl _ _ hbx ⟨f1, f2, f3, f4, rfl, If⟩
            · intro vs W hW hW0 hd hne hold K hK hA hL; clear hne hA hL; have hP := hW.1; have hU := hW.2.1; have hV2 := hW.2.2; simp only [puts, Act.put, List.setIfInBounds_toArray, List.set_cons_zero, List.set_cons_succ, Nat.zero_add, Nat.reduceAdd] at hK ⊢; obtain ⟨n1, x1, k1, d1, t, i⟩ := hU; have q1 := t.cell 0 _ rfl; have q2 := t.cell 1 _ rfl; clear hd hold; go_simp; exact hK.out rfl _ _ (Below.refl _ _) ⟨n1, x1, k1, d1, rfl, i⟩
            · intro vs W hW hW0 hd hne hold K hK hA hL; clear hne hA hL; have hP := hW.1; have hU := hW.2.1; have hV2 := hW.2.2; simp only [puts, Act.put, List.setIfInBounds_toArray, List.set_cons_zero, List.set_cons_succ, Nat.zero_add, Nat.reduceAdd] at hK ⊢; obtain ⟨n1, x1, k1, d1, t, i⟩ := hP.b2; have q1 := t.cell 0 _ rfl; have q2 := t.cell 1 _ rfl; clear hd hold; go_simp; exact hK.out rfl _ _ (Below.refl _ _) ⟨n1, x1, k1, d1, rfl, i⟩
            · intro vs W hW hW0 hd hne hold K hK hA hL; clear hne hA hL; have hP := hW.1; have hU := hW.2.1; have hV2 := hW.2.2; simp only [puts, Act.put, List.setIfInBounds_toArray, List.set_cons_zero, List.set_cons_succ, Nat.zero_add, Nat.reduceAdd] at hK ⊢; (have hxb : BigV P2 (vs 3) W := hd 3 (by kernel_rfl)); obtain ⟨b1, b2, b3, b4, eb, Ib⟩ := hxb; (have hxc : BigV Y0 (vs 4) W := hd 4 (by kernel_rfl)); obtain ⟨c1, c2, c3, c4, ec, Ic⟩ := hxc; have z1 := Ib.le sP2; have z2 := Ic.le sY0; clear hd hold; simp only [eb, ec] at hK; go_simp; refine (big_times b1 c1 b2 c2 b3 c3 b4 c4 P2 Y0 _ Ib Ic (by omega) (by omega)).mono ?_; (rintro e wx ⟨f1, f2, f3, f4, rfl, If, hbx⟩); go_simp; exact hK.out rfl _ _ hbx ⟨f1, f2, f3, f4, rfl, If⟩
            · intro vs W hW hW0 hd hne hold K hK hA hL; clear hne hA hL; have hP := hW.1; have hU := hW.2.1; have hV2 := hW.2.2; simp only [puts, Act.put, List.setIfInBounds_toArray, List.set_cons_zero, List.set_cons_succ, Nat.zero_add, Nat.reduceAdd] at hK ⊢; (have hxb : BigV (X0 * Q2) (vs 2) W := hd 2 (by kernel_rfl)); obtain ⟨b1, b2, b3, b4, eb, Ib⟩ := hxb; (have hxc : BigV (P2 * Y0) (vs 5) W := hd 5 (by kernel_rfl)); obtain ⟨c1, c2, c3, c4, ec, Ic⟩ := hxc; have z1 := Ib.le (BM.Sz.mul sX0 sQ2); have z2 := Ic.le (BM.Sz.mul sP2 sY0); have BC := big_cmp b1 c1 b2 c2 b3 c3 b4 c4 (X0 * Q2) (P2 * Y0) _ Ib Ic (by omega) (by omega); rw [eC2] at BC; clear hd hold; simp only [eb, ec] at hK; go_simp; refine (BC).mono ?_; (rintro e wx ⟨rfl, hbx⟩); go_simp; exact hK.out rfl _ _ hbx rfl
            · intro vs W hW hW0 hd hne hold K hK hA hL; clear hne hA hL; have hP := hW.1; have hU := hW.2.1; have hV2 := hW.2.2; simp only [puts, Act.put, List.setIfInBounds_toArray, List.set_cons_zero, List.set_cons_succ, Nat.zero_add, Nat.reduceAdd] at hK ⊢; have e6 : vs 6 = _ := hd 6 (by kernel_rfl); clear hd hold; simp only [e6] at hK; go_simp; exact hK.out rfl _ _ (Below.refl _ _) rfl
          · intro va WA hW hV _
            obtain ⟨T10, -, -⟩ := hW
            have e7 : va 7 = .int .i64 C2 := hV 7 (by decide)
            clear hV
            simp only [puts, Act.put, List.setIfInBounds_toArray, List.set_cons_zero, List.set_cons_succ, Nat.zero_add, Nat.reduceAdd, e7]
            refine hK0 _ _ ?_
            clear hK0 e7
            rcases E2 with ⟨hc, hc'⟩ | ⟨hc, hc'⟩
            · have z1 : decide (0 < C2) = false := by simp; omega
              have z2 : (C2 == 0) = false := by simp; omega
              go_wp2_with fail
              go_roundg (2 - (1 + 1))
              case measure => omega
              case rel => exact ⟨1 + 1, by omega, rfl, by go_num, T10⟩
            · subst hc
              go_wp2_with fail
              go_roundg (2 - (1 + 1))
              case measure => omega
              case rel => exact ⟨1 + 1, by omega, rfl, by go_num, T10⟩
      · obtain rfl : j = 2 := by omega
        have hBB := T7.bl
        go_wp2_with fail
        go_ret
        exact ⟨rfl, hBB⟩
end Go.Proofs.YtmkblfejoniccaaDoor
