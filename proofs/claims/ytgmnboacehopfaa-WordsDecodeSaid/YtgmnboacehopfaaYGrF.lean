/-
  The reference of layer 3: Fraction.
-/
import Derived.Test.YtgmnboacehopfaaYGrE
import Derived.Test.YtgmnboacehopfaaZ6
namespace Go.Proofs.Ytgmnboacehopfaa
open Go.RowKit
set_option linter.unusedSimpArgs false
set_option linter.unusedVariables false

def heldF (b : Nat) (n : Int) : Cl := .own (fun _ w => ∃ neg ao k cap, Two w b (.bool neg) (.slice ao k cap) ∧ IsBig w neg ao k cap n) (fun _ _ _ h hb => by
  obtain ⟨a, b, c, d, t, i⟩ := h; exact ⟨a, b, c, d, t.below hb, i.keep hb⟩)
/-- The state of Fraction: both boxes, the results' boxes. -/
def FrR (w : World) (b7 : Nat) (X Y : Int) (wx : World) : Prop :=
  ∃ (n1 : Bool) (a1 : Option Addr) (k1 c1 : Nat) (n2 : Bool) (a2 : Option Addr) (k2 c2 : Nat), Two wx b7 (.bool n1) (.slice a1 k1 c1) ∧ Two wx (b7 + 1) (.bool n2) (.slice a2 k2 c2) ∧ IsBig wx n1 a1 k1 c1 X ∧ IsBig wx n2 a2 k2 c2 Y ∧
    Two wx w.heap.size (.bool false) (.slice none 0 0) ∧ Two wx (w.heap.size + 1) (.bool false) (.slice none 0 0) ∧ Below w.heap.size w wx
theorem wp_worldF {P : Program} {c : Code} {Q : Exit → Act → World → Prop} {a : Act} {w : World} (R : World → Prop) (h : R w) (k : ∀ W, R W → c.wp P Q a W) : c.wp P Q a w := k w h
set_option maxRecDepth 100000 in
set_option maxHeartbeats 3200000 in
theorem ref3_fraction (b : Nat) (hb : b < 18446744073709551616) (w : World) : Calls Try.prog 45 #[.int .u64 (b : Int)] w (BigRet2 (fNu b * (fUp b : Int)) (fLo b : Int) w) := by
  have FI := ref3_fields b hb
  have hw := fWh_lt b
  have hx := fEx_lt b
  have hm := fMa_lt b
  obtain ⟨E, eE⟩ : ∃ E, (if fEx b = 0 then 1 else fEx b) = E := ⟨_, rfl⟩
  have hE : 1 ≤ E ∧ E < 2048 := by rw [← eE]; split <;> omega
  have hP : fPo b = (E : Int) - 1075 := by unfold fPo; rw [← eE]; split <;> omega
  have hu : (fUp b : Int) = ((2 ^ (E - 1075) : Nat) : Int) := by unfold fUp; rw [hP]; congr 2; omega
  have hl : (fLo b : Int) = ((2 ^ (1075 - E) : Nat) : Int) := by unfold fLo; rw [hP]; congr 2; omega
  have hn : fNu b = if fSg b then -(fWh b : Int) else (fWh b : Int) := rfl
  have hW : fWh b = if fEx b = 0 then fMa b else fMa b + 4503599627370496 := rfl
  rw [hu, hl]
  obtain ⟨x, ex⟩ : ∃ x, fEx b = x := ⟨_, rfl⟩
  obtain ⟨m0, em⟩ : ∃ x, fMa b = x := ⟨_, rfl⟩
  obtain ⟨m, eW⟩ : ∃ x, fWh b = x := ⟨_, rfl⟩
  obtain ⟨s, es⟩ : ∃ x, fSg b = x := ⟨_, rfl⟩
  rw [ex, em, es] at FI
  rw [ex] at eE hx
  rw [em] at hm
  rw [eW] at hw
  rw [eW, es] at hn
  rw [eW, ex, em] at hW
  rw [hn]
  obtain ⟨U, eU⟩ : ∃ U : Int, ((2 ^ (E - 1075) : Nat) : Int) = U := ⟨_, rfl⟩
  obtain ⟨L, eL⟩ : ∃ L : Int, ((2 ^ (1075 - E) : Nat) : Int) = L := ⟨_, rfl⟩
  obtain ⟨X, eX⟩ : ∃ X : Int, (if s = true then -(m : Int) else (m : Int)) * U = X := ⟨_, rfl⟩
  rw [eU, eL, eX]
  have EU := Lib.hid eU
  have EL := Lib.hid eL
  have EX := Lib.hid eX
  clear eU eL eX
  have sm : BM.Sz (m : Int) 4 := BM.Sz.u64 (by omega) (by omega)
  have EE := Lib.hid eE
  have HM := Lib.hid hW
  clear ex em eW es hn hu hl hP hW eE
  go_enter Try.func45, Try.ntmps45
  go_upto_if 16 with (go_at_call 60; with_reducible refine (FI _).mono ?_; rintro e w1 ⟨rfl, rfl⟩)
  clear FI
  obtain ⟨w0, e0⟩ : ∃ W, (w.alloc (.cells #[.bool false, .slice none 0 0] 100)).alloc (.cells #[.bool false, .slice none 0 0] 100) = W := ⟨_, rfl⟩
  have z2 : Two w0 w.heap.size (.bool false) (.slice none 0 0) := by rw [← e0]; exact (Two.new w _ _ _ rfl).alloc _
  have z3 : Two w0 (w.heap.size + 1) (.bool false) (.slice none 0 0) := by rw [← e0]; exact Two.new _ _ _ _ (by simp)
  have hB : Below w.heap.size w w0 := by rw [← e0]; exact (by repeat' (first | (with_reducible exact Below.refl _ _) | (with_reducible assumption) | (with_reducible refine below_alloc ?_ _ ?_) | (with_reducible refine below_set _ ?_ ?_) | (with_reducible refine Below.drew ?_) | (with_reducible refine below_dN ?_ _) | (apply below_thenA; assumption) | omega | (simp; done) | (simp; omega) | (simp [*]; done)))
  have hs0 : w.heap.size + 2 ≤ w0.heap.size := by rw [← e0]; simp
  rw [e0]
  clear e0
  go_cut [5, 6] from 17 to 18 (fun v5 v6 wx => v5 = .int .i64 ((E : Int)) ∧ v6 = .int .u64 ((m : Int)) ∧ wx = w0)
  case first =>
    by_cases h0 : x = 0
    · have h1 := EE.out
      have h2 := HM.out
      rw [if_pos h0] at h1 h2
      have H1 := Lib.hid h1
      have H2 := Lib.hid h2
      clear h1 h2
      go_wp2_with fail
      go_meet
      case rel => exact ⟨by rw [← H1.out]; rfl, by rw [H2.out], rfl⟩
    · have h1 := EE.out
      have h2 := HM.out
      rw [if_neg h0] at h1 h2
      have H1 := Lib.hid h1
      have H2 := Lib.hid h2
      have q1 : ((x : Int) == 0) = false := by simp; omega
      clear h1 h2
      go_wp2_with fail
      go_meet
      case rel => exact ⟨by rw [← H1.out], by rw [H2.out]; simp, rfl⟩
  case rest =>
    obtain ⟨rfl, rfl, hwc⟩ := hcut
    subst hwc
    have OF := fun W => big_ofu m (by omega) W
    have OO := big_ofu1
    go_upto_region 6 with (first
      | (go_at_call 46; with_reducible refine (OF _).mono ?_; rintro e w1 hR1; obtain ⟨n1, a1, k1, c1, rfl, I1, hb1⟩ := hR1.out)
      | (go_at_call 46; with_reducible refine (OO _).mono ?_; rintro e w2 hR2; obtain ⟨n2, a2, k2, c2, rfl, I2, hb2⟩ := hR2.out))
    have hR : FrR w w2.heap.size (m : Int) 1 ((w2.alloc (.cells #[.bool n1, .slice a1 k1 c1] 100)).alloc (.cells #[.bool n2, .slice a2 k2 c2] 100)) := by
      have hB2 : Below w.heap.size w w2 := (hB.trans (hb1.mono hB.size)).trans (hb2.mono (by have := hb1.size; omega))
      have hs2 := hB2.size
      refine ⟨n1, a1, k1, c1, n2, a2, k2, c2, (Two.new w2 _ _ _ rfl).alloc _, Two.new _ _ _ _ (by simp), (I1.keep hb2).keep (by repeat' (first | (with_reducible exact Below.refl _ _) | (with_reducible assumption) | (with_reducible refine below_alloc ?_ _ ?_) | (with_reducible refine below_set _ ?_ ?_) | (with_reducible refine Below.drew ?_) | (with_reducible refine below_dN ?_ _) | (apply below_thenA; assumption) | omega | (simp; done) | (simp; omega) | (simp [*]; done))), I2.keep (by repeat' (first | (with_reducible exact Below.refl _ _) | (with_reducible assumption) | (with_reducible refine below_alloc ?_ _ ?_) | (with_reducible refine below_set _ ?_ ?_) | (with_reducible refine Below.drew ?_) | (with_reducible refine below_dN ?_ _) | (apply below_thenA; assumption) | omega | (simp; done) | (simp; omega) | (simp [*]; done))), (((z2.below hb1).below hb2).alloc _).alloc _, (((z3.below hb1).below hb2).alloc _).alloc _, (by repeat' (first | (with_reducible exact Below.refl _ _) | (with_reducible assumption) | (with_reducible refine below_alloc ?_ _ ?_) | (with_reducible refine below_set _ ?_ ?_) | (with_reducible refine Below.drew ?_) | (with_reducible refine below_dN ?_ _) | (apply below_thenA; assumption) | omega | (simp; done) | (simp; omega) | (simp [*]; done)))⟩
    have hl7 : w.heap.size + 1 < w2.heap.size := by have := hb1.size; have := hb2.size; omega
    refine wp_worldF (fun W => FrR w w2.heap.size (m : Int) 1 W) hR ?_
    intro W1 hR1
    clear hR I1 I2 hb1 hb2 z2 z3 hB hs0 OF OO HM EE hR2
    obtain ⟨b7, e7⟩ : ∃ b7, w2.heap.size = b7 := ⟨_, rfl⟩
    rw [e7] at hR1 hl7
    rw [e7]
    clear e7
    go_upto_if 23 with (fail)
    go_cut [] from 23 to 31 (fun wx => FrR w b7 ((m : Int) * U) L wx)
    case first =>
      obtain ⟨m1, d1, k1', f1, m2, d2, k2', f2, t7, t8, I1, I2, tA, tB, hB⟩ := hR1
      have hsB := hB.size
      by_cases hg : 1075 < E
      · have q0 : decide (1075 < (E : Int)) = true := by simp; omega
        have hgi : (1075 : Int) < (E : Int) := by omega
        obtain ⟨k, ek⟩ : ∃ k : Nat, E - 1075 = k := ⟨_, rfl⟩
        have hk : (E : Int) - 1075 = (k : Int) := by omega
        have hk2 : k ≤ 1000 := by omega
        have wk : IntKind.i64.wrap (k : Int) = (k : Int) := by rw [IntWalk.i64_left]; exact IntWalk.wrap64_in _ (by omega)
        have hL : (1 : Int) = L := by rw [← EL.out, show 1075 - E = 0 by omega]; rfl
        rw [hL] at I2
        have su : BM.Sz U (k + 1) := by rw [← EU.out, ek]; exact pow_sz k
        have PW : ∀ W, Calls Try.prog 69 #[.int .i64 ((k : Int))] W (BigRet U W) := fun W => by
          have q := big_power k (by omega) W
          rw [← ek, EU.out, ek] at q
          exact q
        have hl8 := t8.lt
        rw [q0]
        clear hL hg EL EU ek EX q0 hgi
        go_upto_region 7 with (fail)
        rename_i K0 hK0
        refine wp_region_calm (fun w' => Below w.heap.size w w' ∧ Two w' (b7 + 1) (.bool m2) (.slice d2 k2' f2) ∧ IsBig w' m2 d2 k2' f2 L ∧ Two w' w.heap.size (.bool false) (.slice none 0 0) ∧ Two w' (w.heap.size + 1) (.bool false) (.slice none 0 0)) [5] (fun w' => Two w' b7 (.bool m1) (.slice d1 k1' f1) ∧ IsBig w' m1 d1 k1' f1 (m : Int)) [bigC (m : Int), Is (.int .i64 ((E : Int))), Is (.int .i64 ((k : Int))), bigC U, bigC ((m : Int) * U), heldF b7 ((m : Int) * U)] [] (by kernel_rfl) (by kernel_rfl) (by kernel_rfl) (by kernel_rfl) ⟨hB.drew, t8, I2.drewd, tA, tB⟩ ⟨t7, I1.drewd⟩ ?_ ?_ ?_ ?_ ?_
        · rintro W W' ⟨hBB, u8, J2, uA, uB⟩ hb
          exact ⟨hBB.trans (hb.mono hBB.size), u8.below hb, J2.keep hb, uA.below hb, uB.below hb⟩
        · intro W W' hB h0 hb; exact ⟨h0.1.below hb, h0.2.keep hb⟩
        · intro k vs W hk h
          exact absurd hk (by simp)
        · intro Q; clear hK0 
          refine ⟨?_, ?_, ?_, ?_, ?_, ?_, trivial⟩
          · intro vs W hW hW0 hd hne hold K hK hA hL; clear hne hA hL; have hBB := hW.1; have u8 := hW.2.1; have J2 := hW.2.2.1; have uA := hW.2.2.2.1; have uB := hW.2.2.2.2; simp only [puts, Act.put, List.setIfInBounds_toArray, List.set_cons_zero, List.set_cons_succ, Nat.zero_add, Nat.reduceAdd] at hK ⊢; have h0 := hW0 (by kernel_rfl); have q := (h0.1).cells; have q1 := q.1; have q2 := q.2.1; clear hd hold; go_simp; exact hK.out rfl _ _ (Below.refl _ _) ⟨m1, d1, k1', f1, rfl, h0.2⟩
          · intro vs W hW hW0 hd hne hold K hK hA hL; clear hne hA hL; have hBB := hW.1; have u8 := hW.2.1; have J2 := hW.2.2.1; have uA := hW.2.2.2.1; have uB := hW.2.2.2.2; simp only [puts, Act.put, List.setIfInBounds_toArray, List.set_cons_zero, List.set_cons_succ, Nat.zero_add, Nat.reduceAdd] at hK ⊢; clear hd hold; go_simp; exact hK.out rfl _ _ (Below.refl _ _) rfl
          · intro vs W hW hW0 hd hne hold K hK hA hL; clear hne hA hL; have hBB := hW.1; have u8 := hW.2.1; have J2 := hW.2.2.1; have uA := hW.2.2.2.1; have uB := hW.2.2.2.2; simp only [puts, Act.put, List.setIfInBounds_toArray, List.set_cons_zero, List.set_cons_succ, Nat.zero_add, Nat.reduceAdd] at hK ⊢; have e1 : vs 1 = _ := hd 1 (by kernel_rfl); clear hd hold; simp only [e1] at hK; go_simp; exact hK.out rfl _ _ (Below.refl _ _) rfl
          · intro vs W hW hW0 hd hne hold K hK hA hL; clear hne hA hL; have hBB := hW.1; have u8 := hW.2.1; have J2 := hW.2.2.1; have uA := hW.2.2.2.1; have uB := hW.2.2.2.2; simp only [puts, Act.put, List.setIfInBounds_toArray, List.set_cons_zero, List.set_cons_succ, Nat.zero_add, Nat.reduceAdd] at hK ⊢; have eb : vs 2 = _ := hd 2 (by kernel_rfl); clear hd hold; simp only [eb] at hK; go_simp; refine ((PW W)).mono ?_; (rintro e wx ⟨f1, f2, f3, f4, rfl, If, hbx⟩); go_simp; exact hK.out rfl _ _ hbx ⟨f1, f2, f3, f4, rfl, If⟩
          · intro vs W hW hW0 hd hne hold K hK hA hL; clear hne hA hL; have hBB := hW.1; have u8 := hW.2.1; have J2 := hW.2.2.1; have uA := hW.2.2.2.1; have uB := hW.2.2.2.2; simp only [puts, Act.put, List.setIfInBounds_toArray, List.set_cons_zero, List.set_cons_succ, Nat.zero_add, Nat.reduceAdd] at hK ⊢; (have hxb : BigV ((m : Int)) (vs 0) W := hd 0 (by kernel_rfl)); obtain ⟨b1, b2, b3, b4, eb, Ib⟩ := hxb; (have hxc : BigV U (vs 3) W := hd 3 (by kernel_rfl)); obtain ⟨c1, c2, c3, c4, ec, Ic⟩ := hxc; have k2 := Ib.le sm; have k3 := Ic.le su; clear hd hold; simp only [eb, ec] at hK; go_simp; refine (big_times b1 c1 b2 c2 b3 c3 b4 c4 (m : Int) U _ Ib Ic (by omega) (by omega)).mono ?_; (rintro e wx ⟨f1, f2, f3, f4, rfl, If, hbx⟩); go_simp; exact hK.out rfl _ _ hbx ⟨f1, f2, f3, f4, rfl, If⟩
          · intro vs W hW hW0 hd hne hold K hK hA hL; clear hK hA; have hBB := hW.1; have u8 := hW.2.1; have J2 := hW.2.2.1; have uA := hW.2.2.2.1; have uB := hW.2.2.2.2; simp only [puts, Act.put, List.setIfInBounds_toArray, List.set_cons_zero, List.set_cons_succ, Nat.zero_add, Nat.reduceAdd] at hL ⊢; have h0 := hW0 (by kernel_rfl); have T := h0.1; (have hxc : BigV ((m : Int) * U) (vs 4) W := hd 4 (by kernel_rfl)); obtain ⟨c1, c2, c3, c4, ec, Ic⟩ := hxc; have q := T.cells; have q1 := q.1; have q2 := q.2.1; have q3 := q.2.2.1; have q4 := q.2.2.2; clear hd hold; simp only [ec] at hL; go_simp; refine hL.out rfl undef _ ⟨BP hBB (by omega) _ _, u8.put_other (by omega) _ _, IsBig.put J2 T _ _, uA.put_other (by omega) _ _, uB.put_other (by omega) _ _⟩ (fun h => absurd h (by decide)) ⟨c1, c2, c3, c4, T.put _ _, IsBig.put Ic T _ _⟩ ?_; exact claims_keep ⟨.inr fun h => BigV.put h T _ _, .inr is_keep, .inr is_keep, .inr fun h => BigV.put h T _ _, .inr fun h => BigV.put h T _ _, .inl rfl, trivial⟩
        · intro va WA hBW hV _
          obtain ⟨hB2, u8, J2, uA, uB⟩ := hBW
          have h5 : ∃ neg ao k cap, Two WA b7 (.bool neg) (.slice ao k cap) ∧ IsBig WA neg ao k cap ((m : Int) * U) := hV 5 (by decide)
          obtain ⟨n5, x5, k5, c5, t5, I5⟩ := h5
          clear hV
          simp only [puts, Act.put, List.setIfInBounds_toArray, List.set_cons_zero, List.set_cons_succ, Nat.zero_add, Nat.reduceAdd]
          refine hK0 _ _ ?_
          clear hK0
          go_meet
          case rel => exact ⟨n5, x5, k5, c5, m2, d2, k2', f2, t5, u8, I5, J2, uA, uB, hB2⟩
      · have q0 : decide (1075 < (E : Int)) = false := by simp; omega
        obtain ⟨k, ek⟩ : ∃ k : Nat, 1075 - E = k := ⟨_, rfl⟩
        have hk : 1075 - (E : Int) = (k : Int) := by omega
        have hk2 : k ≤ 1075 := by omega
        have hU : (m : Int) = (m : Int) * U := by rw [← EU.out, show E - 1075 = 0 by omega]; simp
        rw [hU] at I1
        have PW : ∀ W, Calls Try.prog 69 #[.int .i64 ((k : Int))] W (BigRet L W) := fun W => by
          have q := big_power k (by omega) W
          rw [← ek, EL.out, ek] at q
          exact q
        have hE2 : (E : Int) ≤ 1075 := by omega
        clear hU hg EL EU ek EX
        go_wp2_with (go_at_call 69; with_reducible refine (PW _).mono ?_; rintro e w3 hR3; obtain ⟨n3, a3, k3, c3, rfl, I3, hb3⟩ := hR3.out; have t8' := t8.below hb3; obtain ⟨q1, q2, q3, q4⟩ := t8'.cells)
        go_meet
        case rel => exact ⟨m1, d1, k1', f1, n3, a3, k3, c3, (t7.below hb3).put_other (by omega) _ _, t8'.put _ _, IsBig.put (I1.keep hb3) t8' _ _, IsBig.put I3 t8' _ _, (tA.below hb3).put_other (by omega) _ _, (tB.below hb3).put_other (by omega) _ _, BP (hB.trans (hb3.mono hB.size)) (by omega) _ _⟩
    case rest =>
      obtain ⟨wd, rfl⟩ : ∃ x, x = wc := ⟨_, rfl⟩
      go_upto_if 32 with (fail)
      go_cut [] from 32 to 35 (fun wx => FrR w b7 X L wx)
      case first =>
        obtain ⟨m1, d1, k1', f1, m2, d2, k2', f2, t7, t8, I1, I2, tA, tB, hB⟩ := hcut
        have hsB := hB.size
        have hX := EX.out
        cases s
        · rw [if_neg (by simp)] at hX
          rw [hX] at I1
          go_wp2_with fail
          go_meet
          case rel => exact ⟨m1, d1, k1', f1, m2, d2, k2', f2, t7, t8, I1, I2, tA, tB, hB⟩
        · rw [if_pos rfl, Int.neg_mul] at hX
          have hk1 := I1.le (BM.Sz.mul sm (show BM.Sz U (E - 1075 + 1) by rw [← EU.out]; exact pow_sz _))
          have MN := fun W (h : IsBig W m1 d1 k1' f1 ((m : Int) * U)) => big_minus m1 d1 k1' f1 _ W h (by omega)
          rw [hX] at MN
          obtain ⟨q1, q2, q3, q4⟩ := t7.cells
          go_wp2_with (go_at_call 70; with_reducible refine (MN _ I1).mono ?_; rintro e w3 hR3; obtain ⟨n3, a3, k3, c3, rfl, I3, hb3⟩ := BigRet.out hR3; have t7' := t7.below hb3; obtain ⟨r1, r2, r3, r4⟩ := t7'.cells)
          go_meet
          case rel => exact ⟨n3, a3, k3, c3, m2, d2, k2', f2, t7'.put _ _, (t8.below hb3).put_other (by omega) _ _, IsBig.put I3 t7' _ _, IsBig.put (I2.keep hb3) t7' _ _, (tA.below hb3).put_other (by omega) _ _, (tB.below hb3).put_other (by omega) _ _, BP (hB.trans (hb3.mono hB.size)) (by omega) _ _⟩
      case rest =>
        obtain ⟨we, rfl⟩ : ∃ x, x = wc := ⟨_, rfl⟩
        obtain ⟨m1, d1, k1', f1, m2, d2, k2', f2, t7, t8, I1, I2, tA, tB, hB⟩ := hcut
        have hsB := hB.size
        clear EX EU EL sm
        go_upto_region 11 with (fail)
        rename_i K1 hK1
        refine wp_region_calm (fun w' => Below w.heap.size w w' ∧ Two w' b7 (.bool m1) (.slice d1 k1' f1) ∧ Two w' (b7 + 1) (.bool m2) (.slice d2 k2' f2) ∧ IsBig w' m1 d1 k1' f1 X ∧ IsBig w' m2 d2 k2' f2 L ∧ (∃ x y, Two w' w.heap.size x y) ∧ (∃ x y, Two w' (w.heap.size + 1) x y)) [2, 3] (fun w' => True) [Is (.agg #[.bool m1, .slice d1 k1' f1]), Is (.agg #[.bool m2, .slice d2 k2' f2]), .own (fun _ w' => Two w' w.heap.size (.bool m1) (.slice d1 k1' f1)) (fun _ _ _ h hb => h.below hb), .own (fun _ w' => Two w' (w.heap.size + 1) (.bool m2) (.slice d2 k2' f2)) (fun _ _ _ h hb => h.below hb)] [] (by kernel_rfl) (by kernel_rfl) (by kernel_rfl) (by kernel_rfl) ⟨hB.drew, t7, t8, I1.drewd, I2.drewd, ⟨_, _, tA⟩, ⟨_, _, tB⟩⟩ trivial ?_ ?_ ?_ ?_ ?_
        · rintro W W' ⟨hBB, u7, u8, J1, J2, uA, uB⟩ hb
          exact ⟨hBB.trans (hb.mono hBB.size), u7.below hb, u8.below hb, J1.keep hb, J2.keep hb, by obtain ⟨x, y, h⟩ := uA; exact ⟨x, y, h.below hb⟩, by obtain ⟨x, y, h⟩ := uB; exact ⟨x, y, h.below hb⟩⟩
        · intro W W' hB h0 hb; exact trivial
        · intro k vs W hk h
          exact absurd hk (by simp)
        · intro Q; clear hK1 
          refine ⟨?_, ?_, ?_, ?_, trivial⟩
          · intro vs W hW hW0 hd hne hold K hK hA hL; clear hne hA hL; have hBB := hW.1; have u7 := hW.2.1; have u8 := hW.2.2.1; have J1 := hW.2.2.2.1; have J2 := hW.2.2.2.2.1; have uA := hW.2.2.2.2.2.1; have uB := hW.2.2.2.2.2.2; simp only [puts, Act.put, List.setIfInBounds_toArray, List.set_cons_zero, List.set_cons_succ, Nat.zero_add, Nat.reduceAdd] at hK ⊢; have q := u7.cells; have q1 := q.1; have q2 := q.2.1; clear hd hold; go_simp; exact hK.out rfl _ _ (Below.refl _ _) rfl
          · intro vs W hW hW0 hd hne hold K hK hA hL; clear hne hA hL; have hBB := hW.1; have u7 := hW.2.1; have u8 := hW.2.2.1; have J1 := hW.2.2.2.1; have J2 := hW.2.2.2.2.1; have uA := hW.2.2.2.2.2.1; have uB := hW.2.2.2.2.2.2; simp only [puts, Act.put, List.setIfInBounds_toArray, List.set_cons_zero, List.set_cons_succ, Nat.zero_add, Nat.reduceAdd] at hK ⊢; have q := u8.cells; have q1 := q.1; have q2 := q.2.1; clear hd hold; go_simp; exact hK.out rfl _ _ (Below.refl _ _) rfl
          · intro vs W hW hW0 hd hne hold K hK hA hL; clear hK hA; have hBB := hW.1; have u7 := hW.2.1; have u8 := hW.2.2.1; have J1 := hW.2.2.2.1; have J2 := hW.2.2.2.2.1; have uA := hW.2.2.2.2.2.1; have uB := hW.2.2.2.2.2.2; simp only [puts, Act.put, List.setIfInBounds_toArray, List.set_cons_zero, List.set_cons_succ, Nat.zero_add, Nat.reduceAdd] at hL ⊢; have ev : vs 0 = _ := hd 0 (by kernel_rfl); obtain ⟨x, y, T⟩ := uA; have q := T.cells; have q1 := q.1; have q2 := q.2.1; have q3 := q.2.2.1; have q4 := q.2.2.2; clear hd hold; simp only [ev] at hL ⊢; go_simp; refine hL.out rfl undef _ ⟨BP hBB (Nat.le_refl _) _ _, u7.put_other (by omega) _ _, u8.put_other (by omega) _ _, IsBig.put J1 T _ _, IsBig.put J2 T _ _, ⟨_, _, T.put _ _⟩, by obtain ⟨x', y', T'⟩ := uB; exact ⟨x', y', T'.put_other (by omega) _ _⟩⟩ (fun _ => trivial) (T.put _ _) ?_; exact claims_keep ⟨.inr is_keep, .inr is_keep, .inl rfl, .inr fun h => Two.put_other h (by omega) _ _, trivial⟩
          · intro vs W hW hW0 hd hne hold K hK hA hL; clear hK hA; have hBB := hW.1; have u7 := hW.2.1; have u8 := hW.2.2.1; have J1 := hW.2.2.2.1; have J2 := hW.2.2.2.2.1; have uA := hW.2.2.2.2.2.1; have uB := hW.2.2.2.2.2.2; simp only [puts, Act.put, List.setIfInBounds_toArray, List.set_cons_zero, List.set_cons_succ, Nat.zero_add, Nat.reduceAdd] at hL ⊢; have ev : vs 1 = _ := hd 1 (by kernel_rfl); obtain ⟨x, y, T⟩ := uB; have q := T.cells; have q1 := q.1; have q2 := q.2.1; have q3 := q.2.2.1; have q4 := q.2.2.2; clear hd hold; simp only [ev] at hL ⊢; go_simp; refine hL.out rfl undef _ ⟨BP hBB (by omega) _ _, u7.put_other (by omega) _ _, u8.put_other (by omega) _ _, IsBig.put J1 T _ _, IsBig.put J2 T _ _, by obtain ⟨x', y', T'⟩ := uA; exact ⟨x', y', T'.put_other (by omega) _ _⟩, ⟨_, _, T.put _ _⟩⟩ (fun _ => trivial) (T.put _ _) ?_; exact claims_keep ⟨.inr is_keep, .inr is_keep, .inr fun h => Two.put_other h (by omega) _ _, .inl rfl, trivial⟩
        · intro va WA hBW hV _
          obtain ⟨hB2, u7, u8, J1, J2, uA, uB⟩ := hBW
          have h2 : Two WA w.heap.size (.bool m1) (.slice d1 k1' f1) := hV 2 (by decide)
          have h3 : Two WA (w.heap.size + 1) (.bool m2) (.slice d2 k2' f2) := hV 3 (by decide)
          clear hV uA uB u7 u8
          simp only [puts, Act.put, List.setIfInBounds_toArray, List.set_cons_zero, List.set_cons_succ, Nat.zero_add, Nat.reduceAdd]
          refine hK1 _ _ ?_
          clear hK1
          obtain ⟨q1, q2, q3, q4⟩ := h2.cells
          obtain ⟨r1, r2, r3, r4⟩ := h3.cells
          go_wp2_with fail
          (go_light; simp [bodyPost, results, Try.results45, go_sem, *])
          exact ⟨m1, d1, k1', f1, m2, d2, k2', f2, rfl, J1, J2, hB2⟩
end Go.Proofs.Ytgmnboacehopfaa
