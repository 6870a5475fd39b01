/-
  The reference of layer 5: Sum and Bound.
-/
/-
  The reference of layer 5: Split.
-/
import Derived.Test.YthofammjbicogaaZ6
import Derived.Test.YthofammjbicogaaZ5
import Derived.Deep.DeepCutAuto
import Derived.Deep.CutRange
import Derived.Deep.CutBlock
import Derived.Maps.AppendAt
import Derived.Deep.AppendLies
namespace Go.Proofs.Ythofammjbicogaa
open Go.RowKit
set_option linter.unusedSimpArgs false
set_option linter.unusedVariables false

theorem pre_abs {xs : List Int} (h : Fits xs) : ∀ j, (pre xs j).natAbs ≤ j * 9223372036854775808
  | 0 => by simp [pre]
  | j + 1 => by
    have h1 := pre_abs h j
    have h2 := h j
    have h3 : pre xs (j + 1) = pre xs j + xs.getD j 0 := rfl
    rw [h3]
    omega
theorem pre_sz {xs : List Int} (h : Fits xs) {j : Nat} (hj : j ≤ 1024) : BM.Sz (pre xs j) 5 := by
  have := pre_abs h j
  have e : (65536 : Nat) ^ 5 = 1208925819614629174706176 := by decide
  unfold BM.Sz
  rw [e]
  have h2 : j * 9223372036854775808 ≤ 1024 * 9223372036854775808 := Nat.mul_le_mul_right _ hj
  omega
theorem IsBig.zero_iff {w : World} {neg : Bool} {ao : Option Addr} {k cap : Nat} {n : Int} (h : IsBig w neg ao k cap n) : k = 0 ↔ n = 0 := by
  constructor
  · rintro rfl
    have := h.sz
    unfold BM.Sz at this
    simp at this
    omega
  · rintro rfl
    have := h.le (K := 0) (by unfold BM.Sz; simp)
    omega
def heldZ (b : Nat) (n : Int) : Cl := .own (fun _ w => ∃ neg ao k cap, Blk w b #[.bool neg, .slice ao k cap] 128 ∧ IsBig w neg ao k cap n) (fun _ _ _ h hb => by
  obtain ⟨a, b, c, d, t, i⟩ := h; exact ⟨a, b, c, d, t.below hb, i.keep hb⟩)
def SumRel (w : World) (b5 : Nat) (k : Nat) (xs : List Int) (gk : Nat) (s6 : Value) (wr : World) : Prop :=
  ∃ (j : Nat) (neg : Bool) (ao : Option Addr) (kk cap : Nat), j ≤ k ∧ gk = k - j ∧ s6 = .int .i64 ((j : Int)) ∧ Blk wr w.heap.size #[.bool false, .slice none 0 0] 128 ∧ Blk wr b5 #[.bool neg, .slice ao kk cap] 128 ∧ IsBig wr neg ao kk cap (pre xs j) ∧ Below w.heap.size w wr
set_option maxRecDepth 100000 in
set_option maxHeartbeats 3200000 in
theorem ref5_sum (ao : Option Addr) (k cap n : Nat) (xs : List Int) (hk : k ≤ 1024) (hnk : n ≤ k) (hf : Fits xs) (w : World) (hx : RowI w ao k xs) :
    Calls Try.prog 93 #[.slice ao k cap, .int .i64 ((n : Int))] w (BigRet (pre xs n) w) := by
  have HX := Lib.hid hx
  have HF := Lib.hid hf
  clear hx hf
  have t4 := Blk.new w #[.bool false, .slice none 0 0] 128 _ rfl
  have hB : Below w.heap.size w (w.alloc (.cells #[.bool false, .slice none 0 0] 128)) := (by repeat' (first | (with_reducible exact Below.refl _ _) | (with_reducible assumption) | (with_reducible refine below_alloc ?_ _ ?_) | (with_reducible refine below_set _ ?_ ?_) | (with_reducible refine Below.drew ?_) | (with_reducible refine below_dN ?_ _) | (apply below_thenA; assumption) | omega | (simp; done) | (simp; omega) | (simp [*]; done)))
  have hsz1 : (w.alloc (.cells #[.bool false, .slice none 0 0] 128)).heap.size = w.heap.size + 1 := by simp
  go_enter Try.func93, Try.ntmps93
  go_wp2_with fail
  refine (big_ofu 0 (by omega) _).mono ?_
  rintro e w1 ⟨a1, a2, a3, a4, rfl, I1, hb1⟩
  have hb5 : w.heap.size < w1.heap.size := by have := hb1.size; omega
  have t := Blk.new w1 #[.bool a1, .slice a2 a3 a4] 128 _ rfl
  replace I1 := I1.keep (w' := w1.alloc (.cells #[.bool a1, .slice a2 a3 a4] 128)) (by repeat' (first | (with_reducible exact Below.refl _ _) | (with_reducible assumption) | (with_reducible refine below_alloc ?_ _ ?_) | (with_reducible refine below_set _ ?_ ?_) | (with_reducible refine Below.drew ?_) | (with_reducible refine below_dN ?_ _) | (apply below_thenA; assumption) | omega | (simp; done) | (simp; omega) | (simp [*]; done)))
  replace t4 := (t4.below hb1).alloc (.cells #[.bool a1, .slice a2 a3 a4] 128)
  replace hB := (hB.trans (hb1.mono hB.size)).alloc (by omega) (.cells #[.bool a1, .slice a2 a3 a4] 128)
  have HB := Lib.hid hB
  have HT := Lib.hid t
  have HT4 := Lib.hid t4
  have HI := Lib.hid I1
  clear hB t I1 hb1 t4 hsz1
  go_wp2_with fail
  go_loopg [6] n (fun gk s6 wr => SumRel w w1.heap.size n xs gk s6 wr)
  case atStart => exact ⟨0, a1, a2, a3, a4, by omega, by omega, rfl, HT4.out, HT.out, HI.out, HB.out⟩
  case round =>
    clear HB HT HT4 HI
    obtain ⟨j, neg, aj, kk, cp, hj, rfl, rfl, t4, t, I, hB⟩ := hrel
    have hsj := pre_sz HF.out (show j ≤ 1024 by omega)
    have hkk := I.le hsj
    by_cases hjn : j < n
    · have ix : (j : Int) < (n : Int) := by omega
      have ik : (j : Int) < (k : Int) := by omega
      obtain ⟨g, off, rfl, hg, hcx⟩ := HX.out.at (show j < k by omega)
      obtain ⟨x, ex⟩ : ∃ x, xs.getD j 0 = x := ⟨_, rfl⟩
      have hfx := HF.out j
      have ep : pre xs (j + 1) = pre xs j + x := by rw [← ex]; rfl
      have hsj2 := pre_sz HF.out (show j + 1 ≤ 1024 by omega)
      rw [ep] at hsj2
      rw [ex] at hcx hfx
      obtain ⟨s, es⟩ : ∃ s, pre xs j = s := ⟨_, rfl⟩
      rw [es] at I hsj ep hsj2
      have sx := BM.Sz.i64 hfx.1 hfx.2
      obtain ⟨x1, x2⟩ := hfx
      have HC := Lib.hid hcx
      have HG := Lib.hid hg
      have EP := Lib.hid ep
      clear hcx hg ep es ex
      have hlt := t.lt
      go_upto_region 5 with (fail)
      rename_i K0 hK0
      refine wp_region_calm (fun w' => Below w.heap.size w w' ∧ Blk w' w.heap.size #[.bool false, .slice none 0 0] 128) [7] (fun w' => Blk w' w1.heap.size #[.bool neg, .slice aj kk cp] 128 ∧ IsBig w' neg aj kk cp s) [bigC s, Is (.slice (some ⟨g, off, none⟩) k cap), Is (.int .i64 ((j : Int))), Is (.pointer (some ⟨g, off + j, none⟩)), Is (.int .i64 x), bigC x, bigC (s + x), heldZ w1.heap.size (s + x)] [] (by kernel_rfl) (by kernel_rfl) (by kernel_rfl) (by kernel_rfl) ⟨hB.drew, t4⟩ ⟨t, I.drewd⟩ ?_ ?_ ?_ ?_ ?_
      · rintro W W' ⟨hB, t4⟩ hb
        exact ⟨hB.trans (hb.mono hB.size), t4.below hb⟩
      · intro W W' hB h0 hb; exact ⟨h0.1.below hb, h0.2.keep hb⟩
      · intro k vs W hk h
        exact absurd hk (by simp)
      · intro Q; clear hK0 hB t4 t I
        refine ⟨?_, ?_, ?_, ?_, ?_, ?_, ?_, ?_, trivial⟩
        · intro vs W hW hW0 hd hne hold K hK hA hL; clear hne hA hL; have hB := hW.1; have t4 := hW.2; simp only [puts, Act.put, List.setIfInBounds_toArray, List.set_cons_zero, List.set_cons_succ, Nat.zero_add, Nat.reduceAdd] at hK ⊢; have h0 := hW0 (by kernel_rfl); have q1 := h0.1.cell 0 _ rfl; have q2 := h0.1.cell 1 _ rfl; clear hd hold; go_simp; exact hK.out rfl _ _ (Below.refl _ _) ⟨neg, aj, kk, cp, rfl, h0.2⟩
        · intro vs W hW hW0 hd hne hold K hK hA hL; clear hne hA hL; have hB := hW.1; have t4 := hW.2; simp only [puts, Act.put, List.setIfInBounds_toArray, List.set_cons_zero, List.set_cons_succ, Nat.zero_add, Nat.reduceAdd] at hK ⊢; clear hd hold; go_simp; exact hK.out rfl _ _ (Below.refl _ _) rfl
        · intro vs W hW hW0 hd hne hold K hK hA hL; clear hne hA hL; have hB := hW.1; have t4 := hW.2; simp only [puts, Act.put, List.setIfInBounds_toArray, List.set_cons_zero, List.set_cons_succ, Nat.zero_add, Nat.reduceAdd] at hK ⊢; clear hd hold; go_simp; exact hK.out rfl _ _ (Below.refl _ _) rfl
        · intro vs W hW hW0 hd hne hold K hK hA hL; clear hne hA hL; have hB := hW.1; have t4 := hW.2; simp only [puts, Act.put, List.setIfInBounds_toArray, List.set_cons_zero, List.set_cons_succ, Nat.zero_add, Nat.reduceAdd] at hK ⊢; have e1 : vs 1 = _ := hd 1 (by kernel_rfl); have e2 : vs 2 = _ := hd 2 (by kernel_rfl); clear hd hold; simp only [e1, e2] at hK; go_simp; exact hK.out rfl _ _ (Below.refl _ _) rfl
        · intro vs W hW hW0 hd hne hold K hK hA hL; clear hne hA hL; have hB := hW.1; have t4 := hW.2; simp only [puts, Act.put, List.setIfInBounds_toArray, List.set_cons_zero, List.set_cons_succ, Nat.zero_add, Nat.reduceAdd] at hK ⊢; have eb : vs 3 = _ := hd 3 (by kernel_rfl); have q1 := (hB.cell (p := ⟨g, off + j, none⟩) HG.out).trans HC.out; clear hd hold; simp only [eb] at hK; go_simp; exact hK.out rfl _ _ (Below.refl _ _) rfl
        · intro vs W hW hW0 hd hne hold K hK hA hL; clear hne hA hL; have hB := hW.1; have t4 := hW.2; simp only [puts, Act.put, List.setIfInBounds_toArray, List.set_cons_zero, List.set_cons_succ, Nat.zero_add, Nat.reduceAdd] at hK ⊢; have eb : vs 4 = _ := hd 4 (by kernel_rfl); clear hd hold; simp only [eb] at hK; go_simp; refine (big_of x x1 x2 _).mono ?_; (rintro e wx ⟨f1, f2, f3, f4, rfl, If, hbx⟩); go_simp; exact hK.out rfl _ _ hbx ⟨f1, f2, f3, f4, rfl, If⟩
        · intro vs W hW hW0 hd hne hold K hK hA hL; clear hne hA hL; have hB := hW.1; have t4 := hW.2; simp only [puts, Act.put, List.setIfInBounds_toArray, List.set_cons_zero, List.set_cons_succ, Nat.zero_add, Nat.reduceAdd] at hK ⊢; (have hxb : BigV s (vs 0) W := hd 0 (by kernel_rfl)); obtain ⟨b1, b2, b3, b4, eb, Ib⟩ := hxb; (have hxc : BigV x (vs 5) W := hd 5 (by kernel_rfl)); obtain ⟨c1, c2, c3, c4, ec, Ic⟩ := hxc; have k2 := Ib.le hsj; have k3 := Ic.le sx; clear hd hold; simp only [eb, ec] at hK; go_simp; refine (big_plus b1 c1 b2 c2 b3 c3 b4 c4 s x _ Ib Ic (by omega) (by omega)).mono ?_; (rintro e wx ⟨f1, f2, f3, f4, rfl, If, hbx⟩); go_simp; exact hK.out rfl _ _ hbx ⟨f1, f2, f3, f4, rfl, If⟩
        · intro vs W hW hW0 hd hne hold K hK hA hL; clear hK hA; have hB := hW.1; have t4 := hW.2; simp only [puts, Act.put, List.setIfInBounds_toArray, List.set_cons_zero, List.set_cons_succ, Nat.zero_add, Nat.reduceAdd] at hL ⊢; have h0 := hW0 (by kernel_rfl); have t0 := h0.1; (have hxc : BigV (s + x) (vs 6) W := hd 6 (by kernel_rfl)); obtain ⟨c1, c2, c3, c4, ec, Ic⟩ := hxc; have q1 := t0.cell 0 _ rfl; have q2 := t0.cell 1 _ rfl; have q3 := t0.free 0; have q4 := t0.free 1; have tb := t0.set2 rfl (.bool c1) (.slice c2 c3 c4); have hbt := But.set2 (b := w1.heap.size) W (.bool c1) (.slice c2 c3 c4); clear hd hold; simp only [ec] at hL; go_simp; refine hL.out rfl undef _ ⟨hbt.to hB (by omega) hB.size, t4.but hbt (by omega)⟩ (fun h => absurd h (by decide)) ⟨c1, c2, c3, c4, tb, IsBig.but Ic hbt t0 (by decide)⟩ ?_; exact claims_keep ⟨.inr fun h => BigV.but h hbt t0 (by decide), .inr is_keep, .inr is_keep, .inr is_keep, .inr is_keep, .inr fun h => BigV.but h hbt t0 (by decide), .inr fun h => BigV.but h hbt t0 (by decide), .inl rfl, trivial⟩
      · intro va WA hW hV _
        clear hB t4 t I
        obtain ⟨hB, t4⟩ := hW
        have h7 : ∃ neg ao k cap, Blk WA w1.heap.size #[.bool neg, .slice ao k cap] 128 ∧ IsBig WA neg ao k cap (s + x) := hV 7 (by decide)
        obtain ⟨n5, x5, k5, c5, t5, I5⟩ := h7
        clear hV
        simp only [puts, Act.put, List.setIfInBounds_toArray, List.set_cons_zero, List.set_cons_succ, Nat.zero_add, Nat.reduceAdd]
        refine hK0 _ _ ?_
        clear hK0
        go_wp2_with fail
        go_roundg (n - (j + 1))
        case measure => omega
        case rel => exact ⟨j + 1, n5, x5, k5, c5, by omega, rfl, by go_num, t4, t5, by rw [EP.out]; exact I5, hB⟩
    · obtain rfl : j = n := by omega
      have ix : ¬ (j : Int) < (j : Int) := by omega
      have q1 := t.cell 0 _ rfl
      have q2 := t.cell 1 _ rfl
      have p1 := t4.cell 0 _ rfl
      have p2 := t4.cell 1 _ rfl
      have p3 := t4.free 0
      have p4 := t4.free 1
      have hlt := t4.lt
      go_wp2_with fail
      (go_light; simp [bodyPost, results, Try.results93, go_sem, *])
      have hbt := But.set2 (b := w.heap.size) wr (.bool neg) (.slice aj kk cp)
      exact ⟨neg, aj, kk, cp, rfl, IsBig.but I hbt t4 (by decide), hbt.to hB (Nat.le_refl _) hB.size⟩
set_option maxRecDepth 100000 in
set_option maxHeartbeats 3200000 in
theorem ref5_bound (t X Y : Int) (na nb : Bool) (xa xb : Option Addr) (ka kb ca cb : Nat) (F : Int) (ht : IFit t) (sX : BM.Sz X 5) (sY : BM.Sz Y 5) (h0 : Y ≠ 0) (eF : fq (t * X) Y = F) (hF : IFit F) (w : World) (ha : IsBig w na xa ka ca X) (hb : IsBig w nb xb kb cb Y) :
    Calls Try.prog 96 #[.int .i64 t, .agg #[.bool na, .slice xa ka ca], .agg #[.bool nb, .slice xb kb cb]] w fun e w' => e = .returned (.int .i64 F) ∧ Below w.heap.size w w' := by
  obtain ⟨t1, t2⟩ := ht
  have st := BM.Sz.i64 t1 t2
  have stx := BM.Sz.mul st sX
  have DN := fun na nb ax bx k m ca cb W (h1 : IsBig W na ax k ca (t * X)) (h2 : IsBig W nb bx m cb Y) hk hm => big_down na nb ax bx k m ca cb (t * X) Y W h1 h2 hk hm h0
  have sF : BM.Sz F 4 := BM.Sz.i64 hF.1 hF.2
  have hi : intV F = F := by unfold intV; rw [show intB F = true by unfold intB; simp; unfold IFit at hF; omega]; rfl
  obtain ⟨R, eR⟩ : ∃ R, fr (t * X) Y = R := ⟨_, rfl⟩
  rw [eF, eR] at DN
  have IT := fun neg ao k cap W h hk => big_int neg ao k cap F W h hk
  rw [hi] at IT
  obtain ⟨ib, eib⟩ : ∃ b, intB F = b := ⟨_, rfl⟩
  rw [eib] at IT
  clear eF eR h0 hF hi eib
  have b4 := (Blk.new w #[.bool na, .slice xa ka ca] 128 _ rfl).alloc (.cells #[.bool nb, .slice xb kb cb] 128)
  have b5 := Blk.new (w.alloc (.cells #[.bool na, .slice xa ka ca] 128)) #[.bool nb, .slice xb kb cb] 128 (w.heap.size + 1) (by simp)
  have hB : Below w.heap.size w ((w.alloc (.cells #[.bool na, .slice xa ka ca] 128)).alloc (.cells #[.bool nb, .slice xb kb cb] 128)) := (by repeat' (first | (with_reducible exact Below.refl _ _) | (with_reducible assumption) | (with_reducible refine below_alloc ?_ _ ?_) | (with_reducible refine below_set _ ?_ ?_) | (with_reducible refine Below.drew ?_) | (with_reducible refine below_dN ?_ _) | (apply below_thenA; assumption) | omega | (simp; done) | (simp; omega) | (simp [*]; done)))
  have hsz : ((w.alloc (.cells #[.bool na, .slice xa ka ca] 128)).alloc (.cells #[.bool nb, .slice xb kb cb] 128)).heap.size = w.heap.size + 2 := by simp
  have i4 := ha.keep hB
  have i5 := hb.keep hB
  have HSZ := Lib.hid hsz
  clear ha hb hsz
  go_enter Try.func96, Try.ntmps96
  go_upto_region 1 with (fail)
  rename_i K0 hK0
  refine wp_region_calm (fun w' => Below w.heap.size w w' ∧ Blk w' w.heap.size #[.bool na, .slice xa ka ca] 128 ∧ Blk w' (w.heap.size + 1) #[.bool nb, .slice xb kb cb] 128 ∧ IsBig w' na xa ka ca X ∧ IsBig w' nb xb kb cb Y ∧ w.heap.size + 2 ≤ w'.heap.size) [] (fun w' => True) [Is (.int .i64 t), bigC t, bigC X, bigC (t * X), bigC Y, big2C F R, big2C F R, bigC F, bigC R, bxV (w.heap.size + 2) 128 2, bxV (w.heap.size + 2) 128 2, boxAt 9 (w.heap.size + 2) F, Cl.any] [9, 10] (by kernel_rfl) (by kernel_rfl) (by kernel_rfl) (by kernel_rfl) ⟨hB.drew, b4, b5, i4.drewd, i5.drewd, Nat.le_of_eq HSZ.out.symm⟩ trivial ?_ ?_ ?_ ?_ ?_
  · rintro W W' ⟨hB, b4, b5, i4, i5, hl⟩ hb
    exact ⟨hB.trans (hb.mono hB.size), b4.below hb, b5.below hb, i4.keep hb, i5.keep hb, Nat.le_trans hl hb.size⟩
  · exact fun _ _ _ _ _ => trivial
  · intro k vs W hk h
    rcases (by simpa using hk : k = 9 ∨ k = 10) with rfl | rfl <;> (obtain ⟨b, cs, e, h1, h2, h3⟩ := h; exact ⟨b, e, h2.lt⟩)
  · intro Q; clear hK0 hB b4 b5 i4 i5 IT
    refine ⟨?_, ?_, ?_, ?_, ?_, ?_, ?_, ?_, ?_, ?_, ?_, ?_, ?_, trivial⟩
    · intro vs W hW hW0 hd hne hold K hK hA hL; clear hne hA hL; have hB := hW.1; have b4 := hW.2.1; have b5 := hW.2.2.1; have i4 := hW.2.2.2.1; have i5 := hW.2.2.2.2.1; have hl := hW.2.2.2.2.2; simp only [puts, Act.put, List.setIfInBounds_toArray, List.set_cons_zero, List.set_cons_succ, Nat.zero_add, Nat.reduceAdd] at hK ⊢; clear hd hold; go_simp; exact hK.out rfl _ _ (Below.refl _ _) rfl
    · intro vs W hW hW0 hd hne hold K hK hA hL; clear hne hA hL; have hB := hW.1; have b4 := hW.2.1; have b5 := hW.2.2.1; have i4 := hW.2.2.2.1; have i5 := hW.2.2.2.2.1; have hl := hW.2.2.2.2.2; simp only [puts, Act.put, List.setIfInBounds_toArray, List.set_cons_zero, List.set_cons_succ, Nat.zero_add, Nat.reduceAdd] at hK ⊢; have eb : vs 0 = _ := hd 0 (by kernel_rfl); clear hd hold; simp only [eb] at hK; go_simp; refine (big_of t t1 t2 _).mono ?_; (rintro e wx ⟨f1, f2, f3, f4, rfl, If, hbx⟩); go_simp; exact hK.out rfl _ _ hbx ⟨f1, f2, f3, f4, rfl, If⟩
    · intro vs W hW hW0 hd hne hold K hK hA hL; clear hne hA hL; have hB := hW.1; have b4 := hW.2.1; have b5 := hW.2.2.1; have i4 := hW.2.2.2.1; have i5 := hW.2.2.2.2.1; have hl := hW.2.2.2.2.2; simp only [puts, Act.put, List.setIfInBounds_toArray, List.set_cons_zero, List.set_cons_succ, Nat.zero_add, Nat.reduceAdd] at hK ⊢; have q1 := b4.cell 0 _ rfl; have q2 := b4.cell 1 _ rfl; clear hd hold; go_simp; exact hK.out rfl _ _ (Below.refl _ _) ⟨na, xa, ka, ca, rfl, i4⟩
    · intro vs W hW hW0 hd hne hold K hK hA hL; clear hne hA hL; have hB := hW.1; have b4 := hW.2.1; have b5 := hW.2.2.1; have i4 := hW.2.2.2.1; have i5 := hW.2.2.2.2.1; have hl := hW.2.2.2.2.2; simp only [puts, Act.put, List.setIfInBounds_toArray, List.set_cons_zero, List.set_cons_succ, Nat.zero_add, Nat.reduceAdd] at hK ⊢; (have hxb : BigV t (vs 1) W := hd 1 (by kernel_rfl)); obtain ⟨b1, b2, b3, b4, eb, Ib⟩ := hxb; (have hxc : BigV X (vs 2) W := hd 2 (by kernel_rfl)); obtain ⟨c1, c2, c3, c4, ec, Ic⟩ := hxc; have z1 := Ib.le st; have z2 := Ic.le sX; clear hd hold; simp only [eb, ec] at hK; go_simp; refine (big_times b1 c1 b2 c2 b3 c3 b4 c4 t X _ Ib Ic (by omega) (by omega)).mono ?_; (rintro e wx ⟨f1, f2, f3, f4, rfl, If, hbx⟩); go_simp; exact hK.out rfl _ _ hbx ⟨f1, f2, f3, f4, rfl, If⟩
    · intro vs W hW hW0 hd hne hold K hK hA hL; clear hne hA hL; have hB := hW.1; have b4 := hW.2.1; have b5 := hW.2.2.1; have i4 := hW.2.2.2.1; have i5 := hW.2.2.2.2.1; have hl := hW.2.2.2.2.2; simp only [puts, Act.put, List.setIfInBounds_toArray, List.set_cons_zero, List.set_cons_succ, Nat.zero_add, Nat.reduceAdd] at hK ⊢; have q1 := b5.cell 0 _ rfl; have q2 := b5.cell 1 _ rfl; clear hd hold; go_simp; exact hK.out rfl _ _ (Below.refl _ _) ⟨nb, xb, kb, cb, rfl, i5⟩
    · intro vs W hW hW0 hd hne hold K hK hA hL; clear hne hA hL; have hB := hW.1; have b4 := hW.2.1; have b5 := hW.2.2.1; have i4 := hW.2.2.2.1; have i5 := hW.2.2.2.2.1; have hl := hW.2.2.2.2.2; simp only [puts, Act.put, List.setIfInBounds_toArray, List.set_cons_zero, List.set_cons_succ, Nat.zero_add, Nat.reduceAdd] at hK ⊢; (have hxb : BigV (t * X) (vs 3) W := hd 3 (by kernel_rfl)); obtain ⟨b1, b2, b3, b4, eb, Ib⟩ := hxb; (have hxc : BigV Y (vs 4) W := hd 4 (by kernel_rfl)); obtain ⟨c1, c2, c3, c4, ec, Ic⟩ := hxc; have z1 := Ib.le stx; have z2 := Ic.le sY; clear hd hold; simp only [eb, ec] at hK; go_simp; refine (DN b1 c1 b2 c2 b3 c3 b4 c4 _ Ib Ic (by omega) (by omega)).mono ?_; (rintro e wx ⟨f1, f2, f3, f4, u1, u2, u3, u4, rfl, If, Ig, hbx⟩); go_simp; exact hK.out rfl _ _ hbx ⟨f1, f2, f3, f4, u1, u2, u3, u4, rfl, If, Ig⟩
    · intro vs W hW hW0 hd hne hold K hK hA hL; clear hne hA hL; have hB := hW.1; have b4 := hW.2.1; have b5 := hW.2.2.1; have i4 := hW.2.2.2.1; have i5 := hW.2.2.2.2.1; have hl := hW.2.2.2.2.2; simp only [puts, Act.put, List.setIfInBounds_toArray, List.set_cons_zero, List.set_cons_succ, Nat.zero_add, Nat.reduceAdd] at hK ⊢; have h1 : Big2V F R (vs 5) W := hd 5 (by kernel_rfl); obtain ⟨f1, f2, f3, f4, u1, u2, u3, u4, e1, If, Ig⟩ := h1; clear hd hold; simp only [e1] at hK; go_simp; exact hK.out rfl _ _ (Below.refl _ _) ⟨f1, f2, f3, f4, u1, u2, u3, u4, rfl, If, Ig⟩
    · intro vs W hW hW0 hd hne hold K hK hA hL; clear hne hA hL; have hB := hW.1; have b4 := hW.2.1; have b5 := hW.2.2.1; have i4 := hW.2.2.2.1; have i5 := hW.2.2.2.2.1; have hl := hW.2.2.2.2.2; simp only [puts, Act.put, List.setIfInBounds_toArray, List.set_cons_zero, List.set_cons_succ, Nat.zero_add, Nat.reduceAdd] at hK ⊢; have h1 : Big2V F R (vs 6) W := hd 6 (by kernel_rfl); obtain ⟨f1, f2, f3, f4, u1, u2, u3, u4, e1, If, Ig⟩ := h1; clear hd hold; simp only [e1] at hK; go_simp; exact hK.out rfl _ _ (Below.refl _ _) ⟨f1, f2, f3, f4, rfl, If⟩
    · intro vs W hW hW0 hd hne hold K hK hA hL; clear hne hA hL; have hB := hW.1; have b4 := hW.2.1; have b5 := hW.2.2.1; have i4 := hW.2.2.2.1; have i5 := hW.2.2.2.2.1; have hl := hW.2.2.2.2.2; simp only [puts, Act.put, List.setIfInBounds_toArray, List.set_cons_zero, List.set_cons_succ, Nat.zero_add, Nat.reduceAdd] at hK ⊢; have h1 : Big2V F R (vs 6) W := hd 6 (by kernel_rfl); obtain ⟨f1, f2, f3, f4, u1, u2, u3, u4, e1, If, Ig⟩ := h1; clear hd hold; simp only [e1] at hK; go_simp; exact hK.out rfl _ _ (Below.refl _ _) ⟨u1, u2, u3, u4, rfl, Ig⟩
    · intro vs W hW hW0 hd hne hold K hK hA hL; clear hne hK hL; have hB := hW.1; have b4 := hW.2.1; have b5 := hW.2.2.1; have i4 := hW.2.2.2.1; have i5 := hW.2.2.2.2.1; have hl := hW.2.2.2.2.2; simp only [puts, Act.put, List.setIfInBounds_toArray, List.set_cons_zero, List.set_cons_succ, Nat.zero_add, Nat.reduceAdd] at hA ⊢; clear hd hold; go_simp; exact hA.out W.heap.size _ ((Below.refl _ _).alloc (Nat.le_refl _) _) (Nat.le_refl _) ⟨W.heap.size, _, rfl, hl, Blk.new _ _ _ _ rfl, rfl⟩
    · intro vs W hW hW0 hd hne hold K hK hA hL; clear hne hK hL; have hB := hW.1; have b4 := hW.2.1; have b5 := hW.2.2.1; have i4 := hW.2.2.2.1; have i5 := hW.2.2.2.2.1; have hl := hW.2.2.2.2.2; simp only [puts, Act.put, List.setIfInBounds_toArray, List.set_cons_zero, List.set_cons_succ, Nat.zero_add, Nat.reduceAdd] at hA ⊢; clear hd hold; go_simp; exact hA.out W.heap.size _ ((Below.refl _ _).alloc (Nat.le_refl _) _) (Nat.le_refl _) ⟨W.heap.size, _, rfl, hl, Blk.new _ _ _ _ rfl, rfl⟩
    · intro vs W hW hW0 hd hne hold K hK hA hL; clear hK hA; have hB := hW.1; have b4 := hW.2.1; have b5 := hW.2.2.1; have i4 := hW.2.2.2.1; have i5 := hW.2.2.2.2.1; have hl := hW.2.2.2.2.2; simp only [puts, Act.put, List.setIfInBounds_toArray, List.set_cons_zero, List.set_cons_succ, Nat.zero_add, Nat.reduceAdd] at hL ⊢; (have hxc : BigV F (vs 7) W := hd 7 (by kernel_rfl)); obtain ⟨c1, c2, c3, c4, ec, Ic⟩ := hxc; (have hxb : BxV ((w.heap.size + 2)) 128 2 (vs 9) W := hd 9 (by kernel_rfl)); obtain ⟨b, cs0, eb, hlb, t0, hsz⟩ := hxb; obtain ⟨z0, q0⟩ := t0.cellx 0 (by omega); have p0 := t0.free 0; obtain ⟨z1, q1⟩ := t0.cellx 1 (by omega); have p1 := t0.free 1; have tb := t0.set2 hsz (.bool c1) (.slice c2 c3 c4); have hbt := But.set2 (b := b) W (.bool c1) (.slice c2 c3 c4); clear hd hold; simp only [ec, eb] at hL; have HSZ := Lib.hid hsz; clear hsz; have HNE := Lib.hid hne; clear hne; go_simp; have hne := HNE.out; have hsz := HSZ.out; refine hL.out rfl undef _ ⟨hbt.to hB (by omega) hB.size, b4.but hbt (by omega), b5.but hbt (by omega), i4.but hbt t0 (by decide), i5.but hbt t0 (by decide), Nat.le_trans hl hbt.size⟩ (fun _ => trivial) ⟨b, c1, c2, c3, c4, eb, hlb, tb, IsBig.but Ic hbt t0 (by decide)⟩ ?_; exact claims_keep ⟨.inr is_keep, .inr fun h => BigV.but h hbt t0 (by decide), .inr fun h => BigV.but h hbt t0 (by decide), .inr fun h => BigV.but h hbt t0 (by decide), .inr fun h => BigV.but h hbt t0 (by decide), .inr fun h => Big2V.but h hbt t0 (by decide), .inr fun h => Big2V.but h hbt t0 (by decide), .inr fun h => BigV.but h hbt t0 (by decide), .inr fun h => BigV.but h hbt t0 (by decide), .inr fun h => BxV.but h hbt t0 tb (by rw [hsz]; rfl), .inr fun h => BxV.but h hbt t0 tb (by rw [hsz]; rfl), .inl rfl, .inr fun _ => trivial, trivial⟩
    · intro vs W hW hW0 hd hne hold K hK hA hL; clear hK hA; have hB := hW.1; have b4 := hW.2.1; have b5 := hW.2.2.1; have i4 := hW.2.2.2.1; have i5 := hW.2.2.2.2.1; have hl := hW.2.2.2.2.2; simp only [puts, Act.put, List.setIfInBounds_toArray, List.set_cons_zero, List.set_cons_succ, Nat.zero_add, Nat.reduceAdd] at hL ⊢; (have hxc : BigV R (vs 8) W := hd 8 (by kernel_rfl)); obtain ⟨c1, c2, c3, c4, ec, Ic⟩ := hxc; (have hxb : BxV ((w.heap.size + 2)) 128 2 (vs 10) W := hd 10 (by kernel_rfl)); obtain ⟨b, cs0, eb, hlb, t0, hsz⟩ := hxb; obtain ⟨z0, q0⟩ := t0.cellx 0 (by omega); have p0 := t0.free 0; obtain ⟨z1, q1⟩ := t0.cellx 1 (by omega); have p1 := t0.free 1; have tb := t0.set2 hsz (.bool c1) (.slice c2 c3 c4); have hbt := But.set2 (b := b) W (.bool c1) (.slice c2 c3 c4); clear hd hold; simp only [ec, eb] at hL; have HSZ := Lib.hid hsz; clear hsz; have HNE := Lib.hid hne; clear hne; go_simp; have hne := HNE.out; have hsz := HSZ.out; have hnb : vs 9 ≠ .pointer (some ⟨b, 0, none⟩) := fun x => hne 10 9 (by decide) (by kernel_rfl) (by rw [eb, x]); refine hL.out rfl undef _ ⟨hbt.to hB (by omega) hB.size, b4.but hbt (by omega), b5.but hbt (by omega), i4.but hbt t0 (by decide), i5.but hbt t0 (by decide), Nat.le_trans hl hbt.size⟩ (fun _ => trivial) trivial ?_; exact claims_keep ⟨.inr is_keep, .inr fun h => BigV.but h hbt t0 (by decide), .inr fun h => BigV.but h hbt t0 (by decide), .inr fun h => BigV.but h hbt t0 (by decide), .inr fun h => BigV.but h hbt t0 (by decide), .inr fun h => Big2V.but h hbt t0 (by decide), .inr fun h => Big2V.but h hbt t0 (by decide), .inr fun h => BigV.but h hbt t0 (by decide), .inr fun h => BigV.but h hbt t0 (by decide), .inr fun h => BxV.but h hbt t0 tb (by rw [hsz]; rfl), .inr fun h => BxV.but h hbt t0 tb (by rw [hsz]; rfl), .inr fun h => BoxBig.but h hbt t0 (by decide) hnb, .inl rfl, trivial⟩
  · intro va WA hW hV _
    clear hB
    obtain ⟨hB, _⟩ := hW
    have h7 : BoxBig (w.heap.size + 2) F (va 9) WA := hV 11 (by decide)
    obtain ⟨b7, n1, n2, n3, n4, e7, _, t7, I7⟩ := h7
    replace t7 : Blk WA b7 #[.bool n1, .slice n2 n3 n4] 128 := t7
    clear hV
    simp only [puts, Act.put, List.setIfInBounds_toArray, List.set_cons_zero, List.set_cons_succ, Nat.zero_add, Nat.reduceAdd, e7]
    refine hK0 _ _ ?_
    clear hK0 e7 DN b4 b5 i4 i5
    have q1 := t7.cell 0 _ rfl
    have q2 := t7.cell 1 _ rfl
    have z1 := I7.le sF
    go_wp2_with fail
    refine (IT n1 n2 n3 n4 _ I7 (by omega)).mono ?_
    rintro e w5 ⟨rfl, hb5⟩
    go_wp2_with fail
    go_ret
    exact ⟨rfl, hB.trans (hb5.mono hB.size)⟩
end Go.Proofs.Ythofammjbicogaa
namespace Go.Proofs.Ythofammjbicogaa
open Go.RowKit
set_option linter.unusedSimpArgs false
set_option linter.unusedVariables false

/-- Behind an append to a row of ints. -/
theorem OwnI.app {w w1 : World} {B : Nat} {ao : Option Addr} {k cap m : Nat} {xs ys : List Int} {v' : Value} (h : OwnI w B ao k cap xs)
    (ho : w1.ownsRow B 2 1 v' (k + m) (i64s xs ++ i64s ys)) (hg : w.grownBy w1 (Value.slice ao k cap).ownBlock) (hm : ys.length = m) (hB : B ≤ w.heap.size) :
    ∃ ao' cap', v' = .slice ao' (k + m) cap' ∧ OwnI w1 B ao' (k + m) cap' (xs ++ ys) ∧ (∀ C a, C ≤ B → Below C a w → Below C a w1) ∧ Keeps w w1 ∧
      (∀ b cs T, Blk w b cs T → T ≠ 2 → Blk w1 b cs T) ∧ (∀ b cs T, Blk w b cs T → (∀ g, (Value.slice ao k cap).ownBlock = some g → g ≠ b) → Blk w1 b cs T) := by
  have hs : ∃ ao' cap', v' = .slice ao' (k + m) cap' := by
    rcases ho.2 with ⟨e, e0⟩ | ⟨g, c, cur, e, _⟩
    · exact ⟨none, 0, by rw [e, e0]⟩
    · exact ⟨_, _, e⟩
  obtain ⟨ao', cap', rfl⟩ := hs
  have hK : ∀ b cs T, Blk w b cs T → T ≠ 2 → Blk w1 b cs T := fun b cs T hb hT => (hg.block b hb.lt (fun e => h.ne hb hT e.symm)).trans hb
  refine ⟨ao', cap', rfl, ⟨by simpa [i64s] using ho, by simp [h.2, hm]⟩, fun C a hC hb => ?_, fun g cur hc => hK g cur 130 hc (by decide), hK, fun b cs T hb hne => (hg.block b hb.lt (fun e => hne b e.symm rfl)).trans hb⟩
  refine hb.grown hg (Nat.le_trans hC hB) ?_
  intro j hj
  have := (h.1.lt j hj).1
  omega
/-- A slice of one new cell; a slice of the call's own that holds these. -/
def SliV (B : Nat) (s : Int) (v : Value) (w : World) : Prop := ∃ b, v = .slice (some ⟨b, 0, none⟩) 1 1 ∧ B ≤ b ∧ Blk w b #[.int .i64 s] 2
def sliC (B : Nat) (s : Int) : Cl := .own (SliV B s) (fun _ _ _ h hb => by obtain ⟨b, e, h1, h2⟩ := h; exact ⟨b, e, h1, h2.below hb⟩)
def OwnV (H n : Nat) (xs : List Int) (v : Value) (w : World) : Prop := ∃ ao cap, v = .slice ao n cap ∧ OwnI w H ao n cap xs
def ownC (H n : Nat) (xs : List Int) : Cl := .own (OwnV H n xs) (fun _ _ _ h hb => by obtain ⟨a, c, e, h⟩ := h; exact ⟨a, c, e, h.below hb⟩)
theorem SliV.app {B : Nat} {s : Int} {v v0 : Value} {W w1 : World} (h : SliV B s v W) (hb2 : ∀ b cs T, Blk W b cs T → (∀ g, v0.ownBlock = some g → g ≠ b) → Blk w1 b cs T) (hg : ∀ g, v0.ownBlock = some g → g < B) : SliV B s v w1 := by
  obtain ⟨b, e, h1, h2⟩ := h
  exact ⟨b, e, h1, hb2 b _ _ h2 (fun g hgg => by have := hg g hgg; omega)⟩
theorem i64s_one (xs : List Int) : ∀ u ∈ i64s xs, u.oneCell' = true := by
  intro u hu
  unfold i64s at hu
  obtain ⟨y, _, rfl⟩ := List.mem_map.1 hu
  rfl
theorem BigV.keeps {n : Int} {v : Value} {w w' : World} (h : BigV n v w) (hk : Keeps w w') : BigV n v w' := by
  obtain ⟨a1, a2, a3, a4, e, h⟩ := h; exact ⟨a1, a2, a3, a4, e, h.keeps hk⟩
/-- Each claim but those behind lasts from one world to another. -/
def KeepA (os : Array Oper) (n i : Nat) (vs : Nat → Value) (w w' : World) : List Cl → Nat → Prop
  | [], _ => True
  | c :: cs, k => (k = i ∨ anc os n k i = true ∨ (c.holds k vs w → c.holds k vs w')) ∧ KeepA os n i vs w w' cs (k + 1)
theorem keep_a {os : Array Oper} {n i : Nat} {vs : Nat → Value} {w w' : World} : ∀ {cls : List Cl} {k : Nat}, KeepA os n i vs w w' cls k → ∀ j, k + j ≠ i → anc os n (k + j) i = false → (cls.getD j .any).holds (k + j) vs w → (cls.getD j .any).holds (k + j) vs w'
  | [], _, _, j, _, _, h => by simp [Cl.holds]
  | c :: cs, k, hk, j, hj, ha, h => by
    cases j with
    | zero =>
      rcases hk.1 with h1 | h1 | h1
      · exact absurd h1 hj
      · rw [Nat.add_zero] at ha; rw [h1] at ha; cases ha
      · exact h1 h
    | succ j =>
      have := keep_a (cls := cs) (k := k + 1) hk.2 j (by omega) (by rw [show k + 1 + j = k + (j + 1) by omega]; exact ha)
      rw [show k + 1 + j = k + (j + 1) by omega] at this
      exact this h
theorem claims_keep_a {os : Array Oper} {n i : Nat} {vs : Nat → Value} {w w' : World} {cls : List Cl} (h : KeepA os n i vs w w' cls 0) : ∀ j, j ≠ i → anc os n j i = false → claim cls j vs w → claim cls j vs w' := fun j hj ha hc => by
  have := keep_a h j (by omega)
  rw [Nat.zero_add] at this
  exact this ha hc
theorem fq_div {a d : Int} (h : 0 ≤ d) : fq a d = a / d := by unfold fq; rw [if_neg (by omega)]
def RSplRel (w : World) (b7 : Nat) (n1 : Bool) (n2 : Option Addr) (n3 n4 : Nat) (t S : Int) (xs : List Int) (k gk : Nat) (s8 s9 : Value) (wr : World) : Prop :=
  ∃ (j : Nat) (aj : Option Addr) (cj : Nat), j ≤ k ∧ gk = k - j ∧ s8 = .slice aj j cj ∧ s9 = .int .i64 ((j : Int)) ∧ OwnI wr w.heap.size aj j cj (partsN t S xs j) ∧ Below w.heap.size w wr ∧ Blk wr b7 #[.bool n1, .slice n2 n3 n4] 128 ∧ IsBig wr n1 n2 n3 n4 S
set_option maxRecDepth 100000 in
set_option maxHeartbeats 6400000 in
theorem ref5_split (t : Int) (ao : Option Addr) (k cap : Nat) (xs : List Int) (hk2 : k ≤ 1000000) (ht : IFit t) (hf : Fits xs) (w : World) (hx : RowI w ao k xs) :
    Calls Try.prog 59 #[.int .i64 t, .slice ao k cap] w (SplitAns t xs k w) := by
  obtain ⟨i0, hi, hz0, hz1, hz2⟩ := info_parts (show (Try.prog.info? 2).map (fun i => (i.zero, i.size, i.bytes)) = some (some (.int .i64 0), 1, 8) by kernel_rfl)
  obtain ⟨Q, eQ⟩ : ∃ Q, Q = SplitAns t xs k w := ⟨_, rfl⟩
  rw [← eQ]
  have EQ := Lib.hid eQ
  have HX := Lib.hid hx
  have HF := Lib.hid hf
  clear eQ hx hf
  by_cases hk : 1024 < k
  · have hE : shE t xs k = 8 := by unfold shE; rw [if_pos hk]
    have HE := Lib.hid hE
    have ix : (1024 : Int) < (k : Int) := by omega
    clear hE hk
    go_enter Try.func59, Try.ntmps59
    go_wp2_with fail
    rw [EQ.out]
    unfold SplitAns
    rw [HE.out]
    exact ⟨none, 0, 0, [], rfl, RowI.nil _ _, Nat.le_refl _, ⟨by unfold maxLen; omega, fun _ _ e => by cases e⟩, (fun h => absurd h (by decide)), (fun _ => ⟨rfl, rfl⟩), Below.refl _ _⟩
  · have ix : ¬ (1024 : Int) < (k : Int) := by omega
    have hk3 : k ≤ 1024 := by omega
    have HK := Lib.hid hk
    clear hk
    have SM := fun n W (hn : n ≤ k) hx' => ref5_sum ao k cap n xs hk3 hn HF.out W hx'
    go_enter Try.func59, Try.ntmps59
    go_wp2_with fail
    go_loopg [6] k (fun gk s6 wr => ∃ (j : Nat), j ≤ k ∧ gk = k - j ∧ s6 = .int .i64 ((j : Int)) ∧ (∀ i, i < j → 0 ≤ xs.getD i 0) ∧ w = wr)
    case atStart => exact ⟨0, by omega, by omega, rfl, fun i hi => by omega, rfl⟩
    case round =>
      obtain ⟨j, hj, rfl, rfl, hpos, rfl⟩ := hrel
      have HPS := Lib.hid hpos
      clear hpos
      by_cases hjk : j < k
      · have ixj : (j : Int) < (k : Int) := by omega
        obtain ⟨g, off, rfl, hg, hcx⟩ := HX.out.at hjk
        obtain ⟨x, ex⟩ : ∃ x, xs.getD j 0 = x := ⟨_, rfl⟩
        rw [ex] at hcx
        have EX := Lib.hid ex
        clear ex
        by_cases hx0 : x < 0
        · have hE : shE t xs k = 1 := by
            unfold shE
            rw [if_neg HK.out]
            have : negB xs k = true := by
              unfold negB
              rw [decide_eq_true_iff]
              exact ⟨by omega, (minK_neg xs _).2 ⟨j, by omega, by rw [EX.out]; exact hx0⟩⟩
            rw [this]; rfl
          have HE := Lib.hid hE
          clear hE
          go_wp2_with fail
          rw [EQ.out]
          unfold SplitAns
          rw [HE.out]
          exact ⟨none, 0, 0, [], rfl, RowI.nil _ _, Nat.le_refl _, ⟨by unfold maxLen; omega, fun _ _ e => by cases e⟩, (fun h => absurd h (by decide)), (fun _ => ⟨rfl, rfl⟩), Below.refl _ _⟩
        · go_wp2_with fail
          go_roundg (k - (j + 1))
          case measure => omega
          case rel => exact ⟨j + 1, by omega, rfl, by go_num, (fun i hi => by
            by_cases e : i = j
            · subst e; rw [EX.out]; omega
            · exact HPS.out i (by omega)), rfl⟩
      · obtain rfl : j = k := by omega
        have ixj : ¬ (j : Int) < (j : Int) := by omega
        have hng : negB xs j = false := by
          unfold negB
          rw [decide_eq_false_iff_not]
          rintro ⟨h0, h1⟩
          obtain ⟨i, hi, h2⟩ := (minK_neg xs _).1 h1
          have := HPS.out i (by omega)
          omega
        have hn := nonneg_of HX.out.1 hng
        have hE : shE t xs j = splC t xs j := by unfold shE; rw [if_neg HK.out, hng]; rfl
        have HN := Lib.hid hn
        have HE := Lib.hid hE
        clear HPS hng hn hE
        have sS := pre_sz HF.out hk3
        have hS0 := pre_nonneg HN.out j
        have SMj := SM j w (Nat.le_refl _) HX.out
        have SP1 := fun W hx' i (hi : i + 1 ≤ j) => SM (i + 1) W hi hx'
        have SP0 := fun W hx' i (hi : i ≤ j) => SM i W hi hx'
        have hcm : cmpI (pre xs j) 4611686018427387904 > 0 ↔ 4611686018427387904 < pre xs j := by
          unfold cmpI
          by_cases h1 : pre xs j < 4611686018427387904
          · rw [if_pos h1]; omega
          · rw [if_neg h1]
            by_cases h2 : 4611686018427387904 < pre xs j
            · rw [if_pos h2]; omega
            · rw [if_neg h2]; omega
        obtain ⟨S, eS⟩ : ∃ S, pre xs j = S := ⟨_, rfl⟩
        rw [eS] at sS hS0 SMj hcm
        have ES := Lib.hid eS
        have HCM := Lib.hid hcm
        clear eS hcm SM
        go_wp2_with fail
        refine SMj.mono ?_
        rintro e w1 ⟨n1, n2, n3, n4, rfl, I7, hb1⟩
        have hb0 : Below w1.heap.size w1 (w1.alloc (.cells #[.bool n1, .slice n2 n3 n4] 128)) := (by repeat' (first | (with_reducible exact Below.refl _ _) | (with_reducible assumption) | (with_reducible refine below_alloc ?_ _ ?_) | (with_reducible refine below_set _ ?_ ?_) | (with_reducible refine Below.drew ?_) | (with_reducible refine below_dN ?_ _) | (apply below_thenA; assumption) | omega | (simp; done) | (simp; omega) | (simp [*]; done)))
        have t7 := Blk.new w1 #[.bool n1, .slice n2 n3 n4] 128 _ rfl
        replace I7 := I7.keep hb0
        have hB := hb1.trans (hb0.mono hb1.size)
        have hsz7 := hb1.size
        obtain ⟨b7, eb7⟩ : ∃ b, w1.heap.size = b := ⟨_, rfl⟩
        rw [eb7] at t7 hsz7
        have ht' := ht
        obtain ⟨t1, t2⟩ := ht'
        have st := BM.Sz.i64 t1 t2
        have P62 := fun W => big_power_lit 62 62 rfl (by omega) 4611686018427387904 (by decide) W
        have sP : BM.Sz 4611686018427387904 5 := by unfold BM.Sz; decide
        clear SMj hb1 hb0
        cases hl : lenB t
        · have LN := fun neg ao k cap W h hk => ref_length neg ao k cap t W h hk
          rw [hl] at LN
          have ec : splC t xs j = 2 := by unfold splC; rw [hl]; rfl
          have EC := Lib.hid ec
          clear hl ec
          go_upto_region 9 with (fail)
          rename_i K0 hK0
          refine wp_region_calm (fun w' => Below w.heap.size w w') [] (fun w' => True) [Is (.int .i64 t), bigC t, Is (.bool false), Is (.bool true), Is (.bool true), Cl.any, Cl.any, Cl.any, Cl.any, Is (.bool true)] [] (by kernel_rfl) (by kernel_rfl) (by kernel_rfl) (by kernel_rfl) hB.drew trivial ?_ ?_ ?_ ?_ ?_
          · rintro W W' hBB hb
            exact hBB.trans (hb.mono hBB.size)
          · exact fun _ _ _ _ _ => trivial
          · intro k vs W hk h
            exact absurd hk (by simp)
          · intro Q; clear hK0 hB I7 t7 P62
            refine ⟨?_, ?_, ?_, ?_, ?_, ?_, ?_, ?_, ?_, ?_, trivial⟩
            · intro vs W hW hW0 hd hne hold K hK hA hL; clear hne hA hL; have hBB := hW; simp only [puts, Act.put, List.setIfInBounds_toArray, List.set_cons_zero, List.set_cons_succ, Nat.zero_add, Nat.reduceAdd] at hK ⊢; clear hd hold; go_simp; exact hK.out rfl _ _ (Below.refl _ _) rfl
            · intro vs W hW hW0 hd hne hold K hK hA hL; clear hne hA hL; have hBB := hW; simp only [puts, Act.put, List.setIfInBounds_toArray, List.set_cons_zero, List.set_cons_succ, Nat.zero_add, Nat.reduceAdd] at hK ⊢; have eb : vs 0 = _ := hd 0 (by kernel_rfl); clear hd hold; simp only [eb] at hK; go_simp; refine (big_of t t1 t2 _).mono ?_; (rintro e wx ⟨f1, f2, f3, f4, rfl, If, hbx⟩); go_simp; exact hK.out rfl _ _ hbx ⟨f1, f2, f3, f4, rfl, If⟩
            · intro vs W hW hW0 hd hne hold K hK hA hL; clear hne hA hL; have hBB := hW; simp only [puts, Act.put, List.setIfInBounds_toArray, List.set_cons_zero, List.set_cons_succ, Nat.zero_add, Nat.reduceAdd] at hK ⊢; (have hxb : BigV t (vs 1) W := hd 1 (by kernel_rfl)); obtain ⟨b1, b2, b3, b4, eb, Ib⟩ := hxb; have z1 := Ib.le st; clear hd hold; simp only [eb] at hK; go_simp; refine (LN b1 b2 b3 b4 _ Ib (by omega)).mono ?_; (rintro e wx ⟨rfl, hbx⟩); go_simp; exact hK.out rfl _ _ hbx rfl
            · intro vs W hW hW0 hd hne hold K hK hA hL; clear hne hA hL; have hBB := hW; simp only [puts, Act.put, List.setIfInBounds_toArray, List.set_cons_zero, List.set_cons_succ, Nat.zero_add, Nat.reduceAdd] at hK ⊢; have e2 : vs 2 = _ := hd 2 (by kernel_rfl); clear hd hold; simp only [e2] at hK; go_simp; exact hK.out rfl _ _ (Below.refl _ _) rfl
            · intro vs W hW hW0 hd hne hold K hK hA hL; clear hne hA hL; have hBB := hW; simp only [puts, Act.put, List.setIfInBounds_toArray, List.set_cons_zero, List.set_cons_succ, Nat.zero_add, Nat.reduceAdd] at hK ⊢; have e3 : vs 3 = _ := hd 3 (by kernel_rfl); clear hd hold; simp only [e3] at hK; go_simp; exact hK.out rfl _ _ (Below.refl _ _) rfl
            · intro vs W hW hW0 hd hne hold K hK hA hL; clear hne hA hL; have hBB := hW; simp only [puts, Act.put, List.setIfInBounds_toArray, List.set_cons_zero, List.set_cons_succ, Nat.zero_add, Nat.reduceAdd] at hK ⊢; have eb : vs 4 = _ := hd 4 (by kernel_rfl); clear hd hold; simp only [eb] at hK; go_simp; exact hK.out rfl _ _ (Below.refl _ _) trivial
            · intro vs W hW hW0 hd hne hold K hK hA hL; clear hne hA hL; have hBB := hW; simp only [puts, Act.put, List.setIfInBounds_toArray, List.set_cons_zero, List.set_cons_succ, Nat.zero_add, Nat.reduceAdd] at hK ⊢; have eb : vs 4 = _ := hd 4 (by kernel_rfl); clear hd hold; simp only [eb] at hK; go_simp; exact hK.out rfl _ _ (Below.refl _ _) trivial
            · intro vs W hW hW0 hd hne hold K hK hA hL; clear hne hA hL; have hBB := hW; simp only [puts, Act.put, List.setIfInBounds_toArray, List.set_cons_zero, List.set_cons_succ, Nat.zero_add, Nat.reduceAdd] at hK ⊢; have eb : vs 4 = _ := hd 4 (by kernel_rfl); clear hd hold; simp only [eb] at hK; go_simp; exact hK.out rfl _ _ (Below.refl _ _) trivial
            · intro vs W hW hW0 hd hne hold K hK hA hL; clear hne hA hL; have hBB := hW; simp only [puts, Act.put, List.setIfInBounds_toArray, List.set_cons_zero, List.set_cons_succ, Nat.zero_add, Nat.reduceAdd] at hK ⊢; have eb : vs 4 = _ := hd 4 (by kernel_rfl); clear hd hold; simp only [eb] at hK; go_simp; exact hK.out rfl _ _ (Below.refl _ _) trivial
            · intro vs W hW hW0 hd hne hold K hK hA hL; clear hne hA hL; have hBB := hW; simp only [puts, Act.put, List.setIfInBounds_toArray, List.set_cons_zero, List.set_cons_succ, Nat.zero_add, Nat.reduceAdd] at hK ⊢; have e4 : vs 4 = _ := hd 4 (by kernel_rfl); clear hd hold; simp only [e4] at hK; go_simp; exact hK.out rfl _ _ (Below.refl _ _) rfl
          · intro va WA hW hV _
            have e9 : va 9 = .bool true := hV 9 (by decide)
            clear hV
            simp only [puts, Act.put, List.setIfInBounds_toArray, List.set_cons_zero, List.set_cons_succ, Nat.zero_add, Nat.reduceAdd, e9]
            refine hK0 _ _ ?_
            clear hK0
            go_wp2_with fail
            rw [EQ.out]
            unfold SplitAns
            rw [HE.out, EC.out]
            exact ⟨none, 0, 0, [], rfl, RowI.nil _ _, Nat.le_refl _, ⟨by unfold maxLen; omega, fun _ _ e => by cases e⟩, (fun h => absurd h (by decide)), (fun _ => ⟨rfl, rfl⟩), hW⟩
        · have LN := fun neg ao k cap W h hk => ref_length neg ao k cap t W h hk
          rw [hl] at LN
          have hL := (lenB_iff t).1 hl
          have ec : splC t xs j = allE xs j := by unfold splC; rw [hl]; rfl
          have EC := Lib.hid ec
          have HL := Lib.hid hL
          have CB := fun na nb ax bx k m ca cb W h1 h2 h3 h4 => big_cmp na nb ax bx k m ca cb S 4611686018427387904 W h1 h2 h3 h4
          obtain ⟨c, hc⟩ : ∃ c, cmpI S 4611686018427387904 = c := ⟨_, rfl⟩
          rw [hc] at CB
          have hcm := HCM.out
          rw [hc] at hcm
          obtain ⟨cb, ecb⟩ : ∃ cb, decide (0 < c) = cb := ⟨_, rfl⟩
          have hcb : cb = true ↔ 4611686018427387904 < S := by rw [← ecb, decide_eq_true_iff]; exact hcm
          have HCB := Lib.hid hcb
          clear hl ec hL hc hcm hcb HCM
          go_upto_region 9 with (fail)
          rename_i K0 hK0
          refine wp_region_calm (fun w' => Below w.heap.size w w' ∧ Blk w' b7 #[.bool n1, .slice n2 n3 n4] 128 ∧ IsBig w' n1 n2 n3 n4 S) [] (fun w' => True) [Is (.int .i64 t), bigC t, Is (.bool true), Is (.bool false), Is (.bool false), bigC S, bigC 4611686018427387904, Is (.int .i64 c), Is (.bool cb), Is (.bool cb)] [] (by kernel_rfl) (by kernel_rfl) (by kernel_rfl) (by kernel_rfl) ⟨hB.drew, t7, I7.drewd⟩ trivial ?_ ?_ ?_ ?_ ?_
          · rintro W W' ⟨hBB, t7, I7⟩ hb
            exact ⟨hBB.trans (hb.mono hBB.size), t7.below hb, I7.keep hb⟩
          · exact fun _ _ _ _ _ => trivial
          · intro k vs W hk h
            exact absurd hk (by simp)
          · intro Q; clear hK0 hB I7 t7
            refine ⟨?_, ?_, ?_, ?_, ?_, ?_, ?_, ?_, ?_, ?_, trivial⟩
            · intro vs W hW hW0 hd hne hold K hK hA hL; clear hne hA hL; have hBB := hW.1; have t7 := hW.2.1; have I7 := hW.2.2; simp only [puts, Act.put, List.setIfInBounds_toArray, List.set_cons_zero, List.set_cons_succ, Nat.zero_add, Nat.reduceAdd] at hK ⊢; clear hd hold; go_simp; exact hK.out rfl _ _ (Below.refl _ _) rfl
            · intro vs W hW hW0 hd hne hold K hK hA hL; clear hne hA hL; have hBB := hW.1; have t7 := hW.2.1; have I7 := hW.2.2; simp only [puts, Act.put, List.setIfInBounds_toArray, List.set_cons_zero, List.set_cons_succ, Nat.zero_add, Nat.reduceAdd] at hK ⊢; have eb : vs 0 = _ := hd 0 (by kernel_rfl); clear hd hold; simp only [eb] at hK; go_simp; refine (big_of t t1 t2 _).mono ?_; (rintro e wx ⟨f1, f2, f3, f4, rfl, If, hbx⟩); go_simp; exact hK.out rfl _ _ hbx ⟨f1, f2, f3, f4, rfl, If⟩
            · intro vs W hW hW0 hd hne hold K hK hA hL; clear hne hA hL; have hBB := hW.1; have t7 := hW.2.1; have I7 := hW.2.2; simp only [puts, Act.put, List.setIfInBounds_toArray, List.set_cons_zero, List.set_cons_succ, Nat.zero_add, Nat.reduceAdd] at hK ⊢; (have hxb : BigV t (vs 1) W := hd 1 (by kernel_rfl)); obtain ⟨b1, b2, b3, b4, eb, Ib⟩ := hxb; have z1 := Ib.le st; clear hd hold; simp only [eb] at hK; go_simp; refine (LN b1 b2 b3 b4 _ Ib (by omega)).mono ?_; (rintro e wx ⟨rfl, hbx⟩); go_simp; exact hK.out rfl _ _ hbx rfl
            · intro vs W hW hW0 hd hne hold K hK hA hL; clear hne hA hL; have hBB := hW.1; have t7 := hW.2.1; have I7 := hW.2.2; simp only [puts, Act.put, List.setIfInBounds_toArray, List.set_cons_zero, List.set_cons_succ, Nat.zero_add, Nat.reduceAdd] at hK ⊢; have e2 : vs 2 = _ := hd 2 (by kernel_rfl); clear hd hold; simp only [e2] at hK; go_simp; exact hK.out rfl _ _ (Below.refl _ _) rfl
            · intro vs W hW hW0 hd hne hold K hK hA hL; clear hne hA hL; have hBB := hW.1; have t7 := hW.2.1; have I7 := hW.2.2; simp only [puts, Act.put, List.setIfInBounds_toArray, List.set_cons_zero, List.set_cons_succ, Nat.zero_add, Nat.reduceAdd] at hK ⊢; have e3 : vs 3 = _ := hd 3 (by kernel_rfl); clear hd hold; simp only [e3] at hK; go_simp; exact hK.out rfl _ _ (Below.refl _ _) rfl
            · intro vs W hW hW0 hd hne hold K hK hA hL; clear hne hA hL; have hBB := hW.1; have t7 := hW.2.1; have I7 := hW.2.2; simp only [puts, Act.put, List.setIfInBounds_toArray, List.set_cons_zero, List.set_cons_succ, Nat.zero_add, Nat.reduceAdd] at hK ⊢; have eb : vs 4 = _ := hd 4 (by kernel_rfl); have q1 := t7.cell 0 _ rfl; have q2 := t7.cell 1 _ rfl; clear hd hold; simp only [eb] at hK; go_simp; exact hK.out rfl _ _ (Below.refl _ _) ⟨n1, n2, n3, n4, rfl, I7⟩
            · intro vs W hW hW0 hd hne hold K hK hA hL; clear hne hA hL; have hBB := hW.1; have t7 := hW.2.1; have I7 := hW.2.2; simp only [puts, Act.put, List.setIfInBounds_toArray, List.set_cons_zero, List.set_cons_succ, Nat.zero_add, Nat.reduceAdd] at hK ⊢; have eb : vs 4 = _ := hd 4 (by kernel_rfl); clear hd hold; simp only [eb] at hK; go_simp; refine (P62 _).mono ?_; (rintro e wx ⟨f1, f2, f3, f4, rfl, If, hbx⟩); go_simp; exact hK.out rfl _ _ hbx ⟨f1, f2, f3, f4, rfl, If⟩
            · intro vs W hW hW0 hd hne hold K hK hA hL; clear hne hA hL; have hBB := hW.1; have t7 := hW.2.1; have I7 := hW.2.2; simp only [puts, Act.put, List.setIfInBounds_toArray, List.set_cons_zero, List.set_cons_succ, Nat.zero_add, Nat.reduceAdd] at hK ⊢; have ea : vs 4 = _ := hd 4 (by kernel_rfl); (have hxb : BigV S (vs 5) W := hd 5 (by kernel_rfl)); obtain ⟨b1, b2, b3, b4, eb, Ib⟩ := hxb; (have hxc : BigV 4611686018427387904 (vs 6) W := hd 6 (by kernel_rfl)); obtain ⟨c1, c2, c3, c4, ec, Ic⟩ := hxc; have z1 := Ib.le sS; have z2 := Ic.le sP; clear hd hold; simp only [ea, eb, ec] at hK; go_simp; refine (CB b1 c1 b2 c2 b3 c3 b4 c4 _ Ib Ic (by omega) (by omega)).mono ?_; (rintro e wx ⟨rfl, hbx⟩); go_simp; exact hK.out rfl _ _ hbx rfl
            · intro vs W hW hW0 hd hne hold K hK hA hL; clear hne hA hL; have hBB := hW.1; have t7 := hW.2.1; have I7 := hW.2.2; simp only [puts, Act.put, List.setIfInBounds_toArray, List.set_cons_zero, List.set_cons_succ, Nat.zero_add, Nat.reduceAdd] at hK ⊢; have e4 : vs 4 = _ := hd 4 (by kernel_rfl); have e7 : vs 7 = _ := hd 7 (by kernel_rfl); clear hd hold; simp only [e4, e7] at hK; go_simp; exact hK.out rfl _ _ (Below.refl _ _) rfl
            · intro vs W hW hW0 hd hne hold K hK hA hL; clear hne hA hL; have hBB := hW.1; have t7 := hW.2.1; have I7 := hW.2.2; simp only [puts, Act.put, List.setIfInBounds_toArray, List.set_cons_zero, List.set_cons_succ, Nat.zero_add, Nat.reduceAdd] at hK ⊢; have e4 : vs 4 = _ := hd 4 (by kernel_rfl); have e8 : vs 8 = _ := hd 8 (by kernel_rfl); clear hd hold; simp only [e4, e8] at hK; go_simp; exact hK.out rfl _ _ (Below.refl _ _) rfl
          · intro va WA hW hV _
            clear hB t7 I7
            obtain ⟨hB, t7, I7⟩ := hW
            have e9 : va 9 = .bool cb := hV 9 (by decide)
            clear hV
            simp only [puts, Act.put, List.setIfInBounds_toArray, List.set_cons_zero, List.set_cons_succ, Nat.zero_add, Nat.reduceAdd, e9]
            refine hK0 _ _ ?_
            clear hK0 e9 ecb
            cases cb
            · have hSL : S ≤ 4611686018427387904 := by
                have := HCB.out
                by_cases h : S ≤ 4611686018427387904
                · exact h
                · exact absurd (this.2 (by omega)) (by decide)
              have e1 : allE xs j = 0 := by unfold allE; rw [ES.out, if_pos hSL]
              have E1 := Lib.hid e1
              clear e1 HCB CB LN P62
              have hr := HX.out.below hB
              have HR := Lib.hid hr
              have hlt7 := t7.lt
              have hsz := hB.size
              clear hr
              go_wp2_with fail
              go_loopg [8, 9] j (fun gk s8 s9 wr => RSplRel w b7 n1 n2 n3 n4 t S xs j gk s8 s9 wr)
              case atStart => exact ⟨0, none, 0, by omega, by omega, rfl, rfl, OwnI.nil _ _, hB, t7, I7⟩
              case round =>
                clear hB t7 I7 hlt7 hsz
                obtain ⟨i, aj, cj, hi1, rfl, rfl, rfl, ho, hB, t7, I7⟩ := hrel
                have hsz := hB.size
                have hsh := ho.shape
                have q1 := t7.cell 1 _ rfl
                by_cases hij : i < j
                · have ixi : (i : Int) < (j : Int) := by omega
                  by_cases hS00 : S = 0
                  · have hn3 := I7.zero_iff.2 hS00
                    subst hn3
                    have HS00 := Lib.hid hS00
                    clear hS00
                    go_wp2_with (at_builtin; refine wpList_append_own _ rfl _ _ 31 rfl w.heap.size 2 i0 (.int .i64 0) 1 8 Try.underlying31 hi hz0 hz1 hz2 rfl (by decide) _ _ _ rfl (ho.1.alloc _) ⟨wr.heap.size, 0, none⟩ 1 1 (i64s [0]) rfl rfl (cell_one_new _ _ _) (i64s_one _) (by unfold maxLen; omega) (by omega) (by simp; omega) ?_)
                    intro v' w2 hown' hgrow _
                    obtain ⟨a1, c1, rfl, ho2, hbe, hke, hbl, _⟩ := (ho.alloc _).app (ys := [0]) hown' hgrow rfl (by simp; omega)
                    have hb0 : Below w.heap.size w (wr.alloc (.cells #[.int .i64 0] 2)) := hB.alloc hsz _
                    have hke0 : Keeps wr (wr.alloc (.cells #[.int .i64 0] 2)) := (Keeps.refl _).alloc _
                    replace hB := hbe _ _ (Nat.le_refl _) hb0
                    replace t7 := hbl _ _ _ (t7.alloc _) (by decide)
                    replace I7 := (I7.keeps hke0).keeps hke
                    clear hown' hgrow hbe hbl hke
                    go_wp2_with fail
                    go_roundg (j - (i + 1))
                    case measure => omega
                    case rel =>
                      have e2 : shareAt t S xs i = 0 := by rw [HS00.out]; unfold shareAt; simp
                      exact ⟨i + 1, a1, c1, by omega, rfl, rfl, by go_num, by rw [partsN_succ, e2]; exact ho2, hB, t7, I7⟩
                  · have hn3 : ¬ n3 = 0 := fun h => hS00 (I7.zero_iff.1 h)
                    have hn3b : ((n3 : Int) == 0) = false := by simp; exact hn3
                    have hSp : 0 < S := by omega
                    have p1 := pre_nonneg HN.out (i + 1)
                    have p0 := pre_nonneg HN.out i
                    have m1 : pre xs (i + 1) ≤ S := by rw [← ES.out]; exact pre_mono HN.out (by omega)
                    have m0 : pre xs i ≤ S := by rw [← ES.out]; exact pre_mono HN.out (by omega)
                    have l1 := bound_len p1 m1 HL.out
                    have l0 := bound_len p0 m0 HL.out
                    have SM1 := fun W hx' => ref5_sum ao j cap (i + 1) xs hk3 (by omega) HF.out W hx'
                    have SM0 := fun W hx' => ref5_sum ao j cap i xs hk3 (by omega) HF.out W hx'
                    have z1 := pre_sz HF.out (show i + 1 ≤ 1024 by omega)
                    have z0 := pre_sz HF.out (show i ≤ 1024 by omega)
                    have es : shareAt t S xs i = t * pre xs (i + 1) / S - t * pre xs i / S := rfl
                    obtain ⟨P1, eP1⟩ : ∃ x, pre xs (i + 1) = x := ⟨_, rfl⟩
                    obtain ⟨P0, eP0⟩ : ∃ x, pre xs i = x := ⟨_, rfl⟩
                    rw [eP1] at SM1 z1 l1 es
                    rw [eP0] at SM0 z0 l0 es
                    have BD1 := fun na nb xa xb ka kb ca cb W ha hb => ref5_bound t P1 S na nb xa xb ka kb ca cb (t * P1 / S) ⟨t1, t2⟩ z1 sS hS00 (fq_div (by omega)) l1.fit W ha hb
                    have BD0 := fun na nb xa xb ka kb ca cb W ha hb => ref5_bound t P0 S na nb xa xb ka kb ca cb (t * P0 / S) ⟨t1, t2⟩ z0 sS hS00 (fq_div (by omega)) l0.fit W ha hb
                    obtain ⟨F1, eF1⟩ : ∃ x, t * P1 / S = x := ⟨_, rfl⟩
                    obtain ⟨F0, eF0⟩ : ∃ x, t * P0 / S = x := ⟨_, rfl⟩
                    rw [eF1] at BD1 l1 es
                    rw [eF0] at BD0 l0 es
                    obtain ⟨d, ed⟩ : ∃ x, F1 - F0 = x := ⟨_, rfl⟩
                    rw [ed] at es
                    have wr2 : IntKind.i64.wrap (F1 - F0) = d := by unfold LenB at l1 l0; simp [IntKind.wrap, IntKind.bits, IntKind.signed]; omega
                    obtain ⟨i1, ei1⟩ : ∃ x, i + 1 = x := ⟨_, rfl⟩
                    have wr1 : IntKind.i64.wrap ((i : Int) + 1) = (i1 : Int) := by simp [IntKind.wrap, IntKind.bits, IntKind.signed]; omega
                    rw [ei1] at SM1
                    have hgl : ∀ g, (Value.slice aj i cj).ownBlock = some g → g < wr.heap.size := fun g h => (ho.ge h).2
                    have EI1 := Lib.hid ei1
                    have ESH := Lib.hid es
                    have HGL := Lib.hid hgl
                    clear eP1 eP0 eF1 eF0 ed es ei1 m1 m0 p1 p0 hgl l1 l0 z1 z0
                    go_wp2_with fail
                    go_upto_region 17 with (fail)
                    rename_i K1 hK1
                    refine wp_region_calm (fun w' => Below w.heap.size w w' ∧ Blk w' b7 #[.bool n1, .slice n2 n3 n4] 128 ∧ IsBig w' n1 n2 n3 n4 S ∧ wr.heap.size ≤ w'.heap.size) [16] (fun w' => OwnI w' w.heap.size aj i cj (partsN t S xs i)) [Is (.slice aj i cj), Is (.int .i64 t), Is (.slice ao j cap), Is (.int .i64 ((i : Int))), Is (.int .i64 ((i1 : Int))), bigC P1, bigC S, Is (.int .i64 F1), Is (.int .i64 t), Is (.slice ao j cap), Is (.int .i64 ((i : Int))), bigC P0, bigC S, Is (.int .i64 F0), Is (.int .i64 d), sliC wr.heap.size d, ownC w.heap.size (i + 1) (partsN t S xs i ++ [d]), ownC w.heap.size (i + 1) (partsN t S xs i ++ [d])] [] (by kernel_rfl) (by kernel_rfl) (by kernel_rfl) (by kernel_rfl) ⟨hB.drew, t7, I7.drewd, Nat.le_refl _⟩ ho.drew ?_ ?_ ?_ ?_ ?_
                    · rintro W W' ⟨hBB, t7, I7, hl⟩ hb
                      exact ⟨hBB.trans (hb.mono hBB.size), t7.below hb, I7.keep hb, Nat.le_trans hl hb.size⟩
                    · intro W W' hB h0 hb; exact h0.below hb
                    · intro k vs W hk h
                      exact absurd hk (by simp)
                    · intro Q; clear hK1 hB t7 I7 ho q1
                      refine ⟨?_, ?_, ?_, ?_, ?_, ?_, ?_, ?_, ?_, ?_, ?_, ?_, ?_, ?_, ?_, ?_, ?_, ?_, trivial⟩
                      · intro vs W hW hW0 hd hne hold K hK hA hL; clear hne hA hL; have hBB := hW.1; have t7 := hW.2.1; have I7 := hW.2.2.1; have hl := hW.2.2.2; simp only [puts, Act.put, List.setIfInBounds_toArray, List.set_cons_zero, List.set_cons_succ, Nat.zero_add, Nat.reduceAdd] at hK ⊢; have e17 : vs 17 = _ := hold 17 (by kernel_rfl); clear hd hold; simp only [e17] at hK; go_simp; exact hK.out rfl _ _ (Below.refl _ _) rfl
                      · intro vs W hW hW0 hd hne hold K hK hA hL; clear hne hA hL; have hBB := hW.1; have t7 := hW.2.1; have I7 := hW.2.2.1; have hl := hW.2.2.2; simp only [puts, Act.put, List.setIfInBounds_toArray, List.set_cons_zero, List.set_cons_succ, Nat.zero_add, Nat.reduceAdd] at hK ⊢; clear hd hold; go_simp; exact hK.out rfl _ _ (Below.refl _ _) rfl
                      · intro vs W hW hW0 hd hne hold K hK hA hL; clear hne hA hL; have hBB := hW.1; have t7 := hW.2.1; have I7 := hW.2.2.1; have hl := hW.2.2.2; simp only [puts, Act.put, List.setIfInBounds_toArray, List.set_cons_zero, List.set_cons_succ, Nat.zero_add, Nat.reduceAdd] at hK ⊢; clear hd hold; go_simp; exact hK.out rfl _ _ (Below.refl _ _) rfl
                      · intro vs W hW hW0 hd hne hold K hK hA hL; clear hne hA hL; have hBB := hW.1; have t7 := hW.2.1; have I7 := hW.2.2.1; have hl := hW.2.2.2; simp only [puts, Act.put, List.setIfInBounds_toArray, List.set_cons_zero, List.set_cons_succ, Nat.zero_add, Nat.reduceAdd] at hK ⊢; clear hd hold; go_simp; exact hK.out rfl _ _ (Below.refl _ _) rfl
                      · intro vs W hW hW0 hd hne hold K hK hA hL; clear hne hA hL; have hBB := hW.1; have t7 := hW.2.1; have I7 := hW.2.2.1; have hl := hW.2.2.2; simp only [puts, Act.put, List.setIfInBounds_toArray, List.set_cons_zero, List.set_cons_succ, Nat.zero_add, Nat.reduceAdd] at hK ⊢; have e3 : vs 3 = _ := hd 3 (by kernel_rfl); clear hd hold; simp only [e3] at hK; go_simp; exact hK.out rfl _ _ (Below.refl _ _) rfl
                      · intro vs W hW hW0 hd hne hold K hK hA hL; clear hne hA hL; have hBB := hW.1; have t7 := hW.2.1; have I7 := hW.2.2.1; have hl := hW.2.2.2; simp only [puts, Act.put, List.setIfInBounds_toArray, List.set_cons_zero, List.set_cons_succ, Nat.zero_add, Nat.reduceAdd] at hK ⊢; have ea : vs 2 = _ := hd 2 (by kernel_rfl); have eb : vs 4 = _ := hd 4 (by kernel_rfl); have hx' := HX.out.below hBB; clear hd hold; simp only [ea, eb] at hK; go_simp; refine (SM1 _ hx').mono ?_; (rintro e wx ⟨f1, f2, f3, f4, rfl, If, hbx⟩); go_simp; exact hK.out rfl _ _ hbx ⟨f1, f2, f3, f4, rfl, If⟩
                      · intro vs W hW hW0 hd hne hold K hK hA hL; clear hne hA hL; have hBB := hW.1; have t7 := hW.2.1; have I7 := hW.2.2.1; have hl := hW.2.2.2; simp only [puts, Act.put, List.setIfInBounds_toArray, List.set_cons_zero, List.set_cons_succ, Nat.zero_add, Nat.reduceAdd] at hK ⊢; have q1 := t7.cell 0 _ rfl; have q2 := t7.cell 1 _ rfl; clear hd hold; go_simp; exact hK.out rfl _ _ (Below.refl _ _) ⟨n1, n2, n3, n4, rfl, I7⟩
                      · intro vs W hW hW0 hd hne hold K hK hA hL; clear hne hA hL; have hBB := hW.1; have t7 := hW.2.1; have I7 := hW.2.2.1; have hl := hW.2.2.2; simp only [puts, Act.put, List.setIfInBounds_toArray, List.set_cons_zero, List.set_cons_succ, Nat.zero_add, Nat.reduceAdd] at hK ⊢; have ea : vs 1 = _ := hd 1 (by kernel_rfl); (have hxb : BigV P1 (vs 5) W := hd 5 (by kernel_rfl)); obtain ⟨b1, b2, b3, b4, eb, Ib⟩ := hxb; (have hxc : BigV S (vs 6) W := hd 6 (by kernel_rfl)); obtain ⟨c1, c2, c3, c4, ec, Ic⟩ := hxc; clear hd hold; simp only [ea, eb, ec] at hK; go_simp; refine (BD1 b1 c1 b2 c2 b3 c3 b4 c4 _ Ib Ic).mono ?_; (rintro e wx ⟨rfl, hbx⟩); go_simp; exact hK.out rfl _ _ hbx rfl
                      · intro vs W hW hW0 hd hne hold K hK hA hL; clear hne hA hL; have hBB := hW.1; have t7 := hW.2.1; have I7 := hW.2.2.1; have hl := hW.2.2.2; simp only [puts, Act.put, List.setIfInBounds_toArray, List.set_cons_zero, List.set_cons_succ, Nat.zero_add, Nat.reduceAdd] at hK ⊢; clear hd hold; go_simp; exact hK.out rfl _ _ (Below.refl _ _) rfl
                      · intro vs W hW hW0 hd hne hold K hK hA hL; clear hne hA hL; have hBB := hW.1; have t7 := hW.2.1; have I7 := hW.2.2.1; have hl := hW.2.2.2; simp only [puts, Act.put, List.setIfInBounds_toArray, List.set_cons_zero, List.set_cons_succ, Nat.zero_add, Nat.reduceAdd] at hK ⊢; clear hd hold; go_simp; exact hK.out rfl _ _ (Below.refl _ _) rfl
                      · intro vs W hW hW0 hd hne hold K hK hA hL; clear hne hA hL; have hBB := hW.1; have t7 := hW.2.1; have I7 := hW.2.2.1; have hl := hW.2.2.2; simp only [puts, Act.put, List.setIfInBounds_toArray, List.set_cons_zero, List.set_cons_succ, Nat.zero_add, Nat.reduceAdd] at hK ⊢; clear hd hold; go_simp; exact hK.out rfl _ _ (Below.refl _ _) rfl
                      · intro vs W hW hW0 hd hne hold K hK hA hL; clear hne hA hL; have hBB := hW.1; have t7 := hW.2.1; have I7 := hW.2.2.1; have hl := hW.2.2.2; simp only [puts, Act.put, List.setIfInBounds_toArray, List.set_cons_zero, List.set_cons_succ, Nat.zero_add, Nat.reduceAdd] at hK ⊢; have ea : vs 9 = _ := hd 9 (by kernel_rfl); have eb : vs 10 = _ := hd 10 (by kernel_rfl); have hx' := HX.out.below hBB; clear hd hold; simp only [ea, eb] at hK; go_simp; refine (SM0 _ hx').mono ?_; (rintro e wx ⟨f1, f2, f3, f4, rfl, If, hbx⟩); go_simp; exact hK.out rfl _ _ hbx ⟨f1, f2, f3, f4, rfl, If⟩
                      · intro vs W hW hW0 hd hne hold K hK hA hL; clear hne hA hL; have hBB := hW.1; have t7 := hW.2.1; have I7 := hW.2.2.1; have hl := hW.2.2.2; simp only [puts, Act.put, List.setIfInBounds_toArray, List.set_cons_zero, List.set_cons_succ, Nat.zero_add, Nat.reduceAdd] at hK ⊢; have q1 := t7.cell 0 _ rfl; have q2 := t7.cell 1 _ rfl; clear hd hold; go_simp; exact hK.out rfl _ _ (Below.refl _ _) ⟨n1, n2, n3, n4, rfl, I7⟩
                      · intro vs W hW hW0 hd hne hold K hK hA hL; clear hne hA hL; have hBB := hW.1; have t7 := hW.2.1; have I7 := hW.2.2.1; have hl := hW.2.2.2; simp only [puts, Act.put, List.setIfInBounds_toArray, List.set_cons_zero, List.set_cons_succ, Nat.zero_add, Nat.reduceAdd] at hK ⊢; have ea : vs 8 = _ := hd 8 (by kernel_rfl); (have hxb : BigV P0 (vs 11) W := hd 11 (by kernel_rfl)); obtain ⟨b1, b2, b3, b4, eb, Ib⟩ := hxb; (have hxc : BigV S (vs 12) W := hd 12 (by kernel_rfl)); obtain ⟨c1, c2, c3, c4, ec, Ic⟩ := hxc; clear hd hold; simp only [ea, eb, ec] at hK; go_simp; refine (BD0 b1 c1 b2 c2 b3 c3 b4 c4 _ Ib Ic).mono ?_; (rintro e wx ⟨rfl, hbx⟩); go_simp; exact hK.out rfl _ _ hbx rfl
                      · intro vs W hW hW0 hd hne hold K hK hA hL; clear hne hA hL; have hBB := hW.1; have t7 := hW.2.1; have I7 := hW.2.2.1; have hl := hW.2.2.2; simp only [puts, Act.put, List.setIfInBounds_toArray, List.set_cons_zero, List.set_cons_succ, Nat.zero_add, Nat.reduceAdd] at hK ⊢; have e7 : vs 7 = _ := hd 7 (by kernel_rfl); have e13 : vs 13 = _ := hd 13 (by kernel_rfl); clear hd hold; simp only [e7, e13] at hK; go_simp; exact hK.out rfl _ _ (Below.refl _ _) rfl
                      · intro vs W hW hW0 hd hne hold K hK hA hL; clear hne hA hL; have hBB := hW.1; have t7 := hW.2.1; have I7 := hW.2.2.1; have hl := hW.2.2.2; simp only [puts, Act.put, List.setIfInBounds_toArray, List.set_cons_zero, List.set_cons_succ, Nat.zero_add, Nat.reduceAdd] at hK ⊢; have eb : vs 14 = _ := hd 14 (by kernel_rfl); clear hd hold; simp only [eb] at hK; go_simp; exact hK.out rfl _ _ ((Below.refl _ _).alloc (Nat.le_refl _) _) ⟨W.heap.size, rfl, hl, Blk.new _ _ _ _ rfl⟩
                      · intro vs W hW hW0 hd hne hold K hK hA hL; clear hK hA; have hBB := hW.1; have t7 := hW.2.1; have I7 := hW.2.2.1; have hl := hW.2.2.2; simp only [puts, Act.put, List.setIfInBounds_toArray, List.set_cons_zero, List.set_cons_succ, Nat.zero_add, Nat.reduceAdd] at hL ⊢; have ho := hW0 (by kernel_rfl); have ea : vs 0 = _ := hd 0 (by kernel_rfl); have h15 : SliV wr.heap.size d (vs 15) W := hd 15 (by kernel_rfl); obtain ⟨b, eb, hlb, tb⟩ := h15; clear hd hold; simp only [ea, eb] at hL ⊢; rw [if_pos (show Region.wanted _ _ = true from rfl)]; refine wp_append_own W (.tmp 51) (.tmp 66) 31 rfl w.heap.size 2 i0 (.int .i64 0) 1 8 Try.underlying31 hi hz0 hz1 hz2 rfl (by decide) _ _ _ rfl ho.1 ⟨b, 0, none⟩ 1 1 (i64s [d]) rfl rfl (World.news_of_block tb) (i64s_one _) (by unfold maxLen; omega) (by omega) (by have := hBB.size; omega) ?_; intro v' w1 ho1 hg1 _; obtain ⟨a1, c1, rfl, ho2, hbe, hke, hbl, hb2⟩ := ho.app (ys := [d]) ho1 hg1 rfl (by have := hBB.size; omega); simp only [Act.put, List.setIfInBounds_toArray, List.set_cons_zero, List.set_cons_succ, Nat.zero_add, Nat.reduceAdd]; refine hL.out rfl _ _ ⟨hbe _ _ (Nat.le_refl _) hBB, hbl _ _ _ t7 (by decide), I7.keeps hke, Nat.le_trans hl hg1.size⟩ (fun h => absurd h (by decide)) ⟨a1, c1, rfl, ho2⟩ ?_; exact claims_keep_a ⟨.inr (.inr is_keep), .inr (.inr is_keep), .inr (.inr is_keep), .inr (.inr is_keep), .inr (.inr is_keep), .inr (.inr fun h => BigV.keeps h hke), .inr (.inr fun h => BigV.keeps h hke), .inr (.inr is_keep), .inr (.inr is_keep), .inr (.inr is_keep), .inr (.inr is_keep), .inr (.inr fun h => BigV.keeps h hke), .inr (.inr fun h => BigV.keeps h hke), .inr (.inr is_keep), .inr (.inr is_keep), .inr (.inr fun h => SliV.app h hb2 HGL.out), .inl rfl, .inr (.inl (by kernel_rfl)), trivial⟩
                      · intro vs W hW hW0 hd hne hold K hK hA hL; clear hne hA hL; have hBB := hW.1; have t7 := hW.2.1; have I7 := hW.2.2.1; have hl := hW.2.2.2; simp only [puts, Act.put, List.setIfInBounds_toArray, List.set_cons_zero, List.set_cons_succ, Nat.zero_add, Nat.reduceAdd] at hK ⊢; have h16 : OwnV w.heap.size (i + 1) (partsN t S xs i ++ [d]) (vs 16) W := hd 16 (by kernel_rfl); obtain ⟨a1, c1, e1, ho⟩ := h16; clear hd hold; simp only [e1] at hK; go_simp; exact hK.out rfl _ _ (Below.refl _ _) ⟨a1, c1, rfl, ho⟩
                    · intro va WB hW hV _
                      clear hB t7 I7 ho q1
                      obtain ⟨hB, t7, I7, _⟩ := hW
                      have h17 : OwnV w.heap.size (i + 1) (partsN t S xs i ++ [d]) (va 17) WB := hV 17 (by decide)
                      obtain ⟨a1, c1, e17, ho⟩ := h17
                      clear hV
                      simp only [puts, Act.put, List.setIfInBounds_toArray, List.set_cons_zero, List.set_cons_succ, Nat.zero_add, Nat.reduceAdd, e17]
                      refine hK1 _ _ ?_
                      clear hK1 e17
                      go_wp2_with fail
                      go_roundg (j - (i + 1))
                      case measure => omega
                      case rel => exact ⟨i + 1, a1, c1, by omega, rfl, rfl, by rw [EI1.out], by rw [partsN_succ, ESH.out]; exact ho, hB, t7, I7⟩
                · obtain rfl : i = j := by omega
                  have ixi : ¬ (i : Int) < (i : Int) := by omega
                  go_wp2_with fail
                  rw [EQ.out]
                  unfold SplitAns
                  rw [HE.out, EC.out, E1.out, ES.out]
                  exact ⟨aj, i, cj, _, rfl, ho.row, hsh.1, ⟨hsh.2, ho.from⟩, (fun _ => ⟨rfl, rfl⟩), (fun h => absurd rfl h), hB⟩
            · have e1 : allE xs j = 2 := by unfold allE; have := HCB.out.1 rfl; rw [ES.out, if_neg (by omega)]
              have E1 := Lib.hid e1
              clear e1
              go_wp2_with fail
              rw [EQ.out]
              unfold SplitAns
              rw [HE.out, EC.out, E1.out]
              exact ⟨none, 0, 0, [], rfl, RowI.nil _ _, Nat.le_refl _, ⟨by unfold maxLen; omega, fun _ _ e => by cases e⟩, (fun h => absurd h (by decide)), (fun _ => ⟨rfl, rfl⟩), hB⟩
end Go.Proofs.Ythofammjbicogaa
