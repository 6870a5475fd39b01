/-
  The reference of layer 5: Sum and Bound.
-/
import Derived.Test.YthffphcgkmjhbaaShB
import Derived.Test.YthffphcgkmjhbaaBigO
namespace Go.Proofs.Ythffphcgkmjhbaa
open Go.RowKit
set_option linter.unusedSimpArgs false
set_option linter.unusedVariables false

theorem pre_abs {xs : List Int} (h : Fits xs) : ∀ j, (pre xs j).natAbs ≤ j * 9223372036854775808
  | 0 => by simp [pre]
  | j + 1 => by
    have h1 := pre_abs h j
    have h2 := h j
    have h3 : pre xs (j + 1) = pre xs j + xs.getD j 0 := rfl
    rw [h3]
    omega
theorem pre_sz {xs : List Int} (h : Fits xs) {j : Nat} (hj : j ≤ 1024) : BM.Sz (pre xs j) 5 := by
  have := pre_abs h j
  have e : (65536 : Nat) ^ 5 = 1208925819614629174706176 := by decide
  unfold BM.Sz
  rw [e]
  have h2 : j * 9223372036854775808 ≤ 1024 * 9223372036854775808 := Nat.mul_le_mul_right _ hj
  omega
theorem IsBig.zero_iff {w : World} {neg : Bool} {ao : Option Addr} {k cap : Nat} {n : Int} (h : IsBig w neg ao k cap n) : k = 0 ↔ n = 0 := by
  constructor
  · rintro rfl
    have := h.sz
    unfold BM.Sz at this
    simp at this
    omega
  · rintro rfl
    have := h.le (K := 0) (by unfold BM.Sz; simp)
    omega
def heldZ (b : Nat) (n : Int) : Cl := .own (fun _ w => ∃ neg ao k cap, Blk w b #[.bool neg, .slice ao k cap] 29 ∧ IsBig w neg ao k cap n) (fun _ _ _ h hb => by
  obtain ⟨a, b, c, d, t, i⟩ := h; exact ⟨a, b, c, d, t.below hb, i.keep hb⟩)
def SumRel (w : World) (b5 : Nat) (k : Nat) (xs : List Int) (gk : Nat) (s6 : Value) (wr : World) : Prop :=
  ∃ (j : Nat) (neg : Bool) (ao : Option Addr) (kk cap : Nat), j ≤ k ∧ gk = k - j ∧ s6 = .int .i64 ((j : Int)) ∧ Blk wr w.heap.size #[.bool false, .slice none 0 0] 29 ∧ Blk wr b5 #[.bool neg, .slice ao kk cap] 29 ∧ IsBig wr neg ao kk cap (pre xs j) ∧ Below w.heap.size w wr
set_option maxRecDepth 100000 in
set_option maxHeartbeats 3200000 in
theorem ref5_sum (ao : Option Addr) (k cap n : Nat) (xs : List Int) (hk : k ≤ 1024) (hnk : n ≤ k) (hf : Fits xs) (w : World) (hx : RowI w ao k xs) :
    Calls Try.prog 127 #[.slice ao k cap, .int .i64 ((n : Int))] w (BigRet (pre xs n) w) := by
  have HX := Lib.hid hx
  have HF := Lib.hid hf
  clear hx hf
  have t4 := Blk.new w #[.bool false, .slice none 0 0] 29 _ rfl
  have hB : Below w.heap.size w (w.alloc (.cells #[.bool false, .slice none 0 0] 29)) := (by repeat' (first | (with_reducible exact Below.refl _ _) | (with_reducible assumption) | (with_reducible refine below_alloc ?_ _ ?_) | (with_reducible refine below_set _ ?_ ?_) | (with_reducible refine Below.drew ?_) | (with_reducible refine below_dN ?_ _) | (apply below_thenA; assumption) | omega | (simp; done) | (simp; omega) | (simp [*]; done)))
  have hsz1 : (w.alloc (.cells #[.bool false, .slice none 0 0] 29)).heap.size = w.heap.size + 1 := by simp
  go_enter Try.func127, Try.ntmps127
  go_wp2_with fail
  refine (big_ofu 0 (by omega) _).mono ?_
  rintro e w1 ⟨a1, a2, a3, a4, rfl, I1, hb1⟩
  have hb5 : w.heap.size < w1.heap.size := by have := hb1.size; omega
  have t := Blk.new w1 #[.bool a1, .slice a2 a3 a4] 29 _ rfl
  replace I1 := I1.keep (w' := w1.alloc (.cells #[.bool a1, .slice a2 a3 a4] 29)) (by repeat' (first | (with_reducible exact Below.refl _ _) | (with_reducible assumption) | (with_reducible refine below_alloc ?_ _ ?_) | (with_reducible refine below_set _ ?_ ?_) | (with_reducible refine Below.drew ?_) | (with_reducible refine below_dN ?_ _) | (apply below_thenA; assumption) | omega | (simp; done) | (simp; omega) | (simp [*]; done)))
  replace t4 := (t4.below hb1).alloc (.cells #[.bool a1, .slice a2 a3 a4] 29)
  replace hB := (hB.trans (hb1.mono hB.size)).alloc (by omega) (.cells #[.bool a1, .slice a2 a3 a4] 29)
  have HB := Lib.hid hB
  have HT := Lib.hid t
  have HT4 := Lib.hid t4
  have HI := Lib.hid I1
  clear hB t I1 hb1 t4 hsz1
  go_wp2_with fail
  go_loopg [6] n (fun gk s6 wr => SumRel w w1.heap.size n xs gk s6 wr)
  case atStart => exact ⟨0, a1, a2, a3, a4, by omega, by omega, rfl, HT4.out, HT.out, HI.out, HB.out⟩
  case round =>
    clear HB HT HT4 HI
    obtain ⟨j, neg, aj, kk, cp, hj, rfl, rfl, t4, t, I, hB⟩ := hrel
    have hsj := pre_sz HF.out (show j ≤ 1024 by omega)
    have hkk := I.le hsj
    by_cases hjn : j < n
    · have ix : (j : Int) < (n : Int) := by omega
      have ik : (j : Int) < (k : Int) := by omega
      obtain ⟨g, off, rfl, hg, hcx⟩ := HX.out.at (show j < k by omega)
      obtain ⟨x, ex⟩ : ∃ x, xs.getD j 0 = x := ⟨_, rfl⟩
      have hfx := HF.out j
      have ep : pre xs (j + 1) = pre xs j + x := by rw [← ex]; rfl
      have hsj2 := pre_sz HF.out (show j + 1 ≤ 1024 by omega)
      rw [ep] at hsj2
      rw [ex] at hcx hfx
      obtain ⟨s, es⟩ : ∃ s, pre xs j = s := ⟨_, rfl⟩
      rw [es] at I hsj ep hsj2
      have sx := BM.Sz.i64 hfx.1 hfx.2
      obtain ⟨x1, x2⟩ := hfx
      have HC := Lib.hid hcx
      have HG := Lib.hid hg
      have EP := Lib.hid ep
      clear hcx hg ep es ex
      have hlt := t.lt
      go_upto_region 5 with (fail)
      rename_i K0 hK0
      refine wp_region_calm (fun w' => Below w.heap.size w w' ∧ Blk w' w.heap.size #[.bool false, .slice none 0 0] 29) [7] (fun w' => Blk w' w1.heap.size #[.bool neg, .slice aj kk cp] 29 ∧ IsBig w' neg aj kk cp s) [bigC s, Is (.slice (some ⟨g, off, none⟩) k cap), Is (.int .i64 ((j : Int))), Is (.pointer (some ⟨g, off + j, none⟩)), Is (.int .i64 x), bigC x, bigC (s + x), heldZ w1.heap.size (s + x)] [] (by kernel_rfl) (by kernel_rfl) (by kernel_rfl) (by kernel_rfl) ⟨hB.drew, t4⟩ ⟨t, I.drewd⟩ ?_ ?_ ?_ ?_ ?_
      · rintro W W' ⟨hB, t4⟩ hb
        exact ⟨hB.trans (hb.mono hB.size), t4.below hb⟩
      · intro W W' hB h0 hb; exact ⟨h0.1.below hb, h0.2.keep hb⟩
      · intro k vs W hk h
        exact absurd hk (by simp)
      · intro Q; clear hK0 hB t4 t I
        refine ⟨?_, ?_, ?_, ?_, ?_, ?_, ?_, ?_, trivial⟩
        · intro vs W hW hW0 hd hne hold K hK hA hL; clear hne hA hL; have hB := hW.1; have t4 := hW.2; simp only [puts, Act.put, List.setIfInBounds_toArray, List.set_cons_zero, List.set_cons_succ, Nat.zero_add, Nat.reduceAdd] at hK ⊢; have h0 := hW0 (by kernel_rfl); have q1 := h0.1.cell 0 _ rfl; have q2 := h0.1.cell 1 _ rfl; clear hd hold; go_simp; exact hK.out rfl _ _ (Below.refl _ _) ⟨neg, aj, kk, cp, rfl, h0.2⟩
        · intro vs W hW hW0 hd hne hold K hK hA hL; clear hne hA hL; have hB := hW.1; have t4 := hW.2; simp only [puts, Act.put, List.setIfInBounds_toArray, List.set_cons_zero, List.set_cons_succ, Nat.zero_add, Nat.reduceAdd] at hK ⊢; clear hd hold; go_simp; exact hK.out rfl _ _ (Below.refl _ _) rfl
        · intro vs W hW hW0 hd hne hold K hK hA hL; clear hne hA hL; have hB := hW.1; have t4 := hW.2; simp only [puts, Act.put, List.setIfInBounds_toArray, List.set_cons_zero, List.set_cons_succ, Nat.zero_add, Nat.reduceAdd] at hK ⊢; clear hd hold; go_simp; exact hK.out rfl _ _ (Below.refl _ _) rfl
        · intro vs W hW hW0 hd hne hold K hK hA hL; clear hne hA hL; have hB := hW.1; have t4 := hW.2; simp only [puts, Act.put, List.setIfInBounds_toArray, List.set_cons_zero, List.set_cons_succ, Nat.zero_add, Nat.reduceAdd] at hK ⊢; have e1 : vs 1 = _ := hd 1 (by kernel_rfl); have e2 : vs 2 = _ := hd 2 (by kernel_rfl); clear hd hold; simp only [e1, e2] at hK; go_simp; exact hK.out rfl _ _ (Below.refl _ _) rfl
        · intro vs W hW hW0 hd hne hold K hK hA hL; clear hne hA hL; have hB := hW.1; have t4 := hW.2; simp only [puts, Act.put, List.setIfInBounds_toArray, List.set_cons_zero, List.set_cons_succ, Nat.zero_add, Nat.reduceAdd] at hK ⊢; have eb : vs 3 = _ := hd 3 (by kernel_rfl); have q1 := (hB.cell (p := ⟨g, off + j, none⟩) HG.out).trans HC.out; clear hd hold; simp only [eb] at hK; go_simp; exact hK.out rfl _ _ (Below.refl _ _) rfl
        · intro vs W hW hW0 hd hne hold K hK hA hL; clear hne hA hL; have hB := hW.1; have t4 := hW.2; simp only [puts, Act.put, List.setIfInBounds_toArray, List.set_cons_zero, List.set_cons_succ, Nat.zero_add, Nat.reduceAdd] at hK ⊢; have eb : vs 4 = _ := hd 4 (by kernel_rfl); clear hd hold; simp only [eb] at hK; go_simp; refine (big_of x x1 x2 _).mono ?_; (rintro e wx ⟨f1, f2, f3, f4, rfl, If, hbx⟩); go_simp; exact hK.out rfl _ _ hbx ⟨f1, f2, f3, f4, rfl, If⟩
        · intro vs W hW hW0 hd hne hold K hK hA hL; clear hne hA hL; have hB := hW.1; have t4 := hW.2; simp only [puts, Act.put, List.setIfInBounds_toArray, List.set_cons_zero, List.set_cons_succ, Nat.zero_add, Nat.reduceAdd] at hK ⊢; (have hxb : BigV s (vs 0) W := hd 0 (by kernel_rfl)); obtain ⟨b1, b2, b3, b4, eb, Ib⟩ := hxb; (have hxc : BigV x (vs 5) W := hd 5 (by kernel_rfl)); obtain ⟨c1, c2, c3, c4, ec, Ic⟩ := hxc; have k2 := Ib.le hsj; have k3 := Ic.le sx; clear hd hold; simp only [eb, ec] at hK; go_simp; refine (big_plus b1 c1 b2 c2 b3 c3 b4 c4 s x _ Ib Ic (by omega) (by omega)).mono ?_; (rintro e wx ⟨f1, f2, f3, f4, rfl, If, hbx⟩); go_simp; exact hK.out rfl _ _ hbx ⟨f1, f2, f3, f4, rfl, If⟩
        · intro vs W hW hW0 hd hne hold K hK hA hL; clear hK hA; have hB := hW.1; have t4 := hW.2; simp only [puts, Act.put, List.setIfInBounds_toArray, List.set_cons_zero, List.set_cons_succ, Nat.zero_add, Nat.reduceAdd] at hL ⊢; have h0 := hW0 (by kernel_rfl); have t0 := h0.1; (have hxc : BigV (s + x) (vs 6) W := hd 6 (by kernel_rfl)); obtain ⟨c1, c2, c3, c4, ec, Ic⟩ := hxc; have q1 := t0.cell 0 _ rfl; have q2 := t0.cell 1 _ rfl; have q3 := t0.free 0; have q4 := t0.free 1; have tb := t0.set2 rfl (.bool c1) (.slice c2 c3 c4); have hbt := But.set2 (b := w1.heap.size) W (.bool c1) (.slice c2 c3 c4); clear hd hold; simp only [ec] at hL; go_simp; refine hL.out rfl undef _ ⟨hbt.to hB (by omega) hB.size, t4.but hbt (by omega)⟩ (fun h => absurd h (by decide)) ⟨c1, c2, c3, c4, tb, IsBig.but Ic hbt t0 (by decide)⟩ ?_; exact claims_keep ⟨.inr fun h => BigV.but h hbt t0 (by decide), .inr is_keep, .inr is_keep, .inr is_keep, .inr is_keep, .inr fun h => BigV.but h hbt t0 (by decide), .inr fun h => BigV.but h hbt t0 (by decide), .inl rfl, trivial⟩
      · intro va WA hW hV _
        clear hB t4 t I
        obtain ⟨hB, t4⟩ := hW
        have h7 : ∃ neg ao k cap, Blk WA w1.heap.size #[.bool neg, .slice ao k cap] 29 ∧ IsBig WA neg ao k cap (s + x) := hV 7 (by decide)
        obtain ⟨n5, x5, k5, c5, t5, I5⟩ := h7
        clear hV
        simp only [puts, Act.put, List.setIfInBounds_toArray, List.set_cons_zero, List.set_cons_succ, Nat.zero_add, Nat.reduceAdd]
        refine hK0 _ _ ?_
        clear hK0
        go_wp2_with fail
        go_roundg (n - (j + 1))
        case measure => omega
        case rel => exact ⟨j + 1, n5, x5, k5, c5, by omega, rfl, by go_num, t4, t5, by rw [EP.out]; exact I5, hB⟩
    · obtain rfl : j = n := by omega
      have ix : ¬ (j : Int) < (j : Int) := by omega
      have q1 := t.cell 0 _ rfl
      have q2 := t.cell 1 _ rfl
      have p1 := t4.cell 0 _ rfl
      have p2 := t4.cell 1 _ rfl
      have p3 := t4.free 0
      have p4 := t4.free 1
      have hlt := t4.lt
      go_wp2_with fail
      (go_light; simp [bodyPost, results, Try.results127, go_sem, *])
      have hbt := But.set2 (b := w.heap.size) wr (.bool neg) (.slice aj kk cp)
      exact ⟨neg, aj, kk, cp, rfl, IsBig.but I hbt t4 (by decide), hbt.to hB (Nat.le_refl _) hB.size⟩
set_option maxRecDepth 100000 in
set_option maxHeartbeats 3200000 in
theorem ref5_bound (t X Y : Int) (na nb : Bool) (xa xb : Option Addr) (ka kb ca cb : Nat) (F : Int) (ht : IFit t) (sX : BM.Sz X 5) (sY : BM.Sz Y 5) (h0 : Y ≠ 0) (eF : fq (t * X) Y = F) (hF : IFit F) (w : World) (ha : IsBig w na xa ka ca X) (hb : IsBig w nb xb kb cb Y) :
    Calls Try.prog 128 #[.int .i64 t, .agg #[.bool na, .slice xa ka ca], .agg #[.bool nb, .slice xb kb cb]] w fun e w' => e = .returned (.int .i64 F) ∧ Below w.heap.size w w' := by
  obtain ⟨t1, t2⟩ := ht
  have st := BM.Sz.i64 t1 t2
  have stx := BM.Sz.mul st sX
  have DN := fun na nb ax bx k m ca cb W (h1 : IsBig W na ax k ca (t * X)) (h2 : IsBig W nb bx m cb Y) hk hm => big_down na nb ax bx k m ca cb (t * X) Y W h1 h2 hk hm h0
  have sF : BM.Sz F 4 := BM.Sz.i64 hF.1 hF.2
  have hi : intV F = F := by unfold intV; rw [show intB F = true by unfold intB; simp; unfold IFit at hF; omega]; rfl
  obtain ⟨R, eR⟩ : ∃ R, fr (t * X) Y = R := ⟨_, rfl⟩
  rw [eF, eR] at DN
  have IT := fun neg ao k cap W h hk => big_int neg ao k cap F W h hk
  rw [hi] at IT
  obtain ⟨ib, eib⟩ : ∃ b, intB F = b := ⟨_, rfl⟩
  rw [eib] at IT
  clear eF eR h0 hF hi eib
  have b4 := (Blk.new w #[.bool na, .slice xa ka ca] 29 _ rfl).alloc (.cells #[.bool nb, .slice xb kb cb] 29)
  have b5 := Blk.new (w.alloc (.cells #[.bool na, .slice xa ka ca] 29)) #[.bool nb, .slice xb kb cb] 29 (w.heap.size + 1) (by simp)
  have hB : Below w.heap.size w ((w.alloc (.cells #[.bool na, .slice xa ka ca] 29)).alloc (.cells #[.bool nb, .slice xb kb cb] 29)) := (by repeat' (first | (with_reducible exact Below.refl _ _) | (with_reducible assumption) | (with_reducible refine below_alloc ?_ _ ?_) | (with_reducible refine below_set _ ?_ ?_) | (with_reducible refine Below.drew ?_) | (with_reducible refine below_dN ?_ _) | (apply below_thenA; assumption) | omega | (simp; done) | (simp; omega) | (simp [*]; done)))
  have hsz : ((w.alloc (.cells #[.bool na, .slice xa ka ca] 29)).alloc (.cells #[.bool nb, .slice xb kb cb] 29)).heap.size = w.heap.size + 2 := by simp
  have i4 := ha.keep hB
  have i5 := hb.keep hB
  have HSZ := Lib.hid hsz
  clear ha hb hsz
  go_enter Try.func128, Try.ntmps128
  go_upto_region 1 with (fail)
  rename_i K0 hK0
  refine wp_region_calm (fun w' => Below w.heap.size w w' ∧ Blk w' w.heap.size #[.bool na, .slice xa ka ca] 29 ∧ Blk w' (w.heap.size + 1) #[.bool nb, .slice xb kb cb] 29 ∧ IsBig w' na xa ka ca X ∧ IsBig w' nb xb kb cb Y ∧ w.heap.size + 2 ≤ w'.heap.size) [] (fun w' => True) [Is (.int .i64 t), bigC t, bigC X, bigC (t * X), bigC Y, big2C F R, big2C F R, bigC F, bigC R, bxV (w.heap.size + 2) 29 2, bxV (w.heap.size + 2) 29 2, boxAt 9 (w.heap.size + 2) F, Cl.any] [9, 10] (by kernel_rfl) (by kernel_rfl) (by kernel_rfl) (by kernel_rfl) ⟨hB.drew, b4, b5, i4.drewd, i5.drewd, Nat.le_of_eq HSZ.out.symm⟩ trivial ?_ ?_ ?_ ?_ ?_
  · rintro W W' ⟨hB, b4, b5, i4, i5, hl⟩ hb
    exact ⟨hB.trans (hb.mono hB.size), b4.below hb, b5.below hb, i4.keep hb, i5.keep hb, Nat.le_trans hl hb.size⟩
  · exact fun _ _ _ _ _ => trivial
  · intro k vs W hk h
    rcases (by simpa using hk : k = 9 ∨ k = 10) with rfl | rfl <;> (obtain ⟨b, cs, e, h1, h2, h3⟩ := h; exact ⟨b, e, h2.lt⟩)
  · intro Q; clear hK0 hB b4 b5 i4 i5 IT
    refine ⟨?_, ?_, ?_, ?_, ?_, ?_, ?_, ?_, ?_, ?_, ?_, ?_, ?_, trivial⟩
    · intro vs W hW hW0 hd hne hold K hK hA hL; clear hne hA hL; have hB := hW.1; have b4 := hW.2.1; have b5 := hW.2.2.1; have i4 := hW.2.2.2.1; have i5 := hW.2.2.2.2.1; have hl := hW.2.2.2.2.2; simp only [puts, Act.put, List.setIfInBounds_toArray, List.set_cons_zero, List.set_cons_succ, Nat.zero_add, Nat.reduceAdd] at hK ⊢; clear hd hold; go_simp; exact hK.out rfl _ _ (Below.refl _ _) rfl
    · intro vs W hW hW0 hd hne hold K hK hA hL; clear hne hA hL; have hB := hW.1; have b4 := hW.2.1; have b5 := hW.2.2.1; have i4 := hW.2.2.2.1; have i5 := hW.2.2.2.2.1; have hl := hW.2.2.2.2.2; simp only [puts, Act.put, List.setIfInBounds_toArray, List.set_cons_zero, List.set_cons_succ, Nat.zero_add, Nat.reduceAdd] at hK ⊢; have eb : vs 0 = _ := hd 0 (by kernel_rfl); clear hd hold; simp only [eb] at hK; go_simp; refine (big_of t t1 t2 _).mono ?_; (rintro e wx ⟨f1, f2, f3, f4, rfl, If, hbx⟩); go_simp; exact hK.out rfl _ _ hbx ⟨f1, f2, f3, f4, rfl, If⟩
    · intro vs W hW hW0 hd hne hold K hK hA hL; clear hne hA hL; have hB := hW.1; have b4 := hW.2.1; have b5 := hW.2.2.1; have i4 := hW.2.2.2.1; have i5 := hW.2.2.2.2.1; have hl := hW.2.2.2.2.2; simp only [puts, Act.put, List.setIfInBounds_toArray, List.set_cons_zero, List.set_cons_succ, Nat.zero_add, Nat.reduceAdd] at hK ⊢; have q1 := b4.cell 0 _ rfl; have q2 := b4.cell 1 _ rfl; clear hd hold; go_simp; exact hK.out rfl _ _ (Below.refl _ _) ⟨na, xa, ka, ca, rfl, i4⟩
    · intro vs W hW hW0 hd hne hold K hK hA hL; clear hne hA hL; have hB := hW.1; have b4 := hW.2.1; have b5 := hW.2.2.1; have i4 := hW.2.2.2.1; have i5 := hW.2.2.2.2.1; have hl := hW.2.2.2.2.2; simp only [puts, Act.put, List.setIfInBounds_toArray, List.set_cons_zero, List.set_cons_succ, Nat.zero_add, Nat.reduceAdd] at hK ⊢; (have hxb : BigV t (vs 1) W := hd 1 (by kernel_rfl)); obtain ⟨b1, b2, b3, b4, eb, Ib⟩ := hxb; (have hxc : BigV X (vs 2) W := hd 2 (by kernel_rfl)); obtain ⟨c1, c2, c3, c4, ec, Ic⟩ := hxc; have z1 := Ib.le st; have z2 := Ic.le sX; clear hd hold; simp only [eb, ec] at hK; go_simp; refine (big_times b1 c1 b2 c2 b3 c3 b4 c4 t X _ Ib Ic (by omega) (by omega)).mono ?_; (rintro e wx ⟨f1, f2, f3, f4, rfl, If, hbx⟩); go_simp; exact hK.out rfl _ _ hbx ⟨f1, f2, f3, f4, rfl, If⟩
    · intro vs W hW hW0 hd hne hold K hK hA hL; clear hne hA hL; have hB := hW.1; have b4 := hW.2.1; have b5 := hW.2.2.1; have i4 := hW.2.2.2.1; have i5 := hW.2.2.2.2.1; have hl := hW.2.2.2.2.2; simp only [puts, Act.put, List.setIfInBounds_toArray, List.set_cons_zero, List.set_cons_succ, Nat.zero_add, Nat.reduceAdd] at hK ⊢; have q1 := b5.cell 0 _ rfl; have q2 := b5.cell 1 _ rfl; clear hd hold; go_simp; exact hK.out rfl _ _ (Below.refl _ _) ⟨nb, xb, kb, cb, rfl, i5⟩
    · intro vs W hW hW0 hd hne hold K hK hA hL; clear hne hA hL; have hB := hW.1; have b4 := hW.2.1; have b5 := hW.2.2.1; have i4 := hW.2.2.2.1; have i5 := hW.2.2.2.2.1; have hl := hW.2.2.2.2.2; simp only [puts, Act.put, List.setIfInBounds_toArray, List.set_cons_zero, List.set_cons_succ, Nat.zero_add, Nat.reduceAdd] at hK ⊢; (have hxb : BigV (t * X) (vs 3) W := hd 3 (by kernel_rfl)); obtain ⟨b1, b2, b3, b4, eb, Ib⟩ := hxb; (have hxc : BigV Y (vs 4) W := hd 4 (by kernel_rfl)); obtain ⟨c1, c2, c3, c4, ec, Ic⟩ := hxc; have z1 := Ib.le stx; have z2 := Ic.le sY; clear hd hold; simp only [eb, ec] at hK; go_simp; refine (DN b1 c1 b2 c2 b3 c3 b4 c4 _ Ib Ic (by omega) (by omega)).mono ?_; (rintro e wx ⟨f1, f2, f3, f4, u1, u2, u3, u4, rfl, If, Ig, hbx⟩); go_simp; exact hK.out rfl _ _ hbx ⟨f1, f2, f3, f4, u1, u2, u3, u4, rfl, If, Ig⟩
    · intro vs W hW hW0 hd hne hold K hK hA hL; clear hne hA hL; have hB := hW.1; have b4 := hW.2.1; have b5 := hW.2.2.1; have i4 := hW.2.2.2.1; have i5 := hW.2.2.2.2.1; have hl := hW.2.2.2.2.2; simp only [puts, Act.put, List.setIfInBounds_toArray, List.set_cons_zero, List.set_cons_succ, Nat.zero_add, Nat.reduceAdd] at hK ⊢; have h1 : Big2V F R (vs 5) W := hd 5 (by kernel_rfl); obtain ⟨f1, f2, f3, f4, u1, u2, u3, u4, e1, If, Ig⟩ := h1; clear hd hold; simp only [e1] at hK; go_simp; exact hK.out rfl _ _ (Below.refl _ _) ⟨f1, f2, f3, f4, u1, u2, u3, u4, rfl, If, Ig⟩
    · intro vs W hW hW0 hd hne hold K hK hA hL; clear hne hA hL; have hB := hW.1; have b4 := hW.2.1; have b5 := hW.2.2.1; have i4 := hW.2.2.2.1; have i5 := hW.2.2.2.2.1; have hl := hW.2.2.2.2.2; simp only [puts, Act.put, List.setIfInBounds_toArray, List.set_cons_zero, List.set_cons_succ, Nat.zero_add, Nat.reduceAdd] at hK ⊢; have h1 : Big2V F R (vs 6) W := hd 6 (by kernel_rfl); obtain ⟨f1, f2, f3, f4, u1, u2, u3, u4, e1, If, Ig⟩ := h1; clear hd hold; simp only [e1] at hK; go_simp; exact hK.out rfl _ _ (Below.refl _ _) ⟨f1, f2, f3, f4, rfl, If⟩
    · intro vs W hW hW0 hd hne hold K hK hA hL; clear hne hA hL; have hB := hW.1; have b4 := hW.2.1; have b5 := hW.2.2.1; have i4 := hW.2.2.2.1; have i5 := hW.2.2.2.2.1; have hl := hW.2.2.2.2.2; simp only [puts, Act.put, List.setIfInBounds_toArray, List.set_cons_zero, List.set_cons_succ, Nat.zero_add, Nat.reduceAdd] at hK ⊢; have h1 : Big2V F R (vs 6) W := hd 6 (by kernel_rfl); obtain ⟨f1, f2, f3, f4, u1, u2, u3, u4, e1, If, Ig⟩ := h1; clear hd hold; simp only [e1] at hK; go_simp; exact hK.out rfl _ _ (Below.refl _ _) ⟨u1, u2, u3, u4, rfl, Ig⟩
    · intro vs W hW hW0 hd hne hold K hK hA hL; clear hne hK hL; have hB := hW.1; have b4 := hW.2.1; have b5 := hW.2.2.1; have i4 := hW.2.2.2.1; have i5 := hW.2.2.2.2.1; have hl := hW.2.2.2.2.2; simp only [puts, Act.put, List.setIfInBounds_toArray, List.set_cons_zero, List.set_cons_succ, Nat.zero_add, Nat.reduceAdd] at hA ⊢; clear hd hold; go_simp; exact hA.out W.heap.size _ ((Below.refl _ _).alloc (Nat.le_refl _) _) (Nat.le_refl _) ⟨W.heap.size, _, rfl, hl, Blk.new _ _ _ _ rfl, rfl⟩
    · intro vs W hW hW0 hd hne hold K hK hA hL; clear hne hK hL; have hB := hW.1; have b4 := hW.2.1; have b5 := hW.2.2.1; have i4 := hW.2.2.2.1; have i5 := hW.2.2.2.2.1; have hl := hW.2.2.2.2.2; simp only [puts, Act.put, List.setIfInBounds_toArray, List.set_cons_zero, List.set_cons_succ, Nat.zero_add, Nat.reduceAdd] at hA ⊢; clear hd hold; go_simp; exact hA.out W.heap.size _ ((Below.refl _ _).alloc (Nat.le_refl _) _) (Nat.le_refl _) ⟨W.heap.size, _, rfl, hl, Blk.new _ _ _ _ rfl, rfl⟩
    · intro vs W hW hW0 hd hne hold K hK hA hL; clear hK hA; have hB := hW.1; have b4 := hW.2.1; have b5 := hW.2.2.1; have i4 := hW.2.2.2.1; have i5 := hW.2.2.2.2.1; have hl := hW.2.2.2.2.2; simp only [puts, Act.put, List.setIfInBounds_toArray, List.set_cons_zero, List.set_cons_succ, Nat.zero_add, Nat.reduceAdd] at hL ⊢; (have hxc : BigV F (vs 7) W := hd 7 (by kernel_rfl)); obtain ⟨c1, c2, c3, c4, ec, Ic⟩ := hxc; (have hxb : BxV ((w.heap.size + 2)) 29 2 (vs 9) W := hd 9 (by kernel_rfl)); obtain ⟨b, cs0, eb, hlb, t0, hsz⟩ := hxb; obtain ⟨z0, q0⟩ := t0.cellx 0 (by omega); have p0 := t0.free 0; obtain ⟨z1, q1⟩ := t0.cellx 1 (by omega); have p1 := t0.free 1; have tb := t0.set2 hsz (.bool c1) (.slice c2 c3 c4); have hbt := But.set2 (b := b) W (.bool c1) (.slice c2 c3 c4); clear hd hold; simp only [ec, eb] at hL; have HSZ := Lib.hid hsz; clear hsz; have HNE := Lib.hid hne; clear hne; go_simp; have hne := HNE.out; have hsz := HSZ.out; refine hL.out rfl undef _ ⟨hbt.to hB (by omega) hB.size, b4.but hbt (by omega), b5.but hbt (by omega), i4.but hbt t0 (by decide), i5.but hbt t0 (by decide), Nat.le_trans hl hbt.size⟩ (fun _ => trivial) ⟨b, c1, c2, c3, c4, eb, hlb, tb, IsBig.but Ic hbt t0 (by decide)⟩ ?_; exact claims_keep ⟨.inr is_keep, .inr fun h => BigV.but h hbt t0 (by decide), .inr fun h => BigV.but h hbt t0 (by decide), .inr fun h => BigV.but h hbt t0 (by decide), .inr fun h => BigV.but h hbt t0 (by decide), .inr fun h => Big2V.but h hbt t0 (by decide), .inr fun h => Big2V.but h hbt t0 (by decide), .inr fun h => BigV.but h hbt t0 (by decide), .inr fun h => BigV.but h hbt t0 (by decide), .inr fun h => BxV.but h hbt t0 tb (by rw [hsz]; rfl), .inr fun h => BxV.but h hbt t0 tb (by rw [hsz]; rfl), .inl rfl, .inr fun _ => trivial, trivial⟩
    · intro vs W hW hW0 hd hne hold K hK hA hL; clear hK hA; have hB := hW.1; have b4 := hW.2.1; have b5 := hW.2.2.1; have i4 := hW.2.2.2.1; have i5 := hW.2.2.2.2.1; have hl := hW.2.2.2.2.2; simp only [puts, Act.put, List.setIfInBounds_toArray, List.set_cons_zero, List.set_cons_succ, Nat.zero_add, Nat.reduceAdd] at hL ⊢; (have hxc : BigV R (vs 8) W := hd 8 (by kernel_rfl)); obtain ⟨c1, c2, c3, c4, ec, Ic⟩ := hxc; (have hxb : BxV ((w.heap.size + 2)) 29 2 (vs 10) W := hd 10 (by kernel_rfl)); obtain ⟨b, cs0, eb, hlb, t0, hsz⟩ := hxb; obtain ⟨z0, q0⟩ := t0.cellx 0 (by omega); have p0 := t0.free 0; obtain ⟨z1, q1⟩ := t0.cellx 1 (by omega); have p1 := t0.free 1; have tb := t0.set2 hsz (.bool c1) (.slice c2 c3 c4); have hbt := But.set2 (b := b) W (.bool c1) (.slice c2 c3 c4); clear hd hold; simp only [ec, eb] at hL; have HSZ := Lib.hid hsz; clear hsz; have HNE := Lib.hid hne; clear hne; go_simp; have hne := HNE.out; have hsz := HSZ.out; have hnb : vs 9 ≠ .pointer (some ⟨b, 0, none⟩) := fun x => hne 10 9 (by decide) (by kernel_rfl) (by rw [eb, x]); refine hL.out rfl undef _ ⟨hbt.to hB (by omega) hB.size, b4.but hbt (by omega), b5.but hbt (by omega), i4.but hbt t0 (by decide), i5.but hbt t0 (by decide), Nat.le_trans hl hbt.size⟩ (fun _ => trivial) trivial ?_; exact claims_keep ⟨.inr is_keep, .inr fun h => BigV.but h hbt t0 (by decide), .inr fun h => BigV.but h hbt t0 (by decide), .inr fun h => BigV.but h hbt t0 (by decide), .inr fun h => BigV.but h hbt t0 (by decide), .inr fun h => Big2V.but h hbt t0 (by decide), .inr fun h => Big2V.but h hbt t0 (by decide), .inr fun h => BigV.but h hbt t0 (by decide), .inr fun h => BigV.but h hbt t0 (by decide), .inr fun h => BxV.but h hbt t0 tb (by rw [hsz]; rfl), .inr fun h => BxV.but h hbt t0 tb (by rw [hsz]; rfl), .inr fun h => BoxBig.but h hbt t0 (by decide) hnb, .inl rfl, trivial⟩
  · intro va WA hW hV _
    clear hB
    obtain ⟨hB, _⟩ := hW
    have h7 : BoxBig (w.heap.size + 2) F (va 9) WA := hV 11 (by decide)
    obtain ⟨b7, n1, n2, n3, n4, e7, _, t7, I7⟩ := h7
    replace t7 : Blk WA b7 #[.bool n1, .slice n2 n3 n4] 29 := t7
    clear hV
    simp only [puts, Act.put, List.setIfInBounds_toArray, List.set_cons_zero, List.set_cons_succ, Nat.zero_add, Nat.reduceAdd, e7]
    refine hK0 _ _ ?_
    clear hK0 e7 DN b4 b5 i4 i5
    have q1 := t7.cell 0 _ rfl
    have q2 := t7.cell 1 _ rfl
    have z1 := I7.le sF
    go_wp2_with fail
    refine (IT n1 n2 n3 n4 _ I7 (by omega)).mono ?_
    rintro e w5 ⟨rfl, hb5⟩
    go_wp2_with fail
    go_ret
    exact ⟨rfl, hB.trans (hb5.mono hB.size)⟩
end Go.Proofs.Ythffphcgkmjhbaa
