/-
  The statement RatioPairs.
-/
import Derived.Test.YthffphcgkmjhbaaRatH
import Derived.Test.YthffphcgkmjhbaaBox
import Derived.Deep.DeepCutAuto
import Derived.Deep.CutRange
namespace Go.Proofs.Ythffphcgkmjhbaa
open Go.RowKit
set_option linter.unusedSimpArgs false
set_option linter.unusedVariables false

theorem ref_low8 (X Y P Q : Int) (na nb : Bool) (xa xb : Option Addr) (ka kb ca cb : Nat) (w : World) (ha : IsBig w na xa ka ca X) (hb : IsBig w nb xb kb cb Y) (hx : X.natAbs < 65536 ^ 9) (hy : Y.natAbs < 65536 ^ 9) (h0 : Y ≠ 0) (eP : numR X Y = P) (eQ : denR X Y = Q) :
    Calls Try.prog 48 #[.agg #[.bool na, .slice xa ka ca], .agg #[.bool nb, .slice xb kb cb]] w (BigRet2 P Q w) := by
  have := ref_lowest na nb xa xb ka kb ca cb 9 X Y w ha hb hx hy (by omega) h0
  subst eP eQ
  rw [ha.sign, hb.sign] at this ⊢
  exact this
theorem cmp3_cmpI (a b : Int) : cmpI a b = cmp3 a b := rfl
/-- What stands before the two products. -/
def CutP (w : World) (b3 b5 : Nat) (N1 D1 N2 D2 : Int) (wx : World) : Prop :=
  Below w.heap.size w wx ∧ Blk wx b3 #[.int .i64 N1, .int .i64 D1] 57 ∧ Blk wx b5 #[.int .i64 N2, .int .i64 D2] 57
theorem CutP.below {w w' w0 : World} {b3 b5 : Nat} {N1 D1 N2 D2 : Int} (h : CutP w0 b3 b5 N1 D1 N2 D2 w) (hb : Below w.heap.size w w') : CutP w0 b3 b5 N1 D1 N2 D2 w' :=
  ⟨h.1.trans (hb.mono h.1.size), h.2.1.below hb, h.2.2.below hb⟩
set_option maxRecDepth 100000 in
set_option maxHeartbeats 6400000 in
theorem law_pairs (A B C D : Int) (hA : IFit A) (hB0 : IFit B) (hC : IFit C) (hD : IFit D) (w : World) :
    Calls Try.prog 23 #[.agg #[.int .i64 A, .int .i64 B, .int .i64 C, .int .i64 D]] w fun e w' => e = .returned (.bool true) ∧ Below w.heap.size w w' := by
  have O1 := rat_of_all A B hA hB0
  have O2 := rat_of_all C D hC hD
  have G1 := rat_good A B hA hB0
  have G2 := rat_good C D hC hD
  have TB := rat_times_bad A B C D hA hB0 hC hD
  have CB := rat_cmp_bad A B C D hA hB0 hC hD
  have z1 := @ofE_zero A B
  have z2 := @ofE_zero C D
  obtain ⟨N1, eN1⟩ : ∃ x, ofN A B = x := ⟨_, rfl⟩
  obtain ⟨D1, eD1⟩ : ∃ x, ofD A B = x := ⟨_, rfl⟩
  obtain ⟨E1, eE1⟩ : ∃ x, ofE A B = x := ⟨_, rfl⟩
  obtain ⟨N2, eN2⟩ : ∃ x, ofN C D = x := ⟨_, rfl⟩
  obtain ⟨D2, eD2⟩ : ∃ x, ofD C D = x := ⟨_, rfl⟩
  obtain ⟨E2, eE2⟩ : ∃ x, ofE C D = x := ⟨_, rfl⟩
  rw [eN1, eD1, eE1] at O1 z1
  rw [eN2, eD2, eE2] at O2 z2
  obtain ⟨g1, eg1⟩ : ∃ x, goodB A B = x := ⟨_, rfl⟩
  obtain ⟨g2, eg2⟩ : ∃ x, goodB C D = x := ⟨_, rfl⟩
  rw [eg1] at G1 TB CB
  rw [eg2] at G2 TB CB
  obtain ⟨bd, ebd⟩ : ∃ x, (!(g1 && g2)) = x := ⟨_, rfl⟩
  have EBD := Lib.hid ebd
  clear ebd
  clear eN1 eD1 eE1 eN2 eD2 eE2 eg1 eg2 hA hB0 hC hD
  have HTB := Lib.hid TB
  have HCB := Lib.hid CB
  have HZ1 := Lib.hid z1
  have HZ2 := Lib.hid z2
  clear TB CB z1 z2
  have tP := Blk.new w #[.int .i64 A, .int .i64 B, .int .i64 C, .int .i64 D] 136 _ rfl
  have hB : Below w.heap.size w (w.alloc (.cells #[.int .i64 A, .int .i64 B, .int .i64 C, .int .i64 D] 136)) := (by repeat' (first | (with_reducible exact Below.refl _ _) | (with_reducible assumption) | (with_reducible refine below_alloc ?_ _ ?_) | (with_reducible refine below_set _ ?_ ?_) | (with_reducible refine Below.drew ?_) | (with_reducible refine below_dN ?_ _) | (apply below_thenA; assumption) | omega | (simp; done) | (simp; omega) | (simp [*]; done)))
  go_enter Try.func23, Try.ntmps23
  go_wp2_with fail
  refine (speaks02 _).mono ?_
  rintro e w1 ⟨rfl, hb1⟩
  replace tP := tP.below hb1
  replace hB := hB.trans (hb1.mono hB.size)
  clear hb1
  have c0 := tP.cell 0 _ rfl
  have c1 := tP.cell 1 _ rfl
  go_wp2_with fail
  refine (O1 _).mono ?_
  rintro e w2 ⟨rfl, hb2⟩
  have t3 := Blk.new w2 #[.int .i64 N1, .int .i64 D1] 57 _ rfl
  replace tP := (tP.below hb2).alloc (.cells #[.int .i64 N1, .int .i64 D1] 57)
  replace hB := (hB.trans (hb2.mono hB.size)).alloc (Nat.le_trans hB.size hb2.size) (.cells #[.int .i64 N1, .int .i64 D1] 57)
  clear hb2 c0 c1
  have c0 := tP.cell 2 _ rfl
  have c1 := tP.cell 3 _ rfl
  go_wp2_with fail
  refine (O2 _).mono ?_
  rintro e w3 ⟨rfl, hb3⟩
  have t5 := Blk.new w3 #[.int .i64 N2, .int .i64 D2] 57 _ rfl
  replace t3 := (t3.below hb3).alloc (.cells #[.int .i64 N2, .int .i64 D2] 57)
  replace tP := (tP.below hb3).alloc (.cells #[.int .i64 N2, .int .i64 D2] 57)
  replace hB := (hB.trans (hb3.mono hB.size)).alloc (Nat.le_trans hB.size hb3.size) (.cells #[.int .i64 N2, .int .i64 D2] 57)
  clear hb3 c0 c1 O1 O2
  obtain ⟨b3, eb3⟩ : ∃ x, w2.heap.size = x := ⟨_, rfl⟩
  obtain ⟨b5, eb5⟩ : ∃ x, w3.heap.size = x := ⟨_, rfl⟩
  rw [eb3] at t3
  rw [eb5] at t5
  obtain ⟨W0, eW0⟩ : ∃ x, w3.alloc (.cells #[.int .i64 N2, .int .i64 D2] 57) = x := ⟨_, rfl⟩
  rw [eW0] at t3 t5 tP hB
  have hl0 := tP.lt
  have hl3 := t3.lt
  have hl5 := t5.lt
  go_upto_region 5 with (fail)
  rename_i K0 hK0
  refine wp_region_calm (fun w' => Below w.heap.size w w' ∧ Blk w' w.heap.size #[.int .i64 A, .int .i64 B, .int .i64 C, .int .i64 D] 136 ∧ Blk w' b3 #[.int .i64 N1, .int .i64 D1] 57 ∧ Blk w' b5 #[.int .i64 N2, .int .i64 D2] 57 ∧ W0.heap.size ≤ w'.heap.size) [] (fun w' => True) [Is (.pointer (some ⟨w.heap.size, 0, none⟩)), Is (.int .i64 A), Is (.pointer (some ⟨w.heap.size, 1, none⟩)), Is (.int .i64 B), Is (.agg #[.int .i64 A, .int .i64 B]), Is (.pointer (some ⟨w.heap.size, 2, none⟩)), Is (.int .i64 C), Is (.pointer (some ⟨w.heap.size, 3, none⟩)), Is (.int .i64 D), Is (.agg #[.int .i64 C, .int .i64 D]), bxV W0.heap.size 57 2, bxV W0.heap.size 57 2, bxC 10 W0.heap.size 57 #[.int .i64 A, .int .i64 B], bxC 11 W0.heap.size 57 #[.int .i64 C, .int .i64 D]] [10, 11] (by kernel_rfl) (by kernel_rfl) (by kernel_rfl) (by kernel_rfl) ⟨hB.drew, tP, t3, t5, Nat.le_refl _⟩ trivial ?_ ?_ ?_ ?_ ?_
  · rintro W W' ⟨hB, tP, t3, t5, hl⟩ hb
    exact ⟨hB.trans (hb.mono hB.size), tP.below hb, t3.below hb, t5.below hb, Nat.le_trans hl hb.size⟩
  · exact fun _ _ _ _ _ => trivial
  · intro k vs W hk h
    rcases (by simpa using hk : k = 10 ∨ k = 11) with rfl | rfl <;> (obtain ⟨b, cs, e, h1, h2, h3⟩ := h; exact ⟨b, e, h2.lt⟩)
  · intro Q; clear hK0 hB tP t3 t5 G1 G2 HTB HCB HZ1 HZ2
    refine ⟨?_, ?_, ?_, ?_, ?_, ?_, ?_, ?_, ?_, ?_, ?_, ?_, ?_, ?_, trivial⟩
    · intro vs W hW hW0 hd hne hold K hK hA hL; clear hne hA hL; have hB := hW.1; have tP := hW.2.1; have t3 := hW.2.2.1; have t5 := hW.2.2.2.1; have hl := hW.2.2.2.2; simp only [puts, Act.put, List.setIfInBounds_toArray, List.set_cons_zero, List.set_cons_succ, Nat.zero_add, Nat.reduceAdd] at hK ⊢; clear hd hold; go_simp; exact hK.out rfl _ _ (Below.refl _ _) rfl
    · intro vs W hW hW0 hd hne hold K hK hA hL; clear hne hA hL; have hB := hW.1; have tP := hW.2.1; have t3 := hW.2.2.1; have t5 := hW.2.2.2.1; have hl := hW.2.2.2.2; simp only [puts, Act.put, List.setIfInBounds_toArray, List.set_cons_zero, List.set_cons_succ, Nat.zero_add, Nat.reduceAdd] at hK ⊢; have eb : vs 0 = _ := hd 0 (by kernel_rfl); have q1 := tP.cell 0 _ rfl; clear hd hold; simp only [eb] at hK; go_simp; exact hK.out rfl _ _ (Below.refl _ _) rfl
    · intro vs W hW hW0 hd hne hold K hK hA hL; clear hne hA hL; have hB := hW.1; have tP := hW.2.1; have t3 := hW.2.2.1; have t5 := hW.2.2.2.1; have hl := hW.2.2.2.2; simp only [puts, Act.put, List.setIfInBounds_toArray, List.set_cons_zero, List.set_cons_succ, Nat.zero_add, Nat.reduceAdd] at hK ⊢; clear hd hold; go_simp; exact hK.out rfl _ _ (Below.refl _ _) rfl
    · intro vs W hW hW0 hd hne hold K hK hA hL; clear hne hA hL; have hB := hW.1; have tP := hW.2.1; have t3 := hW.2.2.1; have t5 := hW.2.2.2.1; have hl := hW.2.2.2.2; simp only [puts, Act.put, List.setIfInBounds_toArray, List.set_cons_zero, List.set_cons_succ, Nat.zero_add, Nat.reduceAdd] at hK ⊢; have eb : vs 2 = _ := hd 2 (by kernel_rfl); have q1 := tP.cell 1 _ rfl; clear hd hold; simp only [eb] at hK; go_simp; exact hK.out rfl _ _ (Below.refl _ _) rfl
    · intro vs W hW hW0 hd hne hold K hK hA hL; clear hne hA hL; have hB := hW.1; have tP := hW.2.1; have t3 := hW.2.2.1; have t5 := hW.2.2.2.1; have hl := hW.2.2.2.2; simp only [puts, Act.put, List.setIfInBounds_toArray, List.set_cons_zero, List.set_cons_succ, Nat.zero_add, Nat.reduceAdd] at hK ⊢; have e1 : vs 1 = _ := hd 1 (by kernel_rfl); have e3 : vs 3 = _ := hd 3 (by kernel_rfl); clear hd hold; simp only [e1, e3] at hK; go_simp; exact hK.out rfl _ _ (Below.refl _ _) rfl
    · intro vs W hW hW0 hd hne hold K hK hA hL; clear hne hA hL; have hB := hW.1; have tP := hW.2.1; have t3 := hW.2.2.1; have t5 := hW.2.2.2.1; have hl := hW.2.2.2.2; simp only [puts, Act.put, List.setIfInBounds_toArray, List.set_cons_zero, List.set_cons_succ, Nat.zero_add, Nat.reduceAdd] at hK ⊢; clear hd hold; go_simp; exact hK.out rfl _ _ (Below.refl _ _) rfl
    · intro vs W hW hW0 hd hne hold K hK hA hL; clear hne hA hL; have hB := hW.1; have tP := hW.2.1; have t3 := hW.2.2.1; have t5 := hW.2.2.2.1; have hl := hW.2.2.2.2; simp only [puts, Act.put, List.setIfInBounds_toArray, List.set_cons_zero, List.set_cons_succ, Nat.zero_add, Nat.reduceAdd] at hK ⊢; have eb : vs 5 = _ := hd 5 (by kernel_rfl); have q1 := tP.cell 2 _ rfl; clear hd hold; simp only [eb] at hK; go_simp; exact hK.out rfl _ _ (Below.refl _ _) rfl
    · intro vs W hW hW0 hd hne hold K hK hA hL; clear hne hA hL; have hB := hW.1; have tP := hW.2.1; have t3 := hW.2.2.1; have t5 := hW.2.2.2.1; have hl := hW.2.2.2.2; simp only [puts, Act.put, List.setIfInBounds_toArray, List.set_cons_zero, List.set_cons_succ, Nat.zero_add, Nat.reduceAdd] at hK ⊢; clear hd hold; go_simp; exact hK.out rfl _ _ (Below.refl _ _) rfl
    · intro vs W hW hW0 hd hne hold K hK hA hL; clear hne hA hL; have hB := hW.1; have tP := hW.2.1; have t3 := hW.2.2.1; have t5 := hW.2.2.2.1; have hl := hW.2.2.2.2; simp only [puts, Act.put, List.setIfInBounds_toArray, List.set_cons_zero, List.set_cons_succ, Nat.zero_add, Nat.reduceAdd] at hK ⊢; have eb : vs 7 = _ := hd 7 (by kernel_rfl); have q1 := tP.cell 3 _ rfl; clear hd hold; simp only [eb] at hK; go_simp; exact hK.out rfl _ _ (Below.refl _ _) rfl
    · intro vs W hW hW0 hd hne hold K hK hA hL; clear hne hA hL; have hB := hW.1; have tP := hW.2.1; have t3 := hW.2.2.1; have t5 := hW.2.2.2.1; have hl := hW.2.2.2.2; simp only [puts, Act.put, List.setIfInBounds_toArray, List.set_cons_zero, List.set_cons_succ, Nat.zero_add, Nat.reduceAdd] at hK ⊢; have e6 : vs 6 = _ := hd 6 (by kernel_rfl); have e8 : vs 8 = _ := hd 8 (by kernel_rfl); clear hd hold; simp only [e6, e8] at hK; go_simp; exact hK.out rfl _ _ (Below.refl _ _) rfl
    · intro vs W hW hW0 hd hne hold K hK hA hL; clear hne hK hL; have hB := hW.1; have tP := hW.2.1; have t3 := hW.2.2.1; have t5 := hW.2.2.2.1; have hl := hW.2.2.2.2; simp only [puts, Act.put, List.setIfInBounds_toArray, List.set_cons_zero, List.set_cons_succ, Nat.zero_add, Nat.reduceAdd] at hA ⊢; clear hd hold; go_simp; exact hA.out W.heap.size _ ((Below.refl _ _).alloc (Nat.le_refl _) _) (Nat.le_refl _) ⟨W.heap.size, _, rfl, hl, Blk.new _ _ _ _ rfl, rfl⟩
    · intro vs W hW hW0 hd hne hold K hK hA hL; clear hne hK hL; have hB := hW.1; have tP := hW.2.1; have t3 := hW.2.2.1; have t5 := hW.2.2.2.1; have hl := hW.2.2.2.2; simp only [puts, Act.put, List.setIfInBounds_toArray, List.set_cons_zero, List.set_cons_succ, Nat.zero_add, Nat.reduceAdd] at hA ⊢; clear hd hold; go_simp; exact hA.out W.heap.size _ ((Below.refl _ _).alloc (Nat.le_refl _) _) (Nat.le_refl _) ⟨W.heap.size, _, rfl, hl, Blk.new _ _ _ _ rfl, rfl⟩
    · intro vs W hW hW0 hd hne hold K hK hA hL; clear hK hA; have hB := hW.1; have tP := hW.2.1; have t3 := hW.2.2.1; have t5 := hW.2.2.2.1; have hl := hW.2.2.2.2; simp only [puts, Act.put, List.setIfInBounds_toArray, List.set_cons_zero, List.set_cons_succ, Nat.zero_add, Nat.reduceAdd] at hL ⊢; have ec : vs 4 = _ := hd 4 (by kernel_rfl); (have hxb : BxV W0.heap.size 57 2 (vs 10) W := hd 10 (by kernel_rfl)); obtain ⟨b, cs0, eb, hlb, t0, hsz⟩ := hxb; obtain ⟨z0, q0⟩ := t0.cellx 0 (by omega); have p0 := t0.free 0; obtain ⟨z1, q1⟩ := t0.cellx 1 (by omega); have p1 := t0.free 1; have tb := t0.set2 hsz (.int .i64 A) (.int .i64 B); have hbt := But.set2 (b := b) W (.int .i64 A) (.int .i64 B); clear hd hold; simp only [ec, eb] at hL; have HSZ := Lib.hid hsz; clear hsz; have HNE := Lib.hid hne; clear hne; go_simp; have hne := HNE.out; have hsz := HSZ.out; have hnb : vs 11 ≠ .pointer (some ⟨b, 0, none⟩) := fun x => hne 10 11 (by decide) (by kernel_rfl) (by rw [eb, x]); refine hL.out rfl undef _ ⟨hbt.to hB (by omega) hB.size, tP.but hbt (by omega), t3.but hbt (by omega), t5.but hbt (by omega), Nat.le_trans hl hbt.size⟩ (fun _ => trivial) ⟨b, eb, hlb, tb⟩ ?_; exact claims_keep ⟨.inr is_keep, .inr is_keep, .inr is_keep, .inr is_keep, .inr is_keep, .inr is_keep, .inr is_keep, .inr is_keep, .inr is_keep, .inr is_keep, .inr fun h => BxV.but h hbt t0 tb (by rw [hsz]; rfl), .inr fun h => BxV.but h hbt t0 tb (by rw [hsz]; rfl), .inl rfl, .inr fun h => BxC.but h hbt hnb, trivial⟩
    · intro vs W hW hW0 hd hne hold K hK hA hL; clear hK hA; have hB := hW.1; have tP := hW.2.1; have t3 := hW.2.2.1; have t5 := hW.2.2.2.1; have hl := hW.2.2.2.2; simp only [puts, Act.put, List.setIfInBounds_toArray, List.set_cons_zero, List.set_cons_succ, Nat.zero_add, Nat.reduceAdd] at hL ⊢; have ec : vs 9 = _ := hd 9 (by kernel_rfl); (have hxb : BxV W0.heap.size 57 2 (vs 11) W := hd 11 (by kernel_rfl)); obtain ⟨b, cs0, eb, hlb, t0, hsz⟩ := hxb; obtain ⟨z0, q0⟩ := t0.cellx 0 (by omega); have p0 := t0.free 0; obtain ⟨z1, q1⟩ := t0.cellx 1 (by omega); have p1 := t0.free 1; have tb := t0.set2 hsz (.int .i64 C) (.int .i64 D); have hbt := But.set2 (b := b) W (.int .i64 C) (.int .i64 D); clear hd hold; simp only [ec, eb] at hL; have HSZ := Lib.hid hsz; clear hsz; have HNE := Lib.hid hne; clear hne; go_simp; have hne := HNE.out; have hsz := HSZ.out; have hnb : vs 10 ≠ .pointer (some ⟨b, 0, none⟩) := fun x => hne 11 10 (by decide) (by kernel_rfl) (by rw [eb, x]); refine hL.out rfl undef _ ⟨hbt.to hB (by omega) hB.size, tP.but hbt (by omega), t3.but hbt (by omega), t5.but hbt (by omega), Nat.le_trans hl hbt.size⟩ (fun _ => trivial) ⟨b, eb, hlb, tb⟩ ?_; exact claims_keep ⟨.inr is_keep, .inr is_keep, .inr is_keep, .inr is_keep, .inr is_keep, .inr is_keep, .inr is_keep, .inr is_keep, .inr is_keep, .inr is_keep, .inr fun h => BxV.but h hbt t0 tb (by rw [hsz]; rfl), .inr fun h => BxV.but h hbt t0 tb (by rw [hsz]; rfl), .inr fun h => BxC.but h hbt hnb, .inl rfl, trivial⟩
  · intro va WA hW hV _
    obtain ⟨hB, _, t3, t5, _⟩ := hW
    have h7 : BxC W0.heap.size 57 #[.int .i64 A, .int .i64 B] (va 10) WA := hV 12 (by decide)
    have h8 : BxC W0.heap.size 57 #[.int .i64 C, .int .i64 D] (va 11) WA := hV 13 (by decide)
    obtain ⟨b7, e7, _, t7⟩ := h7
    obtain ⟨b8, e8, _, t8⟩ := h8
    clear hV
    simp only [puts, Act.put, List.setIfInBounds_toArray, List.set_cons_zero, List.set_cons_succ, Nat.zero_add, Nat.reduceAdd, e7, e8]
    refine hK0 _ _ ?_
    clear hK0 e7 e8 tP
    have S : CutP w b3 b5 N1 D1 N2 D2 WA := ⟨hB, t3, t5⟩
    clear hB t3 t5
    have c0 := t7.cell 0 _ rfl
    have c1 := t7.cell 1 _ rfl
    go_upto_region 6 with (fail)
    go_cut [55] from 48 to 54 (fun c wx => c = .bool bd ∧ CutP w b3 b5 N1 D1 N2 D2 wx ∧ Blk wx b7 #[.int .i64 A, .int .i64 B] 57 ∧ Blk wx b8 #[.int .i64 C, .int .i64 D] 57)
    case first =>
      have ebd := EBD.out
      clear EBD
      cases g1
      · go_wp2_with fail
        refine (G1 _).mono ?_
        rintro e wa ⟨rfl, hba⟩
        go_wp2_with fail
        go_meet
        case rel => exact ⟨by rw [← ebd]; rfl, S.below hba, t7.below hba, t8.below hba⟩
      · replace ebd : (!g2) = bd := ebd
        have EBD := Lib.hid ebd
        clear ebd
        go_wp2_with fail
        refine (G1 _).mono ?_
        rintro e wa ⟨rfl, hba⟩
        replace S := S.below hba
        replace t7 := t7.below hba
        replace t8 := t8.below hba
        clear c0 c1
        have c0 := t8.cell 0 _ rfl
        have c1 := t8.cell 1 _ rfl
        go_wp2_with fail
        refine (G2 _).mono ?_
        rintro e wb ⟨rfl, hbb⟩
        go_wp2_with fail
        go_meet
        case rel => exact ⟨by rw [← EBD.out], S.below hbb, t7.below hbb, t8.below hbb⟩
    case rest =>
      obtain ⟨rfl, S, t7, t8⟩ := hcut
      clear c0 c1 G1 G2
      go_upto_if 55 with (fail)
      go_cut [9, 10] from 56 to 69 (fun s9 s10 wx => CutP w b3 b5 N1 D1 N2 D2 wx)
      case first =>
        cases bd
        rotate_left
        · have hg : (g1 && g2) = false := by have := EBD.out; revert this; cases (g1 && g2) <;> simp
          have TB := HTB.out hg
          have CB := HCB.out hg
          clear HTB HCB HZ1 HZ2 hg EBD
          have c0 := t7.cell 0 _ rfl
          have c1 := t7.cell 1 _ rfl
          have c2 := t8.cell 0 _ rfl
          have c3 := t8.cell 1 _ rfl
          go_wp2_with fail
          refine (TB _).mono ?_
          rintro e wa ⟨rfl, hba⟩
          have hbx : Below _ _ (wa.alloc (.cells #[.int .i64 0, .int .i64 0] 57)) := hba.alloc hba.size _
          replace S := S.below hbx
          replace t7 := t7.below hbx
          replace t8 := t8.below hbx
          clear c0 c1 c2 c3
          have c0 := t7.cell 0 _ rfl
          have c1 := t7.cell 1 _ rfl
          have c2 := t8.cell 0 _ rfl
          have c3 := t8.cell 1 _ rfl
          go_wp2_with fail
          refine (CB _).mono ?_
          rintro e wb ⟨rfl, hbb⟩
          go_wp2_with fail
          go_meet
          case rel => exact S.below hbb
        · go_wp2_with fail
          go_meet
          case rel => exact S
      case rest =>
        have S := hcut
        clear hcut t7 t8 hl0 hl3 hl5
        by_cases hE1 : E1 = 0
        · by_cases hE2 : E2 = 0
          · subst hE1 hE2
            obtain ⟨fN1, fD1, gg1⟩ := HZ1.out rfl
            obtain ⟨fN2, fD2, gg2⟩ := HZ2.out rfl
            clear HTB HCB HZ1 HZ2
            obtain ⟨hB, t3, t5⟩ := S
            have hd1 : 1 ≤ D1 := by unfold goodB at gg1; simp at gg1; omega
            have hd2 : 1 ≤ D2 := by unfold goodB at gg2; simp at gg2; omega
            obtain ⟨eP, eQ⟩ := low_pairs N1 N2 D1 D2 hd1 hd2 (by unfold goodB at gg1; simp at gg1; omega) (by unfold goodB at gg2; simp at gg2; omega)
            obtain ⟨P, hP⟩ : ∃ x, numR (N1 * N2) (D1 * D2) = x := ⟨_, rfl⟩
            obtain ⟨Qn, hQ⟩ : ∃ x, denR (N1 * N2) (D1 * D2) = x := ⟨_, rfl⟩
            have TG := rat_times_good N1 D1 N2 D2 fN1 fD1 fN2 fD2 gg1 gg2
            rw [← eP, ← eQ, hP, hQ] at TG
            obtain ⟨c, hc⟩ : ∃ x, cmp3 (N1 * D2) (N2 * D1) = x := ⟨_, rfl⟩
            have CM := rat_cmp_good N1 D1 N2 D2 fN1 fD1 fN2 fD2 gg1 gg2 c hc
            have CB := fun na nb ax bx k m ca cb W h1 h2 h3 h4 => big_cmp na nb ax bx k m ca cb (N1 * D2) (N2 * D1) W h1 h2 h3 h4
            rw [cmp3_cmpI, hc] at CB
            have s1 := BM.Sz.i64 fN1.1 fN1.2
            have s2 := BM.Sz.i64 fN2.1 fN2.2
            have s3 := BM.Sz.i64 fD1.1 fD1.2
            have s4 := BM.Sz.i64 fD2.1 fD2.2
            have s12 := BM.Sz.mul s1 s2
            have s34 := BM.Sz.mul s3 s4
            have s14 := BM.Sz.mul s1 s4
            have s23 := BM.Sz.mul s2 s3
            have m12 : (N1 * N2).natAbs < 65536 ^ 9 := s12.mono (by omega)
            have m34 : (D1 * D2).natAbs < 65536 ^ 9 := s34.mono (by omega)
            have hne0 : D1 * D2 ≠ 0 := Int.mul_ne_zero (by omega) (by omega)
            have sP : BM.Sz P 9 := by have := numR_le (N1 * N2) (D1 * D2); rw [hP] at this; unfold BM.Sz; omega
            have sQ : BM.Sz Qn 9 := by have := denR_le (N1 * N2) (D1 * D2); rw [hQ] at this; unfold BM.Sz; omega
            have LW := fun na nb xa xb ka kb ca cb W ha hb => ref_low8 (N1 * N2) (D1 * D2) P Qn na nb xa xb ka kb ca cb W ha hb m12 m34 hne0 hP hQ
            have IT := fun na nb xa xb ka kb ca cb W ha hb h1 h2 => ref_ints na nb xa xb ka kb ca cb P Qn W ha hb h1 h2
            have iP : intB P = true → intV P = P := fun h => by unfold intV; rw [h]; rfl
            have iQ : intB Qn = true → intV Qn = Qn := fun h => by unfold intV; rw [h]; rfl
            have TG2 : ∀ W, Calls Try.prog 94 #[.agg #[.int .i64 N1, .int .i64 D1], .agg #[.int .i64 N2, .int .i64 D2]] W fun e w' =>
                e = .returned (.tuple #[.agg #[.int .i64 (if (intB P && intB Qn) then intV P else 0), .int .i64 (if (intB P && intB Qn) then intV Qn else 0)], .int .i64 (if (intB P && intB Qn) then 0 else 2)]) ∧ Below W.heap.size W w' := fun W => (TG W).mono fun e w' h => by
              refine ⟨?_, h.2.2⟩
              cases hk : (intB P && intB Qn)
              · exact h.2.1 (fun x => by rw [x.1, x.2] at hk; cases hk)
              · have hk2 : intB P = true ∧ intB Qn = true := by simpa using hk
                have := h.1 hk2
                rw [← iP hk2.1, ← iQ hk2.2] at this
                exact this
            obtain ⟨k, ek⟩ : ∃ x, (intB P && intB Qn) = x := ⟨_, rfl⟩
            rw [ek] at IT TG2
            obtain ⟨v1, ev1⟩ : ∃ x, intV P = x := ⟨_, rfl⟩
            obtain ⟨v2, ev2⟩ : ∃ x, intV Qn = x := ⟨_, rfl⟩
            rw [ev1, ev2] at IT TG2
            obtain ⟨p1, ep1⟩ : ∃ x, (if k then v1 else 0) = x := ⟨_, rfl⟩
            obtain ⟨p2, ep2⟩ : ∃ x, (if k then v2 else 0) = x := ⟨_, rfl⟩
            obtain ⟨f, ef⟩ : ∃ x : Int, (if k then 0 else 2) = x := ⟨_, rfl⟩
            rw [ep1, ep2, ef] at TG2
            have EP1 := Lib.hid ep1
            have EP2 := Lib.hid ep2
            have EF := Lib.hid ef
            have o1 := big_of N1 fN1.1 fN1.2
            have o2 := big_of N2 fN2.1 fN2.2
            have o3 := big_of D1 fD1.1 fD1.2
            have o4 := big_of D2 fD2.1 fD2.2
            have hcc : (c != c) = false := by simp
            clear TG iP iQ ek ev1 ev2 ep1 ep2 ef eP eQ hP hQ hc gg1 gg2 hd1 hd2 fN1 fD1 fN2 fD2 m12 m34 hne0
            obtain ⟨W0, eW0⟩ : ∃ x, wc = x := ⟨_, rfl⟩
            rw [eW0] at hB t3 t5
            have hl3 := t3.lt
            have hl5 := t5.lt
            have hl0 := hB.size
            go_upto_region 12 with (fail)
            rename_i K0 hK0
            refine wp_region_calm (fun w' => Below w.heap.size w w' ∧ Blk w' b3 #[.int .i64 N1, .int .i64 D1] 57 ∧ Blk w' b5 #[.int .i64 N2, .int .i64 D2] 57 ∧ W0.heap.size ≤ w'.heap.size) [] (fun w' => True) [Is (.pointer (some ⟨b3, 0, none⟩)), Is (.int .i64 N1), bigC N1, Is (.pointer (some ⟨b5, 0, none⟩)), Is (.int .i64 N2), bigC N2, bxV W0.heap.size 29 2, bxV W0.heap.size 29 2, boxAt 6 W0.heap.size N1, boxAt 7 W0.heap.size N2] [6, 7] (by kernel_rfl) (by kernel_rfl) (by kernel_rfl) (by kernel_rfl) ⟨hB.drew, t3, t5, Nat.le_refl _⟩ trivial ?_ ?_ ?_ ?_ ?_
            · rintro W W' ⟨hB, t3, t5, hl⟩ hb
              exact ⟨hB.trans (hb.mono hB.size), t3.below hb, t5.below hb, Nat.le_trans hl hb.size⟩
            · exact fun _ _ _ _ _ => trivial
            · intro k vs W hk h
              rcases (by simpa using hk : k = 6 ∨ k = 7) with rfl | rfl <;> (obtain ⟨b, cs, e, h1, h2, h3⟩ := h; exact ⟨b, e, h2.lt⟩)
            · intro Q; clear hK0 hB t3 t5 CM CB LW IT TG2
              refine ⟨?_, ?_, ?_, ?_, ?_, ?_, ?_, ?_, ?_, ?_, trivial⟩
              · intro vs W hW hW0 hd hne hold K hK hA hL; clear hne hA hL; have hB := hW.1; have t3 := hW.2.1; have t5 := hW.2.2.1; have hl := hW.2.2.2; simp only [puts, Act.put, List.setIfInBounds_toArray, List.set_cons_zero, List.set_cons_succ, Nat.zero_add, Nat.reduceAdd] at hK ⊢; clear hd hold; go_simp; exact hK.out rfl _ _ (Below.refl _ _) rfl
              · intro vs W hW hW0 hd hne hold K hK hA hL; clear hne hA hL; have hB := hW.1; have t3 := hW.2.1; have t5 := hW.2.2.1; have hl := hW.2.2.2; simp only [puts, Act.put, List.setIfInBounds_toArray, List.set_cons_zero, List.set_cons_succ, Nat.zero_add, Nat.reduceAdd] at hK ⊢; have eb : vs 0 = _ := hd 0 (by kernel_rfl); have q1 := t3.cell 0 _ rfl; clear hd hold; simp only [eb] at hK; go_simp; exact hK.out rfl _ _ (Below.refl _ _) rfl
              · intro vs W hW hW0 hd hne hold K hK hA hL; clear hne hA hL; have hB := hW.1; have t3 := hW.2.1; have t5 := hW.2.2.1; have hl := hW.2.2.2; simp only [puts, Act.put, List.setIfInBounds_toArray, List.set_cons_zero, List.set_cons_succ, Nat.zero_add, Nat.reduceAdd] at hK ⊢; have eb : vs 1 = _ := hd 1 (by kernel_rfl); clear hd hold; simp only [eb] at hK; go_simp; refine (o1 _).mono ?_; (rintro e wx ⟨f1, f2, f3, f4, rfl, If, hbx⟩); go_simp; exact hK.out rfl _ _ hbx ⟨f1, f2, f3, f4, rfl, If⟩
              · intro vs W hW hW0 hd hne hold K hK hA hL; clear hne hA hL; have hB := hW.1; have t3 := hW.2.1; have t5 := hW.2.2.1; have hl := hW.2.2.2; simp only [puts, Act.put, List.setIfInBounds_toArray, List.set_cons_zero, List.set_cons_succ, Nat.zero_add, Nat.reduceAdd] at hK ⊢; clear hd hold; go_simp; exact hK.out rfl _ _ (Below.refl _ _) rfl
              · intro vs W hW hW0 hd hne hold K hK hA hL; clear hne hA hL; have hB := hW.1; have t3 := hW.2.1; have t5 := hW.2.2.1; have hl := hW.2.2.2; simp only [puts, Act.put, List.setIfInBounds_toArray, List.set_cons_zero, List.set_cons_succ, Nat.zero_add, Nat.reduceAdd] at hK ⊢; have eb : vs 3 = _ := hd 3 (by kernel_rfl); have q1 := t5.cell 0 _ rfl; clear hd hold; simp only [eb] at hK; go_simp; exact hK.out rfl _ _ (Below.refl _ _) rfl
              · intro vs W hW hW0 hd hne hold K hK hA hL; clear hne hA hL; have hB := hW.1; have t3 := hW.2.1; have t5 := hW.2.2.1; have hl := hW.2.2.2; simp only [puts, Act.put, List.setIfInBounds_toArray, List.set_cons_zero, List.set_cons_succ, Nat.zero_add, Nat.reduceAdd] at hK ⊢; have eb : vs 4 = _ := hd 4 (by kernel_rfl); clear hd hold; simp only [eb] at hK; go_simp; refine (o2 _).mono ?_; (rintro e wx ⟨f1, f2, f3, f4, rfl, If, hbx⟩); go_simp; exact hK.out rfl _ _ hbx ⟨f1, f2, f3, f4, rfl, If⟩
              · intro vs W hW hW0 hd hne hold K hK hA hL; clear hne hK hL; have hB := hW.1; have t3 := hW.2.1; have t5 := hW.2.2.1; have hl := hW.2.2.2; simp only [puts, Act.put, List.setIfInBounds_toArray, List.set_cons_zero, List.set_cons_succ, Nat.zero_add, Nat.reduceAdd] at hA ⊢; clear hd hold; go_simp; exact hA.out W.heap.size _ ((Below.refl _ _).alloc (Nat.le_refl _) _) (Nat.le_refl _) ⟨W.heap.size, _, rfl, hl, Blk.new _ _ _ _ rfl, rfl⟩
              · intro vs W hW hW0 hd hne hold K hK hA hL; clear hne hK hL; have hB := hW.1; have t3 := hW.2.1; have t5 := hW.2.2.1; have hl := hW.2.2.2; simp only [puts, Act.put, List.setIfInBounds_toArray, List.set_cons_zero, List.set_cons_succ, Nat.zero_add, Nat.reduceAdd] at hA ⊢; clear hd hold; go_simp; exact hA.out W.heap.size _ ((Below.refl _ _).alloc (Nat.le_refl _) _) (Nat.le_refl _) ⟨W.heap.size, _, rfl, hl, Blk.new _ _ _ _ rfl, rfl⟩
              · intro vs W hW hW0 hd hne hold K hK hA hL; clear hK hA; have hB := hW.1; have t3 := hW.2.1; have t5 := hW.2.2.1; have hl := hW.2.2.2; simp only [puts, Act.put, List.setIfInBounds_toArray, List.set_cons_zero, List.set_cons_succ, Nat.zero_add, Nat.reduceAdd] at hL ⊢; (have hxc : BigV N1 (vs 2) W := hd 2 (by kernel_rfl)); obtain ⟨c1, c2, c3, c4, ec, Ic⟩ := hxc; (have hxb : BxV W0.heap.size 29 2 (vs 6) W := hd 6 (by kernel_rfl)); obtain ⟨b, cs0, eb, hlb, t0, hsz⟩ := hxb; obtain ⟨z0, q0⟩ := t0.cellx 0 (by omega); have p0 := t0.free 0; obtain ⟨z1, q1⟩ := t0.cellx 1 (by omega); have p1 := t0.free 1; have tb := t0.set2 hsz (.bool c1) (.slice c2 c3 c4); have hbt := But.set2 (b := b) W (.bool c1) (.slice c2 c3 c4); clear hd hold; simp only [ec, eb] at hL; have HSZ := Lib.hid hsz; clear hsz; have HNE := Lib.hid hne; clear hne; go_simp; have hne := HNE.out; have hsz := HSZ.out; have hnb : vs 7 ≠ .pointer (some ⟨b, 0, none⟩) := fun x => hne 6 7 (by decide) (by kernel_rfl) (by rw [eb, x]); refine hL.out rfl undef _ ⟨hbt.to hB (by omega) hB.size, t3.but hbt (by omega), t5.but hbt (by omega), Nat.le_trans hl hbt.size⟩ (fun _ => trivial) ⟨b, c1, c2, c3, c4, eb, hlb, tb, IsBig.but Ic hbt t0 (by decide)⟩ ?_; exact claims_keep ⟨.inr is_keep, .inr is_keep, .inr fun h => BigV.but h hbt t0 (by decide), .inr is_keep, .inr is_keep, .inr fun h => BigV.but h hbt t0 (by decide), .inr fun h => BxV.but h hbt t0 tb (by rw [hsz]; rfl), .inr fun h => BxV.but h hbt t0 tb (by rw [hsz]; rfl), .inl rfl, .inr fun h => BoxBig.but h hbt t0 (by decide) hnb, trivial⟩
              · intro vs W hW hW0 hd hne hold K hK hA hL; clear hK hA; have hB := hW.1; have t3 := hW.2.1; have t5 := hW.2.2.1; have hl := hW.2.2.2; simp only [puts, Act.put, List.setIfInBounds_toArray, List.set_cons_zero, List.set_cons_succ, Nat.zero_add, Nat.reduceAdd] at hL ⊢; (have hxc : BigV N2 (vs 5) W := hd 5 (by kernel_rfl)); obtain ⟨c1, c2, c3, c4, ec, Ic⟩ := hxc; (have hxb : BxV W0.heap.size 29 2 (vs 7) W := hd 7 (by kernel_rfl)); obtain ⟨b, cs0, eb, hlb, t0, hsz⟩ := hxb; obtain ⟨z0, q0⟩ := t0.cellx 0 (by omega); have p0 := t0.free 0; obtain ⟨z1, q1⟩ := t0.cellx 1 (by omega); have p1 := t0.free 1; have tb := t0.set2 hsz (.bool c1) (.slice c2 c3 c4); have hbt := But.set2 (b := b) W (.bool c1) (.slice c2 c3 c4); clear hd hold; simp only [ec, eb] at hL; have HSZ := Lib.hid hsz; clear hsz; have HNE := Lib.hid hne; clear hne; go_simp; have hne := HNE.out; have hsz := HSZ.out; have hnb : vs 6 ≠ .pointer (some ⟨b, 0, none⟩) := fun x => hne 7 6 (by decide) (by kernel_rfl) (by rw [eb, x]); refine hL.out rfl undef _ ⟨hbt.to hB (by omega) hB.size, t3.but hbt (by omega), t5.but hbt (by omega), Nat.le_trans hl hbt.size⟩ (fun _ => trivial) ⟨b, c1, c2, c3, c4, eb, hlb, tb, IsBig.but Ic hbt t0 (by decide)⟩ ?_; exact claims_keep ⟨.inr is_keep, .inr is_keep, .inr fun h => BigV.but h hbt t0 (by decide), .inr is_keep, .inr is_keep, .inr fun h => BigV.but h hbt t0 (by decide), .inr fun h => BxV.but h hbt t0 tb (by rw [hsz]; rfl), .inr fun h => BxV.but h hbt t0 tb (by rw [hsz]; rfl), .inr fun h => BoxBig.but h hbt t0 (by decide) hnb, .inl rfl, trivial⟩
            · intro va WA hW hV _
              obtain ⟨hB, t3, t5, _⟩ := hW
              have h7 : BoxBig W0.heap.size N1 (va 6) WA := hV 8 (by decide)
              have h8 : BoxBig W0.heap.size N2 (va 7) WA := hV 9 (by decide)
              obtain ⟨b11, n1, n2, n3, n4, e7, _, t11, I11⟩ := h7
              obtain ⟨b12, m1, m2, m3, m4, e8, _, t12, I12⟩ := h8
              replace t11 : Blk WA b11 #[.bool n1, .slice n2 n3 n4] 29 := t11
              replace t12 : Blk WA b12 #[.bool m1, .slice m2 m3 m4] 29 := t12
              clear hV
              simp only [puts, Act.put, List.setIfInBounds_toArray, List.set_cons_zero, List.set_cons_succ, Nat.zero_add, Nat.reduceAdd, e7, e8]
              refine hK0 _ _ ?_
              clear hK0 e7 e8
              have hl3 := t3.lt
              have hl5 := t5.lt
              have hl11 := t11.lt
              have hl12 := t12.lt
              have hl0 := hB.size
              go_upto_region 13 with (fail)
              rename_i K1 hK1
              refine wp_region_calm (fun w' => Below w.heap.size w w' ∧ Blk w' b3 #[.int .i64 N1, .int .i64 D1] 57 ∧ Blk w' b5 #[.int .i64 N2, .int .i64 D2] 57 ∧ Blk w' b11 #[.bool n1, .slice n2 n3 n4] 29 ∧ Blk w' b12 #[.bool m1, .slice m2 m3 m4] 29 ∧ IsBig w' n1 n2 n3 n4 N1 ∧ IsBig w' m1 m2 m3 m4 N2 ∧ WA.heap.size ≤ w'.heap.size) [] (fun w' => True) [Is (.pointer (some ⟨b3, 1, none⟩)), Is (.int .i64 D1), bigC D1, Is (.pointer (some ⟨b5, 1, none⟩)), Is (.int .i64 D2), bigC D2, bxV WA.heap.size 29 2, bxV WA.heap.size 29 2, boxAt 6 WA.heap.size D1, boxAt 7 WA.heap.size D2] [6, 7] (by kernel_rfl) (by kernel_rfl) (by kernel_rfl) (by kernel_rfl) ⟨hB.drew, t3, t5, t11, t12, I11.drewd, I12.drewd, Nat.le_refl _⟩ trivial ?_ ?_ ?_ ?_ ?_
              · rintro W W' ⟨hB, t3, t5, t11, t12, I11, I12, hl⟩ hb
                exact ⟨hB.trans (hb.mono hB.size), t3.below hb, t5.below hb, t11.below hb, t12.below hb, I11.keep hb, I12.keep hb, Nat.le_trans hl hb.size⟩
              · exact fun _ _ _ _ _ => trivial
              · intro k vs W hk h
                rcases (by simpa using hk : k = 6 ∨ k = 7) with rfl | rfl <;> (obtain ⟨b, cs, e, h1, h2, h3⟩ := h; exact ⟨b, e, h2.lt⟩)
              · intro Q; clear hK1 hB t3 t5 t11 t12 I11 I12 CM CB LW IT TG2
                refine ⟨?_, ?_, ?_, ?_, ?_, ?_, ?_, ?_, ?_, ?_, trivial⟩
                · intro vs W hW hW0 hd hne hold K hK hA hL; clear hne hA hL; have hB := hW.1; have t3 := hW.2.1; have t5 := hW.2.2.1; have t11 := hW.2.2.2.1; have t12 := hW.2.2.2.2.1; have I11 := hW.2.2.2.2.2.1; have I12 := hW.2.2.2.2.2.2.1; have hl := hW.2.2.2.2.2.2.2; simp only [puts, Act.put, List.setIfInBounds_toArray, List.set_cons_zero, List.set_cons_succ, Nat.zero_add, Nat.reduceAdd] at hK ⊢; clear hd hold; go_simp; exact hK.out rfl _ _ (Below.refl _ _) rfl
                · intro vs W hW hW0 hd hne hold K hK hA hL; clear hne hA hL; have hB := hW.1; have t3 := hW.2.1; have t5 := hW.2.2.1; have t11 := hW.2.2.2.1; have t12 := hW.2.2.2.2.1; have I11 := hW.2.2.2.2.2.1; have I12 := hW.2.2.2.2.2.2.1; have hl := hW.2.2.2.2.2.2.2; simp only [puts, Act.put, List.setIfInBounds_toArray, List.set_cons_zero, List.set_cons_succ, Nat.zero_add, Nat.reduceAdd] at hK ⊢; have eb : vs 0 = _ := hd 0 (by kernel_rfl); have q1 := t3.cell 1 _ rfl; clear hd hold; simp only [eb] at hK; go_simp; exact hK.out rfl _ _ (Below.refl _ _) rfl
                · intro vs W hW hW0 hd hne hold K hK hA hL; clear hne hA hL; have hB := hW.1; have t3 := hW.2.1; have t5 := hW.2.2.1; have t11 := hW.2.2.2.1; have t12 := hW.2.2.2.2.1; have I11 := hW.2.2.2.2.2.1; have I12 := hW.2.2.2.2.2.2.1; have hl := hW.2.2.2.2.2.2.2; simp only [puts, Act.put, List.setIfInBounds_toArray, List.set_cons_zero, List.set_cons_succ, Nat.zero_add, Nat.reduceAdd] at hK ⊢; have eb : vs 1 = _ := hd 1 (by kernel_rfl); clear hd hold; simp only [eb] at hK; go_simp; refine (o3 _).mono ?_; (rintro e wx ⟨f1, f2, f3, f4, rfl, If, hbx⟩); go_simp; exact hK.out rfl _ _ hbx ⟨f1, f2, f3, f4, rfl, If⟩
                · intro vs W hW hW0 hd hne hold K hK hA hL; clear hne hA hL; have hB := hW.1; have t3 := hW.2.1; have t5 := hW.2.2.1; have t11 := hW.2.2.2.1; have t12 := hW.2.2.2.2.1; have I11 := hW.2.2.2.2.2.1; have I12 := hW.2.2.2.2.2.2.1; have hl := hW.2.2.2.2.2.2.2; simp only [puts, Act.put, List.setIfInBounds_toArray, List.set_cons_zero, List.set_cons_succ, Nat.zero_add, Nat.reduceAdd] at hK ⊢; clear hd hold; go_simp; exact hK.out rfl _ _ (Below.refl _ _) rfl
                · intro vs W hW hW0 hd hne hold K hK hA hL; clear hne hA hL; have hB := hW.1; have t3 := hW.2.1; have t5 := hW.2.2.1; have t11 := hW.2.2.2.1; have t12 := hW.2.2.2.2.1; have I11 := hW.2.2.2.2.2.1; have I12 := hW.2.2.2.2.2.2.1; have hl := hW.2.2.2.2.2.2.2; simp only [puts, Act.put, List.setIfInBounds_toArray, List.set_cons_zero, List.set_cons_succ, Nat.zero_add, Nat.reduceAdd] at hK ⊢; have eb : vs 3 = _ := hd 3 (by kernel_rfl); have q1 := t5.cell 1 _ rfl; clear hd hold; simp only [eb] at hK; go_simp; exact hK.out rfl _ _ (Below.refl _ _) rfl
                · intro vs W hW hW0 hd hne hold K hK hA hL; clear hne hA hL; have hB := hW.1; have t3 := hW.2.1; have t5 := hW.2.2.1; have t11 := hW.2.2.2.1; have t12 := hW.2.2.2.2.1; have I11 := hW.2.2.2.2.2.1; have I12 := hW.2.2.2.2.2.2.1; have hl := hW.2.2.2.2.2.2.2; simp only [puts, Act.put, List.setIfInBounds_toArray, List.set_cons_zero, List.set_cons_succ, Nat.zero_add, Nat.reduceAdd] at hK ⊢; have eb : vs 4 = _ := hd 4 (by kernel_rfl); clear hd hold; simp only [eb] at hK; go_simp; refine (o4 _).mono ?_; (rintro e wx ⟨f1, f2, f3, f4, rfl, If, hbx⟩); go_simp; exact hK.out rfl _ _ hbx ⟨f1, f2, f3, f4, rfl, If⟩
                · intro vs W hW hW0 hd hne hold K hK hA hL; clear hne hK hL; have hB := hW.1; have t3 := hW.2.1; have t5 := hW.2.2.1; have t11 := hW.2.2.2.1; have t12 := hW.2.2.2.2.1; have I11 := hW.2.2.2.2.2.1; have I12 := hW.2.2.2.2.2.2.1; have hl := hW.2.2.2.2.2.2.2; simp only [puts, Act.put, List.setIfInBounds_toArray, List.set_cons_zero, List.set_cons_succ, Nat.zero_add, Nat.reduceAdd] at hA ⊢; clear hd hold; go_simp; exact hA.out W.heap.size _ ((Below.refl _ _).alloc (Nat.le_refl _) _) (Nat.le_refl _) ⟨W.heap.size, _, rfl, hl, Blk.new _ _ _ _ rfl, rfl⟩
                · intro vs W hW hW0 hd hne hold K hK hA hL; clear hne hK hL; have hB := hW.1; have t3 := hW.2.1; have t5 := hW.2.2.1; have t11 := hW.2.2.2.1; have t12 := hW.2.2.2.2.1; have I11 := hW.2.2.2.2.2.1; have I12 := hW.2.2.2.2.2.2.1; have hl := hW.2.2.2.2.2.2.2; simp only [puts, Act.put, List.setIfInBounds_toArray, List.set_cons_zero, List.set_cons_succ, Nat.zero_add, Nat.reduceAdd] at hA ⊢; clear hd hold; go_simp; exact hA.out W.heap.size _ ((Below.refl _ _).alloc (Nat.le_refl _) _) (Nat.le_refl _) ⟨W.heap.size, _, rfl, hl, Blk.new _ _ _ _ rfl, rfl⟩
                · intro vs W hW hW0 hd hne hold K hK hA hL; clear hK hA; have hB := hW.1; have t3 := hW.2.1; have t5 := hW.2.2.1; have t11 := hW.2.2.2.1; have t12 := hW.2.2.2.2.1; have I11 := hW.2.2.2.2.2.1; have I12 := hW.2.2.2.2.2.2.1; have hl := hW.2.2.2.2.2.2.2; simp only [puts, Act.put, List.setIfInBounds_toArray, List.set_cons_zero, List.set_cons_succ, Nat.zero_add, Nat.reduceAdd] at hL ⊢; (have hxc : BigV D1 (vs 2) W := hd 2 (by kernel_rfl)); obtain ⟨c1, c2, c3, c4, ec, Ic⟩ := hxc; (have hxb : BxV WA.heap.size 29 2 (vs 6) W := hd 6 (by kernel_rfl)); obtain ⟨b, cs0, eb, hlb, t0, hsz⟩ := hxb; obtain ⟨z0, q0⟩ := t0.cellx 0 (by omega); have p0 := t0.free 0; obtain ⟨z1, q1⟩ := t0.cellx 1 (by omega); have p1 := t0.free 1; have tb := t0.set2 hsz (.bool c1) (.slice c2 c3 c4); have hbt := But.set2 (b := b) W (.bool c1) (.slice c2 c3 c4); clear hd hold; simp only [ec, eb] at hL; have HSZ := Lib.hid hsz; clear hsz; have HNE := Lib.hid hne; clear hne; go_simp; have hne := HNE.out; have hsz := HSZ.out; have hnb : vs 7 ≠ .pointer (some ⟨b, 0, none⟩) := fun x => hne 6 7 (by decide) (by kernel_rfl) (by rw [eb, x]); refine hL.out rfl undef _ ⟨hbt.to hB (by omega) hB.size, t3.but hbt (by omega), t5.but hbt (by omega), t11.but hbt (by omega), t12.but hbt (by omega), I11.but hbt t0 (by decide), I12.but hbt t0 (by decide), Nat.le_trans hl hbt.size⟩ (fun _ => trivial) ⟨b, c1, c2, c3, c4, eb, hlb, tb, IsBig.but Ic hbt t0 (by decide)⟩ ?_; exact claims_keep ⟨.inr is_keep, .inr is_keep, .inr fun h => BigV.but h hbt t0 (by decide), .inr is_keep, .inr is_keep, .inr fun h => BigV.but h hbt t0 (by decide), .inr fun h => BxV.but h hbt t0 tb (by rw [hsz]; rfl), .inr fun h => BxV.but h hbt t0 tb (by rw [hsz]; rfl), .inl rfl, .inr fun h => BoxBig.but h hbt t0 (by decide) hnb, trivial⟩
                · intro vs W hW hW0 hd hne hold K hK hA hL; clear hK hA; have hB := hW.1; have t3 := hW.2.1; have t5 := hW.2.2.1; have t11 := hW.2.2.2.1; have t12 := hW.2.2.2.2.1; have I11 := hW.2.2.2.2.2.1; have I12 := hW.2.2.2.2.2.2.1; have hl := hW.2.2.2.2.2.2.2; simp only [puts, Act.put, List.setIfInBounds_toArray, List.set_cons_zero, List.set_cons_succ, Nat.zero_add, Nat.reduceAdd] at hL ⊢; (have hxc : BigV D2 (vs 5) W := hd 5 (by kernel_rfl)); obtain ⟨c1, c2, c3, c4, ec, Ic⟩ := hxc; (have hxb : BxV WA.heap.size 29 2 (vs 7) W := hd 7 (by kernel_rfl)); obtain ⟨b, cs0, eb, hlb, t0, hsz⟩ := hxb; obtain ⟨z0, q0⟩ := t0.cellx 0 (by omega); have p0 := t0.free 0; obtain ⟨z1, q1⟩ := t0.cellx 1 (by omega); have p1 := t0.free 1; have tb := t0.set2 hsz (.bool c1) (.slice c2 c3 c4); have hbt := But.set2 (b := b) W (.bool c1) (.slice c2 c3 c4); clear hd hold; simp only [ec, eb] at hL; have HSZ := Lib.hid hsz; clear hsz; have HNE := Lib.hid hne; clear hne; go_simp; have hne := HNE.out; have hsz := HSZ.out; have hnb : vs 6 ≠ .pointer (some ⟨b, 0, none⟩) := fun x => hne 7 6 (by decide) (by kernel_rfl) (by rw [eb, x]); refine hL.out rfl undef _ ⟨hbt.to hB (by omega) hB.size, t3.but hbt (by omega), t5.but hbt (by omega), t11.but hbt (by omega), t12.but hbt (by omega), I11.but hbt t0 (by decide), I12.but hbt t0 (by decide), Nat.le_trans hl hbt.size⟩ (fun _ => trivial) ⟨b, c1, c2, c3, c4, eb, hlb, tb, IsBig.but Ic hbt t0 (by decide)⟩ ?_; exact claims_keep ⟨.inr is_keep, .inr is_keep, .inr fun h => BigV.but h hbt t0 (by decide), .inr is_keep, .inr is_keep, .inr fun h => BigV.but h hbt t0 (by decide), .inr fun h => BxV.but h hbt t0 tb (by rw [hsz]; rfl), .inr fun h => BxV.but h hbt t0 tb (by rw [hsz]; rfl), .inr fun h => BoxBig.but h hbt t0 (by decide) hnb, .inl rfl, trivial⟩
              · intro vb WB hW hV _
                obtain ⟨hB, t3, t5, t11, t12, I11, I12, _⟩ := hW
                have h7 : BoxBig WA.heap.size D1 (vb 6) WB := hV 8 (by decide)
                have h8 : BoxBig WA.heap.size D2 (vb 7) WB := hV 9 (by decide)
                obtain ⟨b13, x1, x2, x3, x4, e7, _, t13, I13⟩ := h7
                obtain ⟨b14, y1, y2, y3, y4, e8, _, t14, I14⟩ := h8
                replace t13 : Blk WB b13 #[.bool x1, .slice x2 x3 x4] 29 := t13
                replace t14 : Blk WB b14 #[.bool y1, .slice y2 y3 y4] 29 := t14
                clear hV
                simp only [puts, Act.put, List.setIfInBounds_toArray, List.set_cons_zero, List.set_cons_succ, Nat.zero_add, Nat.reduceAdd, e7, e8]
                refine hK1 _ _ ?_
                clear hK1 e7 e8
                have k1 := I11.le s1
                have k2 := I12.le s2
                have k3 := I13.le s3
                have k4 := I14.le s4
                go_upto_region 14 with (fail)
                rename_i K2 hK2
                refine wp_region_calm (fun w' => Below w.heap.size w w' ∧ Blk w' b3 #[.int .i64 N1, .int .i64 D1] 57 ∧ Blk w' b5 #[.int .i64 N2, .int .i64 D2] 57 ∧ Blk w' b11 #[.bool n1, .slice n2 n3 n4] 29 ∧ Blk w' b12 #[.bool m1, .slice m2 m3 m4] 29 ∧ Blk w' b13 #[.bool x1, .slice x2 x3 x4] 29 ∧ Blk w' b14 #[.bool y1, .slice y2 y3 y4] 29 ∧ IsBig w' n1 n2 n3 n4 N1 ∧ IsBig w' m1 m2 m3 m4 N2 ∧ IsBig w' x1 x2 x3 x4 D1 ∧ IsBig w' y1 y2 y3 y4 D2) [] (fun w' => True) [Is (.agg #[.int .i64 N1, .int .i64 D1]), Is (.agg #[.int .i64 N2, .int .i64 D2]), Is (.int .i64 c), bigC N1, bigC D2, bigC (N1 * D2), bigC N2, bigC D1, bigC (N2 * D1), Is (.int .i64 c), Is (.bool false)] [] (by kernel_rfl) (by kernel_rfl) (by kernel_rfl) (by kernel_rfl) ⟨hB.drew, t3, t5, t11, t12, t13, t14, I11.drewd, I12.drewd, I13.drewd, I14.drewd⟩ trivial ?_ ?_ ?_ ?_ ?_
                · rintro W W' ⟨hB, t3, t5, t11, t12, t13, t14, I11, I12, I13, I14⟩ hb
                  exact ⟨hB.trans (hb.mono hB.size), t3.below hb, t5.below hb, t11.below hb, t12.below hb, t13.below hb, t14.below hb, I11.keep hb, I12.keep hb, I13.keep hb, I14.keep hb⟩
                · exact fun _ _ _ _ _ => trivial
                · intro k vs W hk h
                  exact absurd hk (by simp)
                · intro Q; clear hK2 hB t3 t5 t11 t12 t13 t14 I11 I12 I13 I14
                  refine ⟨?_, ?_, ?_, ?_, ?_, ?_, ?_, ?_, ?_, ?_, ?_, trivial⟩
                  · intro vs W hW hW0 hd hne hold K hK hA hL; clear hne hA hL; have hB := hW.1; have t3 := hW.2.1; have t5 := hW.2.2.1; have t11 := hW.2.2.2.1; have t12 := hW.2.2.2.2.1; have t13 := hW.2.2.2.2.2.1; have t14 := hW.2.2.2.2.2.2.1; have I11 := hW.2.2.2.2.2.2.2.1; have I12 := hW.2.2.2.2.2.2.2.2.1; have I13 := hW.2.2.2.2.2.2.2.2.2.1; have I14 := hW.2.2.2.2.2.2.2.2.2.2; simp only [puts, Act.put, List.setIfInBounds_toArray, List.set_cons_zero, List.set_cons_succ, Nat.zero_add, Nat.reduceAdd] at hK ⊢; have q1 := t3.cell 0 _ rfl; have q2 := t3.cell 1 _ rfl; clear hd hold; go_simp; exact hK.out rfl _ _ (Below.refl _ _) rfl
                  · intro vs W hW hW0 hd hne hold K hK hA hL; clear hne hA hL; have hB := hW.1; have t3 := hW.2.1; have t5 := hW.2.2.1; have t11 := hW.2.2.2.1; have t12 := hW.2.2.2.2.1; have t13 := hW.2.2.2.2.2.1; have t14 := hW.2.2.2.2.2.2.1; have I11 := hW.2.2.2.2.2.2.2.1; have I12 := hW.2.2.2.2.2.2.2.2.1; have I13 := hW.2.2.2.2.2.2.2.2.2.1; have I14 := hW.2.2.2.2.2.2.2.2.2.2; simp only [puts, Act.put, List.setIfInBounds_toArray, List.set_cons_zero, List.set_cons_succ, Nat.zero_add, Nat.reduceAdd] at hK ⊢; have q1 := t5.cell 0 _ rfl; have q2 := t5.cell 1 _ rfl; clear hd hold; go_simp; exact hK.out rfl _ _ (Below.refl _ _) rfl
                  · intro vs W hW hW0 hd hne hold K hK hA hL; clear hne hA hL; have hB := hW.1; have t3 := hW.2.1; have t5 := hW.2.2.1; have t11 := hW.2.2.2.1; have t12 := hW.2.2.2.2.1; have t13 := hW.2.2.2.2.2.1; have t14 := hW.2.2.2.2.2.2.1; have I11 := hW.2.2.2.2.2.2.2.1; have I12 := hW.2.2.2.2.2.2.2.2.1; have I13 := hW.2.2.2.2.2.2.2.2.2.1; have I14 := hW.2.2.2.2.2.2.2.2.2.2; simp only [puts, Act.put, List.setIfInBounds_toArray, List.set_cons_zero, List.set_cons_succ, Nat.zero_add, Nat.reduceAdd] at hK ⊢; have ea : vs 0 = _ := hd 0 (by kernel_rfl); have eb : vs 1 = _ := hd 1 (by kernel_rfl); clear hd hold; simp only [ea, eb] at hK; go_simp; refine (CM _).mono ?_; (rintro e wx ⟨rfl, hbx⟩); go_simp; exact hK.out rfl _ _ hbx rfl
                  · intro vs W hW hW0 hd hne hold K hK hA hL; clear hne hA hL; have hB := hW.1; have t3 := hW.2.1; have t5 := hW.2.2.1; have t11 := hW.2.2.2.1; have t12 := hW.2.2.2.2.1; have t13 := hW.2.2.2.2.2.1; have t14 := hW.2.2.2.2.2.2.1; have I11 := hW.2.2.2.2.2.2.2.1; have I12 := hW.2.2.2.2.2.2.2.2.1; have I13 := hW.2.2.2.2.2.2.2.2.2.1; have I14 := hW.2.2.2.2.2.2.2.2.2.2; simp only [puts, Act.put, List.setIfInBounds_toArray, List.set_cons_zero, List.set_cons_succ, Nat.zero_add, Nat.reduceAdd] at hK ⊢; have q1 := t11.cell 0 _ rfl; have q2 := t11.cell 1 _ rfl; clear hd hold; go_simp; exact hK.out rfl _ _ (Below.refl _ _) ⟨n1, n2, n3, n4, rfl, I11⟩
                  · intro vs W hW hW0 hd hne hold K hK hA hL; clear hne hA hL; have hB := hW.1; have t3 := hW.2.1; have t5 := hW.2.2.1; have t11 := hW.2.2.2.1; have t12 := hW.2.2.2.2.1; have t13 := hW.2.2.2.2.2.1; have t14 := hW.2.2.2.2.2.2.1; have I11 := hW.2.2.2.2.2.2.2.1; have I12 := hW.2.2.2.2.2.2.2.2.1; have I13 := hW.2.2.2.2.2.2.2.2.2.1; have I14 := hW.2.2.2.2.2.2.2.2.2.2; simp only [puts, Act.put, List.setIfInBounds_toArray, List.set_cons_zero, List.set_cons_succ, Nat.zero_add, Nat.reduceAdd] at hK ⊢; have q1 := t14.cell 0 _ rfl; have q2 := t14.cell 1 _ rfl; clear hd hold; go_simp; exact hK.out rfl _ _ (Below.refl _ _) ⟨y1, y2, y3, y4, rfl, I14⟩
                  · intro vs W hW hW0 hd hne hold K hK hA hL; clear hne hA hL; have hB := hW.1; have t3 := hW.2.1; have t5 := hW.2.2.1; have t11 := hW.2.2.2.1; have t12 := hW.2.2.2.2.1; have t13 := hW.2.2.2.2.2.1; have t14 := hW.2.2.2.2.2.2.1; have I11 := hW.2.2.2.2.2.2.2.1; have I12 := hW.2.2.2.2.2.2.2.2.1; have I13 := hW.2.2.2.2.2.2.2.2.2.1; have I14 := hW.2.2.2.2.2.2.2.2.2.2; simp only [puts, Act.put, List.setIfInBounds_toArray, List.set_cons_zero, List.set_cons_succ, Nat.zero_add, Nat.reduceAdd] at hK ⊢; (have hxb : BigV N1 (vs 3) W := hd 3 (by kernel_rfl)); obtain ⟨b1, b2, b3, b4, eb, Ib⟩ := hxb; (have hxc : BigV D2 (vs 4) W := hd 4 (by kernel_rfl)); obtain ⟨c1, c2, c3, c4, ec, Ic⟩ := hxc; have z1 := Ib.le s1; have z2 := Ic.le s4; clear hd hold; simp only [eb, ec] at hK; go_simp; refine (big_times b1 c1 b2 c2 b3 c3 b4 c4 N1 D2 _ Ib Ic (by omega) (by omega)).mono ?_; (rintro e wx ⟨f1, f2, f3, f4, rfl, If, hbx⟩); go_simp; exact hK.out rfl _ _ hbx ⟨f1, f2, f3, f4, rfl, If⟩
                  · intro vs W hW hW0 hd hne hold K hK hA hL; clear hne hA hL; have hB := hW.1; have t3 := hW.2.1; have t5 := hW.2.2.1; have t11 := hW.2.2.2.1; have t12 := hW.2.2.2.2.1; have t13 := hW.2.2.2.2.2.1; have t14 := hW.2.2.2.2.2.2.1; have I11 := hW.2.2.2.2.2.2.2.1; have I12 := hW.2.2.2.2.2.2.2.2.1; have I13 := hW.2.2.2.2.2.2.2.2.2.1; have I14 := hW.2.2.2.2.2.2.2.2.2.2; simp only [puts, Act.put, List.setIfInBounds_toArray, List.set_cons_zero, List.set_cons_succ, Nat.zero_add, Nat.reduceAdd] at hK ⊢; have q1 := t12.cell 0 _ rfl; have q2 := t12.cell 1 _ rfl; clear hd hold; go_simp; exact hK.out rfl _ _ (Below.refl _ _) ⟨m1, m2, m3, m4, rfl, I12⟩
                  · intro vs W hW hW0 hd hne hold K hK hA hL; clear hne hA hL; have hB := hW.1; have t3 := hW.2.1; have t5 := hW.2.2.1; have t11 := hW.2.2.2.1; have t12 := hW.2.2.2.2.1; have t13 := hW.2.2.2.2.2.1; have t14 := hW.2.2.2.2.2.2.1; have I11 := hW.2.2.2.2.2.2.2.1; have I12 := hW.2.2.2.2.2.2.2.2.1; have I13 := hW.2.2.2.2.2.2.2.2.2.1; have I14 := hW.2.2.2.2.2.2.2.2.2.2; simp only [puts, Act.put, List.setIfInBounds_toArray, List.set_cons_zero, List.set_cons_succ, Nat.zero_add, Nat.reduceAdd] at hK ⊢; have q1 := t13.cell 0 _ rfl; have q2 := t13.cell 1 _ rfl; clear hd hold; go_simp; exact hK.out rfl _ _ (Below.refl _ _) ⟨x1, x2, x3, x4, rfl, I13⟩
                  · intro vs W hW hW0 hd hne hold K hK hA hL; clear hne hA hL; have hB := hW.1; have t3 := hW.2.1; have t5 := hW.2.2.1; have t11 := hW.2.2.2.1; have t12 := hW.2.2.2.2.1; have t13 := hW.2.2.2.2.2.1; have t14 := hW.2.2.2.2.2.2.1; have I11 := hW.2.2.2.2.2.2.2.1; have I12 := hW.2.2.2.2.2.2.2.2.1; have I13 := hW.2.2.2.2.2.2.2.2.2.1; have I14 := hW.2.2.2.2.2.2.2.2.2.2; simp only [puts, Act.put, List.setIfInBounds_toArray, List.set_cons_zero, List.set_cons_succ, Nat.zero_add, Nat.reduceAdd] at hK ⊢; (have hxb : BigV N2 (vs 6) W := hd 6 (by kernel_rfl)); obtain ⟨b1, b2, b3, b4, eb, Ib⟩ := hxb; (have hxc : BigV D1 (vs 7) W := hd 7 (by kernel_rfl)); obtain ⟨c1, c2, c3, c4, ec, Ic⟩ := hxc; have z1 := Ib.le s2; have z2 := Ic.le s3; clear hd hold; simp only [eb, ec] at hK; go_simp; refine (big_times b1 c1 b2 c2 b3 c3 b4 c4 N2 D1 _ Ib Ic (by omega) (by omega)).mono ?_; (rintro e wx ⟨f1, f2, f3, f4, rfl, If, hbx⟩); go_simp; exact hK.out rfl _ _ hbx ⟨f1, f2, f3, f4, rfl, If⟩
                  · intro vs W hW hW0 hd hne hold K hK hA hL; clear hne hA hL; have hB := hW.1; have t3 := hW.2.1; have t5 := hW.2.2.1; have t11 := hW.2.2.2.1; have t12 := hW.2.2.2.2.1; have t13 := hW.2.2.2.2.2.1; have t14 := hW.2.2.2.2.2.2.1; have I11 := hW.2.2.2.2.2.2.2.1; have I12 := hW.2.2.2.2.2.2.2.2.1; have I13 := hW.2.2.2.2.2.2.2.2.2.1; have I14 := hW.2.2.2.2.2.2.2.2.2.2; simp only [puts, Act.put, List.setIfInBounds_toArray, List.set_cons_zero, List.set_cons_succ, Nat.zero_add, Nat.reduceAdd] at hK ⊢; (have hxb : BigV (N1 * D2) (vs 5) W := hd 5 (by kernel_rfl)); obtain ⟨b1, b2, b3, b4, eb, Ib⟩ := hxb; (have hxc : BigV (N2 * D1) (vs 8) W := hd 8 (by kernel_rfl)); obtain ⟨c1, c2, c3, c4, ec, Ic⟩ := hxc; have z1 := Ib.le s14; have z2 := Ic.le s23; clear hd hold; simp only [eb, ec] at hK; go_simp; refine (CB b1 c1 b2 c2 b3 c3 b4 c4 _ Ib Ic (by omega) (by omega)).mono ?_; (rintro e wx ⟨rfl, hbx⟩); go_simp; exact hK.out rfl _ _ hbx rfl
                  · intro vs W hW hW0 hd hne hold K hK hA hL; clear hne hA hL; have hB := hW.1; have t3 := hW.2.1; have t5 := hW.2.2.1; have t11 := hW.2.2.2.1; have t12 := hW.2.2.2.2.1; have t13 := hW.2.2.2.2.2.1; have t14 := hW.2.2.2.2.2.2.1; have I11 := hW.2.2.2.2.2.2.2.1; have I12 := hW.2.2.2.2.2.2.2.2.1; have I13 := hW.2.2.2.2.2.2.2.2.2.1; have I14 := hW.2.2.2.2.2.2.2.2.2.2; simp only [puts, Act.put, List.setIfInBounds_toArray, List.set_cons_zero, List.set_cons_succ, Nat.zero_add, Nat.reduceAdd] at hK ⊢; have e2 : vs 2 = _ := hd 2 (by kernel_rfl); have e9 : vs 9 = _ := hd 9 (by kernel_rfl); clear hd hold; simp only [e2, e9] at hK; go_simp; exact hK.out rfl _ _ (Below.refl _ _) rfl
                · intro vc WC hW hV _
                  obtain ⟨hB, t3, t5, t11, t12, t13, t14, I11, I12, I13, I14⟩ := hW
                  have e10 : vc 10 = .bool false := hV 10 (by decide)
                  clear hV
                  simp only [puts, Act.put, List.setIfInBounds_toArray, List.set_cons_zero, List.set_cons_succ, Nat.zero_add, Nat.reduceAdd, e10]
                  refine hK2 _ _ ?_
                  clear hK2 e10 CM CB
                  have c0 := t3.cell 0 _ rfl
                  have c1 := t3.cell 1 _ rfl
                  have c2 := t5.cell 0 _ rfl
                  have c3 := t5.cell 1 _ rfl
                  go_wp2_with fail
                  refine (TG2 _).mono ?_
                  rintro e wd ⟨rfl, hbd⟩
                  have t15 := Blk.new wd #[.int .i64 p1, .int .i64 p2] 57 _ rfl
                  have hbx : Below _ _ (wd.alloc (.cells #[.int .i64 p1, .int .i64 p2] 57)) := hbd.alloc hbd.size _
                  replace hB := hB.trans (hbx.mono hB.size)
                  replace t11 := t11.below hbx
                  replace t12 := t12.below hbx
                  replace t13 := t13.below hbx
                  replace t14 := t14.below hbx
                  replace I11 := I11.keep hbx
                  replace I12 := I12.keep hbx
                  replace I13 := I13.keep hbx
                  replace I14 := I14.keep hbx
                  clear hbd hbx c0 c1 c2 c3 t3 t5 TG2
                  obtain ⟨b15, eb15⟩ : ∃ x, wd.heap.size = x := ⟨_, rfl⟩
                  rw [eb15] at t15
                  go_upto_region 17 with (fail)
                  rename_i K3 hK3
                  refine wp_region_calm (fun w' => Below w.heap.size w w' ∧ Blk w' b15 #[.int .i64 p1, .int .i64 p2] 57 ∧ Blk w' b11 #[.bool n1, .slice n2 n3 n4] 29 ∧ Blk w' b12 #[.bool m1, .slice m2 m3 m4] 29 ∧ Blk w' b13 #[.bool x1, .slice x2 x3 x4] 29 ∧ Blk w' b14 #[.bool y1, .slice y2 y3 y4] 29 ∧ IsBig w' n1 n2 n3 n4 N1 ∧ IsBig w' m1 m2 m3 m4 N2 ∧ IsBig w' x1 x2 x3 x4 D1 ∧ IsBig w' y1 y2 y3 y4 D2) [] (fun w' => True) [bigC N1, bigC N2, bigC (N1 * N2), bigC D1, bigC D2, bigC (D1 * D2), big2C P Qn, bigC P, bigC Qn, Is (.tuple #[.int .i64 v1, .int .i64 v2, .bool k]), Is (.tuple #[.int .i64 v1, .int .i64 v2, .bool k]), Is (.int .i64 v1), Is (.int .i64 v2), Is (.bool k), Is (.int .i64 v1), Is (.int .i64 v2), Is (.bool k)] [] (by kernel_rfl) (by kernel_rfl) (by kernel_rfl) (by kernel_rfl) ⟨hB.drew, t15, t11, t12, t13, t14, I11.drewd, I12.drewd, I13.drewd, I14.drewd⟩ trivial ?_ ?_ ?_ ?_ ?_
                  · rintro W W' ⟨hB, t15, t11, t12, t13, t14, I11, I12, I13, I14⟩ hb
                    exact ⟨hB.trans (hb.mono hB.size), t15.below hb, t11.below hb, t12.below hb, t13.below hb, t14.below hb, I11.keep hb, I12.keep hb, I13.keep hb, I14.keep hb⟩
                  · exact fun _ _ _ _ _ => trivial
                  · intro k vs W hk h
                    exact absurd hk (by simp)
                  · intro Q; clear hK3 hB t15 t11 t12 t13 t14 I11 I12 I13 I14
                    refine ⟨?_, ?_, ?_, ?_, ?_, ?_, ?_, ?_, ?_, ?_, ?_, ?_, ?_, ?_, ?_, ?_, ?_, trivial⟩
                    · intro vs W hW hW0 hd hne hold K hK hA hL; clear hne hA hL; have hB := hW.1; have t15 := hW.2.1; have t11 := hW.2.2.1; have t12 := hW.2.2.2.1; have t13 := hW.2.2.2.2.1; have t14 := hW.2.2.2.2.2.1; have I11 := hW.2.2.2.2.2.2.1; have I12 := hW.2.2.2.2.2.2.2.1; have I13 := hW.2.2.2.2.2.2.2.2.1; have I14 := hW.2.2.2.2.2.2.2.2.2; simp only [puts, Act.put, List.setIfInBounds_toArray, List.set_cons_zero, List.set_cons_succ, Nat.zero_add, Nat.reduceAdd] at hK ⊢; have q1 := t11.cell 0 _ rfl; have q2 := t11.cell 1 _ rfl; clear hd hold; go_simp; exact hK.out rfl _ _ (Below.refl _ _) ⟨n1, n2, n3, n4, rfl, I11⟩
                    · intro vs W hW hW0 hd hne hold K hK hA hL; clear hne hA hL; have hB := hW.1; have t15 := hW.2.1; have t11 := hW.2.2.1; have t12 := hW.2.2.2.1; have t13 := hW.2.2.2.2.1; have t14 := hW.2.2.2.2.2.1; have I11 := hW.2.2.2.2.2.2.1; have I12 := hW.2.2.2.2.2.2.2.1; have I13 := hW.2.2.2.2.2.2.2.2.1; have I14 := hW.2.2.2.2.2.2.2.2.2; simp only [puts, Act.put, List.setIfInBounds_toArray, List.set_cons_zero, List.set_cons_succ, Nat.zero_add, Nat.reduceAdd] at hK ⊢; have q1 := t12.cell 0 _ rfl; have q2 := t12.cell 1 _ rfl; clear hd hold; go_simp; exact hK.out rfl _ _ (Below.refl _ _) ⟨m1, m2, m3, m4, rfl, I12⟩
                    · intro vs W hW hW0 hd hne hold K hK hA hL; clear hne hA hL; have hB := hW.1; have t15 := hW.2.1; have t11 := hW.2.2.1; have t12 := hW.2.2.2.1; have t13 := hW.2.2.2.2.1; have t14 := hW.2.2.2.2.2.1; have I11 := hW.2.2.2.2.2.2.1; have I12 := hW.2.2.2.2.2.2.2.1; have I13 := hW.2.2.2.2.2.2.2.2.1; have I14 := hW.2.2.2.2.2.2.2.2.2; simp only [puts, Act.put, List.setIfInBounds_toArray, List.set_cons_zero, List.set_cons_succ, Nat.zero_add, Nat.reduceAdd] at hK ⊢; (have hxb : BigV N1 (vs 0) W := hd 0 (by kernel_rfl)); obtain ⟨b1, b2, b3, b4, eb, Ib⟩ := hxb; (have hxc : BigV N2 (vs 1) W := hd 1 (by kernel_rfl)); obtain ⟨c1, c2, c3, c4, ec, Ic⟩ := hxc; have z1 := Ib.le s1; have z2 := Ic.le s2; clear hd hold; simp only [eb, ec] at hK; go_simp; refine (big_times b1 c1 b2 c2 b3 c3 b4 c4 N1 N2 _ Ib Ic (by omega) (by omega)).mono ?_; (rintro e wx ⟨f1, f2, f3, f4, rfl, If, hbx⟩); go_simp; exact hK.out rfl _ _ hbx ⟨f1, f2, f3, f4, rfl, If⟩
                    · intro vs W hW hW0 hd hne hold K hK hA hL; clear hne hA hL; have hB := hW.1; have t15 := hW.2.1; have t11 := hW.2.2.1; have t12 := hW.2.2.2.1; have t13 := hW.2.2.2.2.1; have t14 := hW.2.2.2.2.2.1; have I11 := hW.2.2.2.2.2.2.1; have I12 := hW.2.2.2.2.2.2.2.1; have I13 := hW.2.2.2.2.2.2.2.2.1; have I14 := hW.2.2.2.2.2.2.2.2.2; simp only [puts, Act.put, List.setIfInBounds_toArray, List.set_cons_zero, List.set_cons_succ, Nat.zero_add, Nat.reduceAdd] at hK ⊢; have q1 := t13.cell 0 _ rfl; have q2 := t13.cell 1 _ rfl; clear hd hold; go_simp; exact hK.out rfl _ _ (Below.refl _ _) ⟨x1, x2, x3, x4, rfl, I13⟩
                    · intro vs W hW hW0 hd hne hold K hK hA hL; clear hne hA hL; have hB := hW.1; have t15 := hW.2.1; have t11 := hW.2.2.1; have t12 := hW.2.2.2.1; have t13 := hW.2.2.2.2.1; have t14 := hW.2.2.2.2.2.1; have I11 := hW.2.2.2.2.2.2.1; have I12 := hW.2.2.2.2.2.2.2.1; have I13 := hW.2.2.2.2.2.2.2.2.1; have I14 := hW.2.2.2.2.2.2.2.2.2; simp only [puts, Act.put, List.setIfInBounds_toArray, List.set_cons_zero, List.set_cons_succ, Nat.zero_add, Nat.reduceAdd] at hK ⊢; have q1 := t14.cell 0 _ rfl; have q2 := t14.cell 1 _ rfl; clear hd hold; go_simp; exact hK.out rfl _ _ (Below.refl _ _) ⟨y1, y2, y3, y4, rfl, I14⟩
                    · intro vs W hW hW0 hd hne hold K hK hA hL; clear hne hA hL; have hB := hW.1; have t15 := hW.2.1; have t11 := hW.2.2.1; have t12 := hW.2.2.2.1; have t13 := hW.2.2.2.2.1; have t14 := hW.2.2.2.2.2.1; have I11 := hW.2.2.2.2.2.2.1; have I12 := hW.2.2.2.2.2.2.2.1; have I13 := hW.2.2.2.2.2.2.2.2.1; have I14 := hW.2.2.2.2.2.2.2.2.2; simp only [puts, Act.put, List.setIfInBounds_toArray, List.set_cons_zero, List.set_cons_succ, Nat.zero_add, Nat.reduceAdd] at hK ⊢; (have hxb : BigV D1 (vs 3) W := hd 3 (by kernel_rfl)); obtain ⟨b1, b2, b3, b4, eb, Ib⟩ := hxb; (have hxc : BigV D2 (vs 4) W := hd 4 (by kernel_rfl)); obtain ⟨c1, c2, c3, c4, ec, Ic⟩ := hxc; have z1 := Ib.le s3; have z2 := Ic.le s4; clear hd hold; simp only [eb, ec] at hK; go_simp; refine (big_times b1 c1 b2 c2 b3 c3 b4 c4 D1 D2 _ Ib Ic (by omega) (by omega)).mono ?_; (rintro e wx ⟨f1, f2, f3, f4, rfl, If, hbx⟩); go_simp; exact hK.out rfl _ _ hbx ⟨f1, f2, f3, f4, rfl, If⟩
                    · intro vs W hW hW0 hd hne hold K hK hA hL; clear hne hA hL; have hB := hW.1; have t15 := hW.2.1; have t11 := hW.2.2.1; have t12 := hW.2.2.2.1; have t13 := hW.2.2.2.2.1; have t14 := hW.2.2.2.2.2.1; have I11 := hW.2.2.2.2.2.2.1; have I12 := hW.2.2.2.2.2.2.2.1; have I13 := hW.2.2.2.2.2.2.2.2.1; have I14 := hW.2.2.2.2.2.2.2.2.2; simp only [puts, Act.put, List.setIfInBounds_toArray, List.set_cons_zero, List.set_cons_succ, Nat.zero_add, Nat.reduceAdd] at hK ⊢; (have hxb : BigV (N1 * N2) (vs 2) W := hd 2 (by kernel_rfl)); obtain ⟨b1, b2, b3, b4, eb, Ib⟩ := hxb; (have hxc : BigV (D1 * D2) (vs 5) W := hd 5 (by kernel_rfl)); obtain ⟨c1, c2, c3, c4, ec, Ic⟩ := hxc; clear hd hold; simp only [eb, ec] at hK; go_simp; refine (LW b1 c1 b2 c2 b3 c3 b4 c4 _ Ib Ic).mono ?_; (rintro e wx ⟨f1, f2, f3, f4, i1, i2, i3, i4, rfl, If, Ig, hbx⟩); go_simp; exact hK.out rfl _ _ hbx ⟨f1, f2, f3, f4, i1, i2, i3, i4, rfl, If, Ig⟩
                    · intro vs W hW hW0 hd hne hold K hK hA hL; clear hne hA hL; have hB := hW.1; have t15 := hW.2.1; have t11 := hW.2.2.1; have t12 := hW.2.2.2.1; have t13 := hW.2.2.2.2.1; have t14 := hW.2.2.2.2.2.1; have I11 := hW.2.2.2.2.2.2.1; have I12 := hW.2.2.2.2.2.2.2.1; have I13 := hW.2.2.2.2.2.2.2.2.1; have I14 := hW.2.2.2.2.2.2.2.2.2; simp only [puts, Act.put, List.setIfInBounds_toArray, List.set_cons_zero, List.set_cons_succ, Nat.zero_add, Nat.reduceAdd] at hK ⊢; have h1 : Big2V P Qn (vs 6) W := hd 6 (by kernel_rfl); obtain ⟨f1, f2, f3, f4, i1, i2, i3, i4, e1, If, Ig⟩ := h1; clear hd hold; simp only [e1] at hK; go_simp; exact hK.out rfl _ _ (Below.refl _ _) ⟨f1, f2, f3, f4, rfl, If⟩
                    · intro vs W hW hW0 hd hne hold K hK hA hL; clear hne hA hL; have hB := hW.1; have t15 := hW.2.1; have t11 := hW.2.2.1; have t12 := hW.2.2.2.1; have t13 := hW.2.2.2.2.1; have t14 := hW.2.2.2.2.2.1; have I11 := hW.2.2.2.2.2.2.1; have I12 := hW.2.2.2.2.2.2.2.1; have I13 := hW.2.2.2.2.2.2.2.2.1; have I14 := hW.2.2.2.2.2.2.2.2.2; simp only [puts, Act.put, List.setIfInBounds_toArray, List.set_cons_zero, List.set_cons_succ, Nat.zero_add, Nat.reduceAdd] at hK ⊢; have h1 : Big2V P Qn (vs 6) W := hd 6 (by kernel_rfl); obtain ⟨f1, f2, f3, f4, i1, i2, i3, i4, e1, If, Ig⟩ := h1; clear hd hold; simp only [e1] at hK; go_simp; exact hK.out rfl _ _ (Below.refl _ _) ⟨i1, i2, i3, i4, rfl, Ig⟩
                    · intro vs W hW hW0 hd hne hold K hK hA hL; clear hne hA hL; have hB := hW.1; have t15 := hW.2.1; have t11 := hW.2.2.1; have t12 := hW.2.2.2.1; have t13 := hW.2.2.2.2.1; have t14 := hW.2.2.2.2.2.1; have I11 := hW.2.2.2.2.2.2.1; have I12 := hW.2.2.2.2.2.2.2.1; have I13 := hW.2.2.2.2.2.2.2.2.1; have I14 := hW.2.2.2.2.2.2.2.2.2; simp only [puts, Act.put, List.setIfInBounds_toArray, List.set_cons_zero, List.set_cons_succ, Nat.zero_add, Nat.reduceAdd] at hK ⊢; (have hxb : BigV P (vs 7) W := hd 7 (by kernel_rfl)); obtain ⟨b1, b2, b3, b4, eb, Ib⟩ := hxb; (have hxc : BigV Qn (vs 8) W := hd 8 (by kernel_rfl)); obtain ⟨c1, c2, c3, c4, ec, Ic⟩ := hxc; have z1 := Ib.le sP; have z2 := Ic.le sQ; clear hd hold; simp only [eb, ec] at hK; go_simp; refine (IT b1 c1 b2 c2 b3 c3 b4 c4 _ Ib Ic (by omega) (by omega)).mono ?_; (rintro e wx ⟨rfl, hbx⟩); go_simp; exact hK.out rfl _ _ hbx rfl
                    · intro vs W hW hW0 hd hne hold K hK hA hL; clear hne hA hL; have hB := hW.1; have t15 := hW.2.1; have t11 := hW.2.2.1; have t12 := hW.2.2.2.1; have t13 := hW.2.2.2.2.1; have t14 := hW.2.2.2.2.2.1; have I11 := hW.2.2.2.2.2.2.1; have I12 := hW.2.2.2.2.2.2.2.1; have I13 := hW.2.2.2.2.2.2.2.2.1; have I14 := hW.2.2.2.2.2.2.2.2.2; simp only [puts, Act.put, List.setIfInBounds_toArray, List.set_cons_zero, List.set_cons_succ, Nat.zero_add, Nat.reduceAdd] at hK ⊢; have e9 : vs 9 = _ := hd 9 (by kernel_rfl); clear hd hold; simp only [e9] at hK; go_simp; exact hK.out rfl _ _ (Below.refl _ _) rfl
                    · intro vs W hW hW0 hd hne hold K hK hA hL; clear hne hA hL; have hB := hW.1; have t15 := hW.2.1; have t11 := hW.2.2.1; have t12 := hW.2.2.2.1; have t13 := hW.2.2.2.2.1; have t14 := hW.2.2.2.2.2.1; have I11 := hW.2.2.2.2.2.2.1; have I12 := hW.2.2.2.2.2.2.2.1; have I13 := hW.2.2.2.2.2.2.2.2.1; have I14 := hW.2.2.2.2.2.2.2.2.2; simp only [puts, Act.put, List.setIfInBounds_toArray, List.set_cons_zero, List.set_cons_succ, Nat.zero_add, Nat.reduceAdd] at hK ⊢; have e10 : vs 10 = _ := hd 10 (by kernel_rfl); clear hd hold; simp only [e10] at hK; go_simp; exact hK.out rfl _ _ (Below.refl _ _) rfl
                    · intro vs W hW hW0 hd hne hold K hK hA hL; clear hne hA hL; have hB := hW.1; have t15 := hW.2.1; have t11 := hW.2.2.1; have t12 := hW.2.2.2.1; have t13 := hW.2.2.2.2.1; have t14 := hW.2.2.2.2.2.1; have I11 := hW.2.2.2.2.2.2.1; have I12 := hW.2.2.2.2.2.2.2.1; have I13 := hW.2.2.2.2.2.2.2.2.1; have I14 := hW.2.2.2.2.2.2.2.2.2; simp only [puts, Act.put, List.setIfInBounds_toArray, List.set_cons_zero, List.set_cons_succ, Nat.zero_add, Nat.reduceAdd] at hK ⊢; have e10 : vs 10 = _ := hd 10 (by kernel_rfl); clear hd hold; simp only [e10] at hK; go_simp; exact hK.out rfl _ _ (Below.refl _ _) rfl
                    · intro vs W hW hW0 hd hne hold K hK hA hL; clear hne hA hL; have hB := hW.1; have t15 := hW.2.1; have t11 := hW.2.2.1; have t12 := hW.2.2.2.1; have t13 := hW.2.2.2.2.1; have t14 := hW.2.2.2.2.2.1; have I11 := hW.2.2.2.2.2.2.1; have I12 := hW.2.2.2.2.2.2.2.1; have I13 := hW.2.2.2.2.2.2.2.2.1; have I14 := hW.2.2.2.2.2.2.2.2.2; simp only [puts, Act.put, List.setIfInBounds_toArray, List.set_cons_zero, List.set_cons_succ, Nat.zero_add, Nat.reduceAdd] at hK ⊢; have e10 : vs 10 = _ := hd 10 (by kernel_rfl); clear hd hold; simp only [e10] at hK; go_simp; exact hK.out rfl _ _ (Below.refl _ _) rfl
                    · intro vs W hW hW0 hd hne hold K hK hA hL; clear hne hA hL; have hB := hW.1; have t15 := hW.2.1; have t11 := hW.2.2.1; have t12 := hW.2.2.2.1; have t13 := hW.2.2.2.2.1; have t14 := hW.2.2.2.2.2.1; have I11 := hW.2.2.2.2.2.2.1; have I12 := hW.2.2.2.2.2.2.2.1; have I13 := hW.2.2.2.2.2.2.2.2.1; have I14 := hW.2.2.2.2.2.2.2.2.2; simp only [puts, Act.put, List.setIfInBounds_toArray, List.set_cons_zero, List.set_cons_succ, Nat.zero_add, Nat.reduceAdd] at hK ⊢; have e11 : vs 11 = _ := hd 11 (by kernel_rfl); clear hd hold; simp only [e11] at hK; go_simp; exact hK.out rfl _ _ (Below.refl _ _) rfl
                    · intro vs W hW hW0 hd hne hold K hK hA hL; clear hne hA hL; have hB := hW.1; have t15 := hW.2.1; have t11 := hW.2.2.1; have t12 := hW.2.2.2.1; have t13 := hW.2.2.2.2.1; have t14 := hW.2.2.2.2.2.1; have I11 := hW.2.2.2.2.2.2.1; have I12 := hW.2.2.2.2.2.2.2.1; have I13 := hW.2.2.2.2.2.2.2.2.1; have I14 := hW.2.2.2.2.2.2.2.2.2; simp only [puts, Act.put, List.setIfInBounds_toArray, List.set_cons_zero, List.set_cons_succ, Nat.zero_add, Nat.reduceAdd] at hK ⊢; have e12 : vs 12 = _ := hd 12 (by kernel_rfl); clear hd hold; simp only [e12] at hK; go_simp; exact hK.out rfl _ _ (Below.refl _ _) rfl
                    · intro vs W hW hW0 hd hne hold K hK hA hL; clear hne hA hL; have hB := hW.1; have t15 := hW.2.1; have t11 := hW.2.2.1; have t12 := hW.2.2.2.1; have t13 := hW.2.2.2.2.1; have t14 := hW.2.2.2.2.2.1; have I11 := hW.2.2.2.2.2.2.1; have I12 := hW.2.2.2.2.2.2.2.1; have I13 := hW.2.2.2.2.2.2.2.2.1; have I14 := hW.2.2.2.2.2.2.2.2.2; simp only [puts, Act.put, List.setIfInBounds_toArray, List.set_cons_zero, List.set_cons_succ, Nat.zero_add, Nat.reduceAdd] at hK ⊢; have e13 : vs 13 = _ := hd 13 (by kernel_rfl); clear hd hold; simp only [e13] at hK; go_simp; exact hK.out rfl _ _ (Below.refl _ _) rfl
                  · intro vd WD hW hV _
                    clear hB t15
                    obtain ⟨hB, t15, _⟩ := hW
                    have e14 : vd 14 = .int .i64 v1 := hV 14 (by decide)
                    have e15 : vd 15 = .int .i64 v2 := hV 15 (by decide)
                    have e16 : vd 16 = .bool k := hV 16 (by decide)
                    clear hV
                    simp only [puts, Act.put, List.setIfInBounds_toArray, List.set_cons_zero, List.set_cons_succ, Nat.zero_add, Nat.reduceAdd, e14, e15, e16]
                    refine hK3 _ _ ?_
                    clear hK3 e14 e15 e16
                    have ep1 := EP1.out
                    have ep2 := EP2.out
                    have ef := EF.out
                    clear EP1 EP2 EF
                    cases k
                    · obtain rfl : p1 = 0 := ep1.symm
                      obtain rfl : p2 = 0 := ep2.symm
                      obtain rfl : f = 2 := ef.symm
                      clear ep1 ep2 ef
                      have c0 := t15.cell 0 _ rfl
                      have c1 := t15.cell 1 _ rfl
                      go_wp2_with fail
                      go_ret
                      exact ⟨rfl, hB⟩
                    · obtain rfl : p1 = v1 := ep1.symm
                      obtain rfl : p2 = v2 := ep2.symm
                      obtain rfl : f = 0 := ef.symm
                      clear ep1 ep2 ef
                      have c0 := t15.cell 0 _ rfl
                      have c1 := t15.cell 1 _ rfl
                      go_wp2_with fail
                      go_ret
                      exact ⟨rfl, hB⟩
          · have hb1 : (E2 != 0) = true := by simp [hE2]
            subst hE1
            clear HTB HCB HZ1 HZ2 hE2
            go_wp2_with fail
            go_ret
            exact ⟨rfl, S.1⟩
        · have hb1 : (E1 != 0) = true := by simp [hE1]
          clear HTB HCB HZ1 HZ2 hE1
          go_wp2_with fail
          go_ret
          exact ⟨rfl, S.1⟩
end Go.Proofs.Ythffphcgkmjhbaa
