/-
  The statement SizingLimits.
-/
import Derived.Test.YthffphcgkmjhbaaSizF
namespace Go.Proofs.Ythffphcgkmjhbaa
open Go.RowKit
set_option linter.unusedSimpArgs false
set_option linter.unusedVariables false

set_option maxRecDepth 100000 in
set_option maxHeartbeats 3200000 in
theorem law_limits (k0 N0 k1 N1 base num den edges : Int) (known whole : Bool) (n : Int) (hN0 : IFit N0) (hN1 : IFit N1) (hb : IFit base) (hp : IFit num) (hq : IFit den) (he : IFit edges) (w : World) :
    Calls Try.prog 22 #[.agg #[.int .i64 k0, .int .i64 N0, .int .i64 k1, .int .i64 N1], .agg #[.int .i64 base, .int .i64 num, .int .i64 den, .int .i64 edges, .bool known, .bool whole], .int .i64 n] w fun e w' => e = .returned (.bool true) ∧ Below w.heap.size w w' := by
  have hmf : ∀ (fn : Fn) (first cap : Array Value) (w : World), (Instr.makeFunc fn first cap).run Try.prog w = .ok (.func fn first cap) w := fun _ _ _ _ => rfl
  have TD := fun W => law_told base num den edges known whole W
  have S1 := fun W => siz_of k0 N0 base known num den (toldS whole) edges hN0 hb hp hq he W
  have S2 := fun W => siz_of k1 N1 base known num den (toldS whole) edges hN1 hb hp hq he W
  have R1 := fun W => ref14_of k0 N0 base known num den whole edges hN0 hb hp hq he W
  have R2 := fun W => ref14_of k1 N1 base known num den whole edges hN1 hb hp hq he W
  have et : (toldS whole == 2) = whole := by cases whole <;> rfl
  rw [et] at S1 S2
  have hz1 := @ofR_err k0 N0 base known num den whole edges
  have hz2 := @ofR_err k1 N1 base known num den whole edges
  unfold Ans3 at R1 R2
  obtain ⟨r1, er1⟩ : ∃ r, ofR k0 N0 base known num den whole edges = r := ⟨_, rfl⟩
  obtain ⟨r2, er2⟩ : ∃ r, ofR k1 N1 base known num den whole edges = r := ⟨_, rfl⟩
  rw [er1] at S1 R1 hz1
  rw [er2] at S2 R2 hz2
  obtain ⟨n1, ok1, c1⟩ := r1
  obtain ⟨n2, ok2, c2⟩ := r2
  dsimp only at S1 R1 hz1 S2 R2 hz2
  obtain ⟨s, es⟩ : ∃ s, toldS whole = s := ⟨_, rfl⟩
  rw [es] at TD S1 S2
  have BT := fun W => siz_between k0 N0 k1 N1 base known num den s edges W n1 n2 ok1 ok2 c1 c2 S1 S2
  obtain ⟨c, ec⟩ : ∃ c, (if c1 = 0 then c2 else c1) = c := ⟨_, rfl⟩
  have hcz : c = 0 ↔ c1 = 0 ∧ c2 = 0 := by
    rw [← ec]
    by_cases h : c1 = 0
    · rw [if_pos h]; exact ⟨fun x => ⟨h, x⟩, fun x => x.2⟩
    · rw [if_neg h]; exact ⟨fun x => absurd x h, fun x => absurd x.1 h⟩
  have BT2 : ∀ W, Calls Try.prog 91 #[.agg #[.int .i64 k0, .int .i64 N0], .agg #[.int .i64 k1, .int .i64 N1], .agg #[.int .i64 base, .bool known, .int .i64 num, .int .i64 den, .int .i64 s, .int .i64 edges]] W fun e w' =>
      (c = 0 → e = .returned (.agg #[.int .i64 n1, .int .i64 n2, .bool ok2])) ∧ (c ≠ 0 → e = .panicked (gave c)) ∧ Below W.heap.size W w' := fun W => (BT W).mono fun e w' h =>
    ⟨fun hc => h.1 (hcz.1 hc), fun hc => by rw [← ec]; exact h.2.1 (fun x => hc (hcz.2 x)), h.2.2⟩
  obtain ⟨g, eg⟩ : ∃ g, limN n1 n2 ok2 n = g := ⟨_, rfl⟩
  have LO := fun W => lim_of n1 n2 ok2 n W
  have WI : ∀ W, Calls Try.prog 93 #[.int .i64 n, .int .i64 n1, .int .i64 n2, .bool ok2] W fun e w' => e = .returned (.int .i64 (limN n1 n2 ok2 n)) ∧ Below W.heap.size W w' := fun W => (ref14_within n n1 n2 ok2 W).mono fun e w' h => ⟨h.1, by rw [h.2]; exact Below.refl _ _⟩
  rw [eg] at LO WI
  have T1 := fun bv ba bl bn bg W (h1 : Blk W bv #[.int .i64 k0, .int .i64 N0, .int .i64 k1, .int .i64 N1] 129) (h2 : Blk W ba #[.int .i64 base, .bool known, .int .i64 num, .int .i64 den, .int .i64 s, .int .i64 edges] 101)
      (h3 : Blk W bl #[.int .i64 0, .int .i64 0, .bool false] 131) (h4 : Blk W bn #[.int .i64 n] 2) (h5 : Blk W bg #[.int .i64 0] 2) (hne : bl ≠ bg) (hne2 : bn ≠ bl) =>
    try_blks 90 #[.pointer (some ⟨bv, 0, none⟩), .pointer (some ⟨ba, 0, none⟩), .pointer (some ⟨bl, 0, none⟩), .pointer (some ⟨bn, 0, none⟩), .pointer (some ⟨bg, 0, none⟩)] c
      [(bl, if c = 0 then #[.int .i64 n1, .int .i64 n2, .bool ok2] else #[.int .i64 0, .int .i64 0, .bool false], 131), (bg, if c = 0 then #[.int .i64 g] else #[.int .i64 0], 2)] W
      (by intro e he; simp at he; rcases he with rfl | rfl; exact h3.lt; exact h5.lt) (fun w => enters_of Try.func90 (by kernel_rfl) rfl _ w)
      (fun W' hb => sizlim1 k0 N0 k1 N1 base known num den s edges n n1 n2 g ok2 c bv ba bl bn bg W' BT2 LO (h1.below hb) (h2.below hb) (h3.below hb) (h4.below hb) (h5.below hb) hne hne2)
  obtain ⟨v1, ev1⟩ : ∃ v : Array Value, (if c = 0 then #[.int .i64 n1, .int .i64 n2, .bool ok2] else #[.int .i64 0, .int .i64 0, .bool false]) = v := ⟨_, rfl⟩
  obtain ⟨v2, ev2⟩ : ∃ v : Array Value, (if c = 0 then #[.int .i64 g] else #[.int .i64 0]) = v := ⟨_, rfl⟩
  rw [ev1, ev2] at T1
  have EC := Lib.hid ec
  have EV1 := Lib.hid ev1
  have EV2 := Lib.hid ev2
  clear es er1 er2 et hN0 hN1 hb hp hq he hz1 hz2 S1 S2 BT BT2 LO eg hcz ec ev1 ev2
  have h1 := ((Blk.new w #[.int .i64 k0, .int .i64 N0, .int .i64 k1, .int .i64 N1] 129 _ rfl).alloc (.cells #[.int .i64 base, .int .i64 num, .int .i64 den, .int .i64 edges, .bool known, .bool whole] 99)).alloc (.cells #[.int .i64 n] 2)
  have h2 := (Blk.new (w.alloc (.cells #[.int .i64 k0, .int .i64 N0, .int .i64 k1, .int .i64 N1] 129)) #[.int .i64 base, .int .i64 num, .int .i64 den, .int .i64 edges, .bool known, .bool whole] 99 (w.heap.size + 1) (by simp)).alloc (.cells #[.int .i64 n] 2)
  have h3 := Blk.new ((w.alloc (.cells #[.int .i64 k0, .int .i64 N0, .int .i64 k1, .int .i64 N1] 129)).alloc (.cells #[.int .i64 base, .int .i64 num, .int .i64 den, .int .i64 edges, .bool known, .bool whole] 99)) #[.int .i64 n] 2 (w.heap.size + 1 + 1) (by simp)
  have hB : Below w.heap.size w (((w.alloc (.cells #[.int .i64 k0, .int .i64 N0, .int .i64 k1, .int .i64 N1] 129)).alloc (.cells #[.int .i64 base, .int .i64 num, .int .i64 den, .int .i64 edges, .bool known, .bool whole] 99)).alloc (.cells #[.int .i64 n] 2)) := (by repeat' (first | (with_reducible exact Below.refl _ _) | (with_reducible assumption) | (with_reducible refine below_alloc ?_ _ ?_) | (with_reducible refine below_set _ ?_ ?_) | (with_reducible refine Below.drew ?_) | (with_reducible refine below_dN ?_ _) | (apply below_thenA; assumption) | omega | (simp; done) | (simp; omega) | (simp [*]; done)))
  go_enter Try.func22, Try.ntmps22
  go_wp2_with fail
  refine (speaks14 _).mono ?_
  rintro e w1 ⟨rfl, hb1⟩
  have hw1 : w.heap.size + 3 ≤ w1.heap.size := by have := hb1.size; simp at this; omega
  replace h1 := h1.below hb1
  replace h2 := h2.below hb1
  replace h3 := h3.below hb1
  replace hB := hB.trans (hb1.mono hB.size)
  clear hb1
  have c0 := h2.cell 0 _ rfl
  have c1' := h2.cell 1 _ rfl
  have c2' := h2.cell 2 _ rfl
  have c3 := h2.cell 3 _ rfl
  have c4 := h2.cell 4 _ rfl
  have c5 := h2.cell 5 _ rfl
  go_wp2_with fail
  refine (TD _).mono ?_
  rintro e w2 ⟨rfl, hb2⟩
  have hw2 := hb2.size
  replace h1 := h1.below hb2
  replace h3 := h3.below hb2
  replace hB := hB.trans (hb2.mono hB.size)
  clear hb2 c0 c1' c2' c3 c4 c5 h2 TD
  have h5 := (((Blk.new w2 #[.int .i64 base, .bool known, .int .i64 num, .int .i64 den, .int .i64 s, .int .i64 edges] 101 _ rfl).alloc (.cells #[.int .i64 base, .bool known, .int .i64 num, .int .i64 den, .bool whole, .int .i64 edges] 103)).alloc (.cells #[.int .i64 0, .int .i64 0, .bool false] 131)).alloc (.cells #[.int .i64 0] 2)
  have h6 := ((Blk.new (w2.alloc (.cells #[.int .i64 base, .bool known, .int .i64 num, .int .i64 den, .int .i64 s, .int .i64 edges] 101)) #[.int .i64 base, .bool known, .int .i64 num, .int .i64 den, .bool whole, .int .i64 edges] 103 (w2.heap.size + 1) (by simp)).alloc (.cells #[.int .i64 0, .int .i64 0, .bool false] 131)).alloc (.cells #[.int .i64 0] 2)
  have h7 := (Blk.new ((w2.alloc (.cells #[.int .i64 base, .bool known, .int .i64 num, .int .i64 den, .int .i64 s, .int .i64 edges] 101)).alloc (.cells #[.int .i64 base, .bool known, .int .i64 num, .int .i64 den, .bool whole, .int .i64 edges] 103)) #[.int .i64 0, .int .i64 0, .bool false] 131 (w2.heap.size + 1 + 1) (by simp)).alloc (.cells #[.int .i64 0] 2)
  have h8 := Blk.new (((w2.alloc (.cells #[.int .i64 base, .bool known, .int .i64 num, .int .i64 den, .int .i64 s, .int .i64 edges] 101)).alloc (.cells #[.int .i64 base, .bool known, .int .i64 num, .int .i64 den, .bool whole, .int .i64 edges] 103)).alloc (.cells #[.int .i64 0, .int .i64 0, .bool false] 131)) #[.int .i64 0] 2 (w2.heap.size + 1 + 1 + 1) (by simp)
  have hz2 := hB.size
  have hbx : Below w2.heap.size w2 ((((w2.alloc (.cells #[.int .i64 base, .bool known, .int .i64 num, .int .i64 den, .int .i64 s, .int .i64 edges] 101)).alloc (.cells #[.int .i64 base, .bool known, .int .i64 num, .int .i64 den, .bool whole, .int .i64 edges] 103)).alloc (.cells #[.int .i64 0, .int .i64 0, .bool false] 131)).alloc (.cells #[.int .i64 0] 2)) := (by repeat' (first | (with_reducible exact Below.refl _ _) | (with_reducible assumption) | (with_reducible refine below_alloc ?_ _ ?_) | (with_reducible refine below_set _ ?_ ?_) | (with_reducible refine Below.drew ?_) | (with_reducible refine below_dN ?_ _) | (apply below_thenA; assumption) | omega | (simp; done) | (simp; omega) | (simp [*]; done)))
  replace h1 := h1.below hbx
  replace h3 := h3.below hbx
  replace hB := hB.trans (hbx.mono hB.size)
  clear hbx
  go_wp2_with fail
  refine (T1 _ _ _ _ _ _ h1 h5 h7 h3 h8 (by omega) (by omega)).mono ?_
  rintro e w3 ⟨rfl, hl, hbut⟩
  have g7 : Blk w3 (w2.heap.size + 1 + 1) v1 131 := hl (w2.heap.size + 1 + 1, v1, 131) (by simp)
  have g8 : Blk w3 (w2.heap.size + 1 + 1 + 1) v2 2 := hl (w2.heap.size + 1 + 1 + 1, v2, 2) (by simp)
  replace h1 := h1.butl hbut (by simp; omega)
  replace h3 := h3.butl hbut (by simp; omega)
  replace h6 := h6.butl hbut (by simp)
  replace hB := hbut.to hB (by intro b hb; simp at hb; rcases hb with rfl | rfl <;> omega) hB.size
  clear hl hbut h7 h8 h5 T1
  have a0 := h1.cell 0 _ rfl
  have a1 := h1.cell 1 _ rfl
  have d0 := h6.cell 0 _ rfl
  have d1 := h6.cell 1 _ rfl
  have d2 := h6.cell 2 _ rfl
  have d3 := h6.cell 3 _ rfl
  have d4 := h6.cell 4 _ rfl
  have d5 := h6.cell 5 _ rfl
  go_wp2_with fail
  refine (R1 _).mono ?_
  rintro e w4 ⟨rfl, hb4⟩
  replace g7 := g7.below hb4
  replace g8 := g8.below hb4
  replace h1 := h1.below hb4
  replace h3 := h3.below hb4
  replace h6 := h6.below hb4
  replace hB := hB.trans (hb4.mono hB.size)
  clear a0 a1 d0 d1 d2 d3 d4 d5 hb4 R1
  have a0 := h1.cell 2 _ rfl
  have a1 := h1.cell 3 _ rfl
  have d0 := h6.cell 0 _ rfl
  have d1 := h6.cell 1 _ rfl
  have d2 := h6.cell 2 _ rfl
  have d3 := h6.cell 3 _ rfl
  have d4 := h6.cell 4 _ rfl
  have d5 := h6.cell 5 _ rfl
  go_wp2_with fail
  refine (R2 _).mono ?_
  rintro e w5 ⟨rfl, hb5⟩
  replace g7 := g7.below hb5
  replace g8 := g8.below hb5
  replace h3 := h3.below hb5
  replace hB := hB.trans (hb5.mono hB.size)
  clear a0 a1 d0 d1 d2 d3 d4 d5 hb5 R2 h1 h6
  have ec := EC.out
  by_cases hc1 : c1 = 0
  · subst hc1
    rw [if_pos rfl] at ec
    subst ec
    by_cases hc2 : c2 = 0
    · subst hc2
      have ev1 := EV1.out
      have ev2 := EV2.out
      rw [if_pos rfl] at ev1 ev2
      subst ev1 ev2
      clear EC EV1 EV2
      go_upto_region 11 with (fail)
      rename_i K0 hK0
      refine wp_region_calm (fun w' => Below w.heap.size w w' ∧ Blk w' (w2.heap.size + 1 + 1) #[.int .i64 n1, .int .i64 n2, .bool ok2] 131 ∧ Blk w' (w2.heap.size + 1 + 1 + 1) #[.int .i64 g] 2 ∧ Blk w' (w.heap.size + 1 + 1) #[.int .i64 n] 2) [] (fun w' => True) [Is (.int .i64 0), Is (.bool true), Is (.bool true), Is (.agg #[.int .i64 n1, .int .i64 n2, .bool ok2]), Is (.int .i64 n1), Is (.int .i64 n2), Is (.bool ok2), Is (.agg #[.int .i64 n1, .int .i64 n2, .bool ok2]), Is (.bool true), Is (.bool true), Is (.bool true), Is (.int .i64 g), Is (.int .i64 n), Is (.int .i64 n1), Is (.int .i64 n2), Is (.bool ok2), Is (.int .i64 g), Is (.bool true), Is (.bool true), Is (.bool true)] [] (by kernel_rfl) (by kernel_rfl) (by kernel_rfl) (by kernel_rfl) ⟨hB.drew, g7, g8, h3⟩ trivial ?_ ?_ ?_ ?_ ?_
      · rintro W W' ⟨hB, t1, t2, t3⟩ hb
        exact ⟨hB.trans (hb.mono hB.size), t1.below hb, t2.below hb, t3.below hb⟩
      · exact fun _ _ _ _ _ => trivial
      · intro k vs W hk h
        exact absurd hk (by simp)
      · intro Q; clear hK0 hB g7 g8 h3
        refine ⟨?_, ?_, ?_, ?_, ?_, ?_, ?_, ?_, ?_, ?_, ?_, ?_, ?_, ?_, ?_, ?_, ?_, ?_, ?_, ?_, trivial⟩
        · intro vs W hW hW0 hd hne hold K hK hA hL; clear hne hA hL; have hB := hW.1; have t1 := hW.2.1; have t2 := hW.2.2.1; have t3 := hW.2.2.2; simp only [puts, Act.put, List.setIfInBounds_toArray, List.set_cons_zero, List.set_cons_succ, Nat.zero_add, Nat.reduceAdd] at hK ⊢; clear hd hold; go_simp; exact hK.out rfl _ _ (Below.refl _ _) rfl
        · intro vs W hW hW0 hd hne hold K hK hA hL; clear hne hA hL; have hB := hW.1; have t1 := hW.2.1; have t2 := hW.2.2.1; have t3 := hW.2.2.2; simp only [puts, Act.put, List.setIfInBounds_toArray, List.set_cons_zero, List.set_cons_succ, Nat.zero_add, Nat.reduceAdd] at hK ⊢; have e0 : vs 0 = _ := hd 0 (by kernel_rfl); clear hd hold; simp only [e0] at hK; go_simp; exact hK.out rfl _ _ (Below.refl _ _) rfl
        · intro vs W hW hW0 hd hne hold K hK hA hL; clear hne hA hL; have hB := hW.1; have t1 := hW.2.1; have t2 := hW.2.2.1; have t3 := hW.2.2.2; simp only [puts, Act.put, List.setIfInBounds_toArray, List.set_cons_zero, List.set_cons_succ, Nat.zero_add, Nat.reduceAdd] at hK ⊢; have e1 : vs 1 = _ := hd 1 (by kernel_rfl); clear hd hold; simp only [e1] at hK; go_simp; exact hK.out rfl _ _ (Below.refl _ _) rfl
        · intro vs W hW hW0 hd hne hold K hK hA hL; clear hne hA hL; have hB := hW.1; have t1 := hW.2.1; have t2 := hW.2.2.1; have t3 := hW.2.2.2; simp only [puts, Act.put, List.setIfInBounds_toArray, List.set_cons_zero, List.set_cons_succ, Nat.zero_add, Nat.reduceAdd] at hK ⊢; have e2 : vs 2 = _ := hd 2 (by kernel_rfl); have q0 := t1.cell 0 _ rfl; have q1 := t1.cell 1 _ rfl; have q2 := t1.cell 2 _ rfl; clear hd hold; simp only [e2] at hK; go_simp; exact hK.out rfl _ _ (Below.refl _ _) rfl
        · intro vs W hW hW0 hd hne hold K hK hA hL; clear hne hA hL; have hB := hW.1; have t1 := hW.2.1; have t2 := hW.2.2.1; have t3 := hW.2.2.2; simp only [puts, Act.put, List.setIfInBounds_toArray, List.set_cons_zero, List.set_cons_succ, Nat.zero_add, Nat.reduceAdd] at hK ⊢; have e2 : vs 2 = _ := hd 2 (by kernel_rfl); clear hd hold; simp only [e2] at hK; go_simp; exact hK.out rfl _ _ (Below.refl _ _) rfl
        · intro vs W hW hW0 hd hne hold K hK hA hL; clear hne hA hL; have hB := hW.1; have t1 := hW.2.1; have t2 := hW.2.2.1; have t3 := hW.2.2.2; simp only [puts, Act.put, List.setIfInBounds_toArray, List.set_cons_zero, List.set_cons_succ, Nat.zero_add, Nat.reduceAdd] at hK ⊢; have e2 : vs 2 = _ := hd 2 (by kernel_rfl); clear hd hold; simp only [e2] at hK; go_simp; exact hK.out rfl _ _ (Below.refl _ _) rfl
        · intro vs W hW hW0 hd hne hold K hK hA hL; clear hne hA hL; have hB := hW.1; have t1 := hW.2.1; have t2 := hW.2.2.1; have t3 := hW.2.2.2; simp only [puts, Act.put, List.setIfInBounds_toArray, List.set_cons_zero, List.set_cons_succ, Nat.zero_add, Nat.reduceAdd] at hK ⊢; have e2 : vs 2 = _ := hd 2 (by kernel_rfl); clear hd hold; simp only [e2] at hK; go_simp; exact hK.out rfl _ _ (Below.refl _ _) rfl
        · intro vs W hW hW0 hd hne hold K hK hA hL; clear hne hA hL; have hB := hW.1; have t1 := hW.2.1; have t2 := hW.2.2.1; have t3 := hW.2.2.2; simp only [puts, Act.put, List.setIfInBounds_toArray, List.set_cons_zero, List.set_cons_succ, Nat.zero_add, Nat.reduceAdd] at hK ⊢; have e2 : vs 2 = _ := hd 2 (by kernel_rfl); have e4 : vs 4 = _ := hd 4 (by kernel_rfl); have e5 : vs 5 = _ := hd 5 (by kernel_rfl); have e6 : vs 6 = _ := hd 6 (by kernel_rfl); clear hd hold; simp only [e2, e4, e5, e6] at hK; go_simp; exact hK.out rfl _ _ (Below.refl _ _) rfl
        · intro vs W hW hW0 hd hne hold K hK hA hL; clear hne hA hL; have hB := hW.1; have t1 := hW.2.1; have t2 := hW.2.2.1; have t3 := hW.2.2.2; simp only [puts, Act.put, List.setIfInBounds_toArray, List.set_cons_zero, List.set_cons_succ, Nat.zero_add, Nat.reduceAdd] at hK ⊢; have e2 : vs 2 = _ := hd 2 (by kernel_rfl); have e3 : vs 3 = _ := hd 3 (by kernel_rfl); have e7 : vs 7 = _ := hd 7 (by kernel_rfl); clear hd hold; simp only [e2, e3, e7] at hK; go_simp; exact hK.out rfl _ _ (Below.refl _ _) rfl
        · intro vs W hW hW0 hd hne hold K hK hA hL; clear hne hA hL; have hB := hW.1; have t1 := hW.2.1; have t2 := hW.2.2.1; have t3 := hW.2.2.2; simp only [puts, Act.put, List.setIfInBounds_toArray, List.set_cons_zero, List.set_cons_succ, Nat.zero_add, Nat.reduceAdd] at hK ⊢; have e2 : vs 2 = _ := hd 2 (by kernel_rfl); have e8 : vs 8 = _ := hd 8 (by kernel_rfl); clear hd hold; simp only [e2, e8] at hK; go_simp; exact hK.out rfl _ _ (Below.refl _ _) rfl
        · intro vs W hW hW0 hd hne hold K hK hA hL; clear hne hA hL; have hB := hW.1; have t1 := hW.2.1; have t2 := hW.2.2.1; have t3 := hW.2.2.2; simp only [puts, Act.put, List.setIfInBounds_toArray, List.set_cons_zero, List.set_cons_succ, Nat.zero_add, Nat.reduceAdd] at hK ⊢; have e9 : vs 9 = _ := hd 9 (by kernel_rfl); clear hd hold; simp only [e9] at hK; go_simp; exact hK.out rfl _ _ (Below.refl _ _) rfl
        · intro vs W hW hW0 hd hne hold K hK hA hL; clear hne hA hL; have hB := hW.1; have t1 := hW.2.1; have t2 := hW.2.2.1; have t3 := hW.2.2.2; simp only [puts, Act.put, List.setIfInBounds_toArray, List.set_cons_zero, List.set_cons_succ, Nat.zero_add, Nat.reduceAdd] at hK ⊢; have e10 : vs 10 = _ := hd 10 (by kernel_rfl); have q0 := t2.cell 0 _ rfl; clear hd hold; simp only [e10] at hK; go_simp; exact hK.out rfl _ _ (Below.refl _ _) rfl
        · intro vs W hW hW0 hd hne hold K hK hA hL; clear hne hA hL; have hB := hW.1; have t1 := hW.2.1; have t2 := hW.2.2.1; have t3 := hW.2.2.2; simp only [puts, Act.put, List.setIfInBounds_toArray, List.set_cons_zero, List.set_cons_succ, Nat.zero_add, Nat.reduceAdd] at hK ⊢; have e10 : vs 10 = _ := hd 10 (by kernel_rfl); have q0 := t3.cell 0 _ rfl; clear hd hold; simp only [e10] at hK; go_simp; exact hK.out rfl _ _ (Below.refl _ _) rfl
        · intro vs W hW hW0 hd hne hold K hK hA hL; clear hne hA hL; have hB := hW.1; have t1 := hW.2.1; have t2 := hW.2.2.1; have t3 := hW.2.2.2; simp only [puts, Act.put, List.setIfInBounds_toArray, List.set_cons_zero, List.set_cons_succ, Nat.zero_add, Nat.reduceAdd] at hK ⊢; have e10 : vs 10 = _ := hd 10 (by kernel_rfl); clear hd hold; simp only [e10] at hK; go_simp; exact hK.out rfl _ _ (Below.refl _ _) rfl
        · intro vs W hW hW0 hd hne hold K hK hA hL; clear hne hA hL; have hB := hW.1; have t1 := hW.2.1; have t2 := hW.2.2.1; have t3 := hW.2.2.2; simp only [puts, Act.put, List.setIfInBounds_toArray, List.set_cons_zero, List.set_cons_succ, Nat.zero_add, Nat.reduceAdd] at hK ⊢; have e10 : vs 10 = _ := hd 10 (by kernel_rfl); clear hd hold; simp only [e10] at hK; go_simp; exact hK.out rfl _ _ (Below.refl _ _) rfl
        · intro vs W hW hW0 hd hne hold K hK hA hL; clear hne hA hL; have hB := hW.1; have t1 := hW.2.1; have t2 := hW.2.2.1; have t3 := hW.2.2.2; simp only [puts, Act.put, List.setIfInBounds_toArray, List.set_cons_zero, List.set_cons_succ, Nat.zero_add, Nat.reduceAdd] at hK ⊢; have e10 : vs 10 = _ := hd 10 (by kernel_rfl); clear hd hold; simp only [e10] at hK; go_simp; exact hK.out rfl _ _ (Below.refl _ _) rfl
        · intro vs W hW hW0 hd hne hold K hK hA hL; clear hne hA hL; have hB := hW.1; have t1 := hW.2.1; have t2 := hW.2.2.1; have t3 := hW.2.2.2; simp only [puts, Act.put, List.setIfInBounds_toArray, List.set_cons_zero, List.set_cons_succ, Nat.zero_add, Nat.reduceAdd] at hK ⊢; have ea : vs 10 = _ := hd 10 (by kernel_rfl); have eb : vs 12 = _ := hd 12 (by kernel_rfl); have ec : vs 13 = _ := hd 13 (by kernel_rfl); have ed : vs 14 = _ := hd 14 (by kernel_rfl); have ef : vs 15 = _ := hd 15 (by kernel_rfl); clear hd hold; simp only [ea, eb, ec, ed, ef] at hK; go_simp; refine (WI _).mono ?_; (rintro e wx ⟨rfl, hbx⟩); go_simp; exact hK.out rfl _ _ hbx rfl
        · intro vs W hW hW0 hd hne hold K hK hA hL; clear hne hA hL; have hB := hW.1; have t1 := hW.2.1; have t2 := hW.2.2.1; have t3 := hW.2.2.2; simp only [puts, Act.put, List.setIfInBounds_toArray, List.set_cons_zero, List.set_cons_succ, Nat.zero_add, Nat.reduceAdd] at hK ⊢; have e10 : vs 10 = _ := hd 10 (by kernel_rfl); have e11 : vs 11 = _ := hd 11 (by kernel_rfl); have e16 : vs 16 = _ := hd 16 (by kernel_rfl); clear hd hold; simp only [e10, e11, e16] at hK; go_simp; exact hK.out rfl _ _ (Below.refl _ _) rfl
        · intro vs W hW hW0 hd hne hold K hK hA hL; clear hne hA hL; have hB := hW.1; have t1 := hW.2.1; have t2 := hW.2.2.1; have t3 := hW.2.2.2; simp only [puts, Act.put, List.setIfInBounds_toArray, List.set_cons_zero, List.set_cons_succ, Nat.zero_add, Nat.reduceAdd] at hK ⊢; have e10 : vs 10 = _ := hd 10 (by kernel_rfl); have e17 : vs 17 = _ := hd 17 (by kernel_rfl); clear hd hold; simp only [e10, e17] at hK; go_simp; exact hK.out rfl _ _ (Below.refl _ _) rfl
        · intro vs W hW hW0 hd hne hold K hK hA hL; clear hne hA hL; have hB := hW.1; have t1 := hW.2.1; have t2 := hW.2.2.1; have t3 := hW.2.2.2; simp only [puts, Act.put, List.setIfInBounds_toArray, List.set_cons_zero, List.set_cons_succ, Nat.zero_add, Nat.reduceAdd] at hK ⊢; have e18 : vs 18 = _ := hd 18 (by kernel_rfl); clear hd hold; simp only [e18] at hK; go_simp; exact hK.out rfl _ _ (Below.refl _ _) rfl
      · intro va WA hW hV _
        obtain ⟨hB, _⟩ := hW
        have e19 : va 19 = .bool true := hV 19 (by decide)
        clear hV
        simp only [puts, Act.put, List.setIfInBounds_toArray, List.set_cons_zero, List.set_cons_succ, Nat.zero_add, Nat.reduceAdd, e19]
        refine hK0 _ _ ?_
        clear hK0
        go_wp2_with fail
        go_ret
        exact ⟨rfl, hB⟩
    · clear EC EV1 EV2
      go_wp2_with fail
      go_ret
      exact ⟨rfl, hB⟩
  · rw [if_neg hc1] at ec
    subst ec
    clear EC EV1 EV2
    go_wp2_with fail
    go_ret
    exact ⟨rfl, hB⟩
end Go.Proofs.Ythffphcgkmjhbaa
