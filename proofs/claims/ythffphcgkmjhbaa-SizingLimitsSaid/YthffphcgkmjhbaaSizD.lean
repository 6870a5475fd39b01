/-
  The reference of layer 14: Of, by its contract.
-/
import Derived.Test.YthffphcgkmjhbaaSizB
namespace Go.Proofs.Ythffphcgkmjhbaa
open Go.RowKit
set_option linter.unusedSimpArgs false
set_option linter.unusedVariables false

def Ans3 (r : Int × Bool × Int) (w : World) (e : Ending) (w' : World) : Prop := e = .returned (.tuple #[.int .i64 r.1, .bool r.2.1, .int .i64 r.2.2]) ∧ Below w.heap.size w w'
theorem inR_eq {kind N base p q : Int} (h : kind = 3 ∨ kind = 4) : inR kind N base p q = (inN kind N base p q, decide (inE kind N base p q = 0), inE kind N base p q) := by
  unfold inR inN inE
  rcases h with rfl | rfl
  · simp
  · simp
section
variable (N base p q edges : Int) (w : World)
set_option maxRecDepth 100000 in
set_option maxHeartbeats 1600000 in
theorem r14_other (kind : Int) (known whole : Bool) (h3 : (kind != 3) = true) (h4 : (kind != 4) = true) :
    Calls Try.prog 82 #[.agg #[.int .i64 kind, .int .i64 N], .agg #[.int .i64 base, .bool known, .int .i64 p, .int .i64 q, .bool whole, .int .i64 edges]] w (Ans3 (0, false, 0) w) := by
  have t1 := (Blk.new w #[.int .i64 kind, .int .i64 N] 110 _ rfl).alloc (.cells #[.int .i64 base, .bool known, .int .i64 p, .int .i64 q, .bool whole, .int .i64 edges] 103)
  have t2 := Blk.new (w.alloc (.cells #[.int .i64 kind, .int .i64 N] 110)) #[.int .i64 base, .bool known, .int .i64 p, .int .i64 q, .bool whole, .int .i64 edges] 103 (w.heap.size + 1) (by simp)
  have hB : Below w.heap.size w ((w.alloc (.cells #[.int .i64 kind, .int .i64 N] 110)).alloc (.cells #[.int .i64 base, .bool known, .int .i64 p, .int .i64 q, .bool whole, .int .i64 edges] 103)) := (by repeat' (first | (with_reducible exact Below.refl _ _) | (with_reducible assumption) | (with_reducible refine below_alloc ?_ _ ?_) | (with_reducible refine below_set _ ?_ ?_) | (with_reducible refine Below.drew ?_) | (with_reducible refine below_dN ?_ _) | (apply below_thenA; assumption) | omega | (simp; done) | (simp; omega) | (simp [*]; done)))
  have c0 := t1.cell 0 _ rfl
  have c1 := t1.cell 1 _ rfl
  have d0 := t2.cell 0 _ rfl
  have d1 := t2.cell 1 _ rfl
  have d2 := t2.cell 2 _ rfl
  have d3 := t2.cell 3 _ rfl
  go_enter Try.func82, Try.ntmps82
  go_wp2_with fail
  go_ret3
  exact ⟨rfl, hB⟩
set_option maxRecDepth 100000 in
set_option maxHeartbeats 1600000 in
theorem r14_unknown (whole : Bool) :
    Calls Try.prog 82 #[.agg #[.int .i64 4, .int .i64 N], .agg #[.int .i64 base, .bool false, .int .i64 p, .int .i64 q, .bool whole, .int .i64 edges]] w (Ans3 (0, false, 0) w) := by
  have t1 := (Blk.new w #[.int .i64 4, .int .i64 N] 110 _ rfl).alloc (.cells #[.int .i64 base, .bool false, .int .i64 p, .int .i64 q, .bool whole, .int .i64 edges] 103)
  have t2 := Blk.new (w.alloc (.cells #[.int .i64 4, .int .i64 N] 110)) #[.int .i64 base, .bool false, .int .i64 p, .int .i64 q, .bool whole, .int .i64 edges] 103 (w.heap.size + 1) (by simp)
  have hB : Below w.heap.size w ((w.alloc (.cells #[.int .i64 4, .int .i64 N] 110)).alloc (.cells #[.int .i64 base, .bool false, .int .i64 p, .int .i64 q, .bool whole, .int .i64 edges] 103)) := (by repeat' (first | (with_reducible exact Below.refl _ _) | (with_reducible assumption) | (with_reducible refine below_alloc ?_ _ ?_) | (with_reducible refine below_set _ ?_ ?_) | (with_reducible refine Below.drew ?_) | (with_reducible refine below_dN ?_ _) | (apply below_thenA; assumption) | omega | (simp; done) | (simp; omega) | (simp [*]; done)))
  have c0 := t1.cell 0 _ rfl
  have c1 := t1.cell 1 _ rfl
  have d0 := t2.cell 0 _ rfl
  have d1 := t2.cell 1 _ rfl
  have d2 := t2.cell 2 _ rfl
  have d3 := t2.cell 3 _ rfl
  go_enter Try.func82, Try.ntmps82
  go_wp2_with fail
  go_ret3
  exact ⟨rfl, hB⟩
set_option maxRecDepth 100000 in
set_option maxHeartbeats 1600000 in
theorem r14_err3 (known : Bool) (whole : Bool) (n c : Int) (ok : Bool) (PT : ∀ W, Calls Try.prog 122 #[.agg #[.int .i64 3, .int .i64 N], .int .i64 base, .int .i64 p, .int .i64 q] W fun e w' => e = .returned (.tuple #[.int .i64 n, .bool ok, .int .i64 c]) ∧ Below W.heap.size W w') (hc : (c != 0) = true) :
    Calls Try.prog 82 #[.agg #[.int .i64 3, .int .i64 N], .agg #[.int .i64 base, .bool known, .int .i64 p, .int .i64 q, .bool whole, .int .i64 edges]] w (Ans3 (0, false, c) w) := by
  have t1 := (Blk.new w #[.int .i64 3, .int .i64 N] 110 _ rfl).alloc (.cells #[.int .i64 base, .bool known, .int .i64 p, .int .i64 q, .bool whole, .int .i64 edges] 103)
  have t2 := Blk.new (w.alloc (.cells #[.int .i64 3, .int .i64 N] 110)) #[.int .i64 base, .bool known, .int .i64 p, .int .i64 q, .bool whole, .int .i64 edges] 103 (w.heap.size + 1) (by simp)
  have hB : Below w.heap.size w ((w.alloc (.cells #[.int .i64 3, .int .i64 N] 110)).alloc (.cells #[.int .i64 base, .bool known, .int .i64 p, .int .i64 q, .bool whole, .int .i64 edges] 103)) := (by repeat' (first | (with_reducible exact Below.refl _ _) | (with_reducible assumption) | (with_reducible refine below_alloc ?_ _ ?_) | (with_reducible refine below_set _ ?_ ?_) | (with_reducible refine Below.drew ?_) | (with_reducible refine below_dN ?_ _) | (apply below_thenA; assumption) | omega | (simp; done) | (simp; omega) | (simp [*]; done)))
  have c0 := t1.cell 0 _ rfl
  have c1 := t1.cell 1 _ rfl
  have d0 := t2.cell 0 _ rfl
  have d1 := t2.cell 1 _ rfl
  have d2 := t2.cell 2 _ rfl
  have d3 := t2.cell 3 _ rfl
  go_enter Try.func82, Try.ntmps82
  go_wp2_with fail
  refine (PT _).mono ?_
  rintro e w1 ⟨rfl, hb1⟩
  replace hB := hB.trans (hb1.mono hB.size)
  replace t2 := t2.below hb1
  clear c0 c1 d0 d1 d2 d3 t1 hb1 PT
  have d4 := t2.cell 4 _ rfl
  have d5 := t2.cell 5 _ rfl
  go_wp2_with fail
  go_ret3
  exact ⟨rfl, hB⟩
set_option maxRecDepth 100000 in
set_option maxHeartbeats 1600000 in
theorem r14_part3 (known : Bool) (n c : Int) (ok : Bool) (PT : ∀ W, Calls Try.prog 122 #[.agg #[.int .i64 3, .int .i64 N], .int .i64 base, .int .i64 p, .int .i64 q] W fun e w' => e = .returned (.tuple #[.int .i64 n, .bool ok, .int .i64 c]) ∧ Below W.heap.size W w') (hc : c = 0) :
    Calls Try.prog 82 #[.agg #[.int .i64 3, .int .i64 N], .agg #[.int .i64 base, .bool known, .int .i64 p, .int .i64 q, .bool false, .int .i64 edges]] w (Ans3 (max n 0, true, 0) w) := by
  subst hc
  have t1 := (Blk.new w #[.int .i64 3, .int .i64 N] 110 _ rfl).alloc (.cells #[.int .i64 base, .bool known, .int .i64 p, .int .i64 q, .bool false, .int .i64 edges] 103)
  have t2 := Blk.new (w.alloc (.cells #[.int .i64 3, .int .i64 N] 110)) #[.int .i64 base, .bool known, .int .i64 p, .int .i64 q, .bool false, .int .i64 edges] 103 (w.heap.size + 1) (by simp)
  have hB : Below w.heap.size w ((w.alloc (.cells #[.int .i64 3, .int .i64 N] 110)).alloc (.cells #[.int .i64 base, .bool known, .int .i64 p, .int .i64 q, .bool false, .int .i64 edges] 103)) := (by repeat' (first | (with_reducible exact Below.refl _ _) | (with_reducible assumption) | (with_reducible refine below_alloc ?_ _ ?_) | (with_reducible refine below_set _ ?_ ?_) | (with_reducible refine Below.drew ?_) | (with_reducible refine below_dN ?_ _) | (apply below_thenA; assumption) | omega | (simp; done) | (simp; omega) | (simp [*]; done)))
  have c0 := t1.cell 0 _ rfl
  have c1 := t1.cell 1 _ rfl
  have d0 := t2.cell 0 _ rfl
  have d1 := t2.cell 1 _ rfl
  have d2 := t2.cell 2 _ rfl
  have d3 := t2.cell 3 _ rfl
  by_cases hn : n < 0
  · have hn' : decide (n < 0) = true := by simp [hn]
    rw [show max n 0 = 0 by omega]
    clear hn
    go_enter Try.func82, Try.ntmps82
    go_wp2_with fail
    refine (PT _).mono ?_
    rintro e w1 ⟨rfl, hb1⟩
    replace hB := hB.trans (hb1.mono hB.size)
    replace t2 := t2.below hb1
    clear c0 c1 d0 d1 d2 d3 t1 hb1 PT
    have d4 := t2.cell 4 _ rfl
    have d5 := t2.cell 5 _ rfl
    go_wp2_with fail
    go_ret3
    exact ⟨rfl, hB⟩
  · have hn' : decide (n < 0) = false := by simp; omega
    rw [show max n 0 = n by omega]
    clear hn
    go_enter Try.func82, Try.ntmps82
    go_wp2_with fail
    refine (PT _).mono ?_
    rintro e w1 ⟨rfl, hb1⟩
    replace hB := hB.trans (hb1.mono hB.size)
    replace t2 := t2.below hb1
    clear c0 c1 d0 d1 d2 d3 t1 hb1 PT
    have d4 := t2.cell 4 _ rfl
    have d5 := t2.cell 5 _ rfl
    go_wp2_with fail
    go_ret3
    exact ⟨rfl, hB⟩
set_option maxRecDepth 100000 in
set_option maxHeartbeats 1600000 in
theorem r14_whole3 (known : Bool) (n c : Int) (ok : Bool) (PT : ∀ W, Calls Try.prog 122 #[.agg #[.int .i64 3, .int .i64 N], .int .i64 base, .int .i64 p, .int .i64 q] W fun e w' => e = .returned (.tuple #[.int .i64 n, .bool ok, .int .i64 c]) ∧ Below W.heap.size W w') (hc : c = 0) (hn : LenB n) (he : IFit edges) (r : Int × Bool × Int) (hr : r = if lenE (n - edges) ≠ 0 then (0, false, lenE (n - edges)) else (max (n - edges) 0, true, 0)) :
    Calls Try.prog 82 #[.agg #[.int .i64 3, .int .i64 N], .agg #[.int .i64 base, .bool known, .int .i64 p, .int .i64 q, .bool true, .int .i64 edges]] w (Ans3 r w) := by
  subst hc
  have n1 : -9223372036854775808 ≤ n := hn.fit.1
  have n2 : n ≤ 9223372036854775807 := hn.fit.2
  have e1 := he.1
  have e2 := he.2
  have sn := BM.Sz.i64 n1 n2
  have se := BM.Sz.i64 e1 e2
  have TL := fun neg ao k cap W h => told_n neg ao k cap (n + -edges) W h (BM.Sz.add sn se.neg) (by omega)
  rw [show n + -edges = n - edges by omega] at TL
  have hmf : lenE (n - edges) = 0 → lenN (n - edges) = n - edges := fun h => by
    unfold lenE at h; unfold lenN
    cases hl : lenB (n - edges)
    · rw [hl] at h; cases h
    · rfl
  obtain ⟨m, em⟩ : ∃ m, lenN (n - edges) = m := ⟨_, rfl⟩
  obtain ⟨f, ef⟩ : ∃ m, lenE (n - edges) = m := ⟨_, rfl⟩
  rw [em, ef] at TL hmf
  rw [ef] at hr
  rw [show n - edges = n + -edges by omega] at TL
  clear em ef hn he
  have t1 := (Blk.new w #[.int .i64 3, .int .i64 N] 110 _ rfl).alloc (.cells #[.int .i64 base, .bool known, .int .i64 p, .int .i64 q, .bool true, .int .i64 edges] 103)
  have t2 := Blk.new (w.alloc (.cells #[.int .i64 3, .int .i64 N] 110)) #[.int .i64 base, .bool known, .int .i64 p, .int .i64 q, .bool true, .int .i64 edges] 103 (w.heap.size + 1) (by simp)
  have hB : Below w.heap.size w ((w.alloc (.cells #[.int .i64 3, .int .i64 N] 110)).alloc (.cells #[.int .i64 base, .bool known, .int .i64 p, .int .i64 q, .bool true, .int .i64 edges] 103)) := (by repeat' (first | (with_reducible exact Below.refl _ _) | (with_reducible assumption) | (with_reducible refine below_alloc ?_ _ ?_) | (with_reducible refine below_set _ ?_ ?_) | (with_reducible refine Below.drew ?_) | (with_reducible refine below_dN ?_ _) | (apply below_thenA; assumption) | omega | (simp; done) | (simp; omega) | (simp [*]; done)))
  have c0 := t1.cell 0 _ rfl
  have c1 := t1.cell 1 _ rfl
  have d0 := t2.cell 0 _ rfl
  have d1 := t2.cell 1 _ rfl
  have d2 := t2.cell 2 _ rfl
  have d3 := t2.cell 3 _ rfl
  by_cases hf : f = 0
  · obtain rfl := hmf hf
    subst hf
    rw [if_neg (by decide)] at hr
    subst hr
    clear hmf
    go_enter Try.func82, Try.ntmps82
    go_wp2_with fail
    refine (PT _).mono ?_
    rintro e w1 ⟨rfl, hb1⟩
    replace hB := hB.trans (hb1.mono hB.size)
    replace t2 := t2.below hb1
    clear c0 c1 d0 d1 d2 d3 t1 hb1 PT
    have d4 := t2.cell 4 _ rfl
    have d5 := t2.cell 5 _ rfl
    go_upto_region 7 with (fail)
    rename_i K0 hK0
    refine wp_region_calm (fun w' => Below w.heap.size w w' ∧ Blk w' (w.heap.size + 1) #[.int .i64 base, .bool known, .int .i64 p, .int .i64 q, .bool true, .int .i64 edges] 103) [] (fun w' => True) [Is (.int .i64 n), bigC n, Is (.pointer (some ⟨w.heap.size + 1, 5, none⟩)), Is (.int .i64 edges), bigC edges, bigC (-edges), bigC (n + -edges), Is (.tuple #[.int .i64 (n - edges), .int .i64 0]), Is (.tuple #[.int .i64 (n - edges), .int .i64 0]), Is (.int .i64 (n - edges)), Is (.int .i64 0), Is (.int .i64 (n - edges)), Is (.int .i64 0)] [] (by kernel_rfl) (by kernel_rfl) (by kernel_rfl) (by kernel_rfl) ⟨hB.drew, t2⟩ trivial ?_ ?_ ?_ ?_ ?_
    · rintro W W' ⟨hB, t2⟩ hb
      exact ⟨hB.trans (hb.mono hB.size), t2.below hb⟩
    · exact fun _ _ _ _ _ => trivial
    · intro k vs W hk h
      exact absurd hk (by simp)
    · intro Q; clear hK0 hB t2 d4 d5
      refine ⟨?_, ?_, ?_, ?_, ?_, ?_, ?_, ?_, ?_, ?_, ?_, ?_, ?_, trivial⟩
      · intro vs W hW hW0 hd hne hold K hK hA hL; clear hne hA hL; have hB := hW.1; have t2 := hW.2; simp only [puts, Act.put, List.setIfInBounds_toArray, List.set_cons_zero, List.set_cons_succ, Nat.zero_add, Nat.reduceAdd] at hK ⊢; have e11 : vs 11 = _ := hold 11 (by kernel_rfl); clear hd hold; simp only [e11] at hK; go_simp; exact hK.out rfl _ _ (Below.refl _ _) rfl
      · intro vs W hW hW0 hd hne hold K hK hA hL; clear hne hA hL; have hB := hW.1; have t2 := hW.2; simp only [puts, Act.put, List.setIfInBounds_toArray, List.set_cons_zero, List.set_cons_succ, Nat.zero_add, Nat.reduceAdd] at hK ⊢; have eb : vs 0 = _ := hd 0 (by kernel_rfl); clear hd hold; simp only [eb] at hK; go_simp; refine (big_of n n1 n2 _).mono ?_; (rintro e wx ⟨f1, f2, f3, f4, rfl, If, hbx⟩); go_simp; exact hK.out rfl _ _ hbx ⟨f1, f2, f3, f4, rfl, If⟩
      · intro vs W hW hW0 hd hne hold K hK hA hL; clear hne hA hL; have hB := hW.1; have t2 := hW.2; simp only [puts, Act.put, List.setIfInBounds_toArray, List.set_cons_zero, List.set_cons_succ, Nat.zero_add, Nat.reduceAdd] at hK ⊢; clear hd hold; go_simp; exact hK.out rfl _ _ (Below.refl _ _) rfl
      · intro vs W hW hW0 hd hne hold K hK hA hL; clear hne hA hL; have hB := hW.1; have t2 := hW.2; simp only [puts, Act.put, List.setIfInBounds_toArray, List.set_cons_zero, List.set_cons_succ, Nat.zero_add, Nat.reduceAdd] at hK ⊢; have eb : vs 2 = _ := hd 2 (by kernel_rfl); have q1 := t2.cell 5 _ rfl; clear hd hold; simp only [eb] at hK; go_simp; exact hK.out rfl _ _ (Below.refl _ _) rfl
      · intro vs W hW hW0 hd hne hold K hK hA hL; clear hne hA hL; have hB := hW.1; have t2 := hW.2; simp only [puts, Act.put, List.setIfInBounds_toArray, List.set_cons_zero, List.set_cons_succ, Nat.zero_add, Nat.reduceAdd] at hK ⊢; have eb : vs 3 = _ := hd 3 (by kernel_rfl); clear hd hold; simp only [eb] at hK; go_simp; refine (big_of edges e1 e2 _).mono ?_; (rintro e wx ⟨f1, f2, f3, f4, rfl, If, hbx⟩); go_simp; exact hK.out rfl _ _ hbx ⟨f1, f2, f3, f4, rfl, If⟩
      · intro vs W hW hW0 hd hne hold K hK hA hL; clear hne hA hL; have hB := hW.1; have t2 := hW.2; simp only [puts, Act.put, List.setIfInBounds_toArray, List.set_cons_zero, List.set_cons_succ, Nat.zero_add, Nat.reduceAdd] at hK ⊢; (have hxc : BigV edges (vs 4) W := hd 4 (by kernel_rfl)); obtain ⟨c1, c2, c3, c4, ec, Ic⟩ := hxc; have k2 := Ic.le se; clear hd hold; simp only [ec] at hK; go_simp; refine (big_minus c1 c2 c3 c4 edges _ Ic (by omega)).mono ?_; (rintro e wx ⟨f1, f2, f3, f4, rfl, If, hbx⟩); go_simp; exact hK.out rfl _ _ hbx ⟨f1, f2, f3, f4, rfl, If⟩
      · intro vs W hW hW0 hd hne hold K hK hA hL; clear hne hA hL; have hB := hW.1; have t2 := hW.2; simp only [puts, Act.put, List.setIfInBounds_toArray, List.set_cons_zero, List.set_cons_succ, Nat.zero_add, Nat.reduceAdd] at hK ⊢; (have hxc : BigV n (vs 1) W := hd 1 (by kernel_rfl)); obtain ⟨c1, c2, c3, c4, ec, Ic⟩ := hxc; (have hxd : BigV (-edges) (vs 5) W := hd 5 (by kernel_rfl)); obtain ⟨d1, d2, d3, d4, ed, Id⟩ := hxd; have k2 := Ic.le sn; have k3 := Id.le se.neg; clear hd hold; simp only [ec, ed] at hK; go_simp; refine (big_plus c1 d1 c2 d2 c3 d3 c4 d4 n (-edges) _ Ic Id (by omega) (by omega)).mono ?_; (rintro e wx ⟨f1, f2, f3, f4, rfl, If, hbx⟩); go_simp; exact hK.out rfl _ _ hbx ⟨f1, f2, f3, f4, rfl, If⟩
      · intro vs W hW hW0 hd hne hold K hK hA hL; clear hne hA hL; have hB := hW.1; have t2 := hW.2; simp only [puts, Act.put, List.setIfInBounds_toArray, List.set_cons_zero, List.set_cons_succ, Nat.zero_add, Nat.reduceAdd] at hK ⊢; (have hxc : BigV (n + -edges) (vs 6) W := hd 6 (by kernel_rfl)); obtain ⟨c1, c2, c3, c4, ec, Ic⟩ := hxc; clear hd hold; simp only [ec] at hK; go_simp; refine (TL c1 c2 c3 c4 _ Ic).mono ?_; (rintro e wx ⟨rfl, hbx⟩); go_simp; exact hK.out rfl _ _ hbx rfl
      · intro vs W hW hW0 hd hne hold K hK hA hL; clear hne hA hL; have hB := hW.1; have t2 := hW.2; simp only [puts, Act.put, List.setIfInBounds_toArray, List.set_cons_zero, List.set_cons_succ, Nat.zero_add, Nat.reduceAdd] at hK ⊢; have e7 : vs 7 = _ := hd 7 (by kernel_rfl); clear hd hold; simp only [e7] at hK; go_simp; exact hK.out rfl _ _ (Below.refl _ _) rfl
      · intro vs W hW hW0 hd hne hold K hK hA hL; clear hne hA hL; have hB := hW.1; have t2 := hW.2; simp only [puts, Act.put, List.setIfInBounds_toArray, List.set_cons_zero, List.set_cons_succ, Nat.zero_add, Nat.reduceAdd] at hK ⊢; have e8 : vs 8 = _ := hd 8 (by kernel_rfl); clear hd hold; simp only [e8] at hK; go_simp; exact hK.out rfl _ _ (Below.refl _ _) rfl
      · intro vs W hW hW0 hd hne hold K hK hA hL; clear hne hA hL; have hB := hW.1; have t2 := hW.2; simp only [puts, Act.put, List.setIfInBounds_toArray, List.set_cons_zero, List.set_cons_succ, Nat.zero_add, Nat.reduceAdd] at hK ⊢; have e8 : vs 8 = _ := hd 8 (by kernel_rfl); clear hd hold; simp only [e8] at hK; go_simp; exact hK.out rfl _ _ (Below.refl _ _) rfl
      · intro vs W hW hW0 hd hne hold K hK hA hL; clear hne hA hL; have hB := hW.1; have t2 := hW.2; simp only [puts, Act.put, List.setIfInBounds_toArray, List.set_cons_zero, List.set_cons_succ, Nat.zero_add, Nat.reduceAdd] at hK ⊢; have e9 : vs 9 = _ := hd 9 (by kernel_rfl); clear hd hold; simp only [e9] at hK; go_simp; exact hK.out rfl _ _ (Below.refl _ _) rfl
      · intro vs W hW hW0 hd hne hold K hK hA hL; clear hne hA hL; have hB := hW.1; have t2 := hW.2; simp only [puts, Act.put, List.setIfInBounds_toArray, List.set_cons_zero, List.set_cons_succ, Nat.zero_add, Nat.reduceAdd] at hK ⊢; have e10 : vs 10 = _ := hd 10 (by kernel_rfl); clear hd hold; simp only [e10] at hK; go_simp; exact hK.out rfl _ _ (Below.refl _ _) rfl
    · intro va WA hW hV _
      obtain ⟨hB, t2⟩ := hW
      have e11 : va 11 = .int .i64 (n - edges) := hV 11 (by decide)
      have e12 : va 12 = .int .i64 0 := hV 12 (by decide)
      clear hV
      simp only [puts, Act.put, List.setIfInBounds_toArray, List.set_cons_zero, List.set_cons_succ, Nat.zero_add, Nat.reduceAdd, e11, e12]
      refine hK0 _ _ ?_
      clear hK0
      by_cases hn : n - edges < 0
      · have hn' : decide (n - edges < 0) = true := by simp [hn]
        have HM := Lib.hid (show max (n - edges) 0 = 0 by omega)
        clear hn
        go_wp2_with fail
        go_ret3
        exact ⟨by rw [HM.out]; rfl, hB⟩
      · have hn' : decide (n - edges < 0) = false := by simp; omega
        have HM := Lib.hid (show max (n - edges) 0 = n - edges by omega)
        clear hn
        go_wp2_with fail
        go_ret3
        exact ⟨by rw [HM.out]; rfl, hB⟩
  · rw [if_pos hf] at hr
    subst hr
    have hf' : (f != 0) = true := by simp [hf]
    clear hmf hf
    go_enter Try.func82, Try.ntmps82
    go_wp2_with fail
    refine (PT _).mono ?_
    rintro e w1 ⟨rfl, hb1⟩
    replace hB := hB.trans (hb1.mono hB.size)
    replace t2 := t2.below hb1
    clear c0 c1 d0 d1 d2 d3 t1 hb1 PT
    have d4 := t2.cell 4 _ rfl
    have d5 := t2.cell 5 _ rfl
    go_upto_region 7 with (fail)
    rename_i K0 hK0
    refine wp_region_calm (fun w' => Below w.heap.size w w' ∧ Blk w' (w.heap.size + 1) #[.int .i64 base, .bool known, .int .i64 p, .int .i64 q, .bool true, .int .i64 edges] 103) [] (fun w' => True) [Is (.int .i64 n), bigC n, Is (.pointer (some ⟨w.heap.size + 1, 5, none⟩)), Is (.int .i64 edges), bigC edges, bigC (-edges), bigC (n + -edges), Is (.tuple #[.int .i64 m, .int .i64 f]), Is (.tuple #[.int .i64 m, .int .i64 f]), Is (.int .i64 m), Is (.int .i64 f), Is (.int .i64 m), Is (.int .i64 f)] [] (by kernel_rfl) (by kernel_rfl) (by kernel_rfl) (by kernel_rfl) ⟨hB.drew, t2⟩ trivial ?_ ?_ ?_ ?_ ?_
    · rintro W W' ⟨hB, t2⟩ hb
      exact ⟨hB.trans (hb.mono hB.size), t2.below hb⟩
    · exact fun _ _ _ _ _ => trivial
    · intro k vs W hk h
      exact absurd hk (by simp)
    · intro Q; clear hK0 hB t2 d4 d5
      refine ⟨?_, ?_, ?_, ?_, ?_, ?_, ?_, ?_, ?_, ?_, ?_, ?_, ?_, trivial⟩
      · intro vs W hW hW0 hd hne hold K hK hA hL; clear hne hA hL; have hB := hW.1; have t2 := hW.2; simp only [puts, Act.put, List.setIfInBounds_toArray, List.set_cons_zero, List.set_cons_succ, Nat.zero_add, Nat.reduceAdd] at hK ⊢; have e11 : vs 11 = _ := hold 11 (by kernel_rfl); clear hd hold; simp only [e11] at hK; go_simp; exact hK.out rfl _ _ (Below.refl _ _) rfl
      · intro vs W hW hW0 hd hne hold K hK hA hL; clear hne hA hL; have hB := hW.1; have t2 := hW.2; simp only [puts, Act.put, List.setIfInBounds_toArray, List.set_cons_zero, List.set_cons_succ, Nat.zero_add, Nat.reduceAdd] at hK ⊢; have eb : vs 0 = _ := hd 0 (by kernel_rfl); clear hd hold; simp only [eb] at hK; go_simp; refine (big_of n n1 n2 _).mono ?_; (rintro e wx ⟨f1, f2, f3, f4, rfl, If, hbx⟩); go_simp; exact hK.out rfl _ _ hbx ⟨f1, f2, f3, f4, rfl, If⟩
      · intro vs W hW hW0 hd hne hold K hK hA hL; clear hne hA hL; have hB := hW.1; have t2 := hW.2; simp only [puts, Act.put, List.setIfInBounds_toArray, List.set_cons_zero, List.set_cons_succ, Nat.zero_add, Nat.reduceAdd] at hK ⊢; clear hd hold; go_simp; exact hK.out rfl _ _ (Below.refl _ _) rfl
      · intro vs W hW hW0 hd hne hold K hK hA hL; clear hne hA hL; have hB := hW.1; have t2 := hW.2; simp only [puts, Act.put, List.setIfInBounds_toArray, List.set_cons_zero, List.set_cons_succ, Nat.zero_add, Nat.reduceAdd] at hK ⊢; have eb : vs 2 = _ := hd 2 (by kernel_rfl); have q1 := t2.cell 5 _ rfl; clear hd hold; simp only [eb] at hK; go_simp; exact hK.out rfl _ _ (Below.refl _ _) rfl
      · intro vs W hW hW0 hd hne hold K hK hA hL; clear hne hA hL; have hB := hW.1; have t2 := hW.2; simp only [puts, Act.put, List.setIfInBounds_toArray, List.set_cons_zero, List.set_cons_succ, Nat.zero_add, Nat.reduceAdd] at hK ⊢; have eb : vs 3 = _ := hd 3 (by kernel_rfl); clear hd hold; simp only [eb] at hK; go_simp; refine (big_of edges e1 e2 _).mono ?_; (rintro e wx ⟨f1, f2, f3, f4, rfl, If, hbx⟩); go_simp; exact hK.out rfl _ _ hbx ⟨f1, f2, f3, f4, rfl, If⟩
      · intro vs W hW hW0 hd hne hold K hK hA hL; clear hne hA hL; have hB := hW.1; have t2 := hW.2; simp only [puts, Act.put, List.setIfInBounds_toArray, List.set_cons_zero, List.set_cons_succ, Nat.zero_add, Nat.reduceAdd] at hK ⊢; (have hxc : BigV edges (vs 4) W := hd 4 (by kernel_rfl)); obtain ⟨c1, c2, c3, c4, ec, Ic⟩ := hxc; have k2 := Ic.le se; clear hd hold; simp only [ec] at hK; go_simp; refine (big_minus c1 c2 c3 c4 edges _ Ic (by omega)).mono ?_; (rintro e wx ⟨f1, f2, f3, f4, rfl, If, hbx⟩); go_simp; exact hK.out rfl _ _ hbx ⟨f1, f2, f3, f4, rfl, If⟩
      · intro vs W hW hW0 hd hne hold K hK hA hL; clear hne hA hL; have hB := hW.1; have t2 := hW.2; simp only [puts, Act.put, List.setIfInBounds_toArray, List.set_cons_zero, List.set_cons_succ, Nat.zero_add, Nat.reduceAdd] at hK ⊢; (have hxc : BigV n (vs 1) W := hd 1 (by kernel_rfl)); obtain ⟨c1, c2, c3, c4, ec, Ic⟩ := hxc; (have hxd : BigV (-edges) (vs 5) W := hd 5 (by kernel_rfl)); obtain ⟨d1, d2, d3, d4, ed, Id⟩ := hxd; have k2 := Ic.le sn; have k3 := Id.le se.neg; clear hd hold; simp only [ec, ed] at hK; go_simp; refine (big_plus c1 d1 c2 d2 c3 d3 c4 d4 n (-edges) _ Ic Id (by omega) (by omega)).mono ?_; (rintro e wx ⟨f1, f2, f3, f4, rfl, If, hbx⟩); go_simp; exact hK.out rfl _ _ hbx ⟨f1, f2, f3, f4, rfl, If⟩
      · intro vs W hW hW0 hd hne hold K hK hA hL; clear hne hA hL; have hB := hW.1; have t2 := hW.2; simp only [puts, Act.put, List.setIfInBounds_toArray, List.set_cons_zero, List.set_cons_succ, Nat.zero_add, Nat.reduceAdd] at hK ⊢; (have hxc : BigV (n + -edges) (vs 6) W := hd 6 (by kernel_rfl)); obtain ⟨c1, c2, c3, c4, ec, Ic⟩ := hxc; clear hd hold; simp only [ec] at hK; go_simp; refine (TL c1 c2 c3 c4 _ Ic).mono ?_; (rintro e wx ⟨rfl, hbx⟩); go_simp; exact hK.out rfl _ _ hbx rfl
      · intro vs W hW hW0 hd hne hold K hK hA hL; clear hne hA hL; have hB := hW.1; have t2 := hW.2; simp only [puts, Act.put, List.setIfInBounds_toArray, List.set_cons_zero, List.set_cons_succ, Nat.zero_add, Nat.reduceAdd] at hK ⊢; have e7 : vs 7 = _ := hd 7 (by kernel_rfl); clear hd hold; simp only [e7] at hK; go_simp; exact hK.out rfl _ _ (Below.refl _ _) rfl
      · intro vs W hW hW0 hd hne hold K hK hA hL; clear hne hA hL; have hB := hW.1; have t2 := hW.2; simp only [puts, Act.put, List.setIfInBounds_toArray, List.set_cons_zero, List.set_cons_succ, Nat.zero_add, Nat.reduceAdd] at hK ⊢; have e8 : vs 8 = _ := hd 8 (by kernel_rfl); clear hd hold; simp only [e8] at hK; go_simp; exact hK.out rfl _ _ (Below.refl _ _) rfl
      · intro vs W hW hW0 hd hne hold K hK hA hL; clear hne hA hL; have hB := hW.1; have t2 := hW.2; simp only [puts, Act.put, List.setIfInBounds_toArray, List.set_cons_zero, List.set_cons_succ, Nat.zero_add, Nat.reduceAdd] at hK ⊢; have e8 : vs 8 = _ := hd 8 (by kernel_rfl); clear hd hold; simp only [e8] at hK; go_simp; exact hK.out rfl _ _ (Below.refl _ _) rfl
      · intro vs W hW hW0 hd hne hold K hK hA hL; clear hne hA hL; have hB := hW.1; have t2 := hW.2; simp only [puts, Act.put, List.setIfInBounds_toArray, List.set_cons_zero, List.set_cons_succ, Nat.zero_add, Nat.reduceAdd] at hK ⊢; have e9 : vs 9 = _ := hd 9 (by kernel_rfl); clear hd hold; simp only [e9] at hK; go_simp; exact hK.out rfl _ _ (Below.refl _ _) rfl
      · intro vs W hW hW0 hd hne hold K hK hA hL; clear hne hA hL; have hB := hW.1; have t2 := hW.2; simp only [puts, Act.put, List.setIfInBounds_toArray, List.set_cons_zero, List.set_cons_succ, Nat.zero_add, Nat.reduceAdd] at hK ⊢; have e10 : vs 10 = _ := hd 10 (by kernel_rfl); clear hd hold; simp only [e10] at hK; go_simp; exact hK.out rfl _ _ (Below.refl _ _) rfl
    · intro va WA hW hV _
      obtain ⟨hB, t2⟩ := hW
      have e11 : va 11 = .int .i64 m := hV 11 (by decide)
      have e12 : va 12 = .int .i64 f := hV 12 (by decide)
      clear hV
      simp only [puts, Act.put, List.setIfInBounds_toArray, List.set_cons_zero, List.set_cons_succ, Nat.zero_add, Nat.reduceAdd, e11, e12]
      refine hK0 _ _ ?_
      clear hK0
      go_wp2_with fail
      go_ret3
      exact ⟨rfl, hB⟩
set_option maxRecDepth 100000 in
set_option maxHeartbeats 1600000 in
theorem r14_err4 (whole : Bool) (n c : Int) (ok : Bool) (PT : ∀ W, Calls Try.prog 122 #[.agg #[.int .i64 4, .int .i64 N], .int .i64 base, .int .i64 p, .int .i64 q] W fun e w' => e = .returned (.tuple #[.int .i64 n, .bool ok, .int .i64 c]) ∧ Below W.heap.size W w') (hc : (c != 0) = true) :
    Calls Try.prog 82 #[.agg #[.int .i64 4, .int .i64 N], .agg #[.int .i64 base, .bool true, .int .i64 p, .int .i64 q, .bool whole, .int .i64 edges]] w (Ans3 (0, false, c) w) := by
  have t1 := (Blk.new w #[.int .i64 4, .int .i64 N] 110 _ rfl).alloc (.cells #[.int .i64 base, .bool true, .int .i64 p, .int .i64 q, .bool whole, .int .i64 edges] 103)
  have t2 := Blk.new (w.alloc (.cells #[.int .i64 4, .int .i64 N] 110)) #[.int .i64 base, .bool true, .int .i64 p, .int .i64 q, .bool whole, .int .i64 edges] 103 (w.heap.size + 1) (by simp)
  have hB : Below w.heap.size w ((w.alloc (.cells #[.int .i64 4, .int .i64 N] 110)).alloc (.cells #[.int .i64 base, .bool true, .int .i64 p, .int .i64 q, .bool whole, .int .i64 edges] 103)) := (by repeat' (first | (with_reducible exact Below.refl _ _) | (with_reducible assumption) | (with_reducible refine below_alloc ?_ _ ?_) | (with_reducible refine below_set _ ?_ ?_) | (with_reducible refine Below.drew ?_) | (with_reducible refine below_dN ?_ _) | (apply below_thenA; assumption) | omega | (simp; done) | (simp; omega) | (simp [*]; done)))
  have c0 := t1.cell 0 _ rfl
  have c1 := t1.cell 1 _ rfl
  have d0 := t2.cell 0 _ rfl
  have d1 := t2.cell 1 _ rfl
  have d2 := t2.cell 2 _ rfl
  have d3 := t2.cell 3 _ rfl
  go_enter Try.func82, Try.ntmps82
  go_wp2_with fail
  refine (PT _).mono ?_
  rintro e w1 ⟨rfl, hb1⟩
  replace hB := hB.trans (hb1.mono hB.size)
  replace t2 := t2.below hb1
  clear c0 c1 d0 d1 d2 d3 t1 hb1 PT
  have d4 := t2.cell 4 _ rfl
  have d5 := t2.cell 5 _ rfl
  go_wp2_with fail
  go_ret3
  exact ⟨rfl, hB⟩
set_option maxRecDepth 100000 in
set_option maxHeartbeats 1600000 in
theorem r14_part4 (n c : Int) (ok : Bool) (PT : ∀ W, Calls Try.prog 122 #[.agg #[.int .i64 4, .int .i64 N], .int .i64 base, .int .i64 p, .int .i64 q] W fun e w' => e = .returned (.tuple #[.int .i64 n, .bool ok, .int .i64 c]) ∧ Below W.heap.size W w') (hc : c = 0) :
    Calls Try.prog 82 #[.agg #[.int .i64 4, .int .i64 N], .agg #[.int .i64 base, .bool true, .int .i64 p, .int .i64 q, .bool false, .int .i64 edges]] w (Ans3 (max n 0, true, 0) w) := by
  subst hc
  have t1 := (Blk.new w #[.int .i64 4, .int .i64 N] 110 _ rfl).alloc (.cells #[.int .i64 base, .bool true, .int .i64 p, .int .i64 q, .bool false, .int .i64 edges] 103)
  have t2 := Blk.new (w.alloc (.cells #[.int .i64 4, .int .i64 N] 110)) #[.int .i64 base, .bool true, .int .i64 p, .int .i64 q, .bool false, .int .i64 edges] 103 (w.heap.size + 1) (by simp)
  have hB : Below w.heap.size w ((w.alloc (.cells #[.int .i64 4, .int .i64 N] 110)).alloc (.cells #[.int .i64 base, .bool true, .int .i64 p, .int .i64 q, .bool false, .int .i64 edges] 103)) := (by repeat' (first | (with_reducible exact Below.refl _ _) | (with_reducible assumption) | (with_reducible refine below_alloc ?_ _ ?_) | (with_reducible refine below_set _ ?_ ?_) | (with_reducible refine Below.drew ?_) | (with_reducible refine below_dN ?_ _) | (apply below_thenA; assumption) | omega | (simp; done) | (simp; omega) | (simp [*]; done)))
  have c0 := t1.cell 0 _ rfl
  have c1 := t1.cell 1 _ rfl
  have d0 := t2.cell 0 _ rfl
  have d1 := t2.cell 1 _ rfl
  have d2 := t2.cell 2 _ rfl
  have d3 := t2.cell 3 _ rfl
  by_cases hn : n < 0
  · have hn' : decide (n < 0) = true := by simp [hn]
    rw [show max n 0 = 0 by omega]
    clear hn
    go_enter Try.func82, Try.ntmps82
    go_wp2_with fail
    refine (PT _).mono ?_
    rintro e w1 ⟨rfl, hb1⟩
    replace hB := hB.trans (hb1.mono hB.size)
    replace t2 := t2.below hb1
    clear c0 c1 d0 d1 d2 d3 t1 hb1 PT
    have d4 := t2.cell 4 _ rfl
    have d5 := t2.cell 5 _ rfl
    go_wp2_with fail
    go_ret3
    exact ⟨rfl, hB⟩
  · have hn' : decide (n < 0) = false := by simp; omega
    rw [show max n 0 = n by omega]
    clear hn
    go_enter Try.func82, Try.ntmps82
    go_wp2_with fail
    refine (PT _).mono ?_
    rintro e w1 ⟨rfl, hb1⟩
    replace hB := hB.trans (hb1.mono hB.size)
    replace t2 := t2.below hb1
    clear c0 c1 d0 d1 d2 d3 t1 hb1 PT
    have d4 := t2.cell 4 _ rfl
    have d5 := t2.cell 5 _ rfl
    go_wp2_with fail
    go_ret3
    exact ⟨rfl, hB⟩
set_option maxRecDepth 100000 in
set_option maxHeartbeats 1600000 in
theorem r14_whole4 (n c : Int) (ok : Bool) (PT : ∀ W, Calls Try.prog 122 #[.agg #[.int .i64 4, .int .i64 N], .int .i64 base, .int .i64 p, .int .i64 q] W fun e w' => e = .returned (.tuple #[.int .i64 n, .bool ok, .int .i64 c]) ∧ Below W.heap.size W w') (hc : c = 0) (hn : LenB n) (he : IFit edges) (r : Int × Bool × Int) (hr : r = if lenE (n - edges) ≠ 0 then (0, false, lenE (n - edges)) else (max (n - edges) 0, true, 0)) :
    Calls Try.prog 82 #[.agg #[.int .i64 4, .int .i64 N], .agg #[.int .i64 base, .bool true, .int .i64 p, .int .i64 q, .bool true, .int .i64 edges]] w (Ans3 r w) := by
  subst hc
  have n1 : -9223372036854775808 ≤ n := hn.fit.1
  have n2 : n ≤ 9223372036854775807 := hn.fit.2
  have e1 := he.1
  have e2 := he.2
  have sn := BM.Sz.i64 n1 n2
  have se := BM.Sz.i64 e1 e2
  have TL := fun neg ao k cap W h => told_n neg ao k cap (n + -edges) W h (BM.Sz.add sn se.neg) (by omega)
  rw [show n + -edges = n - edges by omega] at TL
  have hmf : lenE (n - edges) = 0 → lenN (n - edges) = n - edges := fun h => by
    unfold lenE at h; unfold lenN
    cases hl : lenB (n - edges)
    · rw [hl] at h; cases h
    · rfl
  obtain ⟨m, em⟩ : ∃ m, lenN (n - edges) = m := ⟨_, rfl⟩
  obtain ⟨f, ef⟩ : ∃ m, lenE (n - edges) = m := ⟨_, rfl⟩
  rw [em, ef] at TL hmf
  rw [ef] at hr
  rw [show n - edges = n + -edges by omega] at TL
  clear em ef hn he
  have t1 := (Blk.new w #[.int .i64 4, .int .i64 N] 110 _ rfl).alloc (.cells #[.int .i64 base, .bool true, .int .i64 p, .int .i64 q, .bool true, .int .i64 edges] 103)
  have t2 := Blk.new (w.alloc (.cells #[.int .i64 4, .int .i64 N] 110)) #[.int .i64 base, .bool true, .int .i64 p, .int .i64 q, .bool true, .int .i64 edges] 103 (w.heap.size + 1) (by simp)
  have hB : Below w.heap.size w ((w.alloc (.cells #[.int .i64 4, .int .i64 N] 110)).alloc (.cells #[.int .i64 base, .bool true, .int .i64 p, .int .i64 q, .bool true, .int .i64 edges] 103)) := (by repeat' (first | (with_reducible exact Below.refl _ _) | (with_reducible assumption) | (with_reducible refine below_alloc ?_ _ ?_) | (with_reducible refine below_set _ ?_ ?_) | (with_reducible refine Below.drew ?_) | (with_reducible refine below_dN ?_ _) | (apply below_thenA; assumption) | omega | (simp; done) | (simp; omega) | (simp [*]; done)))
  have c0 := t1.cell 0 _ rfl
  have c1 := t1.cell 1 _ rfl
  have d0 := t2.cell 0 _ rfl
  have d1 := t2.cell 1 _ rfl
  have d2 := t2.cell 2 _ rfl
  have d3 := t2.cell 3 _ rfl
  by_cases hf : f = 0
  · obtain rfl := hmf hf
    subst hf
    rw [if_neg (by decide)] at hr
    subst hr
    clear hmf
    go_enter Try.func82, Try.ntmps82
    go_wp2_with fail
    refine (PT _).mono ?_
    rintro e w1 ⟨rfl, hb1⟩
    replace hB := hB.trans (hb1.mono hB.size)
    replace t2 := t2.below hb1
    clear c0 c1 d0 d1 d2 d3 t1 hb1 PT
    have d4 := t2.cell 4 _ rfl
    have d5 := t2.cell 5 _ rfl
    go_upto_region 7 with (fail)
    rename_i K0 hK0
    refine wp_region_calm (fun w' => Below w.heap.size w w' ∧ Blk w' (w.heap.size + 1) #[.int .i64 base, .bool true, .int .i64 p, .int .i64 q, .bool true, .int .i64 edges] 103) [] (fun w' => True) [Is (.int .i64 n), bigC n, Is (.pointer (some ⟨w.heap.size + 1, 5, none⟩)), Is (.int .i64 edges), bigC edges, bigC (-edges), bigC (n + -edges), Is (.tuple #[.int .i64 (n - edges), .int .i64 0]), Is (.tuple #[.int .i64 (n - edges), .int .i64 0]), Is (.int .i64 (n - edges)), Is (.int .i64 0), Is (.int .i64 (n - edges)), Is (.int .i64 0)] [] (by kernel_rfl) (by kernel_rfl) (by kernel_rfl) (by kernel_rfl) ⟨hB.drew, t2⟩ trivial ?_ ?_ ?_ ?_ ?_
    · rintro W W' ⟨hB, t2⟩ hb
      exact ⟨hB.trans (hb.mono hB.size), t2.below hb⟩
    · exact fun _ _ _ _ _ => trivial
    · intro k vs W hk h
      exact absurd hk (by simp)
    · intro Q; clear hK0 hB t2 d4 d5
      refine ⟨?_, ?_, ?_, ?_, ?_, ?_, ?_, ?_, ?_, ?_, ?_, ?_, ?_, trivial⟩
      · intro vs W hW hW0 hd hne hold K hK hA hL; clear hne hA hL; have hB := hW.1; have t2 := hW.2; simp only [puts, Act.put, List.setIfInBounds_toArray, List.set_cons_zero, List.set_cons_succ, Nat.zero_add, Nat.reduceAdd] at hK ⊢; have e11 : vs 11 = _ := hold 11 (by kernel_rfl); clear hd hold; simp only [e11] at hK; go_simp; exact hK.out rfl _ _ (Below.refl _ _) rfl
      · intro vs W hW hW0 hd hne hold K hK hA hL; clear hne hA hL; have hB := hW.1; have t2 := hW.2; simp only [puts, Act.put, List.setIfInBounds_toArray, List.set_cons_zero, List.set_cons_succ, Nat.zero_add, Nat.reduceAdd] at hK ⊢; have eb : vs 0 = _ := hd 0 (by kernel_rfl); clear hd hold; simp only [eb] at hK; go_simp; refine (big_of n n1 n2 _).mono ?_; (rintro e wx ⟨f1, f2, f3, f4, rfl, If, hbx⟩); go_simp; exact hK.out rfl _ _ hbx ⟨f1, f2, f3, f4, rfl, If⟩
      · intro vs W hW hW0 hd hne hold K hK hA hL; clear hne hA hL; have hB := hW.1; have t2 := hW.2; simp only [puts, Act.put, List.setIfInBounds_toArray, List.set_cons_zero, List.set_cons_succ, Nat.zero_add, Nat.reduceAdd] at hK ⊢; clear hd hold; go_simp; exact hK.out rfl _ _ (Below.refl _ _) rfl
      · intro vs W hW hW0 hd hne hold K hK hA hL; clear hne hA hL; have hB := hW.1; have t2 := hW.2; simp only [puts, Act.put, List.setIfInBounds_toArray, List.set_cons_zero, List.set_cons_succ, Nat.zero_add, Nat.reduceAdd] at hK ⊢; have eb : vs 2 = _ := hd 2 (by kernel_rfl); have q1 := t2.cell 5 _ rfl; clear hd hold; simp only [eb] at hK; go_simp; exact hK.out rfl _ _ (Below.refl _ _) rfl
      · intro vs W hW hW0 hd hne hold K hK hA hL; clear hne hA hL; have hB := hW.1; have t2 := hW.2; simp only [puts, Act.put, List.setIfInBounds_toArray, List.set_cons_zero, List.set_cons_succ, Nat.zero_add, Nat.reduceAdd] at hK ⊢; have eb : vs 3 = _ := hd 3 (by kernel_rfl); clear hd hold; simp only [eb] at hK; go_simp; refine (big_of edges e1 e2 _).mono ?_; (rintro e wx ⟨f1, f2, f3, f4, rfl, If, hbx⟩); go_simp; exact hK.out rfl _ _ hbx ⟨f1, f2, f3, f4, rfl, If⟩
      · intro vs W hW hW0 hd hne hold K hK hA hL; clear hne hA hL; have hB := hW.1; have t2 := hW.2; simp only [puts, Act.put, List.setIfInBounds_toArray, List.set_cons_zero, List.set_cons_succ, Nat.zero_add, Nat.reduceAdd] at hK ⊢; (have hxc : BigV edges (vs 4) W := hd 4 (by kernel_rfl)); obtain ⟨c1, c2, c3, c4, ec, Ic⟩ := hxc; have k2 := Ic.le se; clear hd hold; simp only [ec] at hK; go_simp; refine (big_minus c1 c2 c3 c4 edges _ Ic (by omega)).mono ?_; (rintro e wx ⟨f1, f2, f3, f4, rfl, If, hbx⟩); go_simp; exact hK.out rfl _ _ hbx ⟨f1, f2, f3, f4, rfl, If⟩
      · intro vs W hW hW0 hd hne hold K hK hA hL; clear hne hA hL; have hB := hW.1; have t2 := hW.2; simp only [puts, Act.put, List.setIfInBounds_toArray, List.set_cons_zero, List.set_cons_succ, Nat.zero_add, Nat.reduceAdd] at hK ⊢; (have hxc : BigV n (vs 1) W := hd 1 (by kernel_rfl)); obtain ⟨c1, c2, c3, c4, ec, Ic⟩ := hxc; (have hxd : BigV (-edges) (vs 5) W := hd 5 (by kernel_rfl)); obtain ⟨d1, d2, d3, d4, ed, Id⟩ := hxd; have k2 := Ic.le sn; have k3 := Id.le se.neg; clear hd hold; simp only [ec, ed] at hK; go_simp; refine (big_plus c1 d1 c2 d2 c3 d3 c4 d4 n (-edges) _ Ic Id (by omega) (by omega)).mono ?_; (rintro e wx ⟨f1, f2, f3, f4, rfl, If, hbx⟩); go_simp; exact hK.out rfl _ _ hbx ⟨f1, f2, f3, f4, rfl, If⟩
      · intro vs W hW hW0 hd hne hold K hK hA hL; clear hne hA hL; have hB := hW.1; have t2 := hW.2; simp only [puts, Act.put, List.setIfInBounds_toArray, List.set_cons_zero, List.set_cons_succ, Nat.zero_add, Nat.reduceAdd] at hK ⊢; (have hxc : BigV (n + -edges) (vs 6) W := hd 6 (by kernel_rfl)); obtain ⟨c1, c2, c3, c4, ec, Ic⟩ := hxc; clear hd hold; simp only [ec] at hK; go_simp; refine (TL c1 c2 c3 c4 _ Ic).mono ?_; (rintro e wx ⟨rfl, hbx⟩); go_simp; exact hK.out rfl _ _ hbx rfl
      · intro vs W hW hW0 hd hne hold K hK hA hL; clear hne hA hL; have hB := hW.1; have t2 := hW.2; simp only [puts, Act.put, List.setIfInBounds_toArray, List.set_cons_zero, List.set_cons_succ, Nat.zero_add, Nat.reduceAdd] at hK ⊢; have e7 : vs 7 = _ := hd 7 (by kernel_rfl); clear hd hold; simp only [e7] at hK; go_simp; exact hK.out rfl _ _ (Below.refl _ _) rfl
      · intro vs W hW hW0 hd hne hold K hK hA hL; clear hne hA hL; have hB := hW.1; have t2 := hW.2; simp only [puts, Act.put, List.setIfInBounds_toArray, List.set_cons_zero, List.set_cons_succ, Nat.zero_add, Nat.reduceAdd] at hK ⊢; have e8 : vs 8 = _ := hd 8 (by kernel_rfl); clear hd hold; simp only [e8] at hK; go_simp; exact hK.out rfl _ _ (Below.refl _ _) rfl
      · intro vs W hW hW0 hd hne hold K hK hA hL; clear hne hA hL; have hB := hW.1; have t2 := hW.2; simp only [puts, Act.put, List.setIfInBounds_toArray, List.set_cons_zero, List.set_cons_succ, Nat.zero_add, Nat.reduceAdd] at hK ⊢; have e8 : vs 8 = _ := hd 8 (by kernel_rfl); clear hd hold; simp only [e8] at hK; go_simp; exact hK.out rfl _ _ (Below.refl _ _) rfl
      · intro vs W hW hW0 hd hne hold K hK hA hL; clear hne hA hL; have hB := hW.1; have t2 := hW.2; simp only [puts, Act.put, List.setIfInBounds_toArray, List.set_cons_zero, List.set_cons_succ, Nat.zero_add, Nat.reduceAdd] at hK ⊢; have e9 : vs 9 = _ := hd 9 (by kernel_rfl); clear hd hold; simp only [e9] at hK; go_simp; exact hK.out rfl _ _ (Below.refl _ _) rfl
      · intro vs W hW hW0 hd hne hold K hK hA hL; clear hne hA hL; have hB := hW.1; have t2 := hW.2; simp only [puts, Act.put, List.setIfInBounds_toArray, List.set_cons_zero, List.set_cons_succ, Nat.zero_add, Nat.reduceAdd] at hK ⊢; have e10 : vs 10 = _ := hd 10 (by kernel_rfl); clear hd hold; simp only [e10] at hK; go_simp; exact hK.out rfl _ _ (Below.refl _ _) rfl
    · intro va WA hW hV _
      obtain ⟨hB, t2⟩ := hW
      have e11 : va 11 = .int .i64 (n - edges) := hV 11 (by decide)
      have e12 : va 12 = .int .i64 0 := hV 12 (by decide)
      clear hV
      simp only [puts, Act.put, List.setIfInBounds_toArray, List.set_cons_zero, List.set_cons_succ, Nat.zero_add, Nat.reduceAdd, e11, e12]
      refine hK0 _ _ ?_
      clear hK0
      by_cases hn : n - edges < 0
      · have hn' : decide (n - edges < 0) = true := by simp [hn]
        have HM := Lib.hid (show max (n - edges) 0 = 0 by omega)
        clear hn
        go_wp2_with fail
        go_ret3
        exact ⟨by rw [HM.out]; rfl, hB⟩
      · have hn' : decide (n - edges < 0) = false := by simp; omega
        have HM := Lib.hid (show max (n - edges) 0 = n - edges by omega)
        clear hn
        go_wp2_with fail
        go_ret3
        exact ⟨by rw [HM.out]; rfl, hB⟩
  · rw [if_pos hf] at hr
    subst hr
    have hf' : (f != 0) = true := by simp [hf]
    clear hmf hf
    go_enter Try.func82, Try.ntmps82
    go_wp2_with fail
    refine (PT _).mono ?_
    rintro e w1 ⟨rfl, hb1⟩
    replace hB := hB.trans (hb1.mono hB.size)
    replace t2 := t2.below hb1
    clear c0 c1 d0 d1 d2 d3 t1 hb1 PT
    have d4 := t2.cell 4 _ rfl
    have d5 := t2.cell 5 _ rfl
    go_upto_region 7 with (fail)
    rename_i K0 hK0
    refine wp_region_calm (fun w' => Below w.heap.size w w' ∧ Blk w' (w.heap.size + 1) #[.int .i64 base, .bool true, .int .i64 p, .int .i64 q, .bool true, .int .i64 edges] 103) [] (fun w' => True) [Is (.int .i64 n), bigC n, Is (.pointer (some ⟨w.heap.size + 1, 5, none⟩)), Is (.int .i64 edges), bigC edges, bigC (-edges), bigC (n + -edges), Is (.tuple #[.int .i64 m, .int .i64 f]), Is (.tuple #[.int .i64 m, .int .i64 f]), Is (.int .i64 m), Is (.int .i64 f), Is (.int .i64 m), Is (.int .i64 f)] [] (by kernel_rfl) (by kernel_rfl) (by kernel_rfl) (by kernel_rfl) ⟨hB.drew, t2⟩ trivial ?_ ?_ ?_ ?_ ?_
    · rintro W W' ⟨hB, t2⟩ hb
      exact ⟨hB.trans (hb.mono hB.size), t2.below hb⟩
    · exact fun _ _ _ _ _ => trivial
    · intro k vs W hk h
      exact absurd hk (by simp)
    · intro Q; clear hK0 hB t2 d4 d5
      refine ⟨?_, ?_, ?_, ?_, ?_, ?_, ?_, ?_, ?_, ?_, ?_, ?_, ?_, trivial⟩
      · intro vs W hW hW0 hd hne hold K hK hA hL; clear hne hA hL; have hB := hW.1; have t2 := hW.2; simp only [puts, Act.put, List.setIfInBounds_toArray, List.set_cons_zero, List.set_cons_succ, Nat.zero_add, Nat.reduceAdd] at hK ⊢; have e11 : vs 11 = _ := hold 11 (by kernel_rfl); clear hd hold; simp only [e11] at hK; go_simp; exact hK.out rfl _ _ (Below.refl _ _) rfl
      · intro vs W hW hW0 hd hne hold K hK hA hL; clear hne hA hL; have hB := hW.1; have t2 := hW.2; simp only [puts, Act.put, List.setIfInBounds_toArray, List.set_cons_zero, List.set_cons_succ, Nat.zero_add, Nat.reduceAdd] at hK ⊢; have eb : vs 0 = _ := hd 0 (by kernel_rfl); clear hd hold; simp only [eb] at hK; go_simp; refine (big_of n n1 n2 _).mono ?_; (rintro e wx ⟨f1, f2, f3, f4, rfl, If, hbx⟩); go_simp; exact hK.out rfl _ _ hbx ⟨f1, f2, f3, f4, rfl, If⟩
      · intro vs W hW hW0 hd hne hold K hK hA hL; clear hne hA hL; have hB := hW.1; have t2 := hW.2; simp only [puts, Act.put, List.setIfInBounds_toArray, List.set_cons_zero, List.set_cons_succ, Nat.zero_add, Nat.reduceAdd] at hK ⊢; clear hd hold; go_simp; exact hK.out rfl _ _ (Below.refl _ _) rfl
      · intro vs W hW hW0 hd hne hold K hK hA hL; clear hne hA hL; have hB := hW.1; have t2 := hW.2; simp only [puts, Act.put, List.setIfInBounds_toArray, List.set_cons_zero, List.set_cons_succ, Nat.zero_add, Nat.reduceAdd] at hK ⊢; have eb : vs 2 = _ := hd 2 (by kernel_rfl); have q1 := t2.cell 5 _ rfl; clear hd hold; simp only [eb] at hK; go_simp; exact hK.out rfl _ _ (Below.refl _ _) rfl
      · intro vs W hW hW0 hd hne hold K hK hA hL; clear hne hA hL; have hB := hW.1; have t2 := hW.2; simp only [puts, Act.put, List.setIfInBounds_toArray, List.set_cons_zero, List.set_cons_succ, Nat.zero_add, Nat.reduceAdd] at hK ⊢; have eb : vs 3 = _ := hd 3 (by kernel_rfl); clear hd hold; simp only [eb] at hK; go_simp; refine (big_of edges e1 e2 _).mono ?_; (rintro e wx ⟨f1, f2, f3, f4, rfl, If, hbx⟩); go_simp; exact hK.out rfl _ _ hbx ⟨f1, f2, f3, f4, rfl, If⟩
      · intro vs W hW hW0 hd hne hold K hK hA hL; clear hne hA hL; have hB := hW.1; have t2 := hW.2; simp only [puts, Act.put, List.setIfInBounds_toArray, List.set_cons_zero, List.set_cons_succ, Nat.zero_add, Nat.reduceAdd] at hK ⊢; (have hxc : BigV edges (vs 4) W := hd 4 (by kernel_rfl)); obtain ⟨c1, c2, c3, c4, ec, Ic⟩ := hxc; have k2 := Ic.le se; clear hd hold; simp only [ec] at hK; go_simp; refine (big_minus c1 c2 c3 c4 edges _ Ic (by omega)).mono ?_; (rintro e wx ⟨f1, f2, f3, f4, rfl, If, hbx⟩); go_simp; exact hK.out rfl _ _ hbx ⟨f1, f2, f3, f4, rfl, If⟩
      · intro vs W hW hW0 hd hne hold K hK hA hL; clear hne hA hL; have hB := hW.1; have t2 := hW.2; simp only [puts, Act.put, List.setIfInBounds_toArray, List.set_cons_zero, List.set_cons_succ, Nat.zero_add, Nat.reduceAdd] at hK ⊢; (have hxc : BigV n (vs 1) W := hd 1 (by kernel_rfl)); obtain ⟨c1, c2, c3, c4, ec, Ic⟩ := hxc; (have hxd : BigV (-edges) (vs 5) W := hd 5 (by kernel_rfl)); obtain ⟨d1, d2, d3, d4, ed, Id⟩ := hxd; have k2 := Ic.le sn; have k3 := Id.le se.neg; clear hd hold; simp only [ec, ed] at hK; go_simp; refine (big_plus c1 d1 c2 d2 c3 d3 c4 d4 n (-edges) _ Ic Id (by omega) (by omega)).mono ?_; (rintro e wx ⟨f1, f2, f3, f4, rfl, If, hbx⟩); go_simp; exact hK.out rfl _ _ hbx ⟨f1, f2, f3, f4, rfl, If⟩
      · intro vs W hW hW0 hd hne hold K hK hA hL; clear hne hA hL; have hB := hW.1; have t2 := hW.2; simp only [puts, Act.put, List.setIfInBounds_toArray, List.set_cons_zero, List.set_cons_succ, Nat.zero_add, Nat.reduceAdd] at hK ⊢; (have hxc : BigV (n + -edges) (vs 6) W := hd 6 (by kernel_rfl)); obtain ⟨c1, c2, c3, c4, ec, Ic⟩ := hxc; clear hd hold; simp only [ec] at hK; go_simp; refine (TL c1 c2 c3 c4 _ Ic).mono ?_; (rintro e wx ⟨rfl, hbx⟩); go_simp; exact hK.out rfl _ _ hbx rfl
      · intro vs W hW hW0 hd hne hold K hK hA hL; clear hne hA hL; have hB := hW.1; have t2 := hW.2; simp only [puts, Act.put, List.setIfInBounds_toArray, List.set_cons_zero, List.set_cons_succ, Nat.zero_add, Nat.reduceAdd] at hK ⊢; have e7 : vs 7 = _ := hd 7 (by kernel_rfl); clear hd hold; simp only [e7] at hK; go_simp; exact hK.out rfl _ _ (Below.refl _ _) rfl
      · intro vs W hW hW0 hd hne hold K hK hA hL; clear hne hA hL; have hB := hW.1; have t2 := hW.2; simp only [puts, Act.put, List.setIfInBounds_toArray, List.set_cons_zero, List.set_cons_succ, Nat.zero_add, Nat.reduceAdd] at hK ⊢; have e8 : vs 8 = _ := hd 8 (by kernel_rfl); clear hd hold; simp only [e8] at hK; go_simp; exact hK.out rfl _ _ (Below.refl _ _) rfl
      · intro vs W hW hW0 hd hne hold K hK hA hL; clear hne hA hL; have hB := hW.1; have t2 := hW.2; simp only [puts, Act.put, List.setIfInBounds_toArray, List.set_cons_zero, List.set_cons_succ, Nat.zero_add, Nat.reduceAdd] at hK ⊢; have e8 : vs 8 = _ := hd 8 (by kernel_rfl); clear hd hold; simp only [e8] at hK; go_simp; exact hK.out rfl _ _ (Below.refl _ _) rfl
      · intro vs W hW hW0 hd hne hold K hK hA hL; clear hne hA hL; have hB := hW.1; have t2 := hW.2; simp only [puts, Act.put, List.setIfInBounds_toArray, List.set_cons_zero, List.set_cons_succ, Nat.zero_add, Nat.reduceAdd] at hK ⊢; have e9 : vs 9 = _ := hd 9 (by kernel_rfl); clear hd hold; simp only [e9] at hK; go_simp; exact hK.out rfl _ _ (Below.refl _ _) rfl
      · intro vs W hW hW0 hd hne hold K hK hA hL; clear hne hA hL; have hB := hW.1; have t2 := hW.2; simp only [puts, Act.put, List.setIfInBounds_toArray, List.set_cons_zero, List.set_cons_succ, Nat.zero_add, Nat.reduceAdd] at hK ⊢; have e10 : vs 10 = _ := hd 10 (by kernel_rfl); clear hd hold; simp only [e10] at hK; go_simp; exact hK.out rfl _ _ (Below.refl _ _) rfl
    · intro va WA hW hV _
      obtain ⟨hB, t2⟩ := hW
      have e11 : va 11 = .int .i64 m := hV 11 (by decide)
      have e12 : va 12 = .int .i64 f := hV 12 (by decide)
      clear hV
      simp only [puts, Act.put, List.setIfInBounds_toArray, List.set_cons_zero, List.set_cons_succ, Nat.zero_add, Nat.reduceAdd, e11, e12]
      refine hK0 _ _ ?_
      clear hK0
      go_wp2_with fail
      go_ret3
      exact ⟨rfl, hB⟩
end
theorem ref14_of (kind N base : Int) (known : Bool) (p q : Int) (whole : Bool) (edges : Int) (hN : IFit N) (hb : IFit base) (hp : IFit p) (hq : IFit q) (he : IFit edges) (w : World) :
    Calls Try.prog 82 #[.agg #[.int .i64 kind, .int .i64 N], .agg #[.int .i64 base, .bool known, .int .i64 p, .int .i64 q, .bool whole, .int .i64 edges]] w (Ans3 (ofR kind N base known p q whole edges) w) := by
  unfold ofR
  by_cases h3 : kind = 3
  · subst h3
    rw [if_neg (fun h => absurd h.1 (by decide))]
    have PT := fun W => ref9_in 3 N base p q hN hb hp hq W
    rw [inR_eq (.inl rfl)] at PT
    dsimp only at PT
    by_cases hc : inE 3 N base p q = 0
    · rw [if_neg (fun h => h hc), if_neg (by decide)]
      cases whole
      · rw [if_pos rfl]
        exact r14_part3 N base p q edges w known _ _ _ PT hc
      · rw [if_neg (by decide)]
        exact r14_whole3 N base p q edges w known _ _ _ PT hc inN_len he _ rfl
    · rw [if_pos hc]
      exact r14_err3 N base p q edges w known whole _ _ _ PT (by simpa using hc)
  · by_cases h4 : kind = 4
    · subst h4
      cases known
      · rw [if_pos ⟨rfl, rfl⟩]
        exact r14_unknown N base p q edges w whole
      · rw [if_neg (fun h => by cases h.2)]
        have PT := fun W => ref9_in 4 N base p q hN hb hp hq W
        rw [inR_eq (.inr rfl)] at PT
        dsimp only at PT
        by_cases hc : inE 4 N base p q = 0
        · rw [if_neg (fun h => h hc), if_neg (by decide)]
          cases whole
          · rw [if_pos rfl]
            exact r14_part4 N base p q edges w _ _ _ PT hc
          · rw [if_neg (by decide)]
            exact r14_whole4 N base p q edges w _ _ _ PT hc inN_len he _ rfl
        · rw [if_pos hc]
          exact r14_err4 N base p q edges w whole _ _ _ PT (by simpa using hc)
    · rw [if_neg (fun h => h4 h.1)]
      have e : inE kind N base p q = 0 := by unfold inE; rw [if_neg h3, if_neg h4]
      have o : inOk kind = false := by unfold inOk; simp [h3, h4]
      rw [if_neg (fun h => h e), if_pos o]
      exact r14_other N base p q edges w kind known whole (by simp [h3]) (by simp [h4])
end Go.Proofs.Ythffphcgkmjhbaa
