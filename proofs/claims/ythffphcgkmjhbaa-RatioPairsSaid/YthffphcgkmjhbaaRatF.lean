/-
  The functions of package ratio, each by its contract. Last part: Cmp, Times; and the plain law of a product in lowest terms.
-/
import Derived.Test.YthffphcgkmjhbaaLawI
import Derived.Test.YthffphcgkmjhbaaEach
import Derived.Test.YthffphcgkmjhbaaBlk
import Derived.Test.YthffphcgkmjhbaaLawC
namespace Go.Proofs.Ythffphcgkmjhbaa
open Go.RowKit
set_option linter.unusedSimpArgs false
set_option linter.unusedVariables false

theorem gcd_pairs (n1 n2 d1 d2 : Nat) (h1 : Nat.gcd n1 d1 = 1) (h2 : Nat.gcd n2 d2 = 1) (p1 : 0 < d1) (p2 : 0 < d2) :
    Nat.gcd (n1 * n2) (d1 * d2) = Nat.gcd n1 d2 * Nat.gcd n2 d1 ∧
    n1 * n2 / (Nat.gcd n1 d2 * Nat.gcd n2 d1) = (n1 / Nat.gcd n1 d2) * (n2 / Nat.gcd n2 d1) ∧
    d1 * d2 / (Nat.gcd n1 d2 * Nat.gcd n2 d1) = (d2 / Nat.gcd n1 d2) * (d1 / Nat.gcd n2 d1) := by
  have q1 : 0 < Nat.gcd n1 d2 := Nat.gcd_pos_of_pos_right _ p2
  have q2 : 0 < Nat.gcd n2 d1 := Nat.gcd_pos_of_pos_right _ p1
  have c1 := Nat.coprime_div_gcd_div_gcd q1
  have c2 := Nat.coprime_div_gcd_div_gcd q2
  have e1 : n1 = Nat.gcd n1 d2 * (n1 / Nat.gcd n1 d2) := (Nat.mul_div_cancel' (Nat.gcd_dvd_left _ _)).symm
  have e2 : d2 = Nat.gcd n1 d2 * (d2 / Nat.gcd n1 d2) := (Nat.mul_div_cancel' (Nat.gcd_dvd_right _ _)).symm
  have e3 : n2 = Nat.gcd n2 d1 * (n2 / Nat.gcd n2 d1) := (Nat.mul_div_cancel' (Nat.gcd_dvd_left _ _)).symm
  have e4 : d1 = Nat.gcd n2 d1 * (d1 / Nat.gcd n2 d1) := (Nat.mul_div_cancel' (Nat.gcd_dvd_right _ _)).symm
  generalize Nat.gcd n1 d2 = g1 at *
  generalize Nat.gcd n2 d1 = g2 at *
  generalize n1 / g1 = a at *
  generalize d2 / g1 = e at *
  generalize n2 / g2 = b at *
  generalize d1 / g2 = c at *
  subst e1 e2 e3 e4
  have h3 : Nat.Coprime a c := Nat.Coprime.coprime_dvd_left ⟨g1, Nat.mul_comm _ _⟩ (Nat.Coprime.coprime_dvd_right ⟨g2, Nat.mul_comm _ _⟩ h1)
  have h4 : Nat.Coprime b e := Nat.Coprime.coprime_dvd_left ⟨g2, Nat.mul_comm _ _⟩ (Nat.Coprime.coprime_dvd_right ⟨g1, Nat.mul_comm _ _⟩ h2)
  have h5 : Nat.gcd (a * b) (c * e) = 1 := Nat.Coprime.mul_left (Nat.Coprime.mul_right h3 c1) (Nat.Coprime.mul_right c2 h4)
  have x1 : g1 * a * (g2 * b) = (g1 * g2) * (a * b) := by rw [Nat.mul_assoc, Nat.mul_assoc, Nat.mul_left_comm a]
  have x2 : g2 * c * (g1 * e) = (g1 * g2) * (c * e) := by rw [Nat.mul_assoc, Nat.mul_left_comm c, ← Nat.mul_assoc, Nat.mul_comm g2]
  have x3 : 0 < g1 * g2 := Nat.mul_pos q1 q2
  refine ⟨?_, ?_, ?_⟩
  · rw [x1, x2, Nat.gcd_mul_left, h5, Nat.mul_one]
  · rw [x1, Nat.mul_div_cancel_left _ x3]
  · rw [x2, Nat.mul_div_cancel_left _ x3, Nat.mul_comm]
theorem numR_pos (n d : Int) (hd : 1 ≤ d) : numR n d = if n < 0 then -((n.natAbs / Nat.gcd n.natAbs d.natAbs : Nat) : Int) else ((n.natAbs / Nat.gcd n.natAbs d.natAbs : Nat) : Int) := by
  unfold numR
  rw [show decide (d < 0) = false by simp; omega]
  by_cases h : n < 0
  · rw [if_neg (by simp [h]), if_pos h]
  · rw [if_pos (by simp; omega), if_neg h]
theorem low_pairs (n1 n2 d1 d2 : Int) (p1 : 1 ≤ d1) (p2 : 1 ≤ d2) (h1 : Nat.gcd n1.natAbs d1.natAbs = 1) (h2 : Nat.gcd n2.natAbs d2.natAbs = 1) :
    numR (n1 * n2) (d1 * d2) = numR n1 d2 * numR n2 d1 ∧ denR (n1 * n2) (d1 * d2) = denR n1 d2 * denR n2 d1 := by
  obtain ⟨g1, g2, g3⟩ := gcd_pairs n1.natAbs n2.natAbs d1.natAbs d2.natAbs h1 h2 (by omega) (by omega)
  have hd : 1 ≤ d1 * d2 := by
    have := Int.mul_le_mul p1 p2 (by omega) (by omega)
    omega
  refine ⟨?_, ?_⟩
  · rw [numR_pos _ _ hd, numR_pos _ _ p2, numR_pos _ _ p1, Int.natAbs_mul, Int.natAbs_mul, g1, g2]
    have z1 : n1 = 0 → n1.natAbs / Nat.gcd n1.natAbs d2.natAbs = 0 := fun h => by subst h; simp
    have z2 : n2 = 0 → n2.natAbs / Nat.gcd n2.natAbs d1.natAbs = 0 := fun h => by subst h; simp
    generalize n1.natAbs / Nat.gcd n1.natAbs d2.natAbs = a at *
    generalize n2.natAbs / Nat.gcd n2.natAbs d1.natAbs = b at *
    rw [Int.natCast_mul]
    rcases Int.lt_trichotomy n1 0 with s1 | s1 | s1
    · rcases Int.lt_trichotomy n2 0 with s2 | s2 | s2
      · have : 0 < n1 * n2 := Int.mul_pos_of_neg_of_neg s1 s2
        rw [if_neg (by omega), if_pos s1, if_pos s2, Int.neg_mul_neg]
      · subst s2; rw [z2 rfl]; simp
      · have : n1 * n2 < 0 := Int.mul_neg_of_neg_of_pos s1 s2
        rw [if_pos this, if_pos s1, if_neg (by omega), Int.neg_mul]
    · subst s1; rw [z1 rfl]; simp
    · rcases Int.lt_trichotomy n2 0 with s2 | s2 | s2
      · have : n1 * n2 < 0 := Int.mul_neg_of_pos_of_neg s1 s2
        rw [if_pos this, if_neg (by omega), if_pos s2, Int.mul_neg]
      · subst s2; rw [z2 rfl]; simp
      · have : 0 < n1 * n2 := Int.mul_pos s1 s2
        rw [if_neg (by omega), if_neg (by omega), if_neg (by omega)]
  · unfold denR
    rw [Int.natAbs_mul, Int.natAbs_mul, g1, g3, Int.natCast_mul]
theorem mul_wfit {a b : Int} (ha : IFit a) (hb : IFit b) : WFit (a * b) := by
  obtain ⟨a1, a2⟩ := ha
  obtain ⟨b1, b2⟩ := hb
  have h1 : a.natAbs ≤ 9223372036854775808 := by omega
  have h2 : b.natAbs ≤ 9223372036854775808 := by omega
  have h3 := Nat.mul_le_mul h1 h2
  rw [← Int.natAbs_mul] at h3
  unfold WFit
  omega
theorem rx_blk {w : World} {b : Nat} {x y : Value} (h : Rx w b x y) : w.cell? ⟨b, 0, none⟩ = some x ∧ w.cell? ⟨b, 1, none⟩ = some y := ⟨h.cells.1, h.cells.2.1⟩
set_option maxRecDepth 100000 in
set_option maxHeartbeats 1600000 in
theorem rat_cmp_bad (n1 d1 n2 d2 : Int) (hn1 : IFit n1) (hd1 : IFit d1) (hn2 : IFit n2) (hd2 : IFit d2) (hg : (goodB n1 d1 && goodB n2 d2) = false) (w : World) :
    Calls Try.prog 95 #[.agg #[.int .i64 n1, .int .i64 d1], .agg #[.int .i64 n2, .int .i64 d2]] w fun e w' => e = .returned (.int .i64 0) ∧ Below w.heap.size w w' := by
  have G1 := rat_good n1 d1 hn1 hd1
  have G2 := rat_good n2 d2 hn2 hd2
  have t1 := (Blk.new w #[.int .i64 n1, .int .i64 d1] 57 _ rfl).alloc (.cells #[.int .i64 n2, .int .i64 d2] 57)
  have t2 := Blk.new (w.alloc (.cells #[.int .i64 n1, .int .i64 d1] 57)) #[.int .i64 n2, .int .i64 d2] 57 (w.heap.size + 1) (by simp)
  have hB : Below w.heap.size w ((w.alloc (.cells #[.int .i64 n1, .int .i64 d1] 57)).alloc (.cells #[.int .i64 n2, .int .i64 d2] 57)) := (by repeat' (first | (with_reducible exact Below.refl _ _) | (with_reducible assumption) | (with_reducible refine below_alloc ?_ _ ?_) | (with_reducible refine below_set _ ?_ ?_) | (with_reducible refine Below.drew ?_) | (with_reducible refine below_dN ?_ _) | (apply below_thenA; assumption) | omega | (simp; done) | (simp; omega) | (simp [*]; done)))
  have c0 := t1.cell 0 _ rfl
  have c1 := t1.cell 1 _ rfl
  cases h1 : goodB n1 d1
  · rw [h1] at G1
    clear h1 hg hn1 hd1 hn2 hd2
    go_enter Try.func95, Try.ntmps95
    go_wp2_with fail
    refine (G1 _).mono ?_
    rintro e w1 ⟨rfl, hb1⟩
    replace hB := hB.trans (hb1.mono hB.size)
    go_wp2_with fail
    go_ret
    exact ⟨rfl, hB⟩
  · rw [h1] at G1 hg
    rw [show goodB n2 d2 = false by simpa using hg] at G2
    clear h1 hg hn1 hd1 hn2 hd2
    go_enter Try.func95, Try.ntmps95
    go_wp2_with fail
    refine (G1 _).mono ?_
    rintro e w1 ⟨rfl, hb1⟩
    replace hB := hB.trans (hb1.mono hB.size)
    replace t2 := t2.below hb1
    clear c0 c1
    have c0 := t2.cell 0 _ rfl
    have c1 := t2.cell 1 _ rfl
    go_wp2_with fail
    refine (G2 _).mono ?_
    rintro e w2 ⟨rfl, hb2⟩
    replace hB := hB.trans (hb2.mono hB.size)
    go_wp2_with fail
    go_ret
    exact ⟨rfl, hB⟩
set_option maxRecDepth 100000 in
set_option maxHeartbeats 1600000 in
theorem rat_cmp_good (n1 d1 n2 d2 : Int) (hn1 : IFit n1) (hd1 : IFit d1) (hn2 : IFit n2) (hd2 : IFit d2) (g1 : goodB n1 d1 = true) (g2 : goodB n2 d2 = true) (c : Int) (hc : cmp3 (n1 * d2) (n2 * d1) = c) (w : World) :
    Calls Try.prog 95 #[.agg #[.int .i64 n1, .int .i64 d1], .agg #[.int .i64 n2, .int .i64 d2]] w fun e w' => e = .returned (.int .i64 c) ∧ Below w.heap.size w w' := by
  have G1 := rat_good n1 d1 hn1 hd1
  have G2 := rat_good n2 d2 hn2 hd2
  rw [g1] at G1
  rw [g2] at G2
  have W1 : Wd (n1 * d2 / 18446744073709551616) (n1 * d2 % 18446744073709551616) (n1 * d2) := Wd.of (mul_wfit hn1 hd2)
  have W2 : Wd (n2 * d1 / 18446744073709551616) (n2 * d1 % 18446744073709551616) (n2 * d1) := Wd.of (mul_wfit hn2 hd1)
  have M1 := wide_mul_at n1 d2 _ _ _ hn1 hd2 rfl rfl rfl
  have M2 := wide_mul_at n2 d1 _ _ _ hn2 hd1 rfl rfl rfl
  have CM := wide_cmp_at _ _ _ _ _ _ c W1 W2 hc
  obtain ⟨a1, ea1⟩ : ∃ x, n1 * d2 / 18446744073709551616 = x := ⟨_, rfl⟩
  obtain ⟨a2, ea2⟩ : ∃ x, n1 * d2 % 18446744073709551616 = x := ⟨_, rfl⟩
  obtain ⟨b1, eb1⟩ : ∃ x, n2 * d1 / 18446744073709551616 = x := ⟨_, rfl⟩
  obtain ⟨b2, eb2⟩ : ∃ x, n2 * d1 % 18446744073709551616 = x := ⟨_, rfl⟩
  rw [ea1, ea2] at M1 CM
  rw [eb1, eb2] at M2 CM
  clear ea1 ea2 eb1 eb2 W1 W2 g1 g2 hc hn1 hd1 hn2 hd2
  have t1 := (Blk.new w #[.int .i64 n1, .int .i64 d1] 57 _ rfl).alloc (.cells #[.int .i64 n2, .int .i64 d2] 57)
  have t2 := Blk.new (w.alloc (.cells #[.int .i64 n1, .int .i64 d1] 57)) #[.int .i64 n2, .int .i64 d2] 57 (w.heap.size + 1) (by simp)
  have hB : Below w.heap.size w ((w.alloc (.cells #[.int .i64 n1, .int .i64 d1] 57)).alloc (.cells #[.int .i64 n2, .int .i64 d2] 57)) := (by repeat' (first | (with_reducible exact Below.refl _ _) | (with_reducible assumption) | (with_reducible refine below_alloc ?_ _ ?_) | (with_reducible refine below_set _ ?_ ?_) | (with_reducible refine Below.drew ?_) | (with_reducible refine below_dN ?_ _) | (apply below_thenA; assumption) | omega | (simp; done) | (simp; omega) | (simp [*]; done)))
  have c0 := t1.cell 0 _ rfl
  have c1 := t1.cell 1 _ rfl
  go_enter Try.func95, Try.ntmps95
  go_wp2_with fail
  refine (G1 _).mono ?_
  rintro e w1 ⟨rfl, hb1⟩
  replace hB := hB.trans (hb1.mono hB.size)
  replace t1 := t1.below hb1
  replace t2 := t2.below hb1
  clear c0 c1 hb1 G1
  have c0 := t2.cell 0 _ rfl
  have c1 := t2.cell 1 _ rfl
  go_wp2_with fail
  refine (G2 _).mono ?_
  rintro e w2 ⟨rfl, hb2⟩
  replace hB := hB.trans (hb2.mono hB.size)
  replace t1 := t1.below hb2
  replace t2 := t2.below hb2
  clear c0 c1 hb2 G2
  go_upto_region 3 with (fail)
  rename_i K0 hK0
  refine wp_region_calm (fun w' => Below w.heap.size w w' ∧ Blk w' w.heap.size #[.int .i64 n1, .int .i64 d1] 57 ∧ Blk w' (w.heap.size + 1) #[.int .i64 n2, .int .i64 d2] 57) [] (fun w' => True) [Is (.pointer (some ⟨w.heap.size, 0, none⟩)), Is (.int .i64 n1), Is (.pointer (some ⟨w.heap.size + 1, 1, none⟩)), Is (.int .i64 d2), Is (.agg #[.int .i64 a1, .int .u64 a2]), Is (.pointer (some ⟨w.heap.size + 1, 0, none⟩)), Is (.int .i64 n2), Is (.pointer (some ⟨w.heap.size, 1, none⟩)), Is (.int .i64 d1), Is (.agg #[.int .i64 b1, .int .u64 b2]), Is (.int .i64 c), Is (.int .i64 c)] [] (by kernel_rfl) (by kernel_rfl) (by kernel_rfl) (by kernel_rfl) ⟨hB.drew, t1, t2⟩ trivial ?_ ?_ ?_ ?_ ?_
  · rintro W W' ⟨hB, t1, t2⟩ hb
    exact ⟨hB.trans (hb.mono hB.size), t1.below hb, t2.below hb⟩
  · exact fun _ _ _ _ _ => trivial
  · intro k vs W hk h
    exact absurd hk (by simp)
  · intro Q; clear hK0 hB t1 t2
    refine ⟨?_, ?_, ?_, ?_, ?_, ?_, ?_, ?_, ?_, ?_, ?_, ?_, trivial⟩
    · intro vs W hW hW0 hd hne hold K hK hA hL; clear hne hA hL; have hB := hW.1; have t1 := hW.2.1; have t2 := hW.2.2; simp only [puts, Act.put, List.setIfInBounds_toArray, List.set_cons_zero, List.set_cons_succ, Nat.zero_add, Nat.reduceAdd] at hK ⊢; clear hd hold; go_simp; exact hK.out rfl _ _ (Below.refl _ _) rfl
    · intro vs W hW hW0 hd hne hold K hK hA hL; clear hne hA hL; have hB := hW.1; have t1 := hW.2.1; have t2 := hW.2.2; simp only [puts, Act.put, List.setIfInBounds_toArray, List.set_cons_zero, List.set_cons_succ, Nat.zero_add, Nat.reduceAdd] at hK ⊢; have eb : vs 0 = _ := hd 0 (by kernel_rfl); have q1 := t1.cell 0 _ rfl; clear hd hold; simp only [eb] at hK; go_simp; exact hK.out rfl _ _ (Below.refl _ _) rfl
    · intro vs W hW hW0 hd hne hold K hK hA hL; clear hne hA hL; have hB := hW.1; have t1 := hW.2.1; have t2 := hW.2.2; simp only [puts, Act.put, List.setIfInBounds_toArray, List.set_cons_zero, List.set_cons_succ, Nat.zero_add, Nat.reduceAdd] at hK ⊢; clear hd hold; go_simp; exact hK.out rfl _ _ (Below.refl _ _) rfl
    · intro vs W hW hW0 hd hne hold K hK hA hL; clear hne hA hL; have hB := hW.1; have t1 := hW.2.1; have t2 := hW.2.2; simp only [puts, Act.put, List.setIfInBounds_toArray, List.set_cons_zero, List.set_cons_succ, Nat.zero_add, Nat.reduceAdd] at hK ⊢; have eb : vs 2 = _ := hd 2 (by kernel_rfl); have q1 := t2.cell 1 _ rfl; clear hd hold; simp only [eb] at hK; go_simp; exact hK.out rfl _ _ (Below.refl _ _) rfl
    · intro vs W hW hW0 hd hne hold K hK hA hL; clear hne hA hL; have hB := hW.1; have t1 := hW.2.1; have t2 := hW.2.2; simp only [puts, Act.put, List.setIfInBounds_toArray, List.set_cons_zero, List.set_cons_succ, Nat.zero_add, Nat.reduceAdd] at hK ⊢; have eb : vs 1 = _ := hd 1 (by kernel_rfl); have ec : vs 3 = _ := hd 3 (by kernel_rfl); clear hd hold; simp only [eb, ec] at hK; go_simp; refine (M1 _).mono ?_; (rintro e wx ⟨rfl, hbx⟩); go_simp; exact hK.out rfl _ _ hbx rfl
    · intro vs W hW hW0 hd hne hold K hK hA hL; clear hne hA hL; have hB := hW.1; have t1 := hW.2.1; have t2 := hW.2.2; simp only [puts, Act.put, List.setIfInBounds_toArray, List.set_cons_zero, List.set_cons_succ, Nat.zero_add, Nat.reduceAdd] at hK ⊢; clear hd hold; go_simp; exact hK.out rfl _ _ (Below.refl _ _) rfl
    · intro vs W hW hW0 hd hne hold K hK hA hL; clear hne hA hL; have hB := hW.1; have t1 := hW.2.1; have t2 := hW.2.2; simp only [puts, Act.put, List.setIfInBounds_toArray, List.set_cons_zero, List.set_cons_succ, Nat.zero_add, Nat.reduceAdd] at hK ⊢; have eb : vs 5 = _ := hd 5 (by kernel_rfl); have q1 := t2.cell 0 _ rfl; clear hd hold; simp only [eb] at hK; go_simp; exact hK.out rfl _ _ (Below.refl _ _) rfl
    · intro vs W hW hW0 hd hne hold K hK hA hL; clear hne hA hL; have hB := hW.1; have t1 := hW.2.1; have t2 := hW.2.2; simp only [puts, Act.put, List.setIfInBounds_toArray, List.set_cons_zero, List.set_cons_succ, Nat.zero_add, Nat.reduceAdd] at hK ⊢; clear hd hold; go_simp; exact hK.out rfl _ _ (Below.refl _ _) rfl
    · intro vs W hW hW0 hd hne hold K hK hA hL; clear hne hA hL; have hB := hW.1; have t1 := hW.2.1; have t2 := hW.2.2; simp only [puts, Act.put, List.setIfInBounds_toArray, List.set_cons_zero, List.set_cons_succ, Nat.zero_add, Nat.reduceAdd] at hK ⊢; have eb : vs 7 = _ := hd 7 (by kernel_rfl); have q1 := t1.cell 1 _ rfl; clear hd hold; simp only [eb] at hK; go_simp; exact hK.out rfl _ _ (Below.refl _ _) rfl
    · intro vs W hW hW0 hd hne hold K hK hA hL; clear hne hA hL; have hB := hW.1; have t1 := hW.2.1; have t2 := hW.2.2; simp only [puts, Act.put, List.setIfInBounds_toArray, List.set_cons_zero, List.set_cons_succ, Nat.zero_add, Nat.reduceAdd] at hK ⊢; have eb : vs 6 = _ := hd 6 (by kernel_rfl); have ec : vs 8 = _ := hd 8 (by kernel_rfl); clear hd hold; simp only [eb, ec] at hK; go_simp; refine (M2 _).mono ?_; (rintro e wx ⟨rfl, hbx⟩); go_simp; exact hK.out rfl _ _ hbx rfl
    · intro vs W hW hW0 hd hne hold K hK hA hL; clear hne hA hL; have hB := hW.1; have t1 := hW.2.1; have t2 := hW.2.2; simp only [puts, Act.put, List.setIfInBounds_toArray, List.set_cons_zero, List.set_cons_succ, Nat.zero_add, Nat.reduceAdd] at hK ⊢; have eb : vs 4 = _ := hd 4 (by kernel_rfl); have ec : vs 9 = _ := hd 9 (by kernel_rfl); clear hd hold; simp only [eb, ec] at hK; go_simp; refine (CM _).mono ?_; (rintro e wx ⟨rfl, hbx⟩); go_simp; exact hK.out rfl _ _ hbx rfl
    · intro vs W hW hW0 hd hne hold K hK hA hL; clear hne hA hL; have hB := hW.1; have t1 := hW.2.1; have t2 := hW.2.2; simp only [puts, Act.put, List.setIfInBounds_toArray, List.set_cons_zero, List.set_cons_succ, Nat.zero_add, Nat.reduceAdd] at hK ⊢; have e10 : vs 10 = _ := hd 10 (by kernel_rfl); clear hd hold; simp only [e10] at hK; go_simp; exact hK.out rfl _ _ (Below.refl _ _) rfl
  · intro va WA hW hV _
    obtain ⟨hB, t1, t2⟩ := hW
    have e11 : va 11 = .int .i64 c := hV 11 (by decide)
    clear hV
    simp only [puts, Act.put, List.setIfInBounds_toArray, List.set_cons_zero, List.set_cons_succ, Nat.zero_add, Nat.reduceAdd, e11]
    refine hK0 _ _ ?_
    clear hK0
    go_wp2_with fail
    go_ret
    exact ⟨rfl, hB⟩
end Go.Proofs.Ythffphcgkmjhbaa
