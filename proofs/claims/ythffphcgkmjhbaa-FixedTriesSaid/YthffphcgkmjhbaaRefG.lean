/-
  The reference of layer 2, each function by its contract. Fifth part: Down, Half.
-/
import Derived.Test.YthffphcgkmjhbaaRefF
import Derived.Test.YthffphcgkmjhbaaEach
namespace Go.Proofs.Ythffphcgkmjhbaa
open Go.RowKit
set_option linter.unusedSimpArgs false
set_option linter.unusedVariables false

theorem pw4 : (65536 : Nat) ^ 4 = 18446744073709551616 := by decide
set_option maxRecDepth 100000 in
set_option maxHeartbeats 3200000 in
theorem ref2_down (x n d : Int) (hx : -9223372036854775808 ≤ x ∧ x ≤ 9223372036854775807) (hn : -9223372036854775808 ≤ n ∧ n ≤ 9223372036854775807) (hd : -9223372036854775808 ≤ d ∧ d ≤ 9223372036854775807) (h0 : d ≠ 0) (w : World) :
    Calls Try.prog 51 #[.int .i64 x, .int .i64 n, .int .i64 d] w (BigRet (fq (x * n) d) w) := by
  obtain ⟨x1, x2⟩ := hx
  obtain ⟨n1, n2⟩ := hn
  obtain ⟨d1, d2⟩ := hd
  have sx := BM.Sz.i64 x1 x2
  have sn := BM.Sz.i64 n1 n2
  have sd := BM.Sz.i64 d1 d2
  have sxn := BM.Sz.mul sx sn
  have DN := fun na nb ax bx k m ca cb W (h1 : IsBig W na ax k ca (x * n)) (h2 : IsBig W nb bx m cb d) hk hm => big_down na nb ax bx k m ca cb (x * n) d W h1 h2 hk hm h0
  obtain ⟨F, eF⟩ : ∃ F, fq (x * n) d = F := ⟨_, rfl⟩
  obtain ⟨R, eR⟩ : ∃ R, fr (x * n) d = R := ⟨_, rfl⟩
  rw [eF, eR] at DN
  rw [eF]
  clear eF eR h0
  go_enter Try.func51, Try.ntmps51
  go_wp2_with fail
  refine (big_of x x1 x2 _).mono ?_
  rintro e w1 ⟨a1, a2, a3, a4, rfl, I1, hb1⟩
  have hB : Below w.heap.size w w1 := below_thenA hb1 (by repeat' (first | (with_reducible exact Below.refl _ _) | (with_reducible assumption) | (with_reducible refine below_alloc ?_ _ ?_) | (with_reducible refine below_set _ ?_ ?_) | (with_reducible refine Below.drew ?_) | (with_reducible refine below_dN ?_ _) | (apply below_thenA; assumption) | omega | (simp; done) | (simp; omega) | (simp [*]; done))) (by simp)
  have t := (Two.new w (.bool false) (.slice none 0 0) _ rfl).below hb1
  go_wp2_with fail
  refine (big_of n n1 n2 _).mono ?_
  rintro e w2 ⟨b1, b2, b3, b4, rfl, I2, hb2⟩
  replace hB := hB.trans (hb2.mono hB.size)
  replace I1 := I1.keep hb2
  replace t := t.below hb2
  have k1 := I1.le sx
  have k2 := I2.le sn
  go_wp2_with fail
  refine (big_times a1 b1 a2 b2 a3 b3 a4 b4 x n _ I1 I2 (by omega) (by omega)).mono ?_
  rintro e w3 ⟨c1, c2, c3, c4, rfl, I3, hb3⟩
  replace hB := hB.trans (hb3.mono hB.size)
  replace t := t.below hb3
  go_wp2_with fail
  refine (big_of d d1 d2 _).mono ?_
  rintro e w4 ⟨f1, f2, f3, f4, rfl, I4, hb4⟩
  replace hB := hB.trans (hb4.mono hB.size)
  replace I3 := I3.keep hb4
  replace t := t.below hb4
  have k3 := I3.le sxn
  have k4 := I4.le sd
  clear I1 I2 hb1 hb2 hb3 hb4
  go_wp2_with fail
  refine (DN c1 f1 c2 f2 c3 f3 c4 f4 _ I3 I4 (by omega) (by omega)).mono ?_
  rintro e w5 hR
  obtain ⟨qn, qa, qk, qc, rn, ra, rk, rc, rfl, IQ, IR, hb5⟩ := hR.out
  replace hB := hB.trans (hb5.mono hB.size)
  replace t := t.below hb5
  obtain ⟨p1, p2, p3, p4⟩ := t.cells
  have hlt := t.lt
  clear hR hb5 I3 I4 DN
  go_wp2_with fail
  (go_light; simp [bodyPost, results, Try.results51, go_sem, *])
  exact ⟨qn, qa, qk, qc, rfl, IsBig.keeps IQ (by repeat' (first | (with_reducible exact Keeps.refl _) | (with_reducible refine Keeps.alloc ?_ _) | (with_reducible refine Keeps.drew ?_) | (with_reducible refine Keeps.drewN ?_ _) | (with_reducible refine Keeps.set ?_ _ _ (T := 29) ?_ (by decide)) | (with_reducible exact TyAt.new _ _ _ _ (by simp)) | (with_reducible refine TyAt.set ?_ _ _) | (with_reducible refine TyAt.alloc ?_ _) | (with_reducible refine TyAt.drew ?_) | (with_reducible refine TyAt.drewN ?_ _) | (apply Keeps.below; assumption) | (exact Two.ty (by assumption)) | (apply TyAt.below; rotate_left; assumption))), (by repeat' (first | (with_reducible exact Below.refl _ _) | (with_reducible assumption) | (with_reducible refine below_alloc ?_ _ ?_) | (with_reducible refine below_set _ ?_ ?_) | (with_reducible refine Below.drew ?_) | (with_reducible refine below_dN ?_ _) | (apply below_thenA; assumption) | omega | (simp; done) | (simp; omega) | (simp [*]; done)))⟩
/-- A value is a whole number that lies in memory. -/
def BigV (n : Int) (v : Value) (w : World) : Prop := ∃ neg ao k cap, v = .agg #[.bool neg, .slice ao k cap] ∧ IsBig w neg ao k cap n
def Big2V (n p : Int) (v : Value) (w : World) : Prop := ∃ (qn : Bool) (qa : Option Addr) (qk qc : Nat) (rn : Bool) (ra : Option Addr) (rk rc : Nat), v = .tuple #[.agg #[.bool qn, .slice qa qk qc], .agg #[.bool rn, .slice ra rk rc]] ∧ IsBig w qn qa qk qc n ∧ IsBig w rn ra rk rc p
/-- A value points to a box of this kind, from this block on. -/
def BoxV (B : Nat) (v : Value) (w : World) : Prop := ∃ b x y, v = .pointer (some ⟨b, 0, none⟩) ∧ B ≤ b ∧ Two w b x y
/-- A box holds a whole number. -/
def BoxBig (B : Nat) (n : Int) (v : Value) (w : World) : Prop := ∃ b neg ao k cap, v = .pointer (some ⟨b, 0, none⟩) ∧ B ≤ b ∧ Two w b (.bool neg) (.slice ao k cap) ∧ IsBig w neg ao k cap n
theorem BigV.below {n : Int} {v : Value} {w w' : World} (h : BigV n v w) (hb : Below w.heap.size w w') : BigV n v w' := by
  obtain ⟨a, b, c, d, e, f⟩ := h; exact ⟨a, b, c, d, e, f.keep hb⟩
theorem Big2V.below {n p : Int} {v : Value} {w w' : World} (h : Big2V n p v w) (hb : Below w.heap.size w w') : Big2V n p v w' := by
  obtain ⟨a, b, c, d, a', b', c', d', e, f, g⟩ := h; exact ⟨a, b, c, d, a', b', c', d', e, f.keep hb, g.keep hb⟩
theorem BoxV.below {B : Nat} {v : Value} {w w' : World} (h : BoxV B v w) (hb : Below w.heap.size w w') : BoxV B v w' := by
  obtain ⟨b, x, y, e, f, g⟩ := h; exact ⟨b, x, y, e, f, g.below hb⟩
theorem BoxBig.below {B : Nat} {n : Int} {v : Value} {w w' : World} (h : BoxBig B n v w) (hb : Below w.heap.size w w') : BoxBig B n v w' := by
  obtain ⟨b, x, y, c, d, e, f, g, i⟩ := h; exact ⟨b, x, y, c, d, e, f, g.below hb, i.keep hb⟩

def bigC (n : Int) : Cl := .own (BigV n) (fun _ _ _ h hb => h.below hb)
def big2C (n p : Int) : Cl := .own (Big2V n p) (fun _ _ _ h hb => h.below hb)
def boxC (B : Nat) : Cl := .own (BoxV B) (fun _ _ _ h hb => h.below hb)
def boxAt (j B : Nat) (n : Int) : Cl := .at j (BoxBig B n) (fun _ _ _ h hb => h.below hb)
theorem BigV.put {n : Int} {v : Value} {w : World} {b : Nat} {y1 y2 : Value} (h : BigV n v w) (t : Two w b y1 y2) (u1 u2 : Value) : BigV n v ((w.setCell ⟨b, 0, none⟩ u1).setCell ⟨b, 1, none⟩ u2) := by
  obtain ⟨a1, a2, a3, a4, e, h⟩ := h; exact ⟨a1, a2, a3, a4, e, IsBig.put h t u1 u2⟩
theorem Big2V.put {n p : Int} {v : Value} {w : World} {b : Nat} {y1 y2 : Value} (h : Big2V n p v w) (t : Two w b y1 y2) (u1 u2 : Value) : Big2V n p v ((w.setCell ⟨b, 0, none⟩ u1).setCell ⟨b, 1, none⟩ u2) := by
  obtain ⟨a1, a2, a3, a4, b1, b2, b3, b4, e, h, g⟩ := h; exact ⟨a1, a2, a3, a4, b1, b2, b3, b4, e, IsBig.put h t u1 u2, IsBig.put g t u1 u2⟩
theorem BoxV.put {B : Nat} {v : Value} {w : World} {b : Nat} {y1 y2 : Value} (h : BoxV B v w) (t : Two w b y1 y2) (u1 u2 : Value) : BoxV B v ((w.setCell ⟨b, 0, none⟩ u1).setCell ⟨b, 1, none⟩ u2) := by
  obtain ⟨c, x, y, e, h1, h2⟩ := h
  by_cases hc : c = b
  · subst hc; exact ⟨c, u1, u2, e, h1, t.put u1 u2⟩
  · exact ⟨c, x, y, e, h1, h2.put_other hc u1 u2⟩
theorem BoxBig.put {B : Nat} {n : Int} {v : Value} {w : World} {b : Nat} {y1 y2 : Value} (h : BoxBig B n v w) (hne : v ≠ .pointer (some ⟨b, 0, none⟩)) (t : Two w b y1 y2) (u1 u2 : Value) : BoxBig B n v ((w.setCell ⟨b, 0, none⟩ u1).setCell ⟨b, 1, none⟩ u2) := by
  obtain ⟨c, a1, a2, a3, a4, e, h1, h2, h3⟩ := h
  have hc : c ≠ b := fun x => hne (by rw [e, x])
  exact ⟨c, a1, a2, a3, a4, e, h1, h2.put_other hc u1 u2, IsBig.put h3 t u1 u2⟩
set_option maxRecDepth 100000 in
set_option maxHeartbeats 3200000 in
theorem ref2_half (x n d : Int) (hx : -9223372036854775808 ≤ x ∧ x ≤ 9223372036854775807) (hn : -9223372036854775808 ≤ n ∧ n ≤ 9223372036854775807) (hd : -9223372036854775808 ≤ d ∧ d ≤ 9223372036854775807) (h0 : d ≠ 0) (w : World) :
    Calls Try.prog 52 #[.int .i64 x, .int .i64 n, .int .i64 d] w (BigRet (fq (2 * (x * n) + d) (2 * d)) w) := by
  obtain ⟨x1, x2⟩ := hx
  obtain ⟨n1, n2⟩ := hn
  obtain ⟨d1, d2⟩ := hd
  have sx := BM.Sz.i64 x1 x2
  have sn := BM.Sz.i64 n1 n2
  have sd := BM.Sz.i64 d1 d2
  have sxn := BM.Sz.mul sx sn
  have s2 := BM.Sz.mul (BM.Sz.u64 (n := 2) (by omega) (by omega)) sxn
  have s3 := BM.Sz.add s2 (sd.mono (k := 4 + (4 + 4)) (by omega))
  have s4 := BM.Sz.mul (BM.Sz.u64 (n := 2) (by omega) (by omega)) sd
  have DN := fun na nb ax bx k m ca cb W (h1 : IsBig W na ax k ca (2 * (x * n) + d)) (h2 : IsBig W nb bx m cb (2 * d)) hk hm => big_down na nb ax bx k m ca cb (2 * (x * n) + d) (2 * d) W h1 h2 hk hm (by omega)
  obtain ⟨F, eF⟩ : ∃ F, fq (2 * (x * n) + d) (2 * d) = F := ⟨_, rfl⟩
  obtain ⟨R, eR⟩ : ∃ R, fr (2 * (x * n) + d) (2 * d) = R := ⟨_, rfl⟩
  rw [eF, eR] at DN
  rw [eF]
  clear eF eR h0
  go_enter Try.func52, Try.ntmps52
  go_wp2_with fail
  refine (big_ofu2 _).mono ?_
  rintro e w1 ⟨a1, a2, a3, a4, rfl, I1, hb1⟩
  have hB : Below w.heap.size w w1 := below_thenA hb1 (by repeat' (first | (with_reducible exact Below.refl _ _) | (with_reducible assumption) | (with_reducible refine below_alloc ?_ _ ?_) | (with_reducible refine below_set _ ?_ ?_) | (with_reducible refine Below.drew ?_) | (with_reducible refine below_dN ?_ _) | (apply below_thenA; assumption) | omega | (simp; done) | (simp; omega) | (simp [*]; done))) (by simp)
  have t := (Two.new w (.bool false) (.slice none 0 0) _ rfl).below hb1
  have t2 := Two.new w1 (.bool a1) (.slice a2 a3 a4) _ rfl
  go_upto_region 2 with (fail)
  rename_i K0 hK0
  obtain ⟨W1, eW⟩ : ∃ W1, W1 = w1.alloc (.cells #[.bool a1, .slice a2 a3 a4] 29) := ⟨_, rfl⟩
  replace I1 : IsBig W1 a1 a2 a3 a4 2 := by rw [eW]; exact I1.keep (by repeat' (first | (with_reducible exact Below.refl _ _) | (with_reducible assumption) | (with_reducible refine below_alloc ?_ _ ?_) | (with_reducible refine below_set _ ?_ ?_) | (with_reducible refine Below.drew ?_) | (with_reducible refine below_dN ?_ _) | (apply below_thenA; assumption) | omega | (simp; done) | (simp; omega) | (simp [*]; done)))
  replace t : Two W1 w.heap.size (.bool false) (.slice none 0 0) := by rw [eW]; exact t.alloc _
  replace t2 : Two W1 w1.heap.size (.bool a1) (.slice a2 a3 a4) := by rw [eW]; exact t2
  replace hB : Below w.heap.size w W1 := by rw [eW]; exact hB.alloc hB.size _
  rw [← eW]
  have hB1 := hB.size
  refine wp_region_calm (fun w' => Below w.heap.size w w' ∧ Two w' w1.heap.size (.bool a1) (.slice a2 a3 a4) ∧ Two w' w.heap.size (.bool false) (.slice none 0 0) ∧ IsBig w' a1 a2 a3 a4 2 ∧ W1.heap.size ≤ w'.heap.size)
    [] (fun _ => True) [bigC 2, Is (.int .i64 x), bigC x, Is (.int .i64 n), bigC n, bigC (x * n), bigC (2 * (x * n)), boxC W1.heap.size, boxAt 7 W1.heap.size (2 * (x * n))] [7] (by kernel_rfl) (by kernel_rfl) (by kernel_rfl) (by kernel_rfl) ⟨hB.drew, t2, t, I1.drewd, Nat.le_refl _⟩ trivial ?_ (fun _ _ _ _ _ => trivial) ?_ ?_ ?_
  · rintro W W' ⟨h1, h2, h3, h4, h5⟩ hb
    exact ⟨h1.trans (hb.mono h1.size), h2.below hb, h3.below hb, h4.keep hb, Nat.le_trans h5 hb.size⟩
  · intro k vs W hk h
    obtain rfl : k = 7 := by simpa using hk
    obtain ⟨b, x, y, e, h1, h2⟩ := h
    exact ⟨b, e, h2.lt⟩
  · intro Q
    clear hK0 DN
    refine ⟨?_, ?_, ?_, ?_, ?_, ?_, ?_, ?_, ?_, trivial⟩
    · intro vs W hW hW0 hd hne hold K hK hA hL; clear hne hA hL; simp only [puts, Act.put, List.setIfInBounds_toArray, List.set_cons_zero, List.set_cons_succ, Nat.zero_add, Nat.reduceAdd] at hK ⊢
      have q := hW.2.1.cells
      have q1 := q.1
      have q2 := q.2.1
      clear hd hold
      go_simp
      exact hK.out rfl _ _ (Below.refl _ _) ⟨a1, a2, a3, a4, rfl, hW.2.2.2.1⟩
    · intro vs W hW hW0 hd hne hold K hK hA hL; clear hne hA hL; simp only [puts, Act.put, List.setIfInBounds_toArray, List.set_cons_zero, List.set_cons_succ, Nat.zero_add, Nat.reduceAdd] at hK ⊢; clear hd hold; go_simp; exact hK.out rfl _ _ (Below.refl _ _) rfl
    · intro vs W hW hW0 hd hne hold K hK hA hL; clear hne hA hL; simp only [puts, Act.put, List.setIfInBounds_toArray, List.set_cons_zero, List.set_cons_succ, Nat.zero_add, Nat.reduceAdd] at hK ⊢
      have h1 : vs 1 = _ := hd 1 (by kernel_rfl)
      clear hd hold; simp only [h1] at hK; go_simp; refine (big_of x x1 x2 _).mono ?_; (rintro e wx ⟨f1, f2, f3, f4, rfl, If, hbx⟩); go_simp; exact hK.out rfl _ _ hbx ⟨f1, f2, f3, f4, rfl, If⟩
    · intro vs W hW hW0 hd hne hold K hK hA hL; clear hne hA hL; simp only [puts, Act.put, List.setIfInBounds_toArray, List.set_cons_zero, List.set_cons_succ, Nat.zero_add, Nat.reduceAdd] at hK ⊢; clear hd hold; go_simp; exact hK.out rfl _ _ (Below.refl _ _) rfl
    · intro vs W hW hW0 hd hne hold K hK hA hL; clear hne hA hL; simp only [puts, Act.put, List.setIfInBounds_toArray, List.set_cons_zero, List.set_cons_succ, Nat.zero_add, Nat.reduceAdd] at hK ⊢
      have h1 : vs 3 = _ := hd 3 (by kernel_rfl)
      clear hd hold; simp only [h1] at hK; go_simp; refine (big_of n n1 n2 _).mono ?_; (rintro e wx ⟨f1, f2, f3, f4, rfl, If, hbx⟩); go_simp; exact hK.out rfl _ _ hbx ⟨f1, f2, f3, f4, rfl, If⟩
    · intro vs W hW hW0 hd hne hold K hK hA hL; clear hne hA hL; simp only [puts, Act.put, List.setIfInBounds_toArray, List.set_cons_zero, List.set_cons_succ, Nat.zero_add, Nat.reduceAdd] at hK ⊢
      (have hxb : BigV x (vs 2) W := hd 2 (by kernel_rfl)); obtain ⟨b1, b2, b3, b4, eb, Ib⟩ := hxb
      (have hxc : BigV n (vs 4) W := hd 4 (by kernel_rfl)); obtain ⟨c1, c2, c3, c4, ec, Ic⟩ := hxc
      have k2 := Ib.le sx
      have k3 := Ic.le sn
      clear hd hold; simp only [eb, ec] at hK; go_simp; refine (big_times b1 c1 b2 c2 b3 c3 b4 c4 x n _ Ib Ic (by omega) (by omega)).mono ?_; (rintro e wx ⟨f1, f2, f3, f4, rfl, If, hbx⟩); go_simp; exact hK.out rfl _ _ hbx ⟨f1, f2, f3, f4, rfl, If⟩
    · intro vs W hW hW0 hd hne hold K hK hA hL; clear hne hA hL; simp only [puts, Act.put, List.setIfInBounds_toArray, List.set_cons_zero, List.set_cons_succ, Nat.zero_add, Nat.reduceAdd] at hK ⊢
      (have hxb : BigV 2 (vs 0) W := hd 0 (by kernel_rfl)); obtain ⟨b1, b2, b3, b4, eb, Ib⟩ := hxb
      (have hxc : BigV (x * n) (vs 5) W := hd 5 (by kernel_rfl)); obtain ⟨c1, c2, c3, c4, ec, Ic⟩ := hxc
      have k2 := Ib.le (BM.Sz.u64 (n := 2) (by omega) (by omega))
      have k3 := Ic.le sxn
      clear hd hold; simp only [eb, ec] at hK; go_simp; refine (big_times b1 c1 b2 c2 b3 c3 b4 c4 2 (x * n) _ Ib Ic (by omega) (by omega)).mono ?_; (rintro e wx ⟨f1, f2, f3, f4, rfl, If, hbx⟩); go_simp; exact hK.out rfl _ _ hbx ⟨f1, f2, f3, f4, rfl, If⟩
    · intro vs W hW hW0 hd hne hold K hK hA hL; clear hne hK hL; simp only [puts, Act.put, List.setIfInBounds_toArray, List.set_cons_zero, List.set_cons_succ, Nat.zero_add, Nat.reduceAdd] at hA ⊢; clear hd hold; go_simp; exact hA.out W.heap.size _ ((Below.refl _ _).alloc (Nat.le_refl _) _) (Nat.le_refl _) ⟨W.heap.size, _, _, rfl, hW.2.2.2.2, Two.new _ _ _ _ rfl⟩
    · intro vs W hW hW0 hd hne hold K hK hA hL; clear hK hA; simp only [puts, Act.put, List.setIfInBounds_toArray, List.set_cons_zero, List.set_cons_succ, Nat.zero_add, Nat.reduceAdd] at hL ⊢; (have hxc : BigV (2 * (x * n)) (vs 6) W := hd 6 (by kernel_rfl)); obtain ⟨c1, c2, c3, c4, ec, Ic⟩ := hxc; (have hxb : BoxV (W1.heap.size) (vs 7) W := hd 7 (by kernel_rfl)); (obtain ⟨b, y1, y2, eb, hlb, T⟩ := hxb); have q := T.cells; have q1 := q.1; have q2 := q.2.1; have q3 := q.2.2.1; have q4 := q.2.2.2; clear hd hold; simp only [ec, eb] at hL; go_simp
      have n1 : w.heap.size ≠ b := by have := t.lt; omega
      have n2 : w1.heap.size ≠ b := by have := t2.lt; omega
      refine hL.out rfl undef _ ⟨BP hW.1 (by omega) _ _, hW.2.1.put_other n2 _ _, hW.2.2.1.put_other n1 _ _, IsBig.put hW.2.2.2.1 T _ _, by simpa [World.setCell] using hW.2.2.2.2⟩ (fun _ => trivial) ⟨b, c1, c2, c3, c4, eb, hlb, T.put _ _, IsBig.put Ic T _ _⟩ ?_
      exact claims_keep ⟨.inr fun h => BigV.put h T _ _, .inr is_keep, .inr fun h => BigV.put h T _ _, .inr is_keep, .inr fun h => BigV.put h T _ _, .inr fun h => BigV.put h T _ _, .inr fun h => BigV.put h T _ _, .inr fun h => BoxV.put h T _ _, .inl rfl, trivial⟩
  · intro va WA hW hV _
    have h8 : BoxBig W1.heap.size (2 * (x * n)) (va 7) WA := hV 8 (by decide)
    obtain ⟨b8, c1, c2, c3, c4, e8, l8, T8, I8⟩ := h8
    clear hV
    simp only [puts, Act.put, List.setIfInBounds_toArray, List.set_cons_zero, List.set_cons_succ, Nat.zero_add, Nat.reduceAdd, e8]
    refine hK0 _ _ ?_
    clear hK0
    obtain ⟨hB, t2, t, I1, hl⟩ := hW
    have hl8 : w.heap.size ≤ b8 := Nat.le_trans hB1 l8
    have hB3 := hB.size
    clear hl l8
    go_upto_region 3 with (fail)
    rename_i K1 hK1
    refine wp_region_calm (fun w' => Below w.heap.size w w' ∧ Two w' w1.heap.size (.bool a1) (.slice a2 a3 a4) ∧ Two w' w.heap.size (.bool false) (.slice none 0 0) ∧ Two w' b8 (.bool c1) (.slice c2 c3 c4) ∧ IsBig w' a1 a2 a3 a4 2 ∧ IsBig w' c1 c2 c3 c4 (2 * (x * n)) ∧ WA.heap.size ≤ w'.heap.size)
      [] (fun _ => True) [bigC (2 * (x * n)), Is (.int .i64 d), bigC d, bigC (2 * (x * n) + d), bigC 2, Is (.int .i64 d), bigC d, bigC (2 * d), big2C F R, big2C F R, bigC F, bigC R, boxC WA.heap.size, boxC WA.heap.size, boxAt 12 WA.heap.size F, .any] [12, 13] (by kernel_rfl) (by kernel_rfl) (by kernel_rfl) (by kernel_rfl) ⟨hB.drew, t2, t, T8, I1.drewd, I8.drewd, Nat.le_refl _⟩ trivial ?_ (fun _ _ _ _ _ => trivial) ?_ ?_ ?_
    · rintro W W' ⟨h1, h2, h3, h4, h5, h6, h7⟩ hb
      exact ⟨h1.trans (hb.mono h1.size), h2.below hb, h3.below hb, h4.below hb, h5.keep hb, h6.keep hb, Nat.le_trans h7 hb.size⟩
    · intro k vs W hk h
      rcases (by simpa using hk : k = 12 ∨ k = 13) with rfl | rfl <;> (obtain ⟨b, x, y, e, h1, h2⟩ := h; exact ⟨b, e, h2.lt⟩)
    · intro Q
      clear hK1
      refine ⟨?_, ?_, ?_, ?_, ?_, ?_, ?_, ?_, ?_, ?_, ?_, ?_, ?_, ?_, ?_, ?_, trivial⟩
      · intro vs W hW hW0 hd hne hold K hK hA hL; clear hne hA hL; simp only [puts, Act.put, List.setIfInBounds_toArray, List.set_cons_zero, List.set_cons_succ, Nat.zero_add, Nat.reduceAdd] at hK ⊢
        have q := hW.2.2.2.1.cells
        have q1 := q.1
        have q2 := q.2.1
        clear hd hold
        go_simp
        exact hK.out rfl _ _ (Below.refl _ _) ⟨c1, c2, c3, c4, rfl, hW.2.2.2.2.2.1⟩
      · intro vs W hW hW0 hd hne hold K hK hA hL; clear hne hA hL; simp only [puts, Act.put, List.setIfInBounds_toArray, List.set_cons_zero, List.set_cons_succ, Nat.zero_add, Nat.reduceAdd] at hK ⊢; clear hd hold; go_simp; exact hK.out rfl _ _ (Below.refl _ _) rfl
      · intro vs W hW hW0 hd hne hold K hK hA hL; clear hne hA hL; simp only [puts, Act.put, List.setIfInBounds_toArray, List.set_cons_zero, List.set_cons_succ, Nat.zero_add, Nat.reduceAdd] at hK ⊢
        have h1 : vs 1 = _ := hd 1 (by kernel_rfl)
        clear hd hold; simp only [h1] at hK; go_simp; refine (big_of d d1 d2 _).mono ?_; (rintro e wx ⟨f1, f2, f3, f4, rfl, If, hbx⟩); go_simp; exact hK.out rfl _ _ hbx ⟨f1, f2, f3, f4, rfl, If⟩
      · intro vs W hW hW0 hd hne hold K hK hA hL; clear hne hA hL; simp only [puts, Act.put, List.setIfInBounds_toArray, List.set_cons_zero, List.set_cons_succ, Nat.zero_add, Nat.reduceAdd] at hK ⊢
        (have hxb : BigV (2 * (x * n)) (vs 0) W := hd 0 (by kernel_rfl)); obtain ⟨b1, b2, b3, b4, eb, Ib⟩ := hxb
        (have hxc : BigV d (vs 2) W := hd 2 (by kernel_rfl)); obtain ⟨c1, c2, c3, c4, ec, Ic⟩ := hxc
        have k2 := Ib.le s2
        have k3 := Ic.le sd
        clear hd hold; simp only [eb, ec] at hK; go_simp; refine (big_plus b1 c1 b2 c2 b3 c3 b4 c4 (2 * (x * n)) d _ Ib Ic (by omega) (by omega)).mono ?_; (rintro e wx ⟨f1, f2, f3, f4, rfl, If, hbx⟩); go_simp; exact hK.out rfl _ _ hbx ⟨f1, f2, f3, f4, rfl, If⟩
      · intro vs W hW hW0 hd hne hold K hK hA hL; clear hne hA hL; simp only [puts, Act.put, List.setIfInBounds_toArray, List.set_cons_zero, List.set_cons_succ, Nat.zero_add, Nat.reduceAdd] at hK ⊢
        have q := hW.2.1.cells
        have q1 := q.1
        have q2 := q.2.1
        clear hd hold
        go_simp
        exact hK.out rfl _ _ (Below.refl _ _) ⟨a1, a2, a3, a4, rfl, hW.2.2.2.2.1⟩
      · intro vs W hW hW0 hd hne hold K hK hA hL; clear hne hA hL; simp only [puts, Act.put, List.setIfInBounds_toArray, List.set_cons_zero, List.set_cons_succ, Nat.zero_add, Nat.reduceAdd] at hK ⊢; clear hd hold; go_simp; exact hK.out rfl _ _ (Below.refl _ _) rfl
      · intro vs W hW hW0 hd hne hold K hK hA hL; clear hne hA hL; simp only [puts, Act.put, List.setIfInBounds_toArray, List.set_cons_zero, List.set_cons_succ, Nat.zero_add, Nat.reduceAdd] at hK ⊢
        have h1 : vs 5 = _ := hd 5 (by kernel_rfl)
        clear hd hold; simp only [h1] at hK; go_simp; refine (big_of d d1 d2 _).mono ?_; (rintro e wx ⟨f1, f2, f3, f4, rfl, If, hbx⟩); go_simp; exact hK.out rfl _ _ hbx ⟨f1, f2, f3, f4, rfl, If⟩
      · intro vs W hW hW0 hd hne hold K hK hA hL; clear hne hA hL; simp only [puts, Act.put, List.setIfInBounds_toArray, List.set_cons_zero, List.set_cons_succ, Nat.zero_add, Nat.reduceAdd] at hK ⊢
        (have hxb : BigV 2 (vs 4) W := hd 4 (by kernel_rfl)); obtain ⟨b1, b2, b3, b4, eb, Ib⟩ := hxb
        (have hxc : BigV d (vs 6) W := hd 6 (by kernel_rfl)); obtain ⟨c1, c2, c3, c4, ec, Ic⟩ := hxc
        have k2 := Ib.le (BM.Sz.u64 (n := 2) (by omega) (by omega))
        have k3 := Ic.le sd
        clear hd hold; simp only [eb, ec] at hK; go_simp; refine (big_times b1 c1 b2 c2 b3 c3 b4 c4 2 d _ Ib Ic (by omega) (by omega)).mono ?_; (rintro e wx ⟨f1, f2, f3, f4, rfl, If, hbx⟩); go_simp; exact hK.out rfl _ _ hbx ⟨f1, f2, f3, f4, rfl, If⟩
      · intro vs W hW hW0 hd hne hold K hK hA hL; clear hne hA hL; simp only [puts, Act.put, List.setIfInBounds_toArray, List.set_cons_zero, List.set_cons_succ, Nat.zero_add, Nat.reduceAdd] at hK ⊢
        (have hxb : BigV (2 * (x * n) + d) (vs 3) W := hd 3 (by kernel_rfl)); obtain ⟨b1, b2, b3, b4, eb, Ib⟩ := hxb
        (have hxc : BigV (2 * d) (vs 7) W := hd 7 (by kernel_rfl)); obtain ⟨c1, c2, c3, c4, ec, Ic⟩ := hxc
        have k2 := Ib.le s3
        have k3 := Ic.le s4
        clear hd hold
        simp only [eb, ec] at hK
        go_simp
        refine (DN b1 c1 b2 c2 b3 c3 b4 c4 _ Ib Ic (by omega) (by omega)).mono ?_
        rintro e wx ⟨f1, f2, f3, f4, g1, g2, g3, g4, rfl, If, Ig, hbx⟩
        go_simp
        exact hK.out rfl _ _ hbx ⟨f1, f2, f3, f4, g1, g2, g3, g4, rfl, If, Ig⟩
      · intro vs W hW hW0 hd hne hold K hK hA hL; clear hne hA hL; simp only [puts, Act.put, List.setIfInBounds_toArray, List.set_cons_zero, List.set_cons_succ, Nat.zero_add, Nat.reduceAdd] at hK ⊢
        have h1 : Big2V F R (vs 8) W := hd 8 (by kernel_rfl)
        clear hd hold
        go_simp
        exact hK.out rfl _ _ (Below.refl _ _) h1
      · intro vs W hW hW0 hd hne hold K hK hA hL; clear hne hA hL; simp only [puts, Act.put, List.setIfInBounds_toArray, List.set_cons_zero, List.set_cons_succ, Nat.zero_add, Nat.reduceAdd] at hK ⊢
        have h1 : Big2V F R (vs 9) W := hd 9 (by kernel_rfl)
        obtain ⟨f1, f2, f3, f4, g1, g2, g3, g4, e1, If, Ig⟩ := h1
        clear hd hold
        simp only [e1] at hK
        go_simp
        exact hK.out rfl _ _ (Below.refl _ _) ⟨f1, f2, f3, f4, rfl, If⟩
      · intro vs W hW hW0 hd hne hold K hK hA hL; clear hne hA hL; simp only [puts, Act.put, List.setIfInBounds_toArray, List.set_cons_zero, List.set_cons_succ, Nat.zero_add, Nat.reduceAdd] at hK ⊢
        have h1 : Big2V F R (vs 9) W := hd 9 (by kernel_rfl)
        obtain ⟨f1, f2, f3, f4, g1, g2, g3, g4, e1, If, Ig⟩ := h1
        clear hd hold
        simp only [e1] at hK
        go_simp
        exact hK.out rfl _ _ (Below.refl _ _) ⟨g1, g2, g3, g4, rfl, Ig⟩
      · intro vs W hW hW0 hd hne hold K hK hA hL; clear hne hK hL; simp only [puts, Act.put, List.setIfInBounds_toArray, List.set_cons_zero, List.set_cons_succ, Nat.zero_add, Nat.reduceAdd] at hA ⊢; clear hd hold; go_simp; exact hA.out W.heap.size _ ((Below.refl _ _).alloc (Nat.le_refl _) _) (Nat.le_refl _) ⟨W.heap.size, _, _, rfl, hW.2.2.2.2.2.2, Two.new _ _ _ _ rfl⟩
      · intro vs W hW hW0 hd hne hold K hK hA hL; clear hne hK hL; simp only [puts, Act.put, List.setIfInBounds_toArray, List.set_cons_zero, List.set_cons_succ, Nat.zero_add, Nat.reduceAdd] at hA ⊢; clear hd hold; go_simp; exact hA.out W.heap.size _ ((Below.refl _ _).alloc (Nat.le_refl _) _) (Nat.le_refl _) ⟨W.heap.size, _, _, rfl, hW.2.2.2.2.2.2, Two.new _ _ _ _ rfl⟩
      · intro vs W hW hW0 hd hne hold K hK hA hL; clear hK hA; simp only [puts, Act.put, List.setIfInBounds_toArray, List.set_cons_zero, List.set_cons_succ, Nat.zero_add, Nat.reduceAdd] at hL ⊢; (have hxc : BigV F (vs 10) W := hd 10 (by kernel_rfl)); obtain ⟨c1, c2, c3, c4, ec, Ic⟩ := hxc; (have hxb : BoxV (WA.heap.size) (vs 12) W := hd 12 (by kernel_rfl)); (obtain ⟨b, y1, y2, eb, hlb, T⟩ := hxb); have q := T.cells; have q1 := q.1; have q2 := q.2.1; have q3 := q.2.2.1; have q4 := q.2.2.2; clear hd hold; simp only [ec, eb] at hL; go_simp
        have n1 : w.heap.size ≠ b := by have := t.lt; omega
        have n2 : w1.heap.size ≠ b := by have := t2.lt; omega
        have n8 : b8 ≠ b := by have := T8.lt; omega
        refine hL.out rfl undef _ ⟨BP hW.1 (by omega) _ _, hW.2.1.put_other n2 _ _, hW.2.2.1.put_other n1 _ _, hW.2.2.2.1.put_other n8 _ _, IsBig.put hW.2.2.2.2.1 T _ _, IsBig.put hW.2.2.2.2.2.1 T _ _, by simpa [World.setCell] using hW.2.2.2.2.2.2⟩ (fun _ => trivial) ⟨b, c1, c2, c3, c4, eb, hlb, T.put _ _, IsBig.put Ic T _ _⟩ ?_
        exact claims_keep ⟨.inr fun h => BigV.put h T _ _, .inr is_keep, .inr fun h => BigV.put h T _ _, .inr fun h => BigV.put h T _ _, .inr fun h => BigV.put h T _ _, .inr is_keep, .inr fun h => BigV.put h T _ _, .inr fun h => BigV.put h T _ _, .inr fun h => Big2V.put h T _ _, .inr fun h => Big2V.put h T _ _, .inr fun h => BigV.put h T _ _, .inr fun h => BigV.put h T _ _, .inr fun h => BoxV.put h T _ _, .inr fun h => BoxV.put h T _ _, .inl rfl, .inr fun _ => trivial, trivial⟩
      · intro vs W hW hW0 hd hne hold K hK hA hL; clear hK hA; simp only [puts, Act.put, List.setIfInBounds_toArray, List.set_cons_zero, List.set_cons_succ, Nat.zero_add, Nat.reduceAdd] at hL ⊢
        have hnb : vs 12 ≠ vs 13 := hne 12 13 (by decide) (by kernel_rfl)
        (have hxc : BigV R (vs 11) W := hd 11 (by kernel_rfl)); obtain ⟨c1, c2, c3, c4, ec, Ic⟩ := hxc
        have hxb : BoxV WA.heap.size (vs 13) W := hd 13 (by kernel_rfl)
        obtain ⟨b, y1, y2, eb, hlb, T⟩ := hxb
        rw [eb] at hnb
        have q := T.cells
        have q1 := q.1
        have q2 := q.2.1
        have q3 := q.2.2.1
        have q4 := q.2.2.2
        clear hd hold
        have HNB := Lib.hid hnb
        clear hnb hne
        simp only [ec, eb] at hL
        go_simp
        have hnb := HNB.out
        have n1 : w.heap.size ≠ b := by have := t.lt; omega
        have n2 : w1.heap.size ≠ b := by have := t2.lt; omega
        have n8 : b8 ≠ b := by have := T8.lt; omega
        refine hL.out rfl undef _ ⟨BP hW.1 (by omega) _ _, hW.2.1.put_other n2 _ _, hW.2.2.1.put_other n1 _ _, hW.2.2.2.1.put_other n8 _ _, IsBig.put hW.2.2.2.2.1 T _ _, IsBig.put hW.2.2.2.2.2.1 T _ _, by simpa [World.setCell] using hW.2.2.2.2.2.2⟩ (fun _ => trivial) trivial ?_
        exact claims_keep ⟨.inr fun h => BigV.put h T _ _, .inr is_keep, .inr fun h => BigV.put h T _ _, .inr fun h => BigV.put h T _ _, .inr fun h => BigV.put h T _ _, .inr is_keep, .inr fun h => BigV.put h T _ _, .inr fun h => BigV.put h T _ _, .inr fun h => Big2V.put h T _ _, .inr fun h => Big2V.put h T _ _, .inr fun h => BigV.put h T _ _, .inr fun h => BigV.put h T _ _, .inr fun h => BoxV.put h T _ _, .inr fun h => BoxV.put h T _ _, .inr fun h => BoxBig.put h hnb T _ _, .inl rfl, trivial⟩
    · intro vb WB hW hV _
      have h14 : BoxBig WA.heap.size F (vb 12) WB := hV 14 (by decide)
      obtain ⟨b9, g1, g2, g3, g4, e9, l9, T9, I9⟩ := h14
      clear hV
      simp only [puts, Act.put, List.setIfInBounds_toArray, List.set_cons_zero, List.set_cons_succ, Nat.zero_add, Nat.reduceAdd, e9]
      refine hK1 _ _ ?_
      clear hK1
      obtain ⟨hB, t2, t, T8, I1, I8, hl⟩ := hW
      have q := T9.cells
      have q1 := q.1
      have q2 := q.2.1
      have r := t.cells
      have r1 := r.1
      have r2 := r.2.1
      have r3 := r.2.2.1
      have r4 := r.2.2.2
      go_wp2_with fail
      (go_light; simp [bodyPost, results, Try.results52, go_sem, *])
      exact ⟨g1, g2, g3, g4, rfl, IsBig.put I9 t _ _, BP hB (Nat.le_refl _) _ _⟩
end Go.Proofs.Ythffphcgkmjhbaa
