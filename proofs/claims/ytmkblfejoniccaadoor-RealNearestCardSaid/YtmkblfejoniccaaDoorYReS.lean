/-
  The laws of layer 3: apart.
-/
import Derived.Test.YtmkblfejoniccaaDoorYReP
import Derived.Test.YtmkblfejoniccaaDoorZ10
namespace Go.Proofs.YtmkblfejoniccaaDoor
open Go.RowKit
set_option linter.unusedSimpArgs false
set_option linter.unusedVariables false

/-- A box with a big number. -/
def BigB (w : World) (b : Nat) (X : Int) : Prop := ∃ n x k c, Blk w b #[.bool n, .slice x k c] 41 ∧ IsBig w n x k c X
theorem BigB.below {w w' : World} {b : Nat} {X : Int} (h : BigB w b X) (hb : Below w.heap.size w w') : BigB w' b X := by
  obtain ⟨n, x, k, c, t, i⟩ := h
  exact ⟨n, x, k, c, t.below hb, i.keep hb⟩
theorem BigB.drew {w : World} {b : Nat} {X : Int} (h : BigB w b X) : BigB w.drew b X := h.below (Below.refl _ _).drew
/-- A box of two cells, whatever they hold. -/
def TwoB (w : World) (b : Nat) : Prop := ∃ u v, Blk w b #[u, v] 41
theorem TwoB.below {w w' : World} {b : Nat} (h : TwoB w b) (hb : Below w.heap.size w w') : TwoB w' b := by
  obtain ⟨u, v, t⟩ := h
  exact ⟨u, v, t.below hb⟩
theorem TwoB.but {w w' : World} {b c : Nat} (h : TwoB w b) (hb : But c w w') (hne : b ≠ c) : TwoB w' b := by
  obtain ⟨u, v, t⟩ := h
  exact ⟨u, v, t.but hb hne⟩
theorem BigB.but {w w' : World} {b c : Nat} {X : Int} {cs0 : Array Value} {T0 : TypeId} (h : BigB w b X) (hb : But c w w') (t0 : Blk w c cs0 T0) (hT : T0 ≠ 22) (hne : b ≠ c) : BigB w' b X := by
  obtain ⟨n, x, k, d, t, i⟩ := h
  exact ⟨n, x, k, d, t.but hb hne, i.but hb t0 hT⟩
theorem BigB.other {w : World} {b c : Nat} {X : Int} {cs0 : Array Value} {T0 : TypeId} (h : BigB w b X) (t0 : Blk w c cs0 T0) (hT : T0 ≠ 22) (hne : b ≠ c) (i : Nat) (u : Value) : BigB (w.setCell ⟨c, i, none⟩ u) b X := h.but (But.set w i u) t0 hT hne
/-- What apart knows. -/
def ApW (w0 : World) (N D P L : Int) (p3 : Nat) (W : World) : Prop :=
  Below w0.heap.size w0 W ∧ Blk W w0.heap.size #[.int .i64 N, .int .i64 D] 25 ∧ TwoB W (w0.heap.size + 1) ∧ TwoB W (w0.heap.size + 2) ∧ BigB W p3 P ∧ BigB W (p3 + 1) L ∧ w0.heap.size + 3 ≤ p3
theorem ApW.below {w0 : World} {N D P L : Int} {p3 : Nat} {W W' : World} (h : ApW w0 N D P L p3 W) (hb : Below W.heap.size W W') : ApW w0 N D P L p3 W' :=
  ⟨h.1.trans (hb.mono h.1.size), h.2.1.below hb, h.2.2.1.below hb, h.2.2.2.1.below hb, h.2.2.2.2.1.below hb, h.2.2.2.2.2.1.below hb, h.2.2.2.2.2.2⟩
theorem ApW.bl {w0 : World} {N D P L : Int} {p3 : Nat} {W : World} (h : ApW w0 N D P L p3 W) : Below w0.heap.size w0 W := h.1
theorem ApW.ra {w0 : World} {N D P L : Int} {p3 : Nat} {W : World} (h : ApW w0 N D P L p3 W) : Blk W w0.heap.size #[.int .i64 N, .int .i64 D] 25 := h.2.1
theorem ApW.b1 {w0 : World} {N D P L : Int} {p3 : Nat} {W : World} (h : ApW w0 N D P L p3 W) : BigB W p3 P := h.2.2.2.2.1
theorem ApW.b2 {w0 : World} {N D P L : Int} {p3 : Nat} {W : World} (h : ApW w0 N D P L p3 W) : BigB W (p3 + 1) L := h.2.2.2.2.2.1
theorem ApW.but {w0 : World} {N D P L : Int} {p3 c : Nat} {W W' : World} {cs0 : Array Value} {T0 : TypeId} (h : ApW w0 N D P L p3 W) (hb : But c W W') (t0 : Blk W c cs0 T0) (hT : T0 ≠ 22) (hc : p3 + 1 < c) : ApW w0 N D P L p3 W' := by
  obtain ⟨h1, h2, h3, h4, h5, h6, h7⟩ := h
  exact ⟨hb.to h1 (by omega) h1.size, h2.but hb (by omega), h3.but hb (by omega), h4.but hb (by omega), h5.but hb t0 hT (by omega), h6.but hb t0 hT (by omega), h7⟩
/-- The same, where the difference stands. -/
def ApX (w0 : World) (N D L : Int) (p3 p6 : Nat) (X : Int) (W : World) : Prop :=
  Below w0.heap.size w0 W ∧ Blk W w0.heap.size #[.int .i64 N, .int .i64 D] 25 ∧ TwoB W (w0.heap.size + 1) ∧ TwoB W (w0.heap.size + 2) ∧ BigB W (p3 + 1) L ∧ BigB W p6 X ∧ w0.heap.size + 3 ≤ p3 ∧ p3 + 2 ≤ p6
theorem ApX.below {w0 : World} {N D L X : Int} {p3 p6 : Nat} {W W' : World} (h : ApX w0 N D L p3 p6 X W) (hb : Below W.heap.size W W') : ApX w0 N D L p3 p6 X W' :=
  ⟨h.1.trans (hb.mono h.1.size), h.2.1.below hb, h.2.2.1.below hb, h.2.2.2.1.below hb, h.2.2.2.2.1.below hb, h.2.2.2.2.2.1.below hb, h.2.2.2.2.2.2⟩
theorem ApX.drew {w0 : World} {N D L X : Int} {p3 p6 : Nat} {W : World} (h : ApX w0 N D L p3 p6 X W) : ApX w0 N D L p3 p6 X W.drew := h.below (Below.refl _ _).drew
theorem ApX.bl {w0 : World} {N D L X : Int} {p3 p6 : Nat} {W : World} (h : ApX w0 N D L p3 p6 X W) : Below w0.heap.size w0 W := h.1
theorem ApX.ra {w0 : World} {N D L X : Int} {p3 p6 : Nat} {W : World} (h : ApX w0 N D L p3 p6 X W) : Blk W w0.heap.size #[.int .i64 N, .int .i64 D] 25 := h.2.1
theorem ApX.t1 {w0 : World} {N D L X : Int} {p3 p6 : Nat} {W : World} (h : ApX w0 N D L p3 p6 X W) : TwoB W (w0.heap.size + 1) := h.2.2.1
theorem ApX.t2 {w0 : World} {N D L X : Int} {p3 p6 : Nat} {W : World} (h : ApX w0 N D L p3 p6 X W) : TwoB W (w0.heap.size + 2) := h.2.2.2.1
theorem ApX.b2 {w0 : World} {N D L X : Int} {p3 p6 : Nat} {W : World} (h : ApX w0 N D L p3 p6 X W) : BigB W (p3 + 1) L := h.2.2.2.2.1
theorem ApX.b1 {w0 : World} {N D L X : Int} {p3 p6 : Nat} {W : World} (h : ApX w0 N D L p3 p6 X W) : BigB W p6 X := h.2.2.2.2.2.1
theorem ApX.put {w0 : World} {N D L X : Int} {p3 p6 c : Nat} {W W' : World} {u0 v0 u1 v1 : Value} (h : ApX w0 N D L p3 p6 X W) (hb : But c W W') (t0 : Blk W c #[u0, v0] 41) (tb : Blk W' c #[u1, v1] 41) (hc : c = w0.heap.size + 1 ∨ c = w0.heap.size + 2) : ApX w0 N D L p3 p6 X W' := by
  obtain ⟨h1, h2, h3, h4, h5, h6, h7, h8⟩ := h
  refine ⟨hb.to h1 (by omega) h1.size, h2.but hb (by omega), ?_, ?_, h5.but hb t0 (by decide) (by omega), h6.but hb t0 (by decide) (by omega), h7, h8⟩
  · rcases hc with e | e
    · subst e; exact ⟨_, _, tb⟩
    · exact h3.but hb (by omega)
  · rcases hc with e | e
    · exact h4.but hb (by omega)
    · subst e; exact ⟨_, _, tb⟩
theorem ApW.nx {w0 : World} {N D P L X : Int} {p3 p6 k c : Nat} {W : World} {n : Bool} {x : Option Addr} (h : ApW w0 N D P L p3 W) (t : Blk W p6 #[.bool n, .slice x k c] 41) (i : IsBig W false x k c X) (hl : p3 + 2 ≤ p6) :
    ApX w0 N D L p3 p6 X (W.setCell ⟨p6, 0, none⟩ (.bool false)) := by
  have hb := But.set (b := p6) W 0 (.bool false)
  obtain ⟨h1, h2, h3, h4, h5, h6, h7⟩ := h
  exact ⟨hb.to h1 (by omega) h1.size, h2.but hb (by omega), h3.but hb (by omega), h4.but hb (by omega), h6.but hb t (by decide) (by omega), ⟨false, x, k, c, t.set 0 _, i.but hb t (by decide)⟩, h7, hl⟩
set_option maxRecDepth 100000 in
set_option maxHeartbeats 6400000 in
theorem law_apart (b : Nat) (hb : b < 18446744073709551616) (N D : Int) (hN : IFit N) (hD : IFit D) (w : World) :
    Calls Tryd.prog 23 #[.int .u64 (b : Int), .agg #[.int .i64 N, .int .i64 D]] w (BigRet2 (((fP b * D - N * fQ b).natAbs : Nat) : Int) (fQ b * D) w) := by
  have FR : ∀ w, Calls Tryd.prog 50 #[.int .u64 (b : Int)] w (BigRet2 (fP b) (fQ b) w) := ref3_fraction b hb
  have sP := fP_sz b
  have sL := fQ_sz b
  obtain ⟨N1, N2⟩ := hN
  obtain ⟨D1, D2⟩ := hD
  have sN := BM.Sz.i64 N1 N2
  have sD := BM.Sz.i64 D1 D2
  obtain ⟨P, eP⟩ : ∃ x, fP b = x := ⟨_, rfl⟩
  obtain ⟨L, eL⟩ : ∃ x, fQ b = x := ⟨_, rfl⟩
  rw [eP, eL] at FR
  rw [eP] at sP
  rw [eL] at sL
  rw [eP, eL, show P * D - N * L = P * D + -(N * L) by omega]
  have sPD := BM.Sz.mul sP sD
  have sNL := BM.Sz.mul sN sL
  have sLD := BM.Sz.mul sL sD
  obtain ⟨X, eX⟩ : ∃ x, P * D + -(N * L) = x := ⟨_, rfl⟩
  rw [eX]
  have sX : BM.Sz X 1105 := by rw [← eX]; exact BM.Sz.add (sPD.mono (by omega)) ((sNL.neg).mono (by omega))
  clear eP eL
  go_enter Tryd.func23, Tryd.ntmps23
  go_upto_region 2 with (go_at_call 50; with_reducible refine (FR _).mono ?_; rintro e w2 hR2; obtain ⟨n1, x1, k1, c1, n2, x2, k2, c2, rfl, I1, I2, hb2⟩ := BigRet2.out hR2)
  have t0 : Blk (((w.alloc (.cells #[.int .i64 N, .int .i64 D] 25)).alloc (.cells #[.bool false, .slice none 0 0] 41)).alloc (.cells #[.bool false, .slice none 0 0] 41)) w.heap.size #[.int .i64 N, .int .i64 D] 25 := ((Blk.new w _ _ _ rfl).alloc _).alloc _
  have t1 : Blk (((w.alloc (.cells #[.int .i64 N, .int .i64 D] 25)).alloc (.cells #[.bool false, .slice none 0 0] 41)).alloc (.cells #[.bool false, .slice none 0 0] 41)) (w.heap.size + 1) #[.bool false, .slice none 0 0] 41 := (Blk.new _ _ _ _ (by simp)).alloc _
  have t2 : Blk (((w.alloc (.cells #[.int .i64 N, .int .i64 D] 25)).alloc (.cells #[.bool false, .slice none 0 0] 41)).alloc (.cells #[.bool false, .slice none 0 0] 41)) (w.heap.size + 2) #[.bool false, .slice none 0 0] 41 := Blk.new _ _ _ _ (by simp)
  have hB0 : Below w.heap.size w (((w.alloc (.cells #[.int .i64 N, .int .i64 D] 25)).alloc (.cells #[.bool false, .slice none 0 0] 41)).alloc (.cells #[.bool false, .slice none 0 0] 41)) := (by repeat' (first | (with_reducible exact Below.refl _ _) | (with_reducible assumption) | (with_reducible refine below_alloc ?_ _ ?_) | (with_reducible refine below_set _ ?_ ?_) | (with_reducible refine Below.drew ?_) | (with_reducible refine below_dN ?_ _) | (apply below_thenA; assumption) | omega | (simp; done) | (simp; omega) | (simp [*]; done)))
  refine wp_worldF (ApW w N D P L w2.heap.size) ?_ ?_
  · have hs := hb2.size
    simp at hs
    refine ⟨?_, ((t0.below hb2).alloc _).alloc _, ⟨_, _, ((t1.below hb2).alloc _).alloc _⟩, ⟨_, _, ((t2.below hb2).alloc _).alloc _⟩, ⟨n1, x1, k1, c1, (Blk.new w2 _ _ _ rfl).alloc _, I1.keep (by exact (by repeat' (first | (with_reducible exact Below.refl _ _) | (with_reducible assumption) | (with_reducible refine below_alloc ?_ _ ?_) | (with_reducible refine below_set _ ?_ ?_) | (with_reducible refine Below.drew ?_) | (with_reducible refine below_dN ?_ _) | (apply below_thenA; assumption) | omega | (simp; done) | (simp; omega) | (simp [*]; done))))⟩, ⟨n2, x2, k2, c2, Blk.new _ _ _ _ (by simp), I2.keep (by exact (by repeat' (first | (with_reducible exact Below.refl _ _) | (with_reducible assumption) | (with_reducible refine below_alloc ?_ _ ?_) | (with_reducible refine below_set _ ?_ ?_) | (with_reducible refine Below.drew ?_) | (with_reducible refine below_dN ?_ _) | (apply below_thenA; assumption) | omega | (simp; done) | (simp; omega) | (simp [*]; done))))⟩, by omega⟩
    have hB2 := hB0.trans (hb2.mono hB0.size)
    have hs2 := hB2.size
    exact (by repeat' (first | (with_reducible exact Below.refl _ _) | (with_reducible assumption) | (with_reducible refine below_alloc ?_ _ ?_) | (with_reducible refine below_set _ ?_ ?_) | (with_reducible refine Below.drew ?_) | (with_reducible refine below_dN ?_ _) | (apply below_thenA; assumption) | omega | (simp; done) | (simp; omega) | (simp [*]; done)))
  obtain ⟨p3, e3⟩ : ∃ p, w2.heap.size = p := ⟨_, rfl⟩
  rw [e3]
  clear t0 t1 t2 hB0 hb2 hR2 I1 I2 e3 FR
  intro W2 T2
  obtain ⟨y1, y2, y3, y4, t9, i9⟩ := T2.b2
  have hl9 := t9.lt
  clear t9 i9
  go_upto_region 2 with (fail)
  rename_i K0 hK0
  refine wp_region_calm (fun w' => ApW w N D P L p3 w' ∧ p3 + 1 < w'.heap.size) [] (fun w' => True) [bigC P, Is (.pointer (some ⟨w.heap.size, 1, none⟩)), Is (.int .i64 D), bigC D, bigC (P * D), Is (.pointer (some ⟨w.heap.size, 0, none⟩)), Is (.int .i64 N), bigC N, bigC L, bigC (N * L), bigC (-(N * L)), bigC (P * D + -(N * L)), bxV (p3 + 2) 41 2, boxAt 12 (p3 + 2) (P * D + -(N * L))] [12] (by kernel_rfl) (by kernel_rfl) (by kernel_rfl) (by kernel_rfl) ⟨T2.below (Below.drew (Below.refl _ _)), hl9⟩ trivial ?_ ?_ ?_ ?_ ?_
  · rintro W W' ⟨hP, hl⟩ hb
    exact ⟨hP.below hb, Nat.lt_of_lt_of_le hl hb.size⟩
  · exact fun _ _ _ _ _ => trivial
  · intro k vs W hk h
    obtain rfl : k = 12 := (by simpa using hk) <;> (obtain ⟨b, cs, e, h1, h2, h3⟩ := h; exact ⟨b, e, h2.lt⟩)
  · intro Q; clear hK0 T2 hl9
    refine ⟨?_, ?_, ?_, ?_, ?_, ?_, ?_, ?_, ?_, ?_, ?_, ?_, ?_, ?_, trivial⟩
    · intro vs W hW hW0 hd hne hold K hK hA hL; clear hne hA hL; have hP := hW.1; have hl := hW.2; simp only [puts, Act.put, List.setIfInBounds_toArray, List.set_cons_zero, List.set_cons_succ, Nat.zero_add, Nat.reduceAdd] at hK ⊢; obtain ⟨n1, x1, k1, c1, t, i⟩ := hP.b1; have q1 := t.cell 0 _ rfl; have q2 := t.cell 1 _ rfl; clear hd hold; go_simp; exact hK.out rfl _ _ (Below.refl _ _) ⟨n1, x1, k1, c1, rfl, i⟩
    · intro vs W hW hW0 hd hne hold K hK hA hL; clear hne hA hL; have hP := hW.1; have hl := hW.2; simp only [puts, Act.put, List.setIfInBounds_toArray, List.set_cons_zero, List.set_cons_succ, Nat.zero_add, Nat.reduceAdd] at hK ⊢; clear hd hold; go_simp; exact hK.out rfl _ _ (Below.refl _ _) rfl
    · intro vs W hW hW0 hd hne hold K hK hA hL; clear hne hA hL; have hP := hW.1; have hl := hW.2; simp only [puts, Act.put, List.setIfInBounds_toArray, List.set_cons_zero, List.set_cons_succ, Nat.zero_add, Nat.reduceAdd] at hK ⊢; have q1 := hP.ra.cell 1 _ rfl; have eb : vs 1 = _ := hd 1 (by kernel_rfl); clear hd hold; simp only [eb] at hK; go_simp; exact hK.out rfl _ _ (Below.refl _ _) rfl
    · intro vs W hW hW0 hd hne hold K hK hA hL; clear hne hA hL; have hP := hW.1; have hl := hW.2; simp only [puts, Act.put, List.setIfInBounds_toArray, List.set_cons_zero, List.set_cons_succ, Nat.zero_add, Nat.reduceAdd] at hK ⊢; have eb : vs 2 = _ := hd 2 (by kernel_rfl); clear hd hold; simp only [eb] at hK; go_simp; refine (big_of D D1 D2 _).mono ?_; (rintro e wx ⟨f1, f2, f3, f4, rfl, If, hbx⟩); go_simp; exact hK.out rfl _ _ hbx ⟨f1, f2, f3, f4, rfl, If⟩
    · intro vs W hW hW0 hd hne hold K hK hA hL; clear hne hA hL; have hP := hW.1; have hl := hW.2; simp only [puts, Act.put, List.setIfInBounds_toArray, List.set_cons_zero, List.set_cons_succ, Nat.zero_add, Nat.reduceAdd] at hK ⊢; (have hxb : BigV P (vs 0) W := hd 0 (by kernel_rfl)); obtain ⟨b1, b2, b3, b4, eb, Ib⟩ := hxb; (have hxc : BigV D (vs 3) W := hd 3 (by kernel_rfl)); obtain ⟨c1, c2, c3, c4, ec, Ic⟩ := hxc; have z1 := Ib.le sP; have z2 := Ic.le sD; clear hd hold; simp only [eb, ec] at hK; go_simp; refine (big_times b1 c1 b2 c2 b3 c3 b4 c4 P D _ Ib Ic (by omega) (by omega)).mono ?_; (rintro e wx ⟨f1, f2, f3, f4, rfl, If, hbx⟩); go_simp; exact hK.out rfl _ _ hbx ⟨f1, f2, f3, f4, rfl, If⟩
    · intro vs W hW hW0 hd hne hold K hK hA hL; clear hne hA hL; have hP := hW.1; have hl := hW.2; simp only [puts, Act.put, List.setIfInBounds_toArray, List.set_cons_zero, List.set_cons_succ, Nat.zero_add, Nat.reduceAdd] at hK ⊢; clear hd hold; go_simp; exact hK.out rfl _ _ (Below.refl _ _) rfl
    · intro vs W hW hW0 hd hne hold K hK hA hL; clear hne hA hL; have hP := hW.1; have hl := hW.2; simp only [puts, Act.put, List.setIfInBounds_toArray, List.set_cons_zero, List.set_cons_succ, Nat.zero_add, Nat.reduceAdd] at hK ⊢; have q1 := hP.ra.cell 0 _ rfl; have eb : vs 5 = _ := hd 5 (by kernel_rfl); clear hd hold; simp only [eb] at hK; go_simp; exact hK.out rfl _ _ (Below.refl _ _) rfl
    · intro vs W hW hW0 hd hne hold K hK hA hL; clear hne hA hL; have hP := hW.1; have hl := hW.2; simp only [puts, Act.put, List.setIfInBounds_toArray, List.set_cons_zero, List.set_cons_succ, Nat.zero_add, Nat.reduceAdd] at hK ⊢; have eb : vs 6 = _ := hd 6 (by kernel_rfl); clear hd hold; simp only [eb] at hK; go_simp; refine (big_of N N1 N2 _).mono ?_; (rintro e wx ⟨f1, f2, f3, f4, rfl, If, hbx⟩); go_simp; exact hK.out rfl _ _ hbx ⟨f1, f2, f3, f4, rfl, If⟩
    · intro vs W hW hW0 hd hne hold K hK hA hL; clear hne hA hL; have hP := hW.1; have hl := hW.2; simp only [puts, Act.put, List.setIfInBounds_toArray, List.set_cons_zero, List.set_cons_succ, Nat.zero_add, Nat.reduceAdd] at hK ⊢; obtain ⟨n1, x1, k1, c1, t, i⟩ := hP.b2; have q1 := t.cell 0 _ rfl; have q2 := t.cell 1 _ rfl; clear hd hold; go_simp; exact hK.out rfl _ _ (Below.refl _ _) ⟨n1, x1, k1, c1, rfl, i⟩
    · intro vs W hW hW0 hd hne hold K hK hA hL; clear hne hA hL; have hP := hW.1; have hl := hW.2; simp only [puts, Act.put, List.setIfInBounds_toArray, List.set_cons_zero, List.set_cons_succ, Nat.zero_add, Nat.reduceAdd] at hK ⊢; (have hxb : BigV N (vs 7) W := hd 7 (by kernel_rfl)); obtain ⟨b1, b2, b3, b4, eb, Ib⟩ := hxb; (have hxc : BigV L (vs 8) W := hd 8 (by kernel_rfl)); obtain ⟨c1, c2, c3, c4, ec, Ic⟩ := hxc; have z1 := Ib.le sN; have z2 := Ic.le sL; clear hd hold; simp only [eb, ec] at hK; go_simp; refine (big_times b1 c1 b2 c2 b3 c3 b4 c4 N L _ Ib Ic (by omega) (by omega)).mono ?_; (rintro e wx ⟨f1, f2, f3, f4, rfl, If, hbx⟩); go_simp; exact hK.out rfl _ _ hbx ⟨f1, f2, f3, f4, rfl, If⟩
    · intro vs W hW hW0 hd hne hold K hK hA hL; clear hne hA hL; have hP := hW.1; have hl := hW.2; simp only [puts, Act.put, List.setIfInBounds_toArray, List.set_cons_zero, List.set_cons_succ, Nat.zero_add, Nat.reduceAdd] at hK ⊢; (have hxb : BigV (N * L) (vs 9) W := hd 9 (by kernel_rfl)); obtain ⟨b1, b2, b3, b4, eb, Ib⟩ := hxb; have z1 := Ib.le sNL; clear hd hold; simp only [eb] at hK; go_simp; refine (big_minus b1 b2 b3 b4 (N * L) _ Ib (by omega)).mono ?_; (rintro e wx ⟨f1, f2, f3, f4, rfl, If, hbx⟩); go_simp; exact hK.out rfl _ _ hbx ⟨f1, f2, f3, f4, rfl, If⟩
    · intro vs W hW hW0 hd hne hold K hK hA hL; clear hne hA hL; have hP := hW.1; have hl := hW.2; simp only [puts, Act.put, List.setIfInBounds_toArray, List.set_cons_zero, List.set_cons_succ, Nat.zero_add, Nat.reduceAdd] at hK ⊢; (have hxb : BigV (P * D) (vs 4) W := hd 4 (by kernel_rfl)); obtain ⟨b1, b2, b3, b4, eb, Ib⟩ := hxb; (have hxc : BigV (-(N * L)) (vs 10) W := hd 10 (by kernel_rfl)); obtain ⟨c1, c2, c3, c4, ec, Ic⟩ := hxc; have z1 := Ib.le sPD; have z2 := Ic.le sNL.neg; clear hd hold; simp only [eb, ec] at hK; go_simp; refine (big_plus b1 c1 b2 c2 b3 c3 b4 c4 (P * D) (-(N * L)) _ Ib Ic (by omega) (by omega)).mono ?_; (rintro e wx ⟨f1, f2, f3, f4, rfl, If, hbx⟩); go_simp; exact hK.out rfl _ _ hbx ⟨f1, f2, f3, f4, rfl, If⟩
    · intro vs W hW hW0 hd hne hold K hK hA hL; clear hne hK hL; have hP := hW.1; have hl := hW.2; simp only [puts, Act.put, List.setIfInBounds_toArray, List.set_cons_zero, List.set_cons_succ, Nat.zero_add, Nat.reduceAdd] at hA ⊢; clear hd hold; go_simp; exact hA.out W.heap.size _ ((Below.refl _ _).alloc (Nat.le_refl _) _) (Nat.le_refl _) ⟨W.heap.size, _, rfl, hl, Blk.new _ _ _ _ rfl, rfl⟩
    · intro vs W hW hW0 hd hne hold K hK hA hL; clear hK hA; have hP := hW.1; have hl := hW.2; simp only [puts, Act.put, List.setIfInBounds_toArray, List.set_cons_zero, List.set_cons_succ, Nat.zero_add, Nat.reduceAdd] at hL ⊢; (have hxc : BigV (P * D + -(N * L)) (vs 11) W := hd 11 (by kernel_rfl)); obtain ⟨c1, c2, c3, c4, ec, Ic⟩ := hxc; (have hxb : BxV (p3 + 2) 41 2 (vs 12) W := hd 12 (by kernel_rfl)); obtain ⟨b, cs0, eb, hlb, t0, hsz⟩ := hxb; obtain ⟨z0, q0⟩ := t0.cellx 0 (by omega); have p0 := t0.free 0; obtain ⟨z1, q1⟩ := t0.cellx 1 (by omega); have p1 := t0.free 1; have tb := t0.set2 hsz (.bool c1) (.slice c2 c3 c4); have hbt := But.set2 (b := b) W (.bool c1) (.slice c2 c3 c4); clear hd hold; simp only [ec, eb] at hL; have HSZ := Lib.hid hsz; clear hsz; have HNE := Lib.hid hne; clear hne; go_simp; have hne := HNE.out; have hsz := HSZ.out; refine hL.out rfl undef _ ⟨hP.but hbt t0 (by decide) (by omega), Nat.lt_of_lt_of_le hl hbt.size⟩ (fun _ => trivial) ⟨b, c1, c2, c3, c4, eb, hlb, tb, IsBig.but Ic hbt t0 (by decide)⟩ ?_; exact claims_keep ⟨.inr fun h => BigV.but h hbt t0 (by decide), .inr is_keep, .inr is_keep, .inr fun h => BigV.but h hbt t0 (by decide), .inr fun h => BigV.but h hbt t0 (by decide), .inr is_keep, .inr is_keep, .inr fun h => BigV.but h hbt t0 (by decide), .inr fun h => BigV.but h hbt t0 (by decide), .inr fun h => BigV.but h hbt t0 (by decide), .inr fun h => BigV.but h hbt t0 (by decide), .inr fun h => BigV.but h hbt t0 (by decide), .inr fun h => BxV.but h hbt t0 tb (by rw [hsz]; rfl), .inl rfl, trivial⟩
  · intro va WA hW hV _
    obtain ⟨hP, -⟩ := hW
    have h13 : BoxBig (p3 + 2) (P * D + -(N * L)) (va 12) WA := hV 13 (by decide)
    obtain ⟨p6, n6, x6, k6, c6, e6, hl6, t6, I6⟩ := h13
    replace t6 : Blk WA p6 #[.bool n6, .slice x6 k6 c6] 41 := t6
    rw [eX] at I6
    clear hV T2 hl9
    simp only [puts, Act.put, List.setIfInBounds_toArray, List.set_cons_zero, List.set_cons_succ, Nat.zero_add, Nat.reduceAdd, e6]
    refine hK0 _ _ ?_
    clear hK0 e6 sPD sNL
    have q1 := t6.cell 0 _ rfl
    have q2 := t6.free 0
    have hX := hP.nx t6 I6.abs hl6
    go_upto_region 4 with (fail)
    refine wp_worldF (ApX w N D L p3 p6 ((X.natAbs : Nat) : Int)) hX ?_
    clear hX q1 q2 t6 I6 hP
    intro W4 T4
    go_upto_region 4 with (fail)
    rename_i K1 hK1
    refine wp_region_calm (fun w' => ApX w N D L p3 p6 ((X.natAbs : Nat) : Int) w') [6, 7] (fun w' => True) [bigC ((X.natAbs : Nat) : Int), bigC L, Is (.pointer (some ⟨w.heap.size, 1, none⟩)), Is (.int .i64 D), bigC D, bigC (L * D), heldK (fun W => BigB W (w.heap.size + 1) ((X.natAbs : Nat) : Int)) (fun _ _ h hb => h.below hb), heldK (fun W => BigB W (w.heap.size + 2) (L * D)) (fun _ _ h hb => h.below hb)] [] (by kernel_rfl) (by kernel_rfl) (by kernel_rfl) (by kernel_rfl) T4.drew trivial ?_ ?_ ?_ ?_ ?_
    · rintro W W' hP hb
      exact hP.below hb
    · exact fun _ _ _ _ _ => trivial
    · intro k vs W hk h
      exact absurd hk (by simp)
    · intro Q; clear hK1 T4
      refine ⟨?_, ?_, ?_, ?_, ?_, ?_, ?_, ?_, trivial⟩
      · intro vs W hW hW0 hd hne hold K hK hA hL; clear hne hA hL; have hP := hW; simp only [puts, Act.put, List.setIfInBounds_toArray, List.set_cons_zero, List.set_cons_succ, Nat.zero_add, Nat.reduceAdd] at hK ⊢; obtain ⟨n1, x1, k1, c1, t, i⟩ := hP.b1; have q1 := t.cell 0 _ rfl; have q2 := t.cell 1 _ rfl; clear hd hold; go_simp; exact hK.out rfl _ _ (Below.refl _ _) ⟨n1, x1, k1, c1, rfl, i⟩
      · intro vs W hW hW0 hd hne hold K hK hA hL; clear hne hA hL; have hP := hW; simp only [puts, Act.put, List.setIfInBounds_toArray, List.set_cons_zero, List.set_cons_succ, Nat.zero_add, Nat.reduceAdd] at hK ⊢; obtain ⟨n1, x1, k1, c1, t, i⟩ := hP.b2; have q1 := t.cell 0 _ rfl; have q2 := t.cell 1 _ rfl; clear hd hold; go_simp; exact hK.out rfl _ _ (Below.refl _ _) ⟨n1, x1, k1, c1, rfl, i⟩
      · intro vs W hW hW0 hd hne hold K hK hA hL; clear hne hA hL; have hP := hW; simp only [puts, Act.put, List.setIfInBounds_toArray, List.set_cons_zero, List.set_cons_succ, Nat.zero_add, Nat.reduceAdd] at hK ⊢; clear hd hold; go_simp; exact hK.out rfl _ _ (Below.refl _ _) rfl
      · intro vs W hW hW0 hd hne hold K hK hA hL; clear hne hA hL; have hP := hW; simp only [puts, Act.put, List.setIfInBounds_toArray, List.set_cons_zero, List.set_cons_succ, Nat.zero_add, Nat.reduceAdd] at hK ⊢; have q1 := hP.ra.cell 1 _ rfl; have eb : vs 2 = _ := hd 2 (by kernel_rfl); clear hd hold; simp only [eb] at hK; go_simp; exact hK.out rfl _ _ (Below.refl _ _) rfl
      · intro vs W hW hW0 hd hne hold K hK hA hL; clear hne hA hL; have hP := hW; simp only [puts, Act.put, List.setIfInBounds_toArray, List.set_cons_zero, List.set_cons_succ, Nat.zero_add, Nat.reduceAdd] at hK ⊢; have eb : vs 3 = _ := hd 3 (by kernel_rfl); clear hd hold; simp only [eb] at hK; go_simp; refine (big_of D D1 D2 _).mono ?_; (rintro e wx ⟨f1, f2, f3, f4, rfl, If, hbx⟩); go_simp; exact hK.out rfl _ _ hbx ⟨f1, f2, f3, f4, rfl, If⟩
      · intro vs W hW hW0 hd hne hold K hK hA hL; clear hne hA hL; have hP := hW; simp only [puts, Act.put, List.setIfInBounds_toArray, List.set_cons_zero, List.set_cons_succ, Nat.zero_add, Nat.reduceAdd] at hK ⊢; (have hxb : BigV L (vs 1) W := hd 1 (by kernel_rfl)); obtain ⟨b1, b2, b3, b4, eb, Ib⟩ := hxb; (have hxc : BigV D (vs 4) W := hd 4 (by kernel_rfl)); obtain ⟨c1, c2, c3, c4, ec, Ic⟩ := hxc; have z1 := Ib.le sL; have z2 := Ic.le sD; clear hd hold; simp only [eb, ec] at hK; go_simp; refine (big_times b1 c1 b2 c2 b3 c3 b4 c4 L D _ Ib Ic (by omega) (by omega)).mono ?_; (rintro e wx ⟨f1, f2, f3, f4, rfl, If, hbx⟩); go_simp; exact hK.out rfl _ _ hbx ⟨f1, f2, f3, f4, rfl, If⟩
      · intro vs W hW hW0 hd hne hold K hK hA hL; clear hK hA; have hP := hW; simp only [puts, Act.put, List.setIfInBounds_toArray, List.set_cons_zero, List.set_cons_succ, Nat.zero_add, Nat.reduceAdd] at hL ⊢; (have hxc : BigV (((X.natAbs : Nat) : Int)) (vs 0) W := hd 0 (by kernel_rfl)); obtain ⟨c1, c2, c3, c4, ec, Ic⟩ := hxc; obtain ⟨u0, v0, t0⟩ := hP.t1; have q1 := t0.cell 0 _ rfl; have q2 := t0.cell 1 _ rfl; have q3 := t0.free 0; have q4 := t0.free 1; have hbt := But.set2 (b := w.heap.size + 1) W (.bool c1) (.slice c2 c3 c4); have tb := t0.set2 rfl (.bool c1) (.slice c2 c3 c4); clear hd hold; simp only [ec] at hL; go_simp; refine hL.out rfl undef _ (hP.put hbt t0 tb (.inl rfl)) (fun _ => trivial) ⟨c1, c2, c3, c4, tb, IsBig.but Ic hbt t0 (by decide)⟩ ?_; exact claims_keep ⟨.inr fun h => BigV.but h hbt t0 (by decide), .inr fun h => BigV.but h hbt t0 (by decide), .inr is_keep, .inr is_keep, .inr fun h => BigV.but h hbt t0 (by decide), .inr fun h => BigV.but h hbt t0 (by decide), .inl rfl, .inr fun h => BigB.but h hbt t0 (by decide) (by omega), trivial⟩
      · intro vs W hW hW0 hd hne hold K hK hA hL; clear hK hA; have hP := hW; simp only [puts, Act.put, List.setIfInBounds_toArray, List.set_cons_zero, List.set_cons_succ, Nat.zero_add, Nat.reduceAdd] at hL ⊢; (have hxc : BigV (L * D) (vs 5) W := hd 5 (by kernel_rfl)); obtain ⟨c1, c2, c3, c4, ec, Ic⟩ := hxc; obtain ⟨u0, v0, t0⟩ := hP.t2; have q1 := t0.cell 0 _ rfl; have q2 := t0.cell 1 _ rfl; have q3 := t0.free 0; have q4 := t0.free 1; have hbt := But.set2 (b := w.heap.size + 2) W (.bool c1) (.slice c2 c3 c4); have tb := t0.set2 rfl (.bool c1) (.slice c2 c3 c4); clear hd hold; simp only [ec] at hL; go_simp; refine hL.out rfl undef _ (hP.put hbt t0 tb (.inr rfl)) (fun _ => trivial) ⟨c1, c2, c3, c4, tb, IsBig.but Ic hbt t0 (by decide)⟩ ?_; exact claims_keep ⟨.inr fun h => BigV.but h hbt t0 (by decide), .inr fun h => BigV.but h hbt t0 (by decide), .inr is_keep, .inr is_keep, .inr fun h => BigV.but h hbt t0 (by decide), .inr fun h => BigV.but h hbt t0 (by decide), .inr fun h => BigB.but h hbt t0 (by decide) (by omega), .inl rfl, trivial⟩
    · intro vb WB hW hV _
      have h6 : BigB WB (w.heap.size + 1) ((X.natAbs : Nat) : Int) := hV 6 (by decide)
      have h7 : BigB WB (w.heap.size + 2) (L * D) := hV 7 (by decide)
      obtain ⟨n6, x6, k6, c6, t6, I6⟩ := h6
      obtain ⟨n7, x7, k7, c7, t7, I7⟩ := h7
      clear hV T4
      simp only [puts, Act.put, List.setIfInBounds_toArray, List.set_cons_zero, List.set_cons_succ, Nat.zero_add, Nat.reduceAdd]
      refine hK1 _ _ ?_
      clear hK1
      have q1 := t6.cell 0 _ rfl
      have q2 := t6.cell 1 _ rfl
      have q3 : WB.cell? ⟨w.heap.size + 1 + 1, 0, none⟩ = some (.bool n7) := t7.cell 0 _ rfl
      have q4 : WB.cell? ⟨w.heap.size + 1 + 1, 1, none⟩ = some (.slice x7 k7 c7) := t7.cell 1 _ rfl
      have hB := hW.bl
      go_wp2_with fail
      (go_light; simp [bodyPost, results, Tryd.results23, go_sem, *])
      exact ⟨n6, x6, k6, c6, n7, x7, k7, c7, rfl, I6, I7, hB⟩
end Go.Proofs.YtmkblfejoniccaaDoor
