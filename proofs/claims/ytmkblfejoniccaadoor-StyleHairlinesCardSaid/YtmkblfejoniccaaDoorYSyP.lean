/-
  The statement StyleHairlines.
-/
import Derived.Test.YtmkblfejoniccaaDoorZ14
import Derived.Test.YtmkblfejoniccaaDoorYSyO
namespace Go.Proofs.YtmkblfejoniccaaDoor
open Go Go.RowKit
set_option linter.unusedSimpArgs false
set_option linter.unusedVariables false

def wldH (R : World → Prop) (hR : ∀ w w', R w → Below w.heap.size w w' → R w') : Cl := .own (fun _ w => R w) (fun _ _ _ h hb => hR _ _ h hb)
/-- What the closure finds. -/
def HlB (b7 b11 b8 b13 b14 : Nat) (x y N D : Int) (W w' : World) : Prop :=
  ButL [b13, b14] W w' ∧ Blk w' b7 #[.int .i64 x] 2 ∧ Blk w' b11 #[.int .i64 N, .int .i64 D] 25 ∧ Blk w' b8 #[.int .i64 y] 2 ∧ (∃ v, Blk w' b13 #[v] 2) ∧ (∃ v, Blk w' b14 #[v] 2)
theorem HlB.below {b7 b11 b8 b13 b14 : Nat} {x y N D : Int} {W w w' : World} (h : HlB b7 b11 b8 b13 b14 x y N D W w) (hb : Below w.heap.size w w') : HlB b7 b11 b8 b13 b14 x y N D W w' := by
  obtain ⟨h1, h2, h3, h4, ⟨v1, h5⟩, v2, h6⟩ := h
  exact ⟨h1.trans (ButL.of hb), h2.below hb, h3.below hb, h4.below hb, ⟨v1, h5.below hb⟩, v2, h6.below hb⟩
set_option maxRecDepth 100000 in
set_option maxHeartbeats 3200000 in
theorem hl1 (b7 b11 b8 b13 b14 : Nat) (x y N D h k : Int)
    (HX : ∀ W, Calls Tryd.prog 36 #[.int .i64 x, .agg #[.int .i64 N, .int .i64 D]] W fun e w' => e = .returned (.int .i64 h) ∧ Below W.heap.size W w')
    (HY : ∀ W, Calls Tryd.prog 36 #[.int .i64 y, .agg #[.int .i64 N, .int .i64 D]] W fun e w' => e = .returned (.int .i64 k) ∧ Below W.heap.size W w')
    (n1 : b7 ≠ b13) (n2 : b7 ≠ b14) (n3 : b11 ≠ b13) (n4 : b11 ≠ b14) (n5 : b8 ≠ b13) (n6 : b8 ≠ b14) (n7 : b13 ≠ b14) (W : World)
    (h7 : Blk W b7 #[.int .i64 x] 2) (h11 : Blk W b11 #[.int .i64 N, .int .i64 D] 25) (h8 : Blk W b8 #[.int .i64 y] 2) (v13 v14 : Value) (h13 : Blk W b13 #[v13] 2) (h14 : Blk W b14 #[v14] 2) :
    Calls Tryd.prog 38 #[.pointer (some ⟨b7, 0, none⟩), .pointer (some ⟨b11, 0, none⟩), .pointer (some ⟨b8, 0, none⟩), .pointer (some ⟨b13, 0, none⟩), .pointer (some ⟨b14, 0, none⟩)] W
      fun e W' => e = .returned (.tuple #[]) ∧ (Blk W' b13 #[.int .i64 h] 2 ∧ Blk W' b14 #[.int .i64 k] 2) ∧ ButL [b13, b14] W W' := by
  obtain ⟨Q, eQ⟩ : ∃ Q : Ending → World → Prop, Q = fun e W' => e = .returned (.tuple #[]) ∧ (Blk W' b13 #[.int .i64 h] 2 ∧ Blk W' b14 #[.int .i64 k] 2) ∧ ButL [b13, b14] W W' := ⟨_, rfl⟩
  rw [← eQ]
  have EQ := Lib.hid eQ
  have hGd : HlB b7 b11 b8 b13 b14 x y N D W W.drew := ⟨ButL.of (Below.refl _ _).drew, h7.drew, h11.drew, h8.drew, ⟨v13, h13.drew⟩, v14, h14.drew⟩
  clear eQ h7 h11 h8 h13 h14
  go_enter Tryd.func38, Tryd.ntmps38
  go_wp2_with fail
  go_upto_region 0 with (fail)
  refine wp_region_calm (fun w' => HlB b7 b11 b8 b13 b14 x y N D W w') [] (fun w' => True) [Is (.int .i64 x), Is (.agg #[.int .i64 N, .int .i64 D]), Is (.int .i64 h), Is (.int .i64 y), Is (.agg #[.int .i64 N, .int .i64 D]), Is (.int .i64 k), wldH (fun w => Blk w b13 #[.int .i64 h] 2) (fun _ _ h hb => h.below hb), wldH (fun w => Blk w b14 #[.int .i64 k] 2) (fun _ _ h hb => h.below hb)] [] (by kernel_rfl) (by kernel_rfl) (by kernel_rfl) (by kernel_rfl) hGd trivial ?_ ?_ ?_ ?_ ?_
  · rintro W W' hG hb
    exact hG.below hb
  · exact fun _ _ _ _ _ => trivial
  · intro k vs W hk h
    exact absurd hk (by simp)
  · intro Q; clear hGd
    refine ⟨?_, ?_, ?_, ?_, ?_, ?_, ?_, ?_, trivial⟩
    · intro vs W hW hW0 hd hne hold K hK hA hL; clear hne hA hL; have hG := hW; simp only [puts, Act.put, List.setIfInBounds_toArray, List.set_cons_zero, List.set_cons_succ, Nat.zero_add, Nat.reduceAdd] at hK ⊢; have q1 := hG.2.1.cell 0 _ rfl; clear hd hold; go_simp; exact hK.out rfl _ _ (Below.refl _ _) rfl
    · intro vs W hW hW0 hd hne hold K hK hA hL; clear hne hA hL; have hG := hW; simp only [puts, Act.put, List.setIfInBounds_toArray, List.set_cons_zero, List.set_cons_succ, Nat.zero_add, Nat.reduceAdd] at hK ⊢; have q1 := hG.2.2.1.cell 0 _ rfl; have q2 := hG.2.2.1.cell 1 _ rfl; clear hd hold; go_simp; exact hK.out rfl _ _ (Below.refl _ _) rfl
    · intro vs W hW hW0 hd hne hold K hK hA hL; clear hne hA hL; have hG := hW; simp only [puts, Act.put, List.setIfInBounds_toArray, List.set_cons_zero, List.set_cons_succ, Nat.zero_add, Nat.reduceAdd] at hK ⊢; have ea : vs 0 = _ := hd 0 (by kernel_rfl); have eb : vs 1 = _ := hd 1 (by kernel_rfl); clear hd hold; simp only [ea, eb] at hK; go_simp; refine (HX W).mono ?_; (rintro e wx ⟨rfl, hbx⟩); go_simp; exact hK.out rfl _ _ hbx rfl
    · intro vs W hW hW0 hd hne hold K hK hA hL; clear hne hA hL; have hG := hW; simp only [puts, Act.put, List.setIfInBounds_toArray, List.set_cons_zero, List.set_cons_succ, Nat.zero_add, Nat.reduceAdd] at hK ⊢; have q1 := hG.2.2.2.1.cell 0 _ rfl; clear hd hold; go_simp; exact hK.out rfl _ _ (Below.refl _ _) rfl
    · intro vs W hW hW0 hd hne hold K hK hA hL; clear hne hA hL; have hG := hW; simp only [puts, Act.put, List.setIfInBounds_toArray, List.set_cons_zero, List.set_cons_succ, Nat.zero_add, Nat.reduceAdd] at hK ⊢; have q1 := hG.2.2.1.cell 0 _ rfl; have q2 := hG.2.2.1.cell 1 _ rfl; clear hd hold; go_simp; exact hK.out rfl _ _ (Below.refl _ _) rfl
    · intro vs W hW hW0 hd hne hold K hK hA hL; clear hne hA hL; have hG := hW; simp only [puts, Act.put, List.setIfInBounds_toArray, List.set_cons_zero, List.set_cons_succ, Nat.zero_add, Nat.reduceAdd] at hK ⊢; have ea : vs 3 = _ := hd 3 (by kernel_rfl); have eb : vs 4 = _ := hd 4 (by kernel_rfl); clear hd hold; simp only [ea, eb] at hK; go_simp; refine (HY W).mono ?_; (rintro e wx ⟨rfl, hbx⟩); go_simp; exact hK.out rfl _ _ hbx rfl
    · intro vs W hW hW0 hd hne hold K hK hA hL; clear hK hA; have hG := hW; simp only [puts, Act.put, List.setIfInBounds_toArray, List.set_cons_zero, List.set_cons_succ, Nat.zero_add, Nat.reduceAdd] at hL ⊢; have ea : vs 2 = _ := hd 2 (by kernel_rfl); obtain ⟨g1, g2, g3, g4, ⟨u5, g5⟩, u6, g6⟩ := hG; have q1 := g5.cell 0 _ rfl; have q2 := g5.free 0; have hbt := But.set (b := b13) W 0 (.int .i64 h); clear hd hold; simp only [ea] at hL; go_simp; refine hL.out rfl undef _ ⟨g1.trans (ButL.set _ _ _ (by simp)), g2.but hbt n1, g3.but hbt n3, g4.but hbt n5, ⟨_, g5.set1 rfl _⟩, u6, g6.but hbt n7.symm⟩ (fun _ => trivial) (g5.set1 rfl _) ?_; exact claims_keep ⟨.inr is_keep, .inr is_keep, .inr is_keep, .inr is_keep, .inr is_keep, .inr is_keep, .inl rfl, .inr fun h => Blk.but h hbt n7.symm, trivial⟩
    · intro vs W hW hW0 hd hne hold K hK hA hL; clear hK hA; have hG := hW; simp only [puts, Act.put, List.setIfInBounds_toArray, List.set_cons_zero, List.set_cons_succ, Nat.zero_add, Nat.reduceAdd] at hL ⊢; have ea : vs 5 = _ := hd 5 (by kernel_rfl); obtain ⟨g1, g2, g3, g4, ⟨u5, g5⟩, u6, g6⟩ := hG; have q1 := g6.cell 0 _ rfl; have q2 := g6.free 0; have hbt := But.set (b := b14) W 0 (.int .i64 k); clear hd hold; simp only [ea] at hL; go_simp; refine hL.out rfl undef _ ⟨g1.trans (ButL.set _ _ _ (by simp)), g2.but hbt n2, g3.but hbt n4, g4.but hbt n6, ⟨u5, g5.but hbt n7⟩, _, g6.set1 rfl _⟩ (fun _ => trivial) (g6.set1 rfl _) ?_; exact claims_keep ⟨.inr is_keep, .inr is_keep, .inr is_keep, .inr is_keep, .inr is_keep, .inr is_keep, .inr fun h => Blk.but h hbt n7, .inl rfl, trivial⟩
  · intro va WB hW hV _
    have h6 : Blk WB b13 #[.int .i64 h] 2 := hV 6 (by decide)
    have h7 : Blk WB b14 #[.int .i64 k] 2 := hV 7 (by decide)
    clear hV
    have hfin : Q (.returned (.tuple #[])) WB := by rw [EQ.out]; exact ⟨rfl, ⟨h6, h7⟩, hW.1⟩
    simp only [puts, Act.put, List.setIfInBounds_toArray, List.set_cons_zero, List.set_cons_succ, Nat.zero_add, Nat.reduceAdd]
    go_end0
    exact hfin
set_option maxRecDepth 100000 in
set_option maxHeartbeats 3200000 in
theorem law_hairlines (a b s t : Int) (ha : 0 ≤ a ∧ a ≤ 4294967295) (hb : 0 ≤ b ∧ b ≤ 4294967295) (hs : 0 ≤ s ∧ s ≤ 65535) (ht : 0 ≤ t ∧ t ≤ 65535) (w : World) (hT : StyW w) :
    Calls Tryd.prog 11 #[.int .u32 a, .int .u32 b, .agg #[.int .u16 s, .int .u16 t]] w fun e w' => e = .returned (.bool true) ∧ Below w.heap.size w w' := by
  have HT := Lib.hid hT
  clear hT
  go_enter Tryd.func11, Tryd.ntmps11
  go_upto_region 1 with (fail)
  refine wp_worldS (fun W => Blk W w.heap.size #[.int .u16 s, .int .u16 t] 96 ∧ Below w.heap.size w W) ⟨Blk.new _ _ _ _ rfl, (by repeat' (first | (with_reducible exact Below.refl _ _) | (with_reducible assumption) | (with_reducible refine below_alloc ?_ _ ?_) | (with_reducible refine below_set _ ?_ ?_) | (with_reducible refine Below.drew ?_) | (with_reducible refine below_dN ?_ _) | (apply below_thenA; assumption) | omega | (simp; done) | (simp; omega) | (simp [*]; done)))⟩ ?_
  rintro W1 ⟨t5, hB1⟩
  have SP := speaks11 W1 (HT.out.below hB1)
  have HF := Lib.hid (And.intro t5 hB1)
  clear t5 hB1
  go_upto_region 3 with (go_at_call 28; with_reducible refine SP.mono ?_; rintro e w2 ⟨rfl, hb2⟩)
  go_upto_region 4 with fail
  have hxy : min a b / 4 ≤ max a b / 4 := by omega
  have hx0 : 0 ≤ min a b / 4 := by omega
  have hy1 : max a b / 4 < 1073741824 := by omega
  obtain ⟨x, ex⟩ : ∃ x, min a b / 4 = x := ⟨_, rfl⟩
  obtain ⟨y, ey⟩ : ∃ y, max a b / 4 = y := ⟨_, rfl⟩
  rw [ex, ey] at hxy
  rw [ex] at hx0
  rw [ey] at hy1
  rw [ex, ey]
  obtain ⟨g, eg⟩ : ∃ g, w2.heap.size = g := ⟨_, rfl⟩
  refine wp_worldS (fun W => Blk W w.heap.size #[.int .u16 s, .int .u16 t] 96 ∧ Blk W g #[.int .i64 x] 2 ∧ Blk W (g + 1) #[.int .i64 y] 2 ∧ Below w.heap.size w W) ⟨((HF.out.1.below hb2).alloc _).alloc _, (Blk.new _ _ _ _ eg.symm).alloc _, Blk.new _ _ _ _ (by rw [← eg]; simp), ?_⟩ ?_
  · have h2 := HF.out.2.trans (hb2.mono HF.out.2.size)
    have hs2 := h2.size
    exact (h2.alloc hs2 _).alloc (by simp; omega) _
  rintro W3 ⟨u5, u7, u8, hB3⟩
  have hgw : w.heap.size < g := by have := HF.out.2.size; have := hb2.size; have := HF.out.1.lt; omega
  rw [eg]
  have hs3 := u8.lt
  have q0 := u5.cell 0 _ rfl
  have q1 := u5.cell 1 _ rfl
  have HU := Lib.hid (And.intro u7 (And.intro u8 hB3))
  clear u5 u7 u8 hB3 HF hb2 eg ex ey SP ha hb
  go_quiet (fail)
  go_upto_region 5 with fail
  obtain ⟨n, en⟩ : ∃ n, 1 + s % 4096 = n := ⟨_, rfl⟩
  obtain ⟨d, ed⟩ : ∃ d, 1 + t % 4096 = d := ⟨_, rfl⟩
  have hn1 : 1 ≤ n := by omega
  have hn2 : n ≤ 4096 := by omega
  have hd1 : 1 ≤ d := by omega
  have hd2 : d ≤ 4096 := by omega
  rw [en, ed]
  clear en ed hs ht
  obtain ⟨o1, o2, o3, xe, xh, fN, fD⟩ := hl_of (x := x) (n := n) (d := d) (by omega) (by omega) hn1 hn2 hd1 hd2
  obtain ⟨-, -, -, ye, yh, -, -⟩ := hl_of (x := y) (n := n) (d := d) (by omega) (by omega) hn1 hn2 hd1 hd2
  obtain ⟨l1, l2, l3, l4, l5, l6, l7, l8, l9, l10, l11⟩ := hl_law hx0 hxy hn1 hd1 hn2 hd2 hy1
  have hz : x = 0 → hlP x n d = 0 := fun h => by unfold hlP; rw [if_pos h]
  have OF := rat_of_all n d (by unfold IFit; omega) (by unfold IFit; omega)
  have HX := fun W => sty_hairline x (numR n d) (denR n d) (by unfold IFit; omega) fN fD W
  have HY := fun W => sty_hairline y (numR n d) (denR n d) (by unfold IFit; omega) fN fD W
  rw [o1, o2, o3] at OF
  rw [xe, xh] at HX
  rw [ye, yh] at HY
  obtain ⟨N, eN⟩ : ∃ N, numR n d = N := ⟨_, rfl⟩
  obtain ⟨D, eD⟩ : ∃ D, denR n d = D := ⟨_, rfl⟩
  obtain ⟨P, eP⟩ : ∃ P, hlP x n d = P := ⟨_, rfl⟩
  obtain ⟨Q, eQ⟩ : ∃ Q, hlP y n d = Q := ⟨_, rfl⟩
  rw [eN, eD] at OF HX HY
  rw [eP] at HX l1 l3 l4 l5 l6 l7 hz
  rw [eQ] at HY l2 l3 l8 l9
  have CX : ∀ W, Calls Tryd.prog 36 #[.int .i64 x, .agg #[.int .i64 N, .int .i64 D]] W fun e w' => e = .returned (.int .i64 P) ∧ Below W.heap.size W w' := fun W => (HX W).mono fun e w' g => ⟨g.1 rfl, g.2.2⟩
  have CY : ∀ W, Calls Tryd.prog 36 #[.int .i64 y, .agg #[.int .i64 N, .int .i64 D]] W fun e w' => e = .returned (.int .i64 Q) ∧ Below W.heap.size W w' := fun W => (HY W).mono fun e w' g => ⟨g.1 rfl, g.2.2⟩
  have HL := Lib.hid (And.intro l3 (And.intro l4 (And.intro l5 hz)))
  have HM := Lib.hid (And.intro l1 (And.intro l2 (And.intro l6 (And.intro l7 (And.intro l8 (And.intro l9 (And.intro l10 l11)))))))
  have HCX := Lib.hid CX
  have HCY := Lib.hid CY
  have HH := Lib.hid (And.intro hxy (And.intro hx0 (And.intro hy1 (And.intro hn1 (And.intro hn2 (And.intro hd1 hd2))))))
  have hU := And.intro (HU.out.1.drewN nq) (And.intro (HU.out.2.1.drewN nq) (below_dN HU.out.2.2 nq))
  obtain ⟨W4, eW⟩ : ∃ W, W3.drewN nq = W := ⟨_, rfl⟩
  rw [eW] at hU ⊢
  have HU4 := Lib.hid hU
  clear hU eW HU HX HY CX CY l1 l2 l3 l4 l5 l6 l7 l8 l9 l10 l11 hz xe xh ye yh eP eQ o1 o2 o3 fN fD eN eD q0 q1 hs3 hxy hx0 hy1 hn1 hn2 hd1 hd2
  go_upto_region 7 with (go_at_call 19; with_reducible refine (OF _).mono ?_; rintro e w5 ⟨rfl, hb5⟩)
  have u7 := HU4.out.1.below hb5
  have u8 := HU4.out.2.1.below hb5
  have hB5 := HU4.out.2.2.trans (hb5.mono HU4.out.2.2.size)
  have hl8 := u8.lt
  obtain ⟨r, er⟩ : ∃ r, w5.heap.size = r := ⟨_, rfl⟩
  rw [er] at hl8
  refine wp_worldS (fun W => Blk W g #[.int .i64 x] 2 ∧ Blk W (g + 1) #[.int .i64 y] 2 ∧ Blk W r #[.int .i64 N, .int .i64 D] 25 ∧ Blk W (r + 1) #[.int .i64 0] 2 ∧ Blk W (r + 1 + 1) #[.int .i64 0] 2 ∧ Below w.heap.size w W)
    ⟨((u7.alloc _).alloc _).alloc _, ((u8.alloc _).alloc _).alloc _, ((Blk.new _ _ _ _ er.symm).alloc _).alloc _, (Blk.new _ _ _ _ (by rw [← er]; simp)).alloc _, Blk.new _ _ _ _ (by rw [← er]; simp), ?_⟩ ?_
  · have hs2 := hB5.size
    exact ((hB5.alloc hs2 _).alloc (by simp; omega) _).alloc (by simp; omega) _
  rintro W6 ⟨v7, v8, v11, v13, v14, hB6⟩
  rw [er]
  have TR := try_blks 38 #[.pointer (some ⟨g, 0, none⟩), .pointer (some ⟨r, 0, none⟩), .pointer (some ⟨g + 1, 0, none⟩), .pointer (some ⟨r + 1, 0, none⟩), .pointer (some ⟨r + 1 + 1, 0, none⟩)] 0
    [(r + 1, #[.int .i64 P], 2), (r + 1 + 1, #[.int .i64 Q], 2)] W6
    (fun e he => by simp at he; rcases he with rfl | rfl; exact v13.lt; exact v14.lt) (fun w => enters_of Tryd.func38 (by kernel_rfl) rfl _ w)
    (fun W hW => (hl1 g r (g + 1) (r + 1) (r + 1 + 1) x y N D P Q HCX.out HCY.out (by omega) (by omega) (by omega) (by omega) (by omega) (by omega) (by omega) W (v7.below hW) (v11.below hW) (v8.below hW) _ _ (v13.below hW) (v14.below hW)).mono fun e W' h =>
      ⟨fun _ => h.1, fun hc => absurd rfl hc, (fun e he => by simp at he; rcases he with rfl | rfl; exact h.2.1.1; exact h.2.1.2), h.2.2⟩)
  have HV := Lib.hid (And.intro v7 (And.intro v8 hB6))
  clear v7 v8 v11 v13 v14 hB6 u7 u8 hb5 hB5 er HU4 OF HCX HCY
  go_upto_region 8 with (go_at_call 34; with_reducible refine TR.mono ?_; rintro e w7 ⟨rfl, hL7, hB7⟩)
  have u13 : Blk w7 (r + 1) #[.int .i64 P] 2 := hL7 (r + 1, #[.int .i64 P], 2) (by simp)
  have u14 : Blk w7 (r + 1 + 1) #[.int .i64 Q] 2 := hL7 (r + 1 + 1, #[.int .i64 Q], 2) (by simp)
  have u7 := HV.out.1.butl hB7 (by simp; omega)
  have u8 := HV.out.2.1.butl hB7 (by simp; omega)
  have hB8 : Below w.heap.size w w7 := hB7.to HV.out.2.2 (by simp; omega) HV.out.2.2.size
  have HB8 := Lib.hid hB8
  have p7 := u7.cell 0 _ rfl
  have p13 := u13.cell 0 _ rfl
  have p14 := u14.cell 0 _ rfl
  have m1 : P % 64 = 0 := HM.out.1
  have m2 : Q % 64 = 0 := HM.out.2.1
  have m3 : 0 ≤ P := HM.out.2.2.1
  have m4 : P ≤ 4398046511104 := HM.out.2.2.2.1
  have m5 : 0 ≤ Q := HM.out.2.2.2.2.1
  have k1 : P.tmod 64 = 0 := by rw [Int.tmod_eq_emod_of_nonneg m3]; exact m1
  have k2 : Q.tmod 64 = 0 := by rw [Int.tmod_eq_emod_of_nonneg m5]; exact m2
  have j1 : decide (Q < P) = false := by have := HL.out.1; simp; omega
  have hx0 : 0 ≤ x := HH.out.2.1
  clear hL7 hB7 hB8 u7 u8 u13 u14 TR HV
  by_cases hx : x = 0
  · subst hx
    have e0 := HL.out.2.2.2 rfl
    subst e0
    clear m1 k1 m3 m4
    go_wp2_with fail
    go_ret
    exact ⟨rfl, HB8.out⟩
  · have hx1 : decide (0 < x) = true := by simp; omega
    have hx2 : (x == 0) = false := by simpa using hx
    have hp1 : decide (0 < P) = true := by have := HL.out.2.1; simp; omega
    have hc := HL.out.2.2.1 hx
    have r1 := HM.out.2.2.2.2.2.2.1
    have r2 := HM.out.2.2.2.2.2.2.2
    have hd1 := HH.out.2.2.2.2.2.1
    have hd2 := HH.out.2.2.2.2.2.2
    obtain ⟨X, eX⟩ : ∃ X, x * n = X := ⟨_, rfl⟩
    rw [eX] at hc r1 r2
    have wX : IntKind.i64.wrap X = X := by simp only [IntKind.wrap_i64, wrap64]; omega
    by_cases h64 : P = 64 ∧ X < 128 * d
    · obtain ⟨rfl, hlt⟩ := h64
      have hlt2 : decide (X < 128 * d) = true := by simpa using hlt
      have wd : IntKind.i64.wrap (128 * d) = 128 * d := by simp only [IntKind.wrap_i64, wrap64]; omega
      clear hc k1 m1 m3 m4 hp1
      go_wp2_with fail
      go_ret
      exact ⟨rfl, HB8.out⟩
    · obtain ⟨c1, c2⟩ : P * d ≤ X ∧ X < (P + 64) * d := by
        rcases hc with ⟨h1, h2⟩ | h
        · exact absurd ⟨h1, by omega⟩ h64
        · exact h
      have hP : P ≠ 64 := fun h => h64 ⟨h, by rw [h] at c2; omega⟩
      have hP2 : (P == 64) = false := by simpa using hP
      have s1 : 0 ≤ P * d := Int.mul_nonneg m3 (by omega)
      have s2 : (P + 64) * d ≤ (4398046511104 + 64) * 4096 := Int.mul_le_mul (by omega) hd2 (by omega) (by omega)
      obtain ⟨Y, eY⟩ : ∃ Y, P * d = Y := ⟨_, rfl⟩
      obtain ⟨Z, eZ⟩ : ∃ Z, (P + 64) * d = Z := ⟨_, rfl⟩
      rw [eY] at c1 s1
      rw [eZ] at c2 s2
      have wY : IntKind.i64.wrap Y = Y := by simp only [IntKind.wrap_i64, wrap64]; omega
      have wZ : IntKind.i64.wrap Z = Z := by simp only [IntKind.wrap_i64, wrap64]; omega
      have wP : IntKind.i64.wrap (P + 64) = P + 64 := by simp only [IntKind.wrap_i64, wrap64]; omega
      have g1 : decide (Y ≤ X) = true := by simpa using c1
      have g2 : decide (X < Z) = true := by simpa using c2
      clear hc h64
      go_wp2_with fail
      go_ret
      exact ⟨rfl, HB8.out⟩
end Go.Proofs.YtmkblfejoniccaaDoor
