/-
  LineStands' closure of two Offsets.
-/
import Derived.Test.YthofammjbicogaaYLsF
import Derived.Test.YthofammjbicogaaYLnQ
import Derived.Test.YthofammjbicogaaYLsD
namespace Go.Proofs.Ythofammjbicogaa
open Go.RowKit
set_option linter.unusedSimpArgs false
set_option linter.unusedVariables false

def OffV (L : List Int) (B : Nat) (v : Value) (w : World) : Prop := ∃ a c, v = .slice a L.length c ∧ RowI w a L.length L ∧ (∀ g off, a = some ⟨g, off, none⟩ → B < g)
def offC (L : List Int) (B : Nat) : Cl := .own (OffV L B) (fun _ _ _ h hb => by obtain ⟨a, c, e, h1, h2⟩ := h; exact ⟨a, c, e, h1.below hb, h2⟩)
theorem OffV.but {L : List Int} {B b : Nat} {v : Value} {w w' : World} (h : OffV L B v w) (hb : But b w w') (hl : b ≤ B) : OffV L B v w' := by
  obtain ⟨a, c, e, h1, h2⟩ := h
  exact ⟨a, c, e, h1.but hb (fun g off e => by have := h2 g off e; omega), h2⟩
theorem OffRel.but1 {b b' : Nat} {L : List Int} {B : Nat} {W W' : World} (h : OffRel b L B W) (hb : But b' W W') (hn : b ≠ b') (hl : b' ≤ B) : OffRel b L B W' := by
  obtain ⟨a, c, q1, q2, q3⟩ := h
  exact ⟨a, c, q1.but hb hn, q2.but hb (fun g off e => by have := q3 g off e; omega), q3⟩
theorem OffRel.below {b : Nat} {L : List Int} {B : Nat} {W W' : World} (h : OffRel b L B W) (hb : Below W.heap.size W W') : OffRel b L B W' := by
  obtain ⟨a, c, q1, q2, q3⟩ := h
  exact ⟨a, c, q1.below hb, q2.below hb, q3⟩
/-- What the closure finds: its items, its line, the room, how the text stands, how much more; the boxes that it fills. -/
structure StaB (b0 b1 b2 b3 b4 b5 b6 : Nat) (ao : Option Addr) (k cap : Nat) (l : List It) (F T ww hh room text more : Int) (W w' : World) : Prop where
  bl : ButL [b5, b6] W w'
  t0 : Blk w' b0 #[.slice ao k cap] 26
  t1 : Blk w' b1 #[.int .i64 F, .int .i64 T, .int .i64 ww, .int .i64 hh] 36
  t2 : Blk w' b2 #[.int .i64 room] 2
  t3 : Blk w' b3 #[.int .i64 text] 3
  t4 : Blk w' b4 #[.int .u8 more] 5
  row : RowV w' ao k 4 (itV l)
  t5 : ∃ v, Blk w' b5 #[v] 31
  t6 : ∃ v, Blk w' b6 #[v] 31
theorem StaB.below {b0 b1 b2 b3 b4 b5 b6 : Nat} {ao : Option Addr} {k cap : Nat} {l : List It} {F T ww hh room text more : Int} {W w w' : World} (h : StaB b0 b1 b2 b3 b4 b5 b6 ao k cap l F T ww hh room text more W w) (hb : Below w.heap.size w w') : StaB b0 b1 b2 b3 b4 b5 b6 ao k cap l F T ww hh room text more W w' := by
  obtain ⟨v5, h5⟩ := h.t5
  obtain ⟨v6, h6⟩ := h.t6
  exact ⟨h.bl.trans (ButL.of hb), h.t0.below hb, h.t1.below hb, h.t2.below hb, h.t3.below hb, h.t4.below hb, h.row.below hb, ⟨v5, h5.below hb⟩, v6, h6.below hb⟩
theorem StaB.drew {b0 b1 b2 b3 b4 b5 b6 : Nat} {ao : Option Addr} {k cap : Nat} {l : List It} {F T ww hh room text more : Int} {W w : World} (h : StaB b0 b1 b2 b3 b4 b5 b6 ao k cap l F T ww hh room text more W w) : StaB b0 b1 b2 b3 b4 b5 b6 ao k cap l F T ww hh room text more W w.drew := h.below (Below.refl _ _).drew
theorem StaB.set5 {b0 b1 b2 b3 b4 b5 b6 : Nat} {ao : Option Addr} {k cap : Nat} {l : List It} {F T ww hh room text more : Int} {W w : World} (h : StaB b0 b1 b2 b3 b4 b5 b6 ao k cap l F T ww hh room text more W w) (v : Value) (n0 : b0 ≠ b5) (n1 : b1 ≠ b5) (n2 : b2 ≠ b5) (n3 : b3 ≠ b5) (n4 : b4 ≠ b5) (n6 : b6 ≠ b5) (hao : ∀ g off, ao = some ⟨g, off, none⟩ → g ≠ b5) : StaB b0 b1 b2 b3 b4 b5 b6 ao k cap l F T ww hh room text more W (w.setCell ⟨b5, 0, none⟩ v) := by
  obtain ⟨v5, h5⟩ := h.t5
  obtain ⟨v6, h6⟩ := h.t6
  have hb := But.set (b := b5) w 0 v
  exact ⟨h.bl.trans (ButL.set _ _ _ (by simp)), h.t0.but hb n0, h.t1.but hb n1, h.t2.but hb n2, h.t3.but hb n3, h.t4.but hb n4, h.row.but hb hao, ⟨_, h5.set1 rfl _⟩, v6, h6.but hb n6⟩
theorem StaB.set6 {b0 b1 b2 b3 b4 b5 b6 : Nat} {ao : Option Addr} {k cap : Nat} {l : List It} {F T ww hh room text more : Int} {W w : World} (h : StaB b0 b1 b2 b3 b4 b5 b6 ao k cap l F T ww hh room text more W w) (v : Value) (n0 : b0 ≠ b6) (n1 : b1 ≠ b6) (n2 : b2 ≠ b6) (n3 : b3 ≠ b6) (n4 : b4 ≠ b6) (n5 : b5 ≠ b6) (hao : ∀ g off, ao = some ⟨g, off, none⟩ → g ≠ b6) : StaB b0 b1 b2 b3 b4 b5 b6 ao k cap l F T ww hh room text more W (w.setCell ⟨b6, 0, none⟩ v) := by
  obtain ⟨v5, h5⟩ := h.t5
  obtain ⟨v6, h6⟩ := h.t6
  have hb := But.set (b := b6) w 0 v
  exact ⟨h.bl.trans (ButL.set _ _ _ (by simp)), h.t0.but hb n0, h.t1.but hb n1, h.t2.but hb n2, h.t3.but hb n3, h.t4.but hb n4, h.row.but hb hao, ⟨v5, h5.but hb n5⟩, _, h6.set1 rfl _⟩
set_option maxRecDepth 100000 in
set_option maxHeartbeats 3200000 in
theorem sta2 (b0 b1 b2 b3 b4 b5 b6 : Nat) (ao : Option Addr) (k cap : Nat) (l : List It) (F T ww hh room text more : Int) (LA LB : List Int) (hm0 : 0 ≤ more) (hm1 : more ≤ 255) (hr0 : 0 ≤ room) (hr1 : room ≤ 65535)
    (OA : ∀ W, RowV W ao k 4 (itV l) → Calls Try.prog 18 #[.slice ao k cap, .agg #[.int .i64 F, .int .i64 T, .int .i64 ww, .int .i64 hh], .int .i64 room, .int .i64 text] W (OffAns (some LA) W))
    (OB : ∀ W, RowV W ao k 4 (itV l) → Calls Try.prog 18 #[.slice ao k cap, .agg #[.int .i64 F, .int .i64 T, .int .i64 ww, .int .i64 hh], .int .i64 (room + more), .int .i64 text] W (OffAns (some LB) W))
    (m0 : b0 ≠ b5) (m1 : b1 ≠ b5) (m2 : b2 ≠ b5) (m3 : b3 ≠ b5) (m4 : b4 ≠ b5) (n0 : b0 ≠ b6) (n1 : b1 ≠ b6) (n2 : b2 ≠ b6) (n3 : b3 ≠ b6) (n4 : b4 ≠ b6) (n56 : b5 ≠ b6) (B : Nat) (W : World) (hB : B < W.heap.size) (l5 : b5 ≤ B) (l6 : b6 ≤ B) (hao : ∀ g off, ao = some ⟨g, off, none⟩ → g ≠ b5 ∧ g ≠ b6)
    (hG : StaB b0 b1 b2 b3 b4 b5 b6 ao k cap l F T ww hh room text more W W) :
    Calls Try.prog 23 #[.pointer (some ⟨b0, 0, none⟩), .pointer (some ⟨b1, 0, none⟩), .pointer (some ⟨b2, 0, none⟩), .pointer (some ⟨b3, 0, none⟩), .pointer (some ⟨b4, 0, none⟩), .pointer (some ⟨b5, 0, none⟩), .pointer (some ⟨b6, 0, none⟩)] W fun e W' => e = .returned (.tuple #[]) ∧ (OffRel b5 LA B W' ∧ OffRel b6 LB B W') ∧ ButL [b5, b6] W W' := by
  obtain ⟨Q, eQ⟩ : ∃ Q : Ending → World → Prop, Q = fun e W' => e = .returned (.tuple #[]) ∧ (OffRel b5 LA B W' ∧ OffRel b6 LB B W') ∧ ButL [b5, b6] W W' := ⟨_, rfl⟩
  rw [← eQ]
  have EQ := Lib.hid eQ
  have HAO := Lib.hid hao
  have GB : ∀ w', StaB b0 b1 b2 b3 b4 b5 b6 ao k cap l F T ww hh room text more W w' → B < w'.heap.size := fun w' h => by have := h.bl.size; omega
  have wm : IntKind.i64.wrap more = more := by simp [IntKind.wrap, IntKind.bits, IntKind.signed]; omega
  obtain ⟨rm, erm⟩ : ∃ x, room + more = x := ⟨_, rfl⟩
  rw [erm] at OB
  have wr : IntKind.i64.wrap rm = rm := by simp [IntKind.wrap, IntKind.bits, IntKind.signed]; omega
  clear eQ hao
  go_enter Try.func23, Try.ntmps23
  go_wp2_with fail
  have hGd := hG.drew
  have HGW := Lib.hid hG
  clear hG
  go_upto_region 0 with (fail)
  refine wp_region_calm (fun w' => StaB b0 b1 b2 b3 b4 b5 b6 ao k cap l F T ww hh room text more W w') [] (fun w' => True) [Is (.slice ao k cap), Is (.agg #[.int .i64 F, .int .i64 T, .int .i64 ww, .int .i64 hh]), Is (.int .i64 room), Is (.int .i64 text), offC LA B, Is (.slice ao k cap), Is (.agg #[.int .i64 F, .int .i64 T, .int .i64 ww, .int .i64 hh]), Is (.int .i64 room), Is (.int .u8 more), Is (.int .i64 more), Is (.int .i64 rm), Is (.int .i64 text), offC LB B, wldC (OffRel b5 LA B) (fun _ _ h hb => h.below hb), wldC (OffRel b6 LB B) (fun _ _ h hb => h.below hb)] [] (by kernel_rfl) (by kernel_rfl) (by kernel_rfl) (by kernel_rfl) hGd trivial ?_ ?_ ?_ ?_ ?_
  · rintro W W' hG hb
    exact hG.below hb
  · exact fun _ _ _ _ _ => trivial
  · intro k vs W hk h
    exact absurd hk (by simp)
  · intro Q; clear hGd
    refine ⟨?_, ?_, ?_, ?_, ?_, ?_, ?_, ?_, ?_, ?_, ?_, ?_, ?_, ?_, ?_, trivial⟩
    · intro vs W hW hW0 hd hne hold K hK hA hL; clear hne hA hL; have hG := hW; simp only [puts, Act.put, List.setIfInBounds_toArray, List.set_cons_zero, List.set_cons_succ, Nat.zero_add, Nat.reduceAdd] at hK ⊢; have q1 := hG.t0.cell 0 _ rfl; clear hd hold; go_simp; exact hK.out rfl _ _ (Below.refl _ _) rfl
    · intro vs W hW hW0 hd hne hold K hK hA hL; clear hne hA hL; have hG := hW; simp only [puts, Act.put, List.setIfInBounds_toArray, List.set_cons_zero, List.set_cons_succ, Nat.zero_add, Nat.reduceAdd] at hK ⊢; have q1 := hG.t1.cell 0 _ rfl; have q2 := hG.t1.cell 1 _ rfl; have q3 := hG.t1.cell 2 _ rfl; have q4 := hG.t1.cell 3 _ rfl; clear hd hold; go_simp; exact hK.out rfl _ _ (Below.refl _ _) rfl
    · intro vs W hW hW0 hd hne hold K hK hA hL; clear hne hA hL; have hG := hW; simp only [puts, Act.put, List.setIfInBounds_toArray, List.set_cons_zero, List.set_cons_succ, Nat.zero_add, Nat.reduceAdd] at hK ⊢; have q1 := hG.t2.cell 0 _ rfl; clear hd hold; go_simp; exact hK.out rfl _ _ (Below.refl _ _) rfl
    · intro vs W hW hW0 hd hne hold K hK hA hL; clear hne hA hL; have hG := hW; simp only [puts, Act.put, List.setIfInBounds_toArray, List.set_cons_zero, List.set_cons_succ, Nat.zero_add, Nat.reduceAdd] at hK ⊢; have q1 := hG.t3.cell 0 _ rfl; clear hd hold; go_simp; exact hK.out rfl _ _ (Below.refl _ _) rfl
    · intro vs W hW hW0 hd hne hold K hK hA hL; clear hne hA hL; have hG := hW; simp only [puts, Act.put, List.setIfInBounds_toArray, List.set_cons_zero, List.set_cons_succ, Nat.zero_add, Nat.reduceAdd] at hK ⊢; have ea : vs 0 = _ := hd 0 (by kernel_rfl); have eb : vs 1 = _ := hd 1 (by kernel_rfl); have ec : vs 2 = _ := hd 2 (by kernel_rfl); have ed : vs 3 = _ := hd 3 (by kernel_rfl); clear hd hold; simp only [ea, eb, ec, ed] at hK; go_simp; refine (OA W hG.row).mono ?_; (rintro e wx ⟨s1, -, hbx⟩); obtain ⟨a1, c1, rfl, ho⟩ := s1 _ rfl; go_simp; exact hK.out rfl _ _ hbx ⟨a1, c1, rfl, ho.row, fun g off e => by have := ho.from g off e; have := GB _ hG; omega⟩
    · intro vs W hW hW0 hd hne hold K hK hA hL; clear hne hA hL; have hG := hW; simp only [puts, Act.put, List.setIfInBounds_toArray, List.set_cons_zero, List.set_cons_succ, Nat.zero_add, Nat.reduceAdd] at hK ⊢; have q1 := hG.t0.cell 0 _ rfl; clear hd hold; go_simp; exact hK.out rfl _ _ (Below.refl _ _) rfl
    · intro vs W hW hW0 hd hne hold K hK hA hL; clear hne hA hL; have hG := hW; simp only [puts, Act.put, List.setIfInBounds_toArray, List.set_cons_zero, List.set_cons_succ, Nat.zero_add, Nat.reduceAdd] at hK ⊢; have q1 := hG.t1.cell 0 _ rfl; have q2 := hG.t1.cell 1 _ rfl; have q3 := hG.t1.cell 2 _ rfl; have q4 := hG.t1.cell 3 _ rfl; clear hd hold; go_simp; exact hK.out rfl _ _ (Below.refl _ _) rfl
    · intro vs W hW hW0 hd hne hold K hK hA hL; clear hne hA hL; have hG := hW; simp only [puts, Act.put, List.setIfInBounds_toArray, List.set_cons_zero, List.set_cons_succ, Nat.zero_add, Nat.reduceAdd] at hK ⊢; have q1 := hG.t2.cell 0 _ rfl; clear hd hold; go_simp; exact hK.out rfl _ _ (Below.refl _ _) rfl
    · intro vs W hW hW0 hd hne hold K hK hA hL; clear hne hA hL; have hG := hW; simp only [puts, Act.put, List.setIfInBounds_toArray, List.set_cons_zero, List.set_cons_succ, Nat.zero_add, Nat.reduceAdd] at hK ⊢; have q1 := hG.t4.cell 0 _ rfl; clear hd hold; go_simp; exact hK.out rfl _ _ (Below.refl _ _) rfl
    · intro vs W hW hW0 hd hne hold K hK hA hL; clear hne hA hL; have hG := hW; simp only [puts, Act.put, List.setIfInBounds_toArray, List.set_cons_zero, List.set_cons_succ, Nat.zero_add, Nat.reduceAdd] at hK ⊢; have e8 : vs 8 = _ := hd 8 (by kernel_rfl); clear hd hold; simp only [e8] at hK; go_simp; exact hK.out rfl _ _ (Below.refl _ _) rfl
    · intro vs W hW hW0 hd hne hold K hK hA hL; clear hne hA hL; have hG := hW; simp only [puts, Act.put, List.setIfInBounds_toArray, List.set_cons_zero, List.set_cons_succ, Nat.zero_add, Nat.reduceAdd] at hK ⊢; have e7 : vs 7 = _ := hd 7 (by kernel_rfl); have e9 : vs 9 = _ := hd 9 (by kernel_rfl); clear hd hold; simp only [e7, e9] at hK; go_simp; exact hK.out rfl _ _ (Below.refl _ _) rfl
    · intro vs W hW hW0 hd hne hold K hK hA hL; clear hne hA hL; have hG := hW; simp only [puts, Act.put, List.setIfInBounds_toArray, List.set_cons_zero, List.set_cons_succ, Nat.zero_add, Nat.reduceAdd] at hK ⊢; have q1 := hG.t3.cell 0 _ rfl; clear hd hold; go_simp; exact hK.out rfl _ _ (Below.refl _ _) rfl
    · intro vs W hW hW0 hd hne hold K hK hA hL; clear hne hA hL; have hG := hW; simp only [puts, Act.put, List.setIfInBounds_toArray, List.set_cons_zero, List.set_cons_succ, Nat.zero_add, Nat.reduceAdd] at hK ⊢; have ea : vs 5 = _ := hd 5 (by kernel_rfl); have eb : vs 6 = _ := hd 6 (by kernel_rfl); have ec : vs 10 = _ := hd 10 (by kernel_rfl); have ed : vs 11 = _ := hd 11 (by kernel_rfl); clear hd hold; simp only [ea, eb, ec, ed] at hK; go_simp; refine (OB W hG.row).mono ?_; (rintro e wx ⟨s1, -, hbx⟩); obtain ⟨a1, c1, rfl, ho⟩ := s1 _ rfl; go_simp; exact hK.out rfl _ _ hbx ⟨a1, c1, rfl, ho.row, fun g off e => by have := ho.from g off e; have := GB _ hG; omega⟩
    · intro vs W hW hW0 hd hne hold K hK hA hL; clear hK hA; have hG := hW; simp only [puts, Act.put, List.setIfInBounds_toArray, List.set_cons_zero, List.set_cons_succ, Nat.zero_add, Nat.reduceAdd] at hL ⊢; have h2 : OffV LA B (vs 4) W := hd 4 (by kernel_rfl); obtain ⟨a1, c1, ea, hra, hfa⟩ := h2; have hS := hG.set5 (.slice a1 LA.length c1) m0 m1 m2 m3 m4 n56.symm (fun g off e => (HAO.out g off e).1); obtain ⟨u5, g5⟩ := hG.t5; have q1 := g5.cell 0 _ rfl; have q2 := g5.free 0; have hbt := But.set (b := b5) W 0 (.slice a1 LA.length c1); clear hd hold; simp only [ea] at hL; go_simp; refine hL.out rfl undef _ hS (fun _ => trivial) ⟨a1, c1, g5.set1 rfl _, hra.but hbt (fun g off e => by have := hfa g off e; omega), hfa⟩ ?_; exact claims_keep_a ⟨.inr (.inr is_keep), .inr (.inr is_keep), .inr (.inr is_keep), .inr (.inr is_keep), .inr (.inr fun h => OffV.but h hbt l5), .inr (.inr is_keep), .inr (.inr is_keep), .inr (.inr is_keep), .inr (.inr is_keep), .inr (.inr is_keep), .inr (.inr is_keep), .inr (.inr is_keep), .inr (.inr fun h => OffV.but h hbt l5), .inl rfl, .inr (.inl (by kernel_rfl)), trivial⟩
    · intro vs W hW hW0 hd hne hold K hK hA hL; clear hK hA; have hG := hW; simp only [puts, Act.put, List.setIfInBounds_toArray, List.set_cons_zero, List.set_cons_succ, Nat.zero_add, Nat.reduceAdd] at hL ⊢; have h2 : OffV LB B (vs 12) W := hd 12 (by kernel_rfl); obtain ⟨a1, c1, ea, hra, hfa⟩ := h2; have hS := hG.set6 (.slice a1 LB.length c1) n0 n1 n2 n3 n4 n56 (fun g off e => (HAO.out g off e).2); obtain ⟨u6, g6⟩ := hG.t6; have q1 := g6.cell 0 _ rfl; have q2 := g6.free 0; have hbt := But.set (b := b6) W 0 (.slice a1 LB.length c1); clear hd hold; simp only [ea] at hL; go_simp; refine hL.out rfl undef _ hS (fun _ => trivial) ⟨a1, c1, g6.set1 rfl _, hra.but hbt (fun g off e => by have := hfa g off e; omega), hfa⟩ ?_; exact claims_keep_a ⟨.inr (.inr is_keep), .inr (.inr is_keep), .inr (.inr is_keep), .inr (.inr is_keep), .inr (.inr fun h => OffV.but h hbt l6), .inr (.inr is_keep), .inr (.inr is_keep), .inr (.inr is_keep), .inr (.inr is_keep), .inr (.inr is_keep), .inr (.inr is_keep), .inr (.inr is_keep), .inr (.inr fun h => OffV.but h hbt l6), .inr (.inr fun h => OffRel.but1 h hbt n56 l6), .inl rfl, trivial⟩
  · intro va WB hW hV _
    have h7 : OffRel b5 LA B WB := hV 13 (by decide)
    have h8 : OffRel b6 LB B WB := hV 14 (by decide)
    clear hV
    have hfin : Q (.returned (.tuple #[])) WB := by rw [EQ.out]; exact ⟨rfl, ⟨h7, h8⟩, hW.bl⟩
    simp only [puts, Act.put, List.setIfInBounds_toArray, List.set_cons_zero, List.set_cons_succ, Nat.zero_add, Nat.reduceAdd]
    go_end0
    exact hfin
end Go.Proofs.Ythofammjbicogaa
