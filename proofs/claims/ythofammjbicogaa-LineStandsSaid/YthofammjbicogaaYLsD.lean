/-
  LineGreedy's closure.
-/
import Derived.Test.YthofammjbicogaaYLsC
namespace Go.Proofs.Ythofammjbicogaa
open Go.RowKit
set_option linter.unusedSimpArgs false
set_option linter.unusedVariables false

def FilV (L : List Ln) (B : Nat) (v : Value) (w : World) : Prop := ∃ a c, v = .slice a L.length c ∧ RowV w a L.length 4 (lnV L) ∧ (∀ g off, a = some ⟨g, off, none⟩ → B < g)
def filC (L : List Ln) (B : Nat) : Cl := .own (FilV L B) (fun _ _ _ h hb => by obtain ⟨a, c, e, h1, h2⟩ := h; exact ⟨a, c, e, h1.below hb, h2⟩)
def wldC (R : World → Prop) (hR : ∀ w w', R w → Below w.heap.size w w' → R w') : Cl := .own (fun _ w => R w) (fun _ _ _ h hb => hR _ _ h hb)
theorem FilV.but {L : List Ln} {B b : Nat} {v : Value} {w w' : World} (h : FilV L B v w) (hb : But b w w') (hl : b ≤ B) : FilV L B v w' := by
  obtain ⟨a, c, e, h1, h2⟩ := h
  exact ⟨a, c, e, h1.but hb (fun g off e => by have := h2 g off e; omega), h2⟩
theorem FillRel.but1 {b b' : Nat} {L : List Ln} {B : Nat} {W W' : World} (h : FillRel b L B W) (hb : But b' W W') (hn : b ≠ b') (hl : b' ≤ B) : FillRel b L B W' := by
  obtain ⟨a, c, q1, q2, q3⟩ := h
  exact ⟨a, c, q1.but hb hn, q2.but hb (fun g off e => by have := q3 g off e; omega), q3⟩
theorem FillRel.below {b : Nat} {L : List Ln} {B : Nat} {W W' : World} (h : FillRel b L B W) (hb : Below W.heap.size W W') : FillRel b L B W' := by
  obtain ⟨a, c, q1, q2, q3⟩ := h
  exact ⟨a, c, q1.below hb, q2.below hb, q3⟩
def GrdRel (b7 b8 b9 : Nat) (L : List Ln) (least most : Int) (B : Nat) (W : World) : Prop := FillRel b7 L B W ∧ Blk W b8 #[.int .i64 least] 2 ∧ Blk W b9 #[.int .i64 most] 2
theorem GrdRel.but {b7 b8 b9 : Nat} {L : List Ln} {least most : Int} {B : Nat} {W W' : World} (h : GrdRel b7 b8 b9 L least most B W) (hb : But B W W') (h7 : b7 < B) (h8 : b8 < B) (h9 : b9 < B) : GrdRel b7 b8 b9 L least most B W' :=
  ⟨h.1.but hb h7, h.2.1.but hb (by omega), h.2.2.but hb (by omega)⟩
/-- What the closure finds: its items, the room; the boxes that it fills. -/
def GrdB (b5 b6 b7 b8 b9 : Nat) (ao : Option Addr) (k cap : Nat) (l : List It) (room : Int) (W w' : World) : Prop :=
  ButL [b7, b8, b9] W w' ∧ Blk w' b5 #[.slice ao k cap] 26 ∧ Blk w' b6 #[.int .i64 room] 2 ∧ RowV w' ao k 4 (itV l) ∧ (∃ v, Blk w' b7 #[v] 44) ∧ (∃ v, Blk w' b8 #[v] 2) ∧ (∃ v, Blk w' b9 #[v] 2)
theorem GrdB.below {b5 b6 b7 b8 b9 : Nat} {ao : Option Addr} {k cap : Nat} {l : List It} {room : Int} {W w w' : World} (h : GrdB b5 b6 b7 b8 b9 ao k cap l room W w) (hb : Below w.heap.size w w') : GrdB b5 b6 b7 b8 b9 ao k cap l room W w' := by
  obtain ⟨h1, h2, h3, h4, ⟨v1, h5⟩, ⟨v2, h6⟩, v3, h7⟩ := h
  exact ⟨h1.trans (ButL.of hb), h2.below hb, h3.below hb, h4.below hb, ⟨v1, h5.below hb⟩, ⟨v2, h6.below hb⟩, v3, h7.below hb⟩
set_option maxRecDepth 100000 in
set_option maxHeartbeats 3200000 in
theorem grd1 (b5 b6 b7 b8 b9 : Nat) (ao : Option Addr) (k cap : Nat) (l : List It) (room : Int) (hk : k ≤ 1000) (hcap : k ≤ cap) (hl : l.length = k) (hf : ItFit l) (L : List Ln) (least most : Int) (hL : fillR l room 0 = some L) (hle : leastR l = some least) (hmo : wd l 0 k = some most)
    (n57 : b5 ≠ b7) (n58 : b5 ≠ b8) (n59 : b5 ≠ b9) (n67 : b6 ≠ b7) (n68 : b6 ≠ b8) (n69 : b6 ≠ b9) (n78 : b7 ≠ b8) (n79 : b7 ≠ b9) (n89 : b8 ≠ b9) (B : Nat) (W : World) (hB : B < W.heap.size) (l7 : b7 ≤ B) (l8 : b8 ≤ B) (l9 : b9 ≤ B) (hao : ∀ g off, ao = some ⟨g, off, none⟩ → g ≠ b7 ∧ g ≠ b8 ∧ g ≠ b9)
    (h5 : Blk W b5 #[.slice ao k cap] 26) (h6 : Blk W b6 #[.int .i64 room] 2) (hr : RowV W ao k 4 (itV l)) (v7 v8 v9 : Value) (h7 : Blk W b7 #[v7] 44) (h8 : Blk W b8 #[v8] 2) (h9 : Blk W b9 #[v9] 2) :
    Calls Try.prog 32 #[.pointer (some ⟨b5, 0, none⟩), .pointer (some ⟨b6, 0, none⟩), .pointer (some ⟨b7, 0, none⟩), .pointer (some ⟨b8, 0, none⟩), .pointer (some ⟨b9, 0, none⟩)] W fun e W' => e = .returned (.tuple #[]) ∧ GrdRel b7 b8 b9 L least most B W' ∧ ButL [b7, b8, b9] W W' := by
  have FL := fun W' hr => ln_fill ao k cap room 0 l hk hcap hl hf W' hr
  rw [hL] at FL
  have LE := fun W' hr => (ln_least ao k cap l hk hcap hl hf W' hr).mono fun _ _ h => width_yes h hle
  have MO := fun W' hr => (ln_most ao k cap l hk hl hf W' hr).mono fun _ _ h => width_yes h hmo
  obtain ⟨Q, eQ⟩ : ∃ Q : Ending → World → Prop, Q = fun e W' => e = .returned (.tuple #[]) ∧ GrdRel b7 b8 b9 L least most B W' ∧ ButL [b7, b8, b9] W W' := ⟨_, rfl⟩
  rw [← eQ]
  have EQ := Lib.hid eQ
  have hG : GrdB b5 b6 b7 b8 b9 ao k cap l room W W := ⟨ButL.of (Below.refl _ _), h5, h6, hr, ⟨v7, h7⟩, ⟨v8, h8⟩, v9, h9⟩
  have HG := Lib.hid hG
  have HAO := Lib.hid hao
  have GB : ∀ w', GrdB b5 b6 b7 b8 b9 ao k cap l room W w' → B < w'.heap.size := fun w' h => by have := h.1.size; omega
  have hGd : GrdB b5 b6 b7 b8 b9 ao k cap l room W W.drew := ⟨ButL.of (Below.refl _ _).drew, h5, h6, hr, ⟨v7, h7⟩, ⟨v8, h8⟩, v9, h9⟩
  clear eQ hr h5 h6 h7 h8 h9 hL hle hmo hf hl hao hG
  go_enter Try.func32, Try.ntmps32
  go_wp2_with fail
  go_upto_region 0 with (fail)
  refine wp_region_calm (fun w' => GrdB b5 b6 b7 b8 b9 ao k cap l room W w') [] (fun w' => True) [Is (.slice ao k cap), Is (.int .i64 room), filC L B, Is (.slice ao k cap), Is (.int .i64 least), Is (.slice ao k cap), Is (.int .i64 most), wldC (FillRel b7 L B) (fun _ _ h hb => h.below hb), wldC (fun w => Blk w b8 #[.int .i64 least] 2) (fun _ _ h hb => h.below hb), wldC (fun w => Blk w b9 #[.int .i64 most] 2) (fun _ _ h hb => h.below hb)] [] (by kernel_rfl) (by kernel_rfl) (by kernel_rfl) (by kernel_rfl) hGd trivial ?_ ?_ ?_ ?_ ?_
  · rintro W W' hG hb
    exact hG.below hb
  · exact fun _ _ _ _ _ => trivial
  · intro k vs W hk h
    exact absurd hk (by simp)
  · intro Q; clear hGd
    refine ⟨?_, ?_, ?_, ?_, ?_, ?_, ?_, ?_, ?_, ?_, trivial⟩
    · intro vs W hW hW0 hd hne hold K hK hA hL; clear hne hA hL; have hG := hW; simp only [puts, Act.put, List.setIfInBounds_toArray, List.set_cons_zero, List.set_cons_succ, Nat.zero_add, Nat.reduceAdd] at hK ⊢; have q1 := hG.2.1.cell 0 _ rfl; clear hd hold; go_simp; exact hK.out rfl _ _ (Below.refl _ _) rfl
    · intro vs W hW hW0 hd hne hold K hK hA hL; clear hne hA hL; have hG := hW; simp only [puts, Act.put, List.setIfInBounds_toArray, List.set_cons_zero, List.set_cons_succ, Nat.zero_add, Nat.reduceAdd] at hK ⊢; have q1 := hG.2.2.1.cell 0 _ rfl; clear hd hold; go_simp; exact hK.out rfl _ _ (Below.refl _ _) rfl
    · intro vs W hW hW0 hd hne hold K hK hA hL; clear hne hA hL; have hG := hW; simp only [puts, Act.put, List.setIfInBounds_toArray, List.set_cons_zero, List.set_cons_succ, Nat.zero_add, Nat.reduceAdd] at hK ⊢; have ea : vs 0 = _ := hd 0 (by kernel_rfl); have eb : vs 1 = _ := hd 1 (by kernel_rfl); clear hd hold; simp only [ea, eb] at hK; go_simp; refine (FL W hG.2.2.2.1).mono ?_; (rintro e wx ⟨s1, -, hbx⟩); obtain ⟨a1, c1, rfl, ho⟩ := s1 _ rfl; go_simp; exact hK.out rfl _ _ hbx ⟨a1, c1, rfl, ho.row, fun g off e => by have := ho.from g off e; have := GB _ hG; omega⟩
    · intro vs W hW hW0 hd hne hold K hK hA hL; clear hne hA hL; have hG := hW; simp only [puts, Act.put, List.setIfInBounds_toArray, List.set_cons_zero, List.set_cons_succ, Nat.zero_add, Nat.reduceAdd] at hK ⊢; have q1 := hG.2.1.cell 0 _ rfl; clear hd hold; go_simp; exact hK.out rfl _ _ (Below.refl _ _) rfl
    · intro vs W hW hW0 hd hne hold K hK hA hL; clear hne hA hL; have hG := hW; simp only [puts, Act.put, List.setIfInBounds_toArray, List.set_cons_zero, List.set_cons_succ, Nat.zero_add, Nat.reduceAdd] at hK ⊢; have ea : vs 3 = _ := hd 3 (by kernel_rfl); clear hd hold; simp only [ea] at hK; go_simp; refine (LE W hG.2.2.2.1).mono ?_; (rintro e wx ⟨rfl, hbx⟩); go_simp; exact hK.out rfl _ _ hbx rfl
    · intro vs W hW hW0 hd hne hold K hK hA hL; clear hne hA hL; have hG := hW; simp only [puts, Act.put, List.setIfInBounds_toArray, List.set_cons_zero, List.set_cons_succ, Nat.zero_add, Nat.reduceAdd] at hK ⊢; have q1 := hG.2.1.cell 0 _ rfl; clear hd hold; go_simp; exact hK.out rfl _ _ (Below.refl _ _) rfl
    · intro vs W hW hW0 hd hne hold K hK hA hL; clear hne hA hL; have hG := hW; simp only [puts, Act.put, List.setIfInBounds_toArray, List.set_cons_zero, List.set_cons_succ, Nat.zero_add, Nat.reduceAdd] at hK ⊢; have ea : vs 5 = _ := hd 5 (by kernel_rfl); clear hd hold; simp only [ea] at hK; go_simp; refine (MO W hG.2.2.2.1).mono ?_; (rintro e wx ⟨rfl, hbx⟩); go_simp; exact hK.out rfl _ _ hbx rfl
    · intro vs W hW hW0 hd hne hold K hK hA hL; clear hK hA; have hG := hW; simp only [puts, Act.put, List.setIfInBounds_toArray, List.set_cons_zero, List.set_cons_succ, Nat.zero_add, Nat.reduceAdd] at hL ⊢; have h2 : FilV L B (vs 2) W := hd 2 (by kernel_rfl); obtain ⟨a1, c1, ea, hra, hfa⟩ := h2; obtain ⟨g1, g2, g3, g4, ⟨u7, g5⟩, ⟨u8, g6⟩, u9, g7⟩ := hG; have q1 := g5.cell 0 _ rfl; have q2 := g5.free 0; have hbt := But.set (b := b7) W 0 (.slice a1 L.length c1); clear hd hold; simp only [ea] at hL; go_simp; refine hL.out rfl undef _ ⟨g1.trans (ButL.set _ _ _ (by simp)), g2.but hbt n57, g3.but hbt n67, g4.but hbt (fun g off e => (HAO.out g off e).1), ⟨_, g5.set1 rfl _⟩, ⟨u8, g6.but hbt n78.symm⟩, u9, g7.but hbt n79.symm⟩ (fun _ => trivial) ⟨a1, c1, g5.set1 rfl _, hra.but hbt (fun g off e => by have := hfa g off e; omega), hfa⟩ ?_; exact claims_keep_a ⟨.inr (.inr is_keep), .inr (.inr is_keep), .inr (.inr fun h => FilV.but h hbt (by omega)), .inr (.inr is_keep), .inr (.inr is_keep), .inr (.inr is_keep), .inr (.inr is_keep), .inl rfl, .inr (.inl (by kernel_rfl)), .inr (.inl (by kernel_rfl)), trivial⟩
    · intro vs W hW hW0 hd hne hold K hK hA hL; clear hK hA; have hG := hW; simp only [puts, Act.put, List.setIfInBounds_toArray, List.set_cons_zero, List.set_cons_succ, Nat.zero_add, Nat.reduceAdd] at hL ⊢; have ea : vs 4 = _ := hd 4 (by kernel_rfl); obtain ⟨g1, g2, g3, g4, ⟨u7, g5⟩, ⟨u8, g6⟩, u9, g7⟩ := hG; have q1 := g6.cell 0 _ rfl; have q2 := g6.free 0; have hbt := But.set (b := b8) W 0 (.int .i64 least); clear hd hold; simp only [ea] at hL; go_simp; refine hL.out rfl undef _ ⟨g1.trans (ButL.set _ _ _ (by simp)), g2.but hbt n58, g3.but hbt n68, g4.but hbt (fun g off e => (HAO.out g off e).2.1), ⟨u7, g5.but hbt n78⟩, ⟨_, g6.set1 rfl _⟩, u9, g7.but hbt n89.symm⟩ (fun _ => trivial) (g6.set1 rfl _) ?_; exact claims_keep_a ⟨.inr (.inr is_keep), .inr (.inr is_keep), .inr (.inr fun h => FilV.but h hbt (by omega)), .inr (.inr is_keep), .inr (.inr is_keep), .inr (.inr is_keep), .inr (.inr is_keep), .inr (.inr fun h => FillRel.but1 h hbt n78 l8), .inl rfl, .inr (.inl (by kernel_rfl)), trivial⟩
    · intro vs W hW hW0 hd hne hold K hK hA hL; clear hK hA; have hG := hW; simp only [puts, Act.put, List.setIfInBounds_toArray, List.set_cons_zero, List.set_cons_succ, Nat.zero_add, Nat.reduceAdd] at hL ⊢; have ea : vs 6 = _ := hd 6 (by kernel_rfl); obtain ⟨g1, g2, g3, g4, ⟨u7, g5⟩, ⟨u8, g6⟩, u9, g7⟩ := hG; have q1 := g7.cell 0 _ rfl; have q2 := g7.free 0; have hbt := But.set (b := b9) W 0 (.int .i64 most); clear hd hold; simp only [ea] at hL; go_simp; refine hL.out rfl undef _ ⟨g1.trans (ButL.set _ _ _ (by simp)), g2.but hbt n59, g3.but hbt n69, g4.but hbt (fun g off e => (HAO.out g off e).2.2), ⟨u7, g5.but hbt n79⟩, ⟨u8, g6.but hbt n89⟩, _, g7.set1 rfl _⟩ (fun _ => trivial) (g7.set1 rfl _) ?_; exact claims_keep_a ⟨.inr (.inr is_keep), .inr (.inr is_keep), .inr (.inr fun h => FilV.but h hbt (by omega)), .inr (.inr is_keep), .inr (.inr is_keep), .inr (.inr is_keep), .inr (.inr is_keep), .inr (.inr fun h => FillRel.but1 h hbt n79 l9), .inr (.inr fun h => Blk.but h hbt n89), .inl rfl, trivial⟩
  · intro va WB hW hV _
    have h7 : FillRel b7 L B WB := hV 7 (by decide)
    have h8 : Blk WB b8 #[.int .i64 least] 2 := hV 8 (by decide)
    have h9 : Blk WB b9 #[.int .i64 most] 2 := hV 9 (by decide)
    clear hV
    have hfin : Q (.returned (.tuple #[])) WB := by rw [EQ.out]; exact ⟨rfl, ⟨h7, h8, h9⟩, hW.1⟩
    simp only [puts, Act.put, List.setIfInBounds_toArray, List.set_cons_zero, List.set_cons_succ, Nat.zero_add, Nat.reduceAdd]
    go_end0
    exact hfin
end Go.Proofs.Ythofammjbicogaa
