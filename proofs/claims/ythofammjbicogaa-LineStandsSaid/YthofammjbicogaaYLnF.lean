/-
  Layer 13: the laws' both.
-/
import Derived.Test.YthofammjbicogaaYLnE
import Derived.Test.YthofammjbicogaaYApp
namespace Go.Proofs.Ythofammjbicogaa
open Go.RowKit
set_option linter.unusedSimpArgs false
set_option linter.unusedVariables false

/-- The first items of a slice that came in. -/
def ItP (w : World) (v : Value) (k : Nat) (l : List It) : Prop :=
  ∃ ao n cap, v = .slice ao n cap ∧ n ≤ maxLen ∧ k = min n 30 ∧ l.length = k ∧ RowV w ao k 4 (itV l) ∧ ItFit l
theorem ItP.below {w w' : World} {v : Value} {k : Nat} {l : List It} (h : ItP w v k l) (hb : Below w.heap.size w w') : ItP w' v k l := by
  obtain ⟨a, n, c, e, h1, h2, h3, h4, h5⟩ := h
  exact ⟨a, n, c, e, h1, h2, h3, h4.below hb, h5⟩
def BothAns (k : Nat) (l : List It) (w : World) (e : Ending) (w' : World) : Prop :=
  ∃ a1 c1 a2 c2, e = .returned (.tuple #[.slice a1 k c1, .slice a2 k c2]) ∧ OwnW w' w.heap.size 47 4 a1 k c1 (itV l) ∧ OwnW w' w.heap.size 97 4 a2 k c2 (itV l) ∧ Below w.heap.size w w'
theorem cells4 (x y z : Int) (b : Bool) : ∀ u ∈ ([.int .i64 x, .int .i64 y, .int .i64 z, .bool b] : List Value), u.oneCell' = true := by
  intro u hu; simp at hu; rcases hu with rfl | rfl | rfl | rfl <;> rfl
theorem news_blk {w : World} {b : Nat} {cs : List Value} {T : TypeId} (h : Blk w b cs.toArray T) : ∀ j u, cs[j]? = some u → w.cell? ((⟨b, 0, none⟩ : Addr).add j) = some u := by
  intro j u hu
  have e2 : (Addr.add ⟨b, 0, none⟩ j) = ⟨b, j, none⟩ := by unfold Addr.add; split <;> simp_all
  rw [e2]
  exact h.cell j u (by simpa using hu)
theorem itV_snoc (l : List It) (j : Nat) (hj : j < l.length) : itV (l.take (j + 1)) = itV (l.take j) ++ [.int .i64 ((l.getD j it0).w), .int .i64 ((l.getD j it0).s), .int .i64 ((l.getD j it0).h), .bool (l.getD j it0).b] := by
  rw [List.take_succ_eq_append_getElem hj, itV_app]
  simp [itV, List.getD, hj]
set_option maxRecDepth 100000 in
set_option maxHeartbeats 3200000 in
theorem law13_both (v : Value) (k : Nat) (l : List It) (w : World) (hv : ItP w v k l) :
    Calls Try.prog 15 #[v] w (BothAns k l w) := by
  obtain ⟨i0, hi, hz0, hz1, hz2⟩ := info_parts (show (Try.prog.info? 47).map (fun i => (i.zero, i.size, i.bytes)) = some (some (.agg #[.int .i64 0, .int .i64 0, .int .i64 0, .bool false]), 4, 32) by kernel_rfl)
  obtain ⟨j0, ji, jz0, jz1, jz2⟩ := info_parts (show (Try.prog.info? 97).map (fun i => (i.zero, i.size, i.bytes)) = some (some (.agg #[.int .i64 0, .int .i64 0, .int .i64 0, .bool false]), 4, 32) by kernel_rfl)
  obtain ⟨Q, eQ⟩ : ∃ Q : Ending → World → Prop, Q = BothAns k l w := ⟨_, rfl⟩
  rw [← eQ]
  have EQ := Lib.hid eQ
  obtain ⟨ao, n, cap, rfl, hn, ek, hl, hr, hf⟩ := hv
  have hk30 : k ≤ 30 := by omega
  have EK := Lib.hid ek
  have HL := Lib.hid hl
  have HR := Lib.hid hr
  clear eQ ek hl hr hf
  go_enter Try.func15, Try.ntmps15
  go_wp2_with fail
  go_loopg [4, 5, 6] k (fun gk s4 s5 s6 wr => ∃ (j : Nat) (a1 : Option Addr) (c1 : Nat) (a2 : Option Addr) (c2 : Nat), j ≤ k ∧ gk = k - j ∧ s4 = .slice a1 j c1 ∧ s5 = .slice a2 j c2 ∧ s6 = .int .i64 ((j : Int)) ∧ OwnW wr w.heap.size 47 4 a1 j c1 (itV (l.take j)) ∧ OwnW wr w.heap.size 97 4 a2 j c2 (itV (l.take j)) ∧ Below w.heap.size w wr)
  case atStart => exact ⟨0, none, 0, none, 0, by omega, by omega, rfl, rfl, rfl, OwnW.nil _ _ _ _, OwnW.nil _ _ _ _, Below.refl _ _⟩
  case round =>
    obtain ⟨j, a1, c1, a2, c2, hj, rfl, rfl, rfl, rfl, o1, o2, hB⟩ := hrel
    have hsB := hB.size
    by_cases hjk : j < k
    · have ix : (j : Int) < (n : Int) := by have := EK.out; omega
      have ix2 : (j : Int) < 30 := by omega
      obtain ⟨g, off, rfl, hg, hcx⟩ := HR.out.at hjk
      have hgv := itV_get l j (by rw [HL.out]; exact hjk)
      have esn := itV_snoc l j (by rw [HL.out]; exact hjk)
      have q0 := hcx 0 (by omega)
      have q1 := hcx 1 (by omega)
      have q2 := hcx 2 (by omega)
      have q3 := hcx 3 (by omega)
      rw [hgv.1, Nat.add_zero] at q0
      rw [hgv.2.1] at q1
      rw [hgv.2.2.1] at q2
      rw [hgv.2.2.2] at q3
      obtain ⟨x, ex⟩ : ∃ x, (l.getD j it0).w = x := ⟨_, rfl⟩
      obtain ⟨y, ey⟩ : ∃ x, (l.getD j it0).s = x := ⟨_, rfl⟩
      obtain ⟨z, ez⟩ : ∃ x, (l.getD j it0).h = x := ⟨_, rfl⟩
      obtain ⟨b, eb⟩ : ∃ x, (l.getD j it0).b = x := ⟨_, rfl⟩
      rw [ex] at q0 esn
      rw [ey] at q1 esn
      rw [ez] at q2 esn
      rw [eb] at q3 esn
      have HC0 := Lib.hid (fun W (h : Below w.heap.size w W) => (h.cell (p := ⟨g, off + j * 4, none⟩) hg).trans q0)
      have HC1 := Lib.hid (fun W (h : Below w.heap.size w W) => (h.cell (p := ⟨g, off + j * 4 + 1, none⟩) hg).trans q1)
      have HC2 := Lib.hid (fun W (h : Below w.heap.size w W) => (h.cell (p := ⟨g, off + j * 4 + 2, none⟩) hg).trans q2)
      have HC3 := Lib.hid (fun W (h : Below w.heap.size w W) => (h.cell (p := ⟨g, off + j * 4 + 3, none⟩) hg).trans q3)
      have ESN := Lib.hid esn
      have hg1 : ∀ g, (Value.slice a1 j c1).ownBlock = some g → g < wr.heap.size := fun g h => (o1.ge h).2
      have hg2 : ∀ g, (Value.slice a2 j c2).ownBlock = some g → g < wr.heap.size := fun g h => (o2.ge h).2
      have HG1 := Lib.hid hg1
      have HG2 := Lib.hid hg2
      obtain ⟨ys, eys⟩ : ∃ ys, itV (l.take j) = ys := ⟨_, rfl⟩
      have hysl : ys.length = j * 4 := by rw [← eys, itV_len, List.length_take, HL.out]; omega
      rw [eys] at o1 o2 esn
      have ESN := Lib.hid esn
      clear hcx hgv esn q0 q1 q2 q3 ex ey ez eb hg1 hg2 eys
      go_wp2_with fail
      go_upto_region 6 with (fail)
      rename_i K1 hK1
      refine wp_region_calm (fun w' => Below w.heap.size w w' ∧ OwnW w' w.heap.size 47 4 a1 j c1 ys ∧ OwnW w' w.heap.size 97 4 a2 j c2 ys ∧ wr.heap.size ≤ w'.heap.size) [] (fun w' => True) [Is (.slice a1 j c1), Is (.slice (some ⟨g, off, none⟩) n cap), Is (.int .i64 ((j : Int))), Is (.pointer (some ⟨g, off + j * 4, none⟩)), Is (.agg #[.int .i64 x, .int .i64 y, .int .i64 z, .bool b]), sliW wr.heap.size 47 [.int .i64 x, .int .i64 y, .int .i64 z, .bool b], ownW w.heap.size 47 4 (j + 1) (ys ++ [.int .i64 x, .int .i64 y, .int .i64 z, .bool b]), Is (.slice a2 j c2), Is (.slice (some ⟨g, off, none⟩) n cap), Is (.int .i64 ((j : Int))), Is (.pointer (some ⟨g, off + j * 4, none⟩)), Is (.agg #[.int .i64 x, .int .i64 y, .int .i64 z, .bool b]), sliW wr.heap.size 97 [.int .i64 x, .int .i64 y, .int .i64 z, .bool b], ownW w.heap.size 97 4 (j + 1) (ys ++ [.int .i64 x, .int .i64 y, .int .i64 z, .bool b]), ownW w.heap.size 47 4 (j + 1) (ys ++ [.int .i64 x, .int .i64 y, .int .i64 z, .bool b]), ownW w.heap.size 97 4 (j + 1) (ys ++ [.int .i64 x, .int .i64 y, .int .i64 z, .bool b])] [] (by kernel_rfl) (by kernel_rfl) (by kernel_rfl) (by kernel_rfl) ⟨hB.drew, o1.drew, o2.drew, Nat.le_refl _⟩ trivial ?_ ?_ ?_ ?_ ?_
      · rintro W W' ⟨hBB, o1, o2, hl⟩ hb
        exact ⟨hBB.trans (hb.mono hBB.size), o1.below hb, o2.below hb, Nat.le_trans hl hb.size⟩
      · exact fun _ _ _ _ _ => trivial
      · intro k vs W hk h
        exact absurd hk (by simp)
      · intro Q; clear hK1 hB o1 o2
        refine ⟨?_, ?_, ?_, ?_, ?_, ?_, ?_, ?_, ?_, ?_, ?_, ?_, ?_, ?_, ?_, ?_, trivial⟩
        · intro vs W hW hW0 hd hne hold K hK hA hL; clear hne hA hL; have hBB := hW.1; have o1 := hW.2.1; have o2 := hW.2.2.1; have hl := hW.2.2.2; simp only [puts, Act.put, List.setIfInBounds_toArray, List.set_cons_zero, List.set_cons_succ, Nat.zero_add, Nat.reduceAdd] at hK ⊢; have e14 : vs 14 = _ := hold 14 (by kernel_rfl); clear hd hold; simp only [e14] at hK; go_simp; exact hK.out rfl _ _ (Below.refl _ _) rfl
        · intro vs W hW hW0 hd hne hold K hK hA hL; clear hne hA hL; have hBB := hW.1; have o1 := hW.2.1; have o2 := hW.2.2.1; have hl := hW.2.2.2; simp only [puts, Act.put, List.setIfInBounds_toArray, List.set_cons_zero, List.set_cons_succ, Nat.zero_add, Nat.reduceAdd] at hK ⊢; clear hd hold; go_simp; exact hK.out rfl _ _ (Below.refl _ _) rfl
        · intro vs W hW hW0 hd hne hold K hK hA hL; clear hne hA hL; have hBB := hW.1; have o1 := hW.2.1; have o2 := hW.2.2.1; have hl := hW.2.2.2; simp only [puts, Act.put, List.setIfInBounds_toArray, List.set_cons_zero, List.set_cons_succ, Nat.zero_add, Nat.reduceAdd] at hK ⊢; clear hd hold; go_simp; exact hK.out rfl _ _ (Below.refl _ _) rfl
        · intro vs W hW hW0 hd hne hold K hK hA hL; clear hne hA hL; have hBB := hW.1; have o1 := hW.2.1; have o2 := hW.2.2.1; have hl := hW.2.2.2; simp only [puts, Act.put, List.setIfInBounds_toArray, List.set_cons_zero, List.set_cons_succ, Nat.zero_add, Nat.reduceAdd] at hK ⊢; have e1 : vs 1 = _ := hd 1 (by kernel_rfl); have e2 : vs 2 = _ := hd 2 (by kernel_rfl); clear hd hold; simp only [e1, e2] at hK; go_simp; exact hK.out rfl _ _ (Below.refl _ _) rfl
        · intro vs W hW hW0 hd hne hold K hK hA hL; clear hne hA hL; have hBB := hW.1; have o1 := hW.2.1; have o2 := hW.2.2.1; have hl := hW.2.2.2; simp only [puts, Act.put, List.setIfInBounds_toArray, List.set_cons_zero, List.set_cons_succ, Nat.zero_add, Nat.reduceAdd] at hK ⊢; have p0 := HC0.out W hBB; have p1 := HC1.out W hBB; have p2 := HC2.out W hBB; have p3 := HC3.out W hBB; have ee : vs 3 = _ := hd 3 (by kernel_rfl); clear hd hold; simp only [ee] at hK; go_simp; exact hK.out rfl _ _ (Below.refl _ _) rfl
        · intro vs W hW hW0 hd hne hold K hK hA hL; clear hne hA hL; have hBB := hW.1; have o1 := hW.2.1; have o2 := hW.2.2.1; have hl := hW.2.2.2; simp only [puts, Act.put, List.setIfInBounds_toArray, List.set_cons_zero, List.set_cons_succ, Nat.zero_add, Nat.reduceAdd] at hK ⊢; have ee : vs 4 = _ := hd 4 (by kernel_rfl); clear hd hold; simp only [ee] at hK; go_simp; exact hK.out rfl _ _ ((Below.refl _ _).alloc (Nat.le_refl _) _) ⟨W.heap.size, rfl, hl, Blk.new _ _ _ _ rfl⟩
        · intro vs W hW hW0 hd hne hold K hK hA hL; clear hK hA; have hBB := hW.1; have o1 := hW.2.1; have o2 := hW.2.2.1; have hl := hW.2.2.2; simp only [puts, Act.put, List.setIfInBounds_toArray, List.set_cons_zero, List.set_cons_succ, Nat.zero_add, Nat.reduceAdd] at hL ⊢; have ea : vs 0 = _ := hd 0 (by kernel_rfl); have h5 : SliW wr.heap.size 47 [.int .i64 x, .int .i64 y, .int .i64 z, .bool b] (vs 5) W := hd 5 (by kernel_rfl); obtain ⟨bq, ebq, hlb, tb⟩ := h5; clear hd hold; simp only [ea, ebq] at hL ⊢; rw [if_pos (show Region.wanted _ _ = true from rfl)]; refine wp_append_keep (.tmp 17) (.tmp 22) 26 rfl w.heap.size 47 i0 (.agg #[.int .i64 0, .int .i64 0, .int .i64 0, .bool false]) 4 32 Try.underlying26 hi hz0 hz1 hz2 rfl (by decide) _ _ _ rfl o1 ⟨bq, 0, none⟩ 1 1 [.int .i64 x, .int .i64 y, .int .i64 z, .bool b] rfl rfl (news_blk tb) (cells4 x y z b) (by unfold maxLen; omega) (by omega) (by have := hBB.size; omega) ?_; intro v' w1 ho1 hgr hk1; obtain ⟨a5, c5, rfl, ho2, hbe, hbT, hb2⟩ := OwnW.app o1 ho1 hgr (by omega) (by have := hBB.size; omega); simp only [Act.put, List.setIfInBounds_toArray, List.set_cons_zero, List.set_cons_succ, Nat.zero_add, Nat.reduceAdd]; refine hL.out rfl _ _ ⟨hbe _ _ (Nat.le_refl _) hBB, hk1, OwnW.beside o2 o1 (by decide) hgr, Nat.le_trans hl hgr.size⟩ (fun _ => trivial) ⟨a5, c5, rfl, ho2⟩ ?_; exact claims_keep_a ⟨.inr (.inr is_keep), .inr (.inr is_keep), .inr (.inr is_keep), .inr (.inr is_keep), .inr (.inr is_keep), .inr (.inr fun h => by obtain ⟨b9, e9, l9, t9⟩ := h; exact ⟨b9, e9, l9, hb2 _ _ _ t9 (fun q hq => by have := HG1.out q hq; omega)⟩), .inl rfl, .inr (.inr is_keep), .inr (.inr is_keep), .inr (.inr is_keep), .inr (.inr is_keep), .inr (.inr is_keep), .inr (.inr fun h => by obtain ⟨b9, e9, l9, t9⟩ := h; exact ⟨b9, e9, l9, hbT _ _ _ t9 (by decide)⟩), .inr (.inl (by kernel_rfl)), .inr (.inl (by kernel_rfl)), .inr (.inl (by kernel_rfl)), trivial⟩
        · intro vs W hW hW0 hd hne hold K hK hA hL; clear hne hA hL; have hBB := hW.1; have o1 := hW.2.1; have o2 := hW.2.2.1; have hl := hW.2.2.2; simp only [puts, Act.put, List.setIfInBounds_toArray, List.set_cons_zero, List.set_cons_succ, Nat.zero_add, Nat.reduceAdd] at hK ⊢; have e15 : vs 15 = _ := hold 15 (by kernel_rfl); clear hd hold; simp only [e15] at hK; go_simp; exact hK.out rfl _ _ (Below.refl _ _) rfl
        · intro vs W hW hW0 hd hne hold K hK hA hL; clear hne hA hL; have hBB := hW.1; have o1 := hW.2.1; have o2 := hW.2.2.1; have hl := hW.2.2.2; simp only [puts, Act.put, List.setIfInBounds_toArray, List.set_cons_zero, List.set_cons_succ, Nat.zero_add, Nat.reduceAdd] at hK ⊢; clear hd hold; go_simp; exact hK.out rfl _ _ (Below.refl _ _) rfl
        · intro vs W hW hW0 hd hne hold K hK hA hL; clear hne hA hL; have hBB := hW.1; have o1 := hW.2.1; have o2 := hW.2.2.1; have hl := hW.2.2.2; simp only [puts, Act.put, List.setIfInBounds_toArray, List.set_cons_zero, List.set_cons_succ, Nat.zero_add, Nat.reduceAdd] at hK ⊢; clear hd hold; go_simp; exact hK.out rfl _ _ (Below.refl _ _) rfl
        · intro vs W hW hW0 hd hne hold K hK hA hL; clear hne hA hL; have hBB := hW.1; have o1 := hW.2.1; have o2 := hW.2.2.1; have hl := hW.2.2.2; simp only [puts, Act.put, List.setIfInBounds_toArray, List.set_cons_zero, List.set_cons_succ, Nat.zero_add, Nat.reduceAdd] at hK ⊢; have e8 : vs 8 = _ := hd 8 (by kernel_rfl); have e9 : vs 9 = _ := hd 9 (by kernel_rfl); clear hd hold; simp only [e8, e9] at hK; go_simp; exact hK.out rfl _ _ (Below.refl _ _) rfl
        · intro vs W hW hW0 hd hne hold K hK hA hL; clear hne hA hL; have hBB := hW.1; have o1 := hW.2.1; have o2 := hW.2.2.1; have hl := hW.2.2.2; simp only [puts, Act.put, List.setIfInBounds_toArray, List.set_cons_zero, List.set_cons_succ, Nat.zero_add, Nat.reduceAdd] at hK ⊢; have p0 := HC0.out W hBB; have p1 := HC1.out W hBB; have p2 := HC2.out W hBB; have p3 := HC3.out W hBB; have ee : vs 10 = _ := hd 10 (by kernel_rfl); clear hd hold; simp only [ee] at hK; go_simp; exact hK.out rfl _ _ (Below.refl _ _) rfl
        · intro vs W hW hW0 hd hne hold K hK hA hL; clear hne hA hL; have hBB := hW.1; have o1 := hW.2.1; have o2 := hW.2.2.1; have hl := hW.2.2.2; simp only [puts, Act.put, List.setIfInBounds_toArray, List.set_cons_zero, List.set_cons_succ, Nat.zero_add, Nat.reduceAdd] at hK ⊢; have ee : vs 11 = _ := hd 11 (by kernel_rfl); clear hd hold; simp only [ee] at hK; go_simp; exact hK.out rfl _ _ ((Below.refl _ _).alloc (Nat.le_refl _) _) ⟨W.heap.size, rfl, hl, Blk.new _ _ _ _ rfl⟩
        · intro vs W hW hW0 hd hne hold K hK hA hL; clear hK hA; have hBB := hW.1; have o1 := hW.2.1; have o2 := hW.2.2.1; have hl := hW.2.2.2; simp only [puts, Act.put, List.setIfInBounds_toArray, List.set_cons_zero, List.set_cons_succ, Nat.zero_add, Nat.reduceAdd] at hL ⊢; have ea : vs 7 = _ := hd 7 (by kernel_rfl); have h5 : SliW wr.heap.size 97 [.int .i64 x, .int .i64 y, .int .i64 z, .bool b] (vs 12) W := hd 12 (by kernel_rfl); obtain ⟨bq, ebq, hlb, tb⟩ := h5; clear hd hold; simp only [ea, ebq] at hL ⊢; rw [if_pos (show Region.wanted _ _ = true from rfl)]; refine wp_append_keep (.tmp 24) (.tmp 29) 27 rfl w.heap.size 97 j0 (.agg #[.int .i64 0, .int .i64 0, .int .i64 0, .bool false]) 4 32 Try.underlying27 ji jz0 jz1 jz2 rfl (by decide) _ _ _ rfl o2 ⟨bq, 0, none⟩ 1 1 [.int .i64 x, .int .i64 y, .int .i64 z, .bool b] rfl rfl (news_blk tb) (cells4 x y z b) (by unfold maxLen; omega) (by omega) (by have := hBB.size; omega) ?_; intro v' w1 ho1 hgr hk1; obtain ⟨a5, c5, rfl, ho2, hbe, hbT, hb2⟩ := OwnW.app o2 ho1 hgr (by omega) (by have := hBB.size; omega); simp only [Act.put, List.setIfInBounds_toArray, List.set_cons_zero, List.set_cons_succ, Nat.zero_add, Nat.reduceAdd]; refine hL.out rfl _ _ ⟨hbe _ _ (Nat.le_refl _) hBB, OwnW.beside o1 o2 (by decide) hgr, hk1, Nat.le_trans hl hgr.size⟩ (fun _ => trivial) ⟨a5, c5, rfl, ho2⟩ ?_; exact claims_keep_a ⟨.inr (.inr is_keep), .inr (.inr is_keep), .inr (.inr is_keep), .inr (.inr is_keep), .inr (.inr is_keep), .inr (.inr fun h => by obtain ⟨b9, e9, l9, t9⟩ := h; exact ⟨b9, e9, l9, hbT _ _ _ t9 (by decide)⟩), .inr (.inr fun h => by obtain ⟨a9, c9, e9, h9⟩ := h; exact ⟨a9, c9, e9, OwnW.beside h9 o2 (by decide) hgr⟩), .inr (.inr is_keep), .inr (.inr is_keep), .inr (.inr is_keep), .inr (.inr is_keep), .inr (.inr is_keep), .inr (.inr fun h => by obtain ⟨b9, e9, l9, t9⟩ := h; exact ⟨b9, e9, l9, hb2 _ _ _ t9 (fun q hq => by have := HG2.out q hq; omega)⟩), .inl rfl, .inr (.inl (by kernel_rfl)), .inr (.inl (by kernel_rfl)), trivial⟩
        · intro vs W hW hW0 hd hne hold K hK hA hL; clear hne hA hL; have hBB := hW.1; have o1 := hW.2.1; have o2 := hW.2.2.1; have hl := hW.2.2.2; simp only [puts, Act.put, List.setIfInBounds_toArray, List.set_cons_zero, List.set_cons_succ, Nat.zero_add, Nat.reduceAdd] at hK ⊢; have h15 : OwnVW w.heap.size 47 4 (j + 1) (ys ++ [.int .i64 x, .int .i64 y, .int .i64 z, .bool b]) (vs 6) W := hd 6 (by kernel_rfl); obtain ⟨a5, c5, e1, ho⟩ := h15; clear hd hold; simp only [e1] at hK; go_simp; exact hK.out rfl _ _ (Below.refl _ _) ⟨a5, c5, rfl, ho⟩
        · intro vs W hW hW0 hd hne hold K hK hA hL; clear hne hA hL; have hBB := hW.1; have o1 := hW.2.1; have o2 := hW.2.2.1; have hl := hW.2.2.2; simp only [puts, Act.put, List.setIfInBounds_toArray, List.set_cons_zero, List.set_cons_succ, Nat.zero_add, Nat.reduceAdd] at hK ⊢; have h15 : OwnVW w.heap.size 97 4 (j + 1) (ys ++ [.int .i64 x, .int .i64 y, .int .i64 z, .bool b]) (vs 13) W := hd 13 (by kernel_rfl); obtain ⟨a5, c5, e1, ho⟩ := h15; clear hd hold; simp only [e1] at hK; go_simp; exact hK.out rfl _ _ (Below.refl _ _) ⟨a5, c5, rfl, ho⟩
      · intro va WB hW hV _
        clear hB o1 o2
        obtain ⟨hB, _, _, _⟩ := hW
        have h14 : OwnVW w.heap.size 47 4 (j + 1) (ys ++ [.int .i64 x, .int .i64 y, .int .i64 z, .bool b]) (va 14) WB := hV 14 (by decide)
        have h15 : OwnVW w.heap.size 97 4 (j + 1) (ys ++ [.int .i64 x, .int .i64 y, .int .i64 z, .bool b]) (va 15) WB := hV 15 (by decide)
        obtain ⟨a5, c5, e14, o5⟩ := h14
        obtain ⟨a6, c6, e15, o6⟩ := h15
        clear hV
        simp only [puts, Act.put, List.setIfInBounds_toArray, List.set_cons_zero, List.set_cons_succ, Nat.zero_add, Nat.reduceAdd, e14, e15]
        refine hK1 _ _ ?_
        clear hK1 e14 e15
        go_wp2_with fail
        go_roundg (k - (j + 1))
        case measure => omega
        case rel => exact ⟨j + 1, a5, c5, a6, c6, by omega, rfl, rfl, rfl, by go_num, by rw [ESN.out]; exact o5, by rw [ESN.out]; exact o6, hB⟩
    · obtain rfl : j = k := by omega
      have e1 : l.take j = l := List.take_of_length_le (by rw [HL.out]; exact Nat.le_refl _)
      rw [e1] at o1 o2
      have hcond : ¬ (j : Int) < (n : Int) ∨ ((j : Int) < (n : Int) ∧ ¬ (j : Int) < 30) := by have := EK.out; omega
      clear e1
      rcases hcond with ix | ⟨ix, ix2⟩
      all_goals
        go_wp2_with fail
        rw [EQ.out]
        exact ⟨a1, c1, a2, c2, rfl, o1, o2, hB⟩
end Go.Proofs.Ythofammjbicogaa
