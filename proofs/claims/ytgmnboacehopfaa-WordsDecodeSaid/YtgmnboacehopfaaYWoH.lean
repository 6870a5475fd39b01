/-
  The law WordsScale.
-/
import Derived.Test.YtgmnboacehopfaaYWoG
import Derived.Test.YtgmnboacehopfaaYOpenE
namespace Go.Proofs.Ytgmnboacehopfaa
open Go.RowKit
set_option linter.unusedSimpArgs false
set_option linter.unusedVariables false

theorem OwnW.asideW {w : World} {B : Nat} {T : TypeId} {s : Nat} {ao : Option Addr} {k cap : Nat} {vs : List Value} (h : OwnW w B T s ao k cap vs) (a : Addr) (u : Value) (ha : (Value.slice ao k cap).ownBlock ≠ some a.block) : OwnW (w.setCell a u) B T s ao k cap vs := by
  refine ⟨h.1, ?_⟩
  rcases h.2 with h | ⟨g, c, cur, hv, hg, hh, r⟩
  · exact .inl h
  · refine .inr ⟨g, c, cur, hv, hg, ?_, r⟩
    rw [Below.heap_setCell _ _ _ _ (fun e => ha (by rw [hv]; simp [Value.ownBlock, e]))]; exact hh
theorem butl_one {b : Nat} {w w' : World} (h : ButL [b] w w') : But b w w' := ⟨h.os, h.tape, h.output, h.size, fun k hk hne => h.block k hk (by simpa using hne)⟩
theorem OwnW.ltW {w : World} {B : Nat} {T : TypeId} {s k cap : Nat} {ao : Option Addr} {vs : List Value} (h : OwnW w B T s ao k cap vs) : ∀ g off, ao = some ⟨g, off, none⟩ → g < w.heap.size := fun g off e => by
  subst e
  exact (h.ge rfl).2
def WsRel (b k : Nat) (vs : List Value) (w : World) : Prop := ∃ a c, Blk w b #[.slice a k c] 35 ∧ OwnW w b 44 3 a k c vs
def wsC (b k : Nat) (vs : List Value) : Cl := .own (fun _ w => WsRel b k vs w) (fun _ _ _ h hb => by obtain ⟨a, c, h1, h2⟩ := h; exact ⟨a, c, h1.below hb, h2.below hb⟩)
theorem sc_row {T : TypeId} {n : Nat} {C : Int} {vs : List Value} {w : World} {e : Ending} {w' : World} (h : ScAns T n C vs w e w') : ∃ a c, e = .returned (.tuple #[.slice a (if C = 0 then n else 0) c, .int .i64 C]) ∧ RowV w' a (if C = 0 then n else 0) 3 (if C = 0 then vs else []) ∧ Below w.heap.size w w' := by
  obtain ⟨a, m, c, rfl, h1, h2, hb⟩ := h
  by_cases hc : C = 0
  · obtain ⟨rfl, ho⟩ := h1 hc
    rw [if_pos hc, if_pos hc]
    exact ⟨a, c, rfl, ho.row, hb⟩
  · obtain rfl := h2 hc
    rw [if_neg hc, if_neg hc]
    exact ⟨a, c, rfl, RowV.nil _ _ _, hb⟩
theorem wo_pick {w : World} {a : Option Addr} {m : Nat} {xs : List Wo} (h : RowV w a m 3 (xs.flatMap Wo.vals)) (hl : xs.length = m) {j : Nat} (hj : j < m) : ∃ g off, a = some ⟨g, off, none⟩ ∧ w.cell? ⟨g, off + j * 3, none⟩ = some (.int .i64 ((xs.getD j wo0).w)) ∧ w.cell? ⟨g, off + j * 3 + 1, none⟩ = some (.int .i64 ((xs.getD j wo0).s)) ∧ w.cell? ⟨g, off + j * 3 + 2, none⟩ = some (.bool (xs.getD j wo0).br) := by
  obtain ⟨g, off, e, _, hc⟩ := h.at hj
  have hx := fun k (hk : k < 3) => (hc k hk).trans (flW_get Wo.vals 3 (fun _ => rfl) wo0 xs j k (by omega) hk)
  exact ⟨g, off, e, hx 0 (by omega), hx 1 (by omega), hx 2 (by omega)⟩
set_option maxRecDepth 100000 in
set_option maxHeartbeats 6400000 in
theorem law_scales12 (v : Value) (p q : Int) (hp : IFit p) (hq : IFit q) (w : World) (hv : WoIn w v) :
    Calls Try.prog 4 #[v, .int .i64 p, .int .i64 q] w fun e w' => e = .returned (.bool true) ∧ Below w.heap.size w w' := by
  obtain ⟨ao, n, cap, l, rfl, hn, hl, hr, hf⟩ := hv
  obtain ⟨i0, hi, hz0, hz1, hz2⟩ := info_parts (show (Try.prog.info? 44).map (fun i => (i.zero, i.size, i.bytes)) = some (some (.agg #[.int .i64 0, .int .i64 0, .bool false]), 3, 24) by kernel_rfl)
  obtain ⟨j0, ji, jz0, jz1, jz2⟩ := info_parts (show (Try.prog.info? 43).map (fun i => (i.zero, i.size, i.bytes)) = some (some (.agg #[.int .i64 0, .int .i64 0, .bool false]), 3, 24) by kernel_rfl)
  obtain ⟨k, ek⟩ : ∃ k, k = min n 20 := ⟨_, rfl⟩
  have hk20 : k ≤ 20 := by omega
  obtain ⟨Q, eQ⟩ : ∃ Q : Ending → World → Prop, Q = fun e w' => e = .returned (.bool true) ∧ Below w.heap.size w w' := ⟨_, rfl⟩
  rw [← eQ]
  have EQ := Lib.hid eQ
  have EK := Lib.hid ek
  have HL := Lib.hid hl
  have HR := Lib.hid hr
  have HF := Lib.hid hf
  have HP := Lib.hid hp
  have HQ := Lib.hid hq
  clear eQ ek hl hr hf hp hq
  go_enter Try.func4, Try.ntmps4
  go_upto_region 1 with (fail)
  refine wp_worldW (fun W => Blk W w.heap.size #[.int .i64 p] 2 ∧ Blk W (w.heap.size + 1) #[.int .i64 q] 2 ∧ Below w.heap.size w W ∧ w.heap.size + 2 ≤ W.heap.size) ⟨(Blk.new w _ _ _ rfl).alloc _, Blk.new _ _ _ _ (by simp), by exact (by repeat' (first | (with_reducible exact Below.refl _ _) | (with_reducible assumption) | (with_reducible refine below_alloc ?_ _ ?_) | (with_reducible refine below_set _ ?_ ?_) | (with_reducible refine Below.drew ?_) | (with_reducible refine below_dN ?_ _) | (apply below_thenA; assumption) | omega | (simp; done) | (simp; omega) | (simp [*]; done))), by simp⟩ ?_
  rintro W0 ⟨tp0, tq0, hB0, hz⟩
  go_wp2_with fail
  refine (speaks12 _).mono ?_
  rintro e w1 ⟨rfl, hb⟩
  have tp1 := tp0.below hb
  have tq1 := tq0.below hb
  have hB1 := hB0.trans (hb.mono hB0.size)
  have hs1 := hb.size
  have TP := Lib.hid tp1
  have TQ := Lib.hid tq1
  have HB1 := Lib.hid hB1
  have HZ : w.heap.size + 2 ≤ w1.heap.size := by omega
  clear tp0 tq0 hB0 hz hb tp1 tq1 hB1 hs1
  go_wp2_with fail
  go_loopg [8, 9] k (fun gk s8 s9 wr => ∃ (j : Nat) (a1 : Option Addr) (c1 : Nat) (a2 : Option Addr) (c2 : Nat), j ≤ k ∧ gk = k - j ∧ s8 = .slice a2 j c2 ∧ s9 = .int .i64 ((j : Int)) ∧ Blk wr w1.heap.size #[.slice a1 j c1] 35 ∧ OwnW wr w1.heap.size 44 3 a1 j c1 ((l.take j).flatMap Wo.vals) ∧ OwnW wr w1.heap.size 43 3 a2 j c2 ((l.take j).flatMap Wo.vals) ∧ Below w1.heap.size w1 wr)
  case atStart => exact ⟨0, none, 0, none, 0, by omega, by omega, rfl, rfl, Blk.new _ _ _ _ rfl, OwnW.nil _ _ _ _, OwnW.nil _ _ _ _, by exact (by repeat' (first | (with_reducible exact Below.refl _ _) | (with_reducible assumption) | (with_reducible refine below_alloc ?_ _ ?_) | (with_reducible refine below_set _ ?_ ?_) | (with_reducible refine Below.drew ?_) | (with_reducible refine below_dN ?_ _) | (apply below_thenA; assumption) | omega | (simp; done) | (simp; omega) | (simp [*]; done)))⟩
  case round =>
    obtain ⟨j, a1, c1, a2, c2, hj, rfl, rfl, rfl, t7, o1, o2, hB⟩ := hrel
    have hsB := hB.size
    have hlt7 := t7.lt
    by_cases hjk : j < k
    · have ix : (j : Int) < (n : Int) := by have := EK.out; omega
      have ix2 : (j : Int) < 20 := by omega
      have hjl : j < l.length := by rw [HL.out]; have := EK.out; omega
      obtain ⟨g, off, rfl, q0, q1, q2⟩ := wo_pick HR.out HL.out (show j < n by have := EK.out; omega)
      have hg : g < w.heap.size := by
        obtain ⟨g', off', e, hg, _⟩ := HR.out.at (show j < n by have := EK.out; omega)
        simp at e
        omega
      have esn := flW_snoc Wo.vals wo0 hjl
      obtain ⟨x, ex⟩ : ∃ x, l.getD j wo0 = x := ⟨_, rfl⟩
      rw [ex] at q0 q1 q2 esn
      rw [show x.vals = [.int .i64 x.w, .int .i64 x.s, .bool x.br] from rfl] at esn
      have HB1B := fun W (h : Below w1.heap.size w1 W) => HB1.out.trans (h.mono HB1.out.size)
      have HC0 := Lib.hid (fun W (h : Below w1.heap.size w1 W) => ((HB1B W h).cell (p := ⟨g, off + j * 3, none⟩) hg).trans q0)
      have HC1 := Lib.hid (fun W (h : Below w1.heap.size w1 W) => ((HB1B W h).cell (p := ⟨g, off + j * 3 + 1, none⟩) hg).trans q1)
      have HC2 := Lib.hid (fun W (h : Below w1.heap.size w1 W) => ((HB1B W h).cell (p := ⟨g, off + j * 3 + 2, none⟩) hg).trans q2)
      have hg1 : ∀ g, (Value.slice a1 j c1).ownBlock = some g → g < wr.heap.size := fun g h => (o1.ge h).2
      have hg2 : ∀ g, (Value.slice a2 j c2).ownBlock = some g → g < wr.heap.size := fun g h => (o2.ge h).2
      have HG1 := Lib.hid hg1
      have HG2 := Lib.hid hg2
      obtain ⟨ys, eys⟩ : ∃ ys, (l.take j).flatMap Wo.vals = ys := ⟨_, rfl⟩
      rw [eys] at o1 o2 esn
      have hyl : ys.length = j * 3 := o1.1
      have ESN := Lib.hid esn
      clear esn q0 q1 q2 ex hg1 hg2 eys HB1B
      go_wp2_with fail
      go_upto_region 8 with (fail)
      rename_i K1 hK1
      refine wp_region_calm (fun w' => Below w1.heap.size w1 w' ∧ OwnW w' w1.heap.size 44 3 a1 j c1 ys ∧ OwnW w' w1.heap.size 43 3 a2 j c2 ys ∧ (∃ s, Blk w' w1.heap.size #[s] 35) ∧ wr.heap.size ≤ w'.heap.size) [14] (fun w' => Blk w' w1.heap.size #[.slice a1 j c1] 35) [Is (.slice a1 j c1), Is (.slice (some ⟨g, off, none⟩) n cap), Is (.int .i64 ((j : Int))), Is (.pointer (some ⟨g, off + j * 3, none⟩)), Is (.agg #[.int .i64 x.w, .int .i64 x.s, .bool x.br]), sliW wr.heap.size 44 [.int .i64 x.w, .int .i64 x.s, .bool x.br], ownW w1.heap.size 44 3 (j + 1) (ys ++ [.int .i64 x.w, .int .i64 x.s, .bool x.br]), Is (.slice a2 j c2), Is (.slice (some ⟨g, off, none⟩) n cap), Is (.int .i64 ((j : Int))), Is (.pointer (some ⟨g, off + j * 3, none⟩)), Is (.agg #[.int .i64 x.w, .int .i64 x.s, .bool x.br]), sliW wr.heap.size 43 [.int .i64 x.w, .int .i64 x.s, .bool x.br], ownW w1.heap.size 43 3 (j + 1) (ys ++ [.int .i64 x.w, .int .i64 x.s, .bool x.br]), wsC w1.heap.size (j + 1) (ys ++ [.int .i64 x.w, .int .i64 x.s, .bool x.br]), ownW w1.heap.size 43 3 (j + 1) (ys ++ [.int .i64 x.w, .int .i64 x.s, .bool x.br])] [] (by kernel_rfl) (by kernel_rfl) (by kernel_rfl) (by kernel_rfl) ⟨hB.drew, o1.drew, o2.drew, ⟨_, t7⟩, Nat.le_refl _⟩ t7 ?_ ?_ ?_ ?_ ?_
      · rintro W W' ⟨hBB, o1, o2, hbx, hl⟩ hb
        exact ⟨hBB.trans (hb.mono hBB.size), o1.below hb, o2.below hb, by obtain ⟨s, q⟩ := hbx; exact ⟨s, q.below hb⟩, Nat.le_trans hl hb.size⟩
      · intro W W' hB h0 hb; exact h0.below hb
      · intro k vs W hk h
        exact absurd hk (by simp)
      · intro Q; clear hK1 hB o1 o2 t7
        refine ⟨?_, ?_, ?_, ?_, ?_, ?_, ?_, ?_, ?_, ?_, ?_, ?_, ?_, ?_, ?_, ?_, trivial⟩
        · intro vs W hW hW0 hd hne hold K hK hA hL; clear hne hA hL; have hBB := hW.1; have o1 := hW.2.1; have o2 := hW.2.2.1; have hbx := hW.2.2.2.1; have hl := hW.2.2.2.2; simp only [puts, Act.put, List.setIfInBounds_toArray, List.set_cons_zero, List.set_cons_succ, Nat.zero_add, Nat.reduceAdd] at hK ⊢; have h00 := hW0 (by kernel_rfl); have q1 := h00.cell 0 _ rfl; clear hd hold; go_simp; exact hK.out rfl _ _ (Below.refl _ _) rfl
        · intro vs W hW hW0 hd hne hold K hK hA hL; clear hne hA hL; have hBB := hW.1; have o1 := hW.2.1; have o2 := hW.2.2.1; have hbx := hW.2.2.2.1; have hl := hW.2.2.2.2; simp only [puts, Act.put, List.setIfInBounds_toArray, List.set_cons_zero, List.set_cons_succ, Nat.zero_add, Nat.reduceAdd] at hK ⊢; clear hd hold; go_simp; exact hK.out rfl _ _ (Below.refl _ _) rfl
        · intro vs W hW hW0 hd hne hold K hK hA hL; clear hne hA hL; have hBB := hW.1; have o1 := hW.2.1; have o2 := hW.2.2.1; have hbx := hW.2.2.2.1; have hl := hW.2.2.2.2; simp only [puts, Act.put, List.setIfInBounds_toArray, List.set_cons_zero, List.set_cons_succ, Nat.zero_add, Nat.reduceAdd] at hK ⊢; clear hd hold; go_simp; exact hK.out rfl _ _ (Below.refl _ _) rfl
        · intro vs W hW hW0 hd hne hold K hK hA hL; clear hne hA hL; have hBB := hW.1; have o1 := hW.2.1; have o2 := hW.2.2.1; have hbx := hW.2.2.2.1; have hl := hW.2.2.2.2; simp only [puts, Act.put, List.setIfInBounds_toArray, List.set_cons_zero, List.set_cons_succ, Nat.zero_add, Nat.reduceAdd] at hK ⊢; have e1 : vs 1 = _ := hd 1 (by kernel_rfl); have e2 : vs 2 = _ := hd 2 (by kernel_rfl); clear hd hold; simp only [e1, e2] at hK; go_simp; exact hK.out rfl _ _ (Below.refl _ _) rfl
        · intro vs W hW hW0 hd hne hold K hK hA hL; clear hne hA hL; have hBB := hW.1; have o1 := hW.2.1; have o2 := hW.2.2.1; have hbx := hW.2.2.2.1; have hl := hW.2.2.2.2; simp only [puts, Act.put, List.setIfInBounds_toArray, List.set_cons_zero, List.set_cons_succ, Nat.zero_add, Nat.reduceAdd] at hK ⊢; have p0 := HC0.out W hBB; have p1 := HC1.out W hBB; have p2 := HC2.out W hBB; have ee : vs 3 = _ := hd 3 (by kernel_rfl); clear hd hold; simp only [ee] at hK; go_simp; exact hK.out rfl _ _ (Below.refl _ _) rfl
        · intro vs W hW hW0 hd hne hold K hK hA hL; clear hne hA hL; have hBB := hW.1; have o1 := hW.2.1; have o2 := hW.2.2.1; have hbx := hW.2.2.2.1; have hl := hW.2.2.2.2; simp only [puts, Act.put, List.setIfInBounds_toArray, List.set_cons_zero, List.set_cons_succ, Nat.zero_add, Nat.reduceAdd] at hK ⊢; have ee : vs 4 = _ := hd 4 (by kernel_rfl); clear hd hold; simp only [ee] at hK; go_simp; exact hK.out rfl _ _ ((Below.refl _ _).alloc (Nat.le_refl _) _) ⟨W.heap.size, rfl, hl, Blk.new _ _ _ _ rfl⟩
        · intro vs W hW hW0 hd hne hold K hK hA hL; clear hK hA; have hBB := hW.1; have o1 := hW.2.1; have o2 := hW.2.2.1; have hbx := hW.2.2.2.1; have hl := hW.2.2.2.2; simp only [puts, Act.put, List.setIfInBounds_toArray, List.set_cons_zero, List.set_cons_succ, Nat.zero_add, Nat.reduceAdd] at hL ⊢; have ea : vs 0 = _ := hd 0 (by kernel_rfl); have h5 : SliW wr.heap.size 44 [.int .i64 x.w, .int .i64 x.s, .bool x.br] (vs 5) W := hd 5 (by kernel_rfl); obtain ⟨bq, ebq, hlb, tb⟩ := h5; clear hd hold; simp only [ea, ebq] at hL ⊢; rw [if_pos (show Region.wanted _ _ = true from rfl)]; refine wp_append_keep (.tmp 27) (.tmp 32) 35 rfl w1.heap.size 44 i0 (.agg #[.int .i64 0, .int .i64 0, .bool false]) 3 24 Try.underlying35 hi hz0 hz1 hz2 rfl (by decide) _ _ _ rfl o1 ⟨bq, 0, none⟩ 1 1 [.int .i64 x.w, .int .i64 x.s, .bool x.br] rfl rfl (blk_newsW tb) cellsW3 (by unfold maxLen; omega) (by omega) (by have := hBB.size; omega) ?_; intro v' w9 ho1 hgr hk1; obtain ⟨a5, c5, rfl, ho2, hbe, hbT, hb2⟩ := OwnW.app o1 ho1 hgr (by omega) (by have := hBB.size; omega); simp only [Act.put, List.setIfInBounds_toArray, List.set_cons_zero, List.set_cons_succ, Nat.zero_add, Nat.reduceAdd]; refine hL.out rfl _ _ ⟨hbe _ _ (Nat.le_refl _) hBB, hk1, OwnW.beside o2 o1 (by decide) hgr, (by obtain ⟨s, q⟩ := hbx; exact ⟨s, hbT _ _ _ q (by decide)⟩), Nat.le_trans hl hgr.size⟩ (fun h => hbT _ _ _ (hW0 (by kernel_rfl)) (by decide)) ⟨a5, c5, rfl, ho2⟩ ?_; exact claims_keep_a ⟨.inr (.inr is_keep), .inr (.inr is_keep), .inr (.inr is_keep), .inr (.inr is_keep), .inr (.inr is_keep), .inr (.inr fun h => by obtain ⟨b9, e9, l9, t9⟩ := h; exact ⟨b9, e9, l9, hb2 _ _ _ t9 (fun q hq => by have := HG1.out q hq; omega)⟩), .inl rfl, .inr (.inr is_keep), .inr (.inr is_keep), .inr (.inr is_keep), .inr (.inr is_keep), .inr (.inr is_keep), .inr (.inr fun h => by obtain ⟨b9, e9, l9, t9⟩ := h; exact ⟨b9, e9, l9, hbT _ _ _ t9 (by decide)⟩), .inr (.inl (by kernel_rfl)), .inr (.inl (by kernel_rfl)), .inr (.inl (by kernel_rfl)), trivial⟩
        · intro vs W hW hW0 hd hne hold K hK hA hL; clear hne hA hL; have hBB := hW.1; have o1 := hW.2.1; have o2 := hW.2.2.1; have hbx := hW.2.2.2.1; have hl := hW.2.2.2.2; simp only [puts, Act.put, List.setIfInBounds_toArray, List.set_cons_zero, List.set_cons_succ, Nat.zero_add, Nat.reduceAdd] at hK ⊢; have e15 : vs 15 = _ := hold 15 (by kernel_rfl); clear hd hold; simp only [e15] at hK; go_simp; exact hK.out rfl _ _ (Below.refl _ _) rfl
        · intro vs W hW hW0 hd hne hold K hK hA hL; clear hne hA hL; have hBB := hW.1; have o1 := hW.2.1; have o2 := hW.2.2.1; have hbx := hW.2.2.2.1; have hl := hW.2.2.2.2; simp only [puts, Act.put, List.setIfInBounds_toArray, List.set_cons_zero, List.set_cons_succ, Nat.zero_add, Nat.reduceAdd] at hK ⊢; clear hd hold; go_simp; exact hK.out rfl _ _ (Below.refl _ _) rfl
        · intro vs W hW hW0 hd hne hold K hK hA hL; clear hne hA hL; have hBB := hW.1; have o1 := hW.2.1; have o2 := hW.2.2.1; have hbx := hW.2.2.2.1; have hl := hW.2.2.2.2; simp only [puts, Act.put, List.setIfInBounds_toArray, List.set_cons_zero, List.set_cons_succ, Nat.zero_add, Nat.reduceAdd] at hK ⊢; clear hd hold; go_simp; exact hK.out rfl _ _ (Below.refl _ _) rfl
        · intro vs W hW hW0 hd hne hold K hK hA hL; clear hne hA hL; have hBB := hW.1; have o1 := hW.2.1; have o2 := hW.2.2.1; have hbx := hW.2.2.2.1; have hl := hW.2.2.2.2; simp only [puts, Act.put, List.setIfInBounds_toArray, List.set_cons_zero, List.set_cons_succ, Nat.zero_add, Nat.reduceAdd] at hK ⊢; have e8 : vs 8 = _ := hd 8 (by kernel_rfl); have e9 : vs 9 = _ := hd 9 (by kernel_rfl); clear hd hold; simp only [e8, e9] at hK; go_simp; exact hK.out rfl _ _ (Below.refl _ _) rfl
        · intro vs W hW hW0 hd hne hold K hK hA hL; clear hne hA hL; have hBB := hW.1; have o1 := hW.2.1; have o2 := hW.2.2.1; have hbx := hW.2.2.2.1; have hl := hW.2.2.2.2; simp only [puts, Act.put, List.setIfInBounds_toArray, List.set_cons_zero, List.set_cons_succ, Nat.zero_add, Nat.reduceAdd] at hK ⊢; have p0 := HC0.out W hBB; have p1 := HC1.out W hBB; have p2 := HC2.out W hBB; have ee : vs 10 = _ := hd 10 (by kernel_rfl); clear hd hold; simp only [ee] at hK; go_simp; exact hK.out rfl _ _ (Below.refl _ _) rfl
        · intro vs W hW hW0 hd hne hold K hK hA hL; clear hne hA hL; have hBB := hW.1; have o1 := hW.2.1; have o2 := hW.2.2.1; have hbx := hW.2.2.2.1; have hl := hW.2.2.2.2; simp only [puts, Act.put, List.setIfInBounds_toArray, List.set_cons_zero, List.set_cons_succ, Nat.zero_add, Nat.reduceAdd] at hK ⊢; have ee : vs 11 = _ := hd 11 (by kernel_rfl); clear hd hold; simp only [ee] at hK; go_simp; exact hK.out rfl _ _ ((Below.refl _ _).alloc (Nat.le_refl _) _) ⟨W.heap.size, rfl, hl, Blk.new _ _ _ _ rfl⟩
        · intro vs W hW hW0 hd hne hold K hK hA hL; clear hK hA; have hBB := hW.1; have o1 := hW.2.1; have o2 := hW.2.2.1; have hbx := hW.2.2.2.1; have hl := hW.2.2.2.2; simp only [puts, Act.put, List.setIfInBounds_toArray, List.set_cons_zero, List.set_cons_succ, Nat.zero_add, Nat.reduceAdd] at hL ⊢; have ea : vs 7 = _ := hd 7 (by kernel_rfl); have h5 : SliW wr.heap.size 43 [.int .i64 x.w, .int .i64 x.s, .bool x.br] (vs 12) W := hd 12 (by kernel_rfl); obtain ⟨bq, ebq, hlb, tb⟩ := h5; clear hd hold; simp only [ea, ebq] at hL ⊢; rw [if_pos (show Region.wanted _ _ = true from rfl)]; refine wp_append_keep (.tmp 34) (.tmp 39) 39 rfl w1.heap.size 43 j0 (.agg #[.int .i64 0, .int .i64 0, .bool false]) 3 24 Try.underlying39 ji jz0 jz1 jz2 rfl (by decide) _ _ _ rfl o2 ⟨bq, 0, none⟩ 1 1 [.int .i64 x.w, .int .i64 x.s, .bool x.br] rfl rfl (blk_newsW tb) cellsW3 (by unfold maxLen; omega) (by omega) (by have := hBB.size; omega) ?_; intro v' w9 ho1 hgr hk1; obtain ⟨a5, c5, rfl, ho2, hbe, hbT, hb2⟩ := OwnW.app o2 ho1 hgr (by omega) (by have := hBB.size; omega); simp only [Act.put, List.setIfInBounds_toArray, List.set_cons_zero, List.set_cons_succ, Nat.zero_add, Nat.reduceAdd]; refine hL.out rfl _ _ ⟨hbe _ _ (Nat.le_refl _) hBB, OwnW.beside o1 o2 (by decide) hgr, hk1, (by obtain ⟨s, q⟩ := hbx; exact ⟨s, hbT _ _ _ q (by decide)⟩), Nat.le_trans hl hgr.size⟩ (fun h => hbT _ _ _ (hW0 (by kernel_rfl)) (by decide)) ⟨a5, c5, rfl, ho2⟩ ?_; exact claims_keep_a ⟨.inr (.inr is_keep), .inr (.inr is_keep), .inr (.inr is_keep), .inr (.inr is_keep), .inr (.inr is_keep), .inr (.inr fun h => by obtain ⟨b9, e9, l9, t9⟩ := h; exact ⟨b9, e9, l9, hbT _ _ _ t9 (by decide)⟩), .inr (.inr fun h => by obtain ⟨a9, c9, e9, h9⟩ := h; exact ⟨a9, c9, e9, OwnW.beside h9 o2 (by decide) hgr⟩), .inr (.inr is_keep), .inr (.inr is_keep), .inr (.inr is_keep), .inr (.inr is_keep), .inr (.inr is_keep), .inr (.inr fun h => by obtain ⟨b9, e9, l9, t9⟩ := h; exact ⟨b9, e9, l9, hb2 _ _ _ t9 (fun q hq => by have := HG2.out q hq; omega)⟩), .inl rfl, .inr (.inr fun h => by obtain ⟨a9, c9, t9, h9⟩ := h; exact ⟨a9, c9, hbT _ _ _ t9 (by decide), OwnW.beside h9 o2 (by decide) hgr⟩), .inr (.inl (by kernel_rfl)), trivial⟩
        · intro vs W hW hW0 hd hne hold K hK hA hL; clear hK hA; have hBB := hW.1; have o1 := hW.2.1; have o2 := hW.2.2.1; have hbx := hW.2.2.2.1; have hl := hW.2.2.2.2; simp only [puts, Act.put, List.setIfInBounds_toArray, List.set_cons_zero, List.set_cons_succ, Nat.zero_add, Nat.reduceAdd] at hL ⊢; have h7 : OwnVW w1.heap.size 44 3 (j + 1) (ys ++ [.int .i64 x.w, .int .i64 x.s, .bool x.br]) (vs 6) W := hd 6 (by kernel_rfl); obtain ⟨a5, c5, e5, o5⟩ := h7; obtain ⟨s0, tb0⟩ := hbx; have q1 := tb0.cell 0 _ rfl; have q2 := tb0.free 0; have hbt := But.set (b := w1.heap.size) W 0 (.slice a5 (j + 1) c5); have tb9 := tb0.set1 rfl (.slice a5 (j + 1) c5); have o9 := OwnW.asideW o5 ⟨w1.heap.size, 0, none⟩ (.slice a5 (j + 1) c5) (o5.ne tb0 (by decide)); have o8 := OwnW.asideW o1 ⟨w1.heap.size, 0, none⟩ (.slice a5 (j + 1) c5) (o1.ne tb0 (by decide)); have o7 := OwnW.asideW o2 ⟨w1.heap.size, 0, none⟩ (.slice a5 (j + 1) c5) (o2.ne tb0 (by decide)); have hB9 := hbt.to hBB (by omega) hBB.size; have hz9 := hbt.size; clear hd hold; simp only [e5] at hL; go_simp; refine hL.out rfl undef _ ⟨hB9, o8, o7, ⟨_, tb9⟩, Nat.le_trans hl hz9⟩ (fun h => absurd h (by decide)) ⟨a5, c5, tb9, o9⟩ ?_; exact claims_keep_a ⟨.inr (.inr is_keep), .inr (.inr is_keep), .inr (.inr is_keep), .inr (.inr is_keep), .inr (.inr is_keep), .inr (.inr fun h => by obtain ⟨b9, e9, l9, t9⟩ := h; exact ⟨b9, e9, l9, t9.but hbt (by omega)⟩), .inr (.inr fun h => by obtain ⟨a6, c6, e6, o6⟩ := h; exact ⟨a6, c6, e6, OwnW.asideW o6 _ _ (o6.ne tb0 (by decide))⟩), .inr (.inr is_keep), .inr (.inr is_keep), .inr (.inr is_keep), .inr (.inr is_keep), .inr (.inr is_keep), .inr (.inr fun h => by obtain ⟨b9, e9, l9, t9⟩ := h; exact ⟨b9, e9, l9, t9.but hbt (by omega)⟩), .inr (.inr fun h => by obtain ⟨a6, c6, e6, o6⟩ := h; exact ⟨a6, c6, e6, OwnW.asideW o6 _ _ (o6.ne tb0 (by decide))⟩), .inl rfl, .inr (.inr fun h => by obtain ⟨a6, c6, e6, o6⟩ := h; exact ⟨a6, c6, e6, OwnW.asideW o6 _ _ (o6.ne tb0 (by decide))⟩), trivial⟩
        · intro vs W hW hW0 hd hne hold K hK hA hL; clear hne hA hL; have hBB := hW.1; have o1 := hW.2.1; have o2 := hW.2.2.1; have hbx := hW.2.2.2.1; have hl := hW.2.2.2.2; simp only [puts, Act.put, List.setIfInBounds_toArray, List.set_cons_zero, List.set_cons_succ, Nat.zero_add, Nat.reduceAdd] at hK ⊢; have h15 : OwnVW w1.heap.size 43 3 (j + 1) (ys ++ [.int .i64 x.w, .int .i64 x.s, .bool x.br]) (vs 13) W := hd 13 (by kernel_rfl); obtain ⟨a5, c5, e1, ho⟩ := h15; clear hd hold; simp only [e1] at hK; go_simp; exact hK.out rfl _ _ (Below.refl _ _) ⟨a5, c5, rfl, ho⟩
      · intro va WB hW hV _
        obtain ⟨hB, -, -, -, -⟩ := hW
        have h14 : WsRel w1.heap.size (j + 1) (ys ++ [.int .i64 x.w, .int .i64 x.s, .bool x.br]) WB := hV 14 (by decide)
        have h15 : OwnVW w1.heap.size 43 3 (j + 1) (ys ++ [.int .i64 x.w, .int .i64 x.s, .bool x.br]) (va 15) WB := hV 15 (by decide)
        obtain ⟨a5, c5, t5, o5⟩ := h14
        obtain ⟨a6, c6, e15, o6⟩ := h15
        have T5 := Lib.hid t5
        have O5 := Lib.hid o5
        have O6 := Lib.hid o6
        have HB6 := Lib.hid hB
        clear hV t5 o5 o6 hB
        simp only [puts, Act.put, List.setIfInBounds_toArray, List.set_cons_zero, List.set_cons_succ, Nat.zero_add, Nat.reduceAdd, e15]
        refine hK1 _ _ ?_
        clear hK1 e15
        go_wp2_with fail
        go_roundg (k - (j + 1))
        case measure => omega
        case rel => exact ⟨j + 1, a5, c5, a6, c6, by omega, rfl, rfl, by go_num, T5.out, by rw [ESN.out]; exact O5.out, by rw [ESN.out]; exact O6.out, HB6.out⟩
    · obtain rfl : k = j := by omega
      have hcond : ¬ (k : Int) < (n : Int) ∨ ((k : Int) < (n : Int) ∧ ¬ (k : Int) < 20) := by have := EK.out; omega
      obtain ⟨l2, el2⟩ : ∃ l2, l.take k = l2 := ⟨_, rfl⟩
      rw [el2] at o1 o2
      have hl2 : l2.length = k := by rw [← el2, List.length_take, HL.out]; have := EK.out; omega
      have hf2 : ∀ x ∈ l2, x.Fit := fun x hx => HF.out x (List.mem_of_mem_take (by rw [el2]; exact hx))
      obtain ⟨XS, eXS⟩ : ∃ XS : List Wo, (if scC p q l2 = 0 then l2.map (scF p q) else []) = XS := ⟨_, rfl⟩
      obtain ⟨M, eM⟩ : ∃ M, (if scC p q l2 = 0 then k else 0) = M := ⟨_, rfl⟩
      have hXM : XS.length = M := by rw [← eXS, ← eM]; split <;> simp [hl2]
      have hvs : (if scC p q l2 = 0 then (l2.map (scF p q)).flatMap Wo.vals else []) = XS.flatMap Wo.vals := by rw [← eXS]; split <;> rfl
      have hM20 : M ≤ 20 := by rw [← eM]; split <;> omega
      have TR := fun b8 W h1 h2 h3 h4 h5 => try_swr w1.heap.size w.heap.size (w.heap.size + 1) b8 a1 k c1 l2 p q (by omega) hl2 hf2 HP.out HQ.out W h1 h2 h3 h4 h5
      have RF := fun W h1 => (ref12_scale a2 k c2 l2 p q hl2 (by omega) hf2 HP.out HQ.out W h1).mono fun _ _ => sc_row
      rw [hvs, eM] at TR RF
      obtain ⟨C, eC⟩ : ∃ C, scC p q l2 = C := ⟨_, rfl⟩
      rw [eC] at TR RF
      have HXM := Lib.hid hXM
      clear el2 hl2 hf2 eXS eM hvs eC hXM
      obtain ⟨wq, rfl⟩ : ∃ x, x = wr := ⟨_, rfl⟩
      have R1 := Lib.hid o1.row
      have R2 := Lib.hid o2.row
      have L2 := Lib.hid o2.ltW
      have T7 := Lib.hid t7
      have HB := Lib.hid hB
      clear o1 o2 t7 hB
      have hne : (C != C) = false := by simp
      have hnM : ((M : Int) != (M : Int)) = false := by simp
      rcases hcond with ix | ⟨ix, ix2⟩
      all_goals
        go_upto_region 10 with (fail)
        refine wp_worldW (fun W => Blk W wq.heap.size #[.slice none 0 0] 35 ∧ Below wq.heap.size wq W) ⟨Blk.new _ _ _ _ rfl, by exact (by repeat' (first | (with_reducible exact Below.refl _ _) | (with_reducible assumption) | (with_reducible refine below_alloc ?_ _ ?_) | (with_reducible refine below_set _ ?_ ?_) | (with_reducible refine Below.drew ?_) | (with_reducible refine below_dN ?_ _) | (apply below_thenA; assumption) | omega | (simp; done) | (simp; omega) | (simp [*]; done)))⟩ ?_
        rintro W2 ⟨tg, hb2⟩
        have hB2 := HB.out.trans (hb2.mono HB.out.size)
        have lg := tg.lt
        have TR2 := TR wq.heap.size W2 (R1.out.below hb2) (T7.out.below hb2) (TP.out.below hB2) (TQ.out.below hB2) tg
        have tp2 := TP.out.below hB2
        have tq2 := TQ.out.below hB2
        have r2 := R2.out.below hb2
        have HB2 := Lib.hid (HB1.out.trans (hB2.mono HB1.out.size))
        have R3 := Lib.hid r2
        have TP2 := Lib.hid tp2
        have TQ2 := Lib.hid tq2
        have hsz : w1.heap.size ≤ wq.heap.size := HB.out.size
        clear tg hb2 hB2 tp2 tq2 r2
        go_wp2_with fail
        refine TR2.mono ?_
        rintro e w3 ⟨rfl, ⟨ag, cg, tG, rG, -⟩, hbl⟩
        have hbt := butl_one hbl
        have hB3 := hbt.to HB2.out (by omega) HB2.out.size
        have tp3 := TP2.out.but hbt (by omega)
        have tq3 := TQ2.out.but hbt (by omega)
        have r3 := R3.out.but hbt (fun g off e => by have := L2.out g off e; omega)
        have cp := tp3.cell 0 _ rfl
        have cq := tq3.cell 0 _ rfl
        have RF2 := RF w3 r3
        have TG := Lib.hid tG
        have RG := Lib.hid rG
        have HB3 := Lib.hid hB3
        clear tG rG hbl hbt hB3 tp3 tq3 r3 TR2
        go_wp2_with fail
        refine RF2.mono ?_
        rintro e w4 ⟨a4, c4, rfl, rW, hb4⟩
        have tG4 := TG.out.below hb4
        have cG := tG4.cell 0 _ rfl
        have RG4 := Lib.hid (RG.out.below hb4)
        have RW4 := Lib.hid rW
        have HB4 := Lib.hid (HB3.out.trans (hb4.mono HB3.out.size))
        clear rW hb4 tG4 RF2 cp cq
        go_wp2_with fail
        go_loopg [14] M (fun gk s14 wx => ∃ (j : Nat), j ≤ M ∧ gk = M - j ∧ s14 = .int .i64 ((j : Int)) ∧ ∃ nd, wx = w4.drewN nd)
        case atStart => exact ⟨0, by omega, by omega, rfl, 0, rfl⟩
        case round =>
          obtain ⟨j, hj, rfl, rfl, nd, rfl⟩ := hrel
          by_cases hjk : j < M
          · have ix : (j : Int) < (M : Int) := by omega
            obtain ⟨g3, o3, rfl, x0, x1, x2⟩ := wo_pick RG4.out HXM.out hjk
            obtain ⟨g4, o4, rfl, y0, y1, y2⟩ := wo_pick RW4.out HXM.out hjk
            obtain ⟨x, ex⟩ : ∃ t, XS.getD j wo0 = t := ⟨_, rfl⟩
            rw [ex] at x0 x1 x2 y0 y1 y2
            obtain ⟨xw, xs, xb⟩ := x
            clear ex
            cases xb
            all_goals
              go_upto_region 17 with (fail)
              go_quiet (fail)
              go_wp2_with fail
              go_roundg (M - (j + 1))
              case measure => omega
              case rel => exact ⟨j + 1, by omega, rfl, by go_num, nd + nq, rfl⟩
          · obtain rfl : M = j := by omega
            have ix : ¬ (M : Int) < (M : Int) := by omega
            go_wp2_with fail
            rw [EQ.out]
            exact ⟨rfl, below_dN HB4.out nd⟩
end Go.Proofs.Ytgmnboacehopfaa
