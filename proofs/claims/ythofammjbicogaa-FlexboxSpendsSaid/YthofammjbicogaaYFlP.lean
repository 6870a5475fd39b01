/-
  The laws' cut; Main of nothing.
-/
import Derived.Test.YthofammjbicogaaYFlO
namespace Go.Proofs.Ythofammjbicogaa
open Go.RowKit
set_option linter.unusedSimpArgs false
set_option linter.unusedVariables false

def cutL (xs : List Int) (k : Nat) : List Int := (List.range k).map fun i => (xs.getD i 0).tmod 68719476736
theorem cutL_succ (xs : List Int) (k : Nat) : cutL xs (k + 1) = cutL xs k ++ [(xs.getD k 0).tmod 68719476736] := by
  unfold cutL
  rw [List.range_succ, List.map_append]
  rfl
theorem cutL_get (xs : List Int) (k i : Nat) : (cutL xs k).getD i 0 = if i < k then (xs.getD i 0).tmod 68719476736 else 0 := by
  by_cases h : i < k
  · rw [if_pos h]; simp [cutL, List.getD, h]
  · rw [if_neg h]; simp [cutL, List.getD, h]
theorem tmod_lim (x m : Int) (hm : 0 < m) : -m < x.tmod m ∧ x.tmod m < m := ⟨Int.lt_tmod_of_pos x hm, Int.tmod_lt_of_pos x hm⟩
theorem cut_lim (xs : List Int) (k : Nat) (av gp : Int) (hk : k ≤ 30) : Lim (cutL xs k) k (av.tmod 1099511627776) (gp.tmod 1073741824) := by
  refine ⟨hk, fun i => ?_, ?_, ?_⟩
  · rw [cutL_get]
    have := tmod_lim (xs.getD i 0) 68719476736 (by decide)
    split <;> omega
  · have := tmod_lim av 1099511627776 (by decide)
    omega
  · have := tmod_lim gp 1073741824 (by decide)
    omega
/-- The marks of a slice that came in. -/
def SlB (w : World) (v : Value) (m : Nat) (bs : List Bool) : Prop := bs.length = m * 2 ∧ (v = .slice none 0 0 ∧ m = 0 ∨ ∃ g off cap, v = .slice (some ⟨g, off, none⟩) m cap ∧ m ≤ cap ∧ cap ≤ maxLen ∧ g < w.heap.size ∧ RowV w (some ⟨g, off, none⟩) m 2 (bools bs))
theorem bools_take (bs : List Bool) (n : Nat) : bools (bs.take n) = (bools bs).take n := by unfold bools; rw [List.map_take]
theorem blk7 {X : World} {b : Nat} {T : TypeId} {u0 u1 u2 u3 u4 u5 u6 : Value} (h : Blk X b #[u0, u1, u2, u3, u4, u5, u6] T) (v0 v1 v2 v3 v4 v5 v6 : Value) :
    Blk (((((((X.setCell ⟨b, 0, none⟩ v0).setCell ⟨b, 1, none⟩ v1).setCell ⟨b, 2, none⟩ v2).setCell ⟨b, 3, none⟩ v3).setCell ⟨b, 4, none⟩ v4).setCell ⟨b, 5, none⟩ v5).setCell ⟨b, 6, none⟩ v6) b #[v0, v1, v2, v3, v4, v5, v6] T := by
  have h0 : Blk (X.setCell ⟨b, 0, none⟩ v0) b #[v0, u1, u2, u3, u4, u5, u6] T := h.set 0 v0
  generalize X.setCell ⟨b, 0, none⟩ v0 = X0 at h0 ⊢
  have h1 : Blk (X0.setCell ⟨b, 1, none⟩ v1) b #[v0, v1, u2, u3, u4, u5, u6] T := h0.set 1 v1
  generalize X0.setCell ⟨b, 1, none⟩ v1 = X1 at h1 ⊢
  have h2 : Blk (X1.setCell ⟨b, 2, none⟩ v2) b #[v0, v1, v2, u3, u4, u5, u6] T := h1.set 2 v2
  generalize X1.setCell ⟨b, 2, none⟩ v2 = X2 at h2 ⊢
  have h3 : Blk (X2.setCell ⟨b, 3, none⟩ v3) b #[v0, v1, v2, v3, u4, u5, u6] T := h2.set 3 v3
  generalize X2.setCell ⟨b, 3, none⟩ v3 = X3 at h3 ⊢
  have h4 : Blk (X3.setCell ⟨b, 4, none⟩ v4) b #[v0, v1, v2, v3, v4, u5, u6] T := h3.set 4 v4
  generalize X3.setCell ⟨b, 4, none⟩ v4 = X4 at h4 ⊢
  have h5 : Blk (X4.setCell ⟨b, 5, none⟩ v5) b #[v0, v1, v2, v3, v4, v5, u6] T := h4.set 5 v5
  generalize X4.setCell ⟨b, 5, none⟩ v5 = X5 at h5 ⊢
  exact h5.set 6 v6
theorem blk4 {X : World} {b : Nat} {T : TypeId} {u0 u1 u2 u3 u4 u5 u6 : Value} (h : Blk X b #[u0, u1, u2, u3, u4, u5, u6] T) (v0 v1 v2 v3 : Value) :
    Blk ((((X.setCell ⟨b, 0, none⟩ v0).setCell ⟨b, 2, none⟩ v1).setCell ⟨b, 3, none⟩ v2).setCell ⟨b, 1, none⟩ v3) b #[v0, v3, v1, v2, u4, u5, u6] T := by
  have h0 : Blk (X.setCell ⟨b, 0, none⟩ v0) b #[v0, u1, u2, u3, u4, u5, u6] T := h.set 0 v0
  generalize X.setCell ⟨b, 0, none⟩ v0 = X0 at h0 ⊢
  have h1 : Blk (X0.setCell ⟨b, 2, none⟩ v1) b #[v0, u1, v1, u3, u4, u5, u6] T := h0.set 2 v1
  generalize X0.setCell ⟨b, 2, none⟩ v1 = X1 at h1 ⊢
  have h2 : Blk (X1.setCell ⟨b, 3, none⟩ v2) b #[v0, u1, v1, v2, u4, u5, u6] T := h1.set 3 v2
  generalize X1.setCell ⟨b, 3, none⟩ v2 = X2 at h2 ⊢
  exact h2.set 1 v3
theorem But.trans' {b c : Nat} {u v w : World} (h : But b u v) (k : But c v w) : ButL [b, c] u w :=
  ⟨k.os.trans h.os, k.tape.trans h.tape, k.output.trans h.output, Nat.le_trans h.size k.size, fun i hi hne => (k.block i (Nat.lt_of_lt_of_le hi h.size) (fun e => hne (by simp [e]))).trans (h.block i hi (fun e => hne (by simp [e])))⟩
theorem RowI.butl {w w' : World} {l : List Nat} {ao : Option Addr} {k : Nat} {xs : List Int} (h : RowI w ao k xs) (hb : ButL l w w') (hne : ∀ g off, ao = some ⟨g, off, none⟩ → g ∉ l) : RowI w' ao k xs := by
  refine ⟨h.1, fun hk => ?_⟩
  obtain ⟨g, off, e, hg, hc⟩ := h.2 hk
  exact ⟨g, off, e, Nat.lt_of_lt_of_le hg hb.size, fun i hi => (World.cell?_of_block (w := w) (a := ⟨g, off + i, none⟩) (hb.block g hg (hne g off e))).trans (hc i hi)⟩
theorem but4 {X : World} {b : Nat} (v0 v1 v2 v3 : Value) : But b X ((((X.setCell ⟨b, 0, none⟩ v0).setCell ⟨b, 2, none⟩ v1).setCell ⟨b, 3, none⟩ v2).setCell ⟨b, 1, none⟩ v3) :=
  (((But.set _ _ _).trans (But.set _ _ _)).trans (But.set _ _ _)).trans (But.set _ _ _)
theorem but7 {X : World} {b : Nat} (v0 v1 v2 v3 v4 v5 v6 : Value) : But b X (((((((X.setCell ⟨b, 0, none⟩ v0).setCell ⟨b, 1, none⟩ v1).setCell ⟨b, 2, none⟩ v2).setCell ⟨b, 3, none⟩ v3).setCell ⟨b, 4, none⟩ v4).setCell ⟨b, 5, none⟩ v5).setCell ⟨b, 6, none⟩ v6) :=
  ((((((But.set _ _ _).trans (But.set _ _ _)).trans (But.set _ _ _)).trans (But.set _ _ _)).trans (But.set _ _ _)).trans (But.set _ _ _)).trans (But.set _ _ _)
def CutOut (w : World) (vb : Value) (m0 : Nat) (k m : Nat) (xs : List Int) (bs : List Bool) (av gp way : Int) (kn si : Bool) (e : Ending) (w' : World) : Prop :=
  ∃ aj cj ba bc, e = .returned (.agg #[.slice aj k cj, .slice ba m bc, .int .i64 (av.tmod 1099511627776), .int .i64 (gp.tmod 1073741824), .int .i64 way, .bool kn, .bool si]) ∧ RowI w' aj k (cutL xs k) ∧ RowV w' ba m 2 (bools (bs.take (m * 2))) ∧ (∀ g off, aj = some ⟨g, off, none⟩ → w.heap.size ≤ g) ∧ (∃ c0, vb = .slice ba m0 c0) ∧ Below w.heap.size w w'
set_option maxRecDepth 100000 in
set_option maxHeartbeats 3200000 in
theorem law20_cut (ao : Option Addr) (k0 cap m0 : Nat) (vb : Value) (xs : List Int) (bs : List Bool) (av gp way : Int) (kn si : Bool) (hk0 : k0 ≤ maxLen) (hav : IFit av) (hgp : IFit gp) (w : World) (hx : RowI w ao k0 xs) (hb : SlB w vb m0 bs) :
    Calls Try.prog 35 #[.agg #[.slice ao k0 cap, vb, .int .i64 av, .int .i64 gp, .int .i64 way, .bool kn, .bool si]] w (CutOut w vb m0 (min k0 30) (min m0 40) xs bs av gp way kn si) := by
  obtain ⟨i0, hi, hz0, hz1, hz2⟩ := info_parts (show (Try.prog.info? 2).map (fun i => (i.zero, i.size, i.bytes)) = some (some (.int .i64 0), 1, 8) by kernel_rfl)
  obtain ⟨Q, eQ⟩ : ∃ Q : Ending → World → Prop, Q = CutOut w vb m0 (min k0 30) (min m0 40) xs bs av gp way kn si := ⟨_, rfl⟩
  rw [← eQ]
  have EQ := Lib.hid eQ
  obtain ⟨k, ek⟩ : ∃ k, min k0 30 = k := ⟨_, rfl⟩
  obtain ⟨m, em⟩ : ∃ m, min m0 40 = m := ⟨_, rfl⟩
  rw [ek, em] at EQ
  have hkk : k ≤ k0 := by omega
  have hk30 : k ≤ 30 := by omega
  have hmm : m ≤ m0 := by omega
  have EK := Lib.hid ek
  have EM := Lib.hid em
  have HX := Lib.hid hx
  have HB := Lib.hid hb
  obtain ⟨W, eW⟩ : ∃ W, (w.alloc (.cells #[.slice ao k0 cap, vb, .int .i64 av, .int .i64 gp, .int .i64 way, .bool kn, .bool si] 60)).alloc (.cells #[.slice none 0 0, .slice none 0 0, .int .i64 0, .int .i64 0, .int .i64 0, .bool false, .bool false] 60) = W := ⟨_, rfl⟩
  have t1 : Blk W w.heap.size #[.slice ao k0 cap, vb, .int .i64 av, .int .i64 gp, .int .i64 way, .bool kn, .bool si] 60 := by rw [← eW]; exact (Blk.new w _ _ _ rfl).alloc _
  have t2 : Blk W (w.heap.size + 1) #[.slice none 0 0, .slice none 0 0, .int .i64 0, .int .i64 0, .int .i64 0, .bool false, .bool false] 60 := by rw [← eW]; exact Blk.new _ _ _ _ (by simp)
  have hB : Below w.heap.size w W := by rw [← eW]; exact (by repeat' (first | (with_reducible exact Below.refl _ _) | (with_reducible assumption) | (with_reducible refine below_alloc ?_ _ ?_) | (with_reducible refine below_set _ ?_ ?_) | (with_reducible refine Below.drew ?_) | (with_reducible refine below_dN ?_ _) | (apply below_thenA; assumption) | omega | (simp; done) | (simp; omega) | (simp [*]; done)))
  have hW : W.heap.size = w.heap.size + 2 := by rw [← eW]; simp
  clear eQ hx hb ek em
  go_enter Try.func35, Try.ntmps35
  go_wp2_with fail
  go_loopg [3, 4] k (fun gk s3 s4 wr => ∃ (j : Nat) (aj : Option Addr) (cj : Nat), j ≤ k ∧ gk = k - j ∧ s3 = .slice aj j cj ∧ s4 = .int .i64 ((j : Int)) ∧ OwnI wr (w.heap.size + 2) aj j cj (cutL xs j) ∧ Blk wr w.heap.size #[.slice ao k0 cap, vb, .int .i64 av, .int .i64 gp, .int .i64 way, .bool kn, .bool si] 60 ∧ Blk wr (w.heap.size + 1) #[.slice none 0 0, .slice none 0 0, .int .i64 0, .int .i64 0, .int .i64 0, .bool false, .bool false] 60 ∧ Below w.heap.size w wr)
  case atStart => exact ⟨0, none, 0, by omega, by omega, rfl, rfl, OwnI.nil _ _, t1, t2, hB⟩
  case round =>
    clear t1 t2 hB eW hW
    obtain ⟨j, aj, cj, hj, rfl, rfl, rfl, ho, t1, t2, hB⟩ := hrel
    have hz2' := t2.lt
    have c0 := t1.cell 0 _ rfl
    have hsh := ho.shape
    by_cases hjk : j < k
    · have ix : (j : Int) < (k0 : Int) := by omega
      have ix2 : (j : Int) < 30 := by omega
      obtain ⟨g, off, rfl, _, hcx⟩ := (HX.out.below hB).at (show j < k0 by omega)
      have es := cutL_succ xs j
      obtain ⟨x, ex⟩ : ∃ x, xs.getD j 0 = x := ⟨_, rfl⟩
      rw [ex] at hcx es
      obtain ⟨y, ey⟩ : ∃ y, x.tmod 68719476736 = y := ⟨_, rfl⟩
      rw [ey] at es
      have ES := Lib.hid es
      clear ex es
      go_wp2_with (at_builtin; refine wpList_append_own _ rfl _ _ 31 rfl (w.heap.size + 2) 2 i0 (.int .i64 0) 1 8 Try.underlying31 hi hz0 hz1 hz2 rfl (by decide) _ _ _ rfl (ho.1.alloc _) ⟨wr.heap.size, 0, none⟩ 1 1 [.int .i64 y] rfl rfl ?c1 ?c2 ?c3 ?c4 ?c5 ?_)
      case c1 =>
        intro j u hj
        match j, hj with
        | 0, hj => simp at hj; subst hj; simp [Addr.add]
      case c2 => intro u hu; simp at hu; subst hu; rfl
      case c3 => unfold maxLen; omega
      case c4 => omega
      case c5 => simp; omega
      intro v' w2 hown' hgrow _
      obtain ⟨ao', cap', rfl, ho', hkeep, hB'⟩ := ho.grown hown' hgrow (by omega)
      replace hB := hB' _ _ (by omega) hB
      have hne : ∀ b, b < w.heap.size + 2 → (Value.slice aj j cj).ownBlock ≠ some b := fun b hb e => by have := (ho.ge e).1; omega
      replace t1 := hkeep _ _ _ t1 (hne _ (by omega))
      replace t2 := hkeep _ _ _ t2 (hne _ (by omega))
      clear hown' hgrow hB' hsh ho hkeep hne c0
      go_wp2_with fail
      go_roundg (k - (j + 1))
      case measure => omega
      case rel => exact ⟨j + 1, ao', cap', by omega, rfl, rfl, by go_num, by rw [ES.out]; exact ho', t1, t2, hB⟩
    · obtain rfl : j = k := by omega
      have hrw := ho.row
      have HRW := Lib.hid hrw
      have c1 := t1.cell 1 _ rfl
      have c2 := t1.cell 2 _ rfl
      have c3 := t1.cell 3 _ rfl
      have c4 := t1.cell 4 _ rfl
      have c5 := t1.cell 5 _ rfl
      have c6 := t1.cell 6 _ rfl
      have f0 := t1.free 0
      have f1 := t1.free 1
      have f2 := t1.free 2
      have f3 := t1.free 3
      have n1 : w.heap.size ≠ w.heap.size + 1 := by omega
      have n2 : w.heap.size + 1 ≠ w.heap.size := by omega
      have hcond : ¬ (j : Int) < (k0 : Int) ∨ ((j : Int) < (k0 : Int) ∧ ¬ (j : Int) < 30) := by have := EK.out; omega
      have hjl : j ≤ cj := hsh.1
      have how1 : ∀ g off, aj = some ⟨g, off, none⟩ → g ≠ w.heap.size := fun g off e => by have := ho.from g off e; omega
      have how2 : ∀ g off, aj = some ⟨g, off, none⟩ → g ≠ w.heap.size + 1 := fun g off e => by have := ho.from g off e; omega
      have hof : ∀ g off, aj = some ⟨g, off, none⟩ → w.heap.size ≤ g := fun g off e => by have := ho.from g off e; omega
      have HOF := Lib.hid hof
      have HOW1 := Lib.hid how1
      have HOW2 := Lib.hid how2
      clear ho hrw hsh hz2' how1 how2 hof
      obtain ⟨bl, ⟨rfl, rfl⟩ | ⟨gb, ob, cb, rfl, hmc, hcm, hgb, hrb⟩⟩ := HB.out
      · have hm0 : m = 0 := by omega
        subst hm0
        have hmn : min (0 : Int) 40 = 0 := by decide
        rcases hcond with ix | ⟨ix, ix2⟩
        all_goals
          go_upto_region 8 with (fail)
          have hX := but4 (X := wr) (b := w.heap.size) (.slice aj j cj) (.int .i64 (av.tmod 1099511627776)) (.int .i64 (gp.tmod 1073741824)) (.slice none 0 0)
          have k1 := blk4 t1 (.slice aj j cj) (.int .i64 (av.tmod 1099511627776)) (.int .i64 (gp.tmod 1073741824)) (.slice none 0 0)
          have k2 := t2.but hX n2
          have hbX : Below w.heap.size w _ := hX.to hB (Nat.le_refl _) hB.size
          have hrX := HRW.out.but hX (fun g off e => HOW1.out g off e)
          generalize (((wr.setCell ⟨w.heap.size, 0, none⟩ (.slice aj j cj)).setCell ⟨w.heap.size, 2, none⟩ (.int .i64 (av.tmod 1099511627776))).setCell ⟨w.heap.size, 3, none⟩ (.int .i64 (gp.tmod 1073741824))).setCell ⟨w.heap.size, 1, none⟩ (.slice none 0 0) = X at hX k1 k2 hbX hrX ⊢
          have a0 := k1.cell 0 _ rfl
          have a1 := k1.cell 1 _ rfl
          have a2 := k1.cell 2 _ rfl
          have a3 := k1.cell 3 _ rfl
          have a4 := k1.cell 4 _ rfl
          have a5 := k1.cell 5 _ rfl
          have a6 := k1.cell 6 _ rfl
          have d0 := k2.cell 0 _ rfl
          have d1 := k2.cell 1 _ rfl
          have d2 := k2.cell 2 _ rfl
          have d3 := k2.cell 3 _ rfl
          have d4 := k2.cell 4 _ rfl
          have d5 := k2.cell 5 _ rfl
          have d6 := k2.cell 6 _ rfl
          have g0 := k2.free 0
          have g1 := k2.free 1
          have g2 := k2.free 2
          have g3 := k2.free 3
          have g4 := k2.free 4
          have g5 := k2.free 5
          have g6 := k2.free 6
          have h7 := blk7 k2 (.slice aj j cj) (.slice none 0 0) (.int .i64 (av.tmod 1099511627776)) (.int .i64 (gp.tmod 1073741824)) (.int .i64 way) (.bool kn) (.bool si)
          have hY := but7 (X := X) (b := w.heap.size + 1) (.slice aj j cj) (.slice none 0 0) (.int .i64 (av.tmod 1099511627776)) (.int .i64 (gp.tmod 1073741824)) (.int .i64 way) (.bool kn) (.bool si)
          have hbY := hY.to hbX (Nat.le_succ _) hbX.size
          have hrY := hrX.but hY (fun g off e => HOW2.out g off e)
          have x0 := h7.cell 0 _ rfl
          have x1 := h7.cell 1 _ rfl
          have x2 := h7.cell 2 _ rfl
          have x3 := h7.cell 3 _ rfl
          have x4 := h7.cell 4 _ rfl
          have x5 := h7.cell 5 _ rfl
          have x6 := h7.cell 6 _ rfl
          have HY := Lib.hid hbY
          have HRY := Lib.hid hrY
          clear hX k1 k2 hbX hrX hB c0 c1 c2 c3 c4 c5 c6 f0 f1 f2 f3 t1 t2 h7 hY hbY hrY
          go_wp2_with fail
          go_light
          simp [bodyPost, results, Try.results35, go_sem, x0, x1, x2, x3, x4, x5, x6]
          rw [EQ.out]
          refine ⟨aj, cj, _, _, rfl, HRY.out, RowV.nil _ _ _, HOF.out, ⟨0, rfl⟩, HY.out⟩
      · have hmn : min (m0 : Int) 40 = (m : Int) := by have := EM.out; omega
        have hmc2 : m ≤ cb := by omega
        have hrb2 : RowV w (some ⟨gb, ob, none⟩) m 2 (bools (bs.take (m * 2))) := by rw [bools_take]; exact hrb.take hmm
        have HRB := Lib.hid hrb2
        clear hrb hrb2 bl
        rcases hcond with ix | ⟨ix, ix2⟩
        all_goals
          go_upto_region 8 with (fail)
          have hX := but4 (X := wr) (b := w.heap.size) (.slice aj j cj) (.int .i64 (av.tmod 1099511627776)) (.int .i64 (gp.tmod 1073741824)) (.slice (some ⟨gb, ob, none⟩) m cb)
          have k1 := blk4 t1 (.slice aj j cj) (.int .i64 (av.tmod 1099511627776)) (.int .i64 (gp.tmod 1073741824)) (.slice (some ⟨gb, ob, none⟩) m cb)
          have k2 := t2.but hX n2
          have hbX : Below w.heap.size w _ := hX.to hB (Nat.le_refl _) hB.size
          have hrX := HRW.out.but hX (fun g off e => HOW1.out g off e)
          generalize (((wr.setCell ⟨w.heap.size, 0, none⟩ (.slice aj j cj)).setCell ⟨w.heap.size, 2, none⟩ (.int .i64 (av.tmod 1099511627776))).setCell ⟨w.heap.size, 3, none⟩ (.int .i64 (gp.tmod 1073741824))).setCell ⟨w.heap.size, 1, none⟩ (.slice (some ⟨gb, ob, none⟩) m cb) = X at hX k1 k2 hbX hrX ⊢
          have a0 := k1.cell 0 _ rfl
          have a1 := k1.cell 1 _ rfl
          have a2 := k1.cell 2 _ rfl
          have a3 := k1.cell 3 _ rfl
          have a4 := k1.cell 4 _ rfl
          have a5 := k1.cell 5 _ rfl
          have a6 := k1.cell 6 _ rfl
          have d0 := k2.cell 0 _ rfl
          have d1 := k2.cell 1 _ rfl
          have d2 := k2.cell 2 _ rfl
          have d3 := k2.cell 3 _ rfl
          have d4 := k2.cell 4 _ rfl
          have d5 := k2.cell 5 _ rfl
          have d6 := k2.cell 6 _ rfl
          have g0 := k2.free 0
          have g1 := k2.free 1
          have g2 := k2.free 2
          have g3 := k2.free 3
          have g4 := k2.free 4
          have g5 := k2.free 5
          have g6 := k2.free 6
          have h7 := blk7 k2 (.slice aj j cj) (.slice (some ⟨gb, ob, none⟩) m cb) (.int .i64 (av.tmod 1099511627776)) (.int .i64 (gp.tmod 1073741824)) (.int .i64 way) (.bool kn) (.bool si)
          have hY := but7 (X := X) (b := w.heap.size + 1) (.slice aj j cj) (.slice (some ⟨gb, ob, none⟩) m cb) (.int .i64 (av.tmod 1099511627776)) (.int .i64 (gp.tmod 1073741824)) (.int .i64 way) (.bool kn) (.bool si)
          have hbY := hY.to hbX (Nat.le_succ _) hbX.size
          have hrY := hrX.but hY (fun g off e => HOW2.out g off e)
          have x0 := h7.cell 0 _ rfl
          have x1 := h7.cell 1 _ rfl
          have x2 := h7.cell 2 _ rfl
          have x3 := h7.cell 3 _ rfl
          have x4 := h7.cell 4 _ rfl
          have x5 := h7.cell 5 _ rfl
          have x6 := h7.cell 6 _ rfl
          have HY := Lib.hid hbY
          have HRY := Lib.hid hrY
          clear hX k1 k2 hbX hrX hB c0 c1 c2 c3 c4 c5 c6 f0 f1 f2 f3 t1 t2 h7 hY hbY hrY
          go_wp2_with fail
          go_light
          simp [bodyPost, results, Try.results35, go_sem, x0, x1, x2, x3, x4, x5, x6]
          rw [EQ.out]
          refine ⟨aj, cj, _, _, rfl, HRY.out, HRB.out.below HY.out, HOF.out, ⟨cb, rfl⟩, HY.out⟩
end Go.Proofs.Ythofammjbicogaa
