/-
  Package words: Scale, whatever comes.
-/
import Derived.Test.YtgmnboacehopfaaYWoE
import Derived.Test.YtgmnboacehopfaaYApp
namespace Go.Proofs.Ytgmnboacehopfaa
open Go.RowKit
set_option linter.unusedSimpArgs false
set_option linter.unusedVariables false

theorem blk_newsW {w : World} {b : Nat} {cs : List Value} {T : TypeId} (h : Blk w b cs.toArray T) : ∀ j u, cs[j]? = some u → w.cell? ((⟨b, 0, none⟩ : Addr).add j) = some u := by
  intro j u hj
  have e2 : (Addr.add ⟨b, 0, none⟩ j) = ⟨b, j, none⟩ := by unfold Addr.add; split <;> simp_all
  rw [e2]
  exact h.cell j u (by simpa using hj)
theorem cellsW3 {a b : Int} {c : Bool} : ∀ u ∈ [Value.int .i64 a, Value.int .i64 b, Value.bool c], u.oneCell' = true := by
  intro u hu
  simp at hu
  rcases hu with rfl | rfl | rfl <;> rfl
def WsAns (n : Nat) (C : Int) (vs : List Value) (w : World) (e : Ending) (w' : World) : Prop :=
  (C = 0 → ∃ a c, e = .returned (.slice a n c) ∧ OwnW w' w.heap.size 44 3 a n c vs) ∧ (C ≠ 0 → e = .panicked (gave C)) ∧ Below w.heap.size w w'
set_option maxRecDepth 100000 in
set_option maxHeartbeats 3200000 in
theorem words_scale (ao : Option Addr) (n cap : Nat) (l : List Wo) (p q : Int) (hl : l.length = n) (hn : n ≤ 1000000) (hf : ∀ x ∈ l, x.Fit) (hp : IFit p) (hq : IFit q) (w : World) (hr : RowV w ao n 3 (l.flatMap Wo.vals)) :
    Calls Try.prog 14 #[.slice ao n cap, .agg #[.int .i64 p, .int .i64 q]] w (WsAns n (scC p q l) ((l.map (scF p q)).flatMap Wo.vals) w) := by
  obtain ⟨i0, hi, hz0, hz1, hz2⟩ := info_parts (show (Try.prog.info? 44).map (fun i => (i.zero, i.size, i.bytes)) = some (some (.agg #[.int .i64 0, .int .i64 0, .bool false]), 3, 24) by kernel_rfl)
  obtain ⟨C, eC⟩ : ∃ C, scC p q l = C := ⟨_, rfl⟩
  rw [eC]
  obtain ⟨Q, eQ⟩ : ∃ Q, Q = WsAns n C ((l.map (scF p q)).flatMap Wo.vals) w := ⟨_, rfl⟩
  rw [← eQ]
  have EQ := Lib.hid eQ
  have HL := Lib.hid hl
  have HF := Lib.hid hf
  have HR := Lib.hid hr
  have HP := Lib.hid hp
  have HQ := Lib.hid hq
  have EC := Lib.hid eC
  clear eQ hl hf hr hp hq eC
  go_enter Try.func14, Try.ntmps14
  go_wp2_with fail
  go_loopg [5, 10] n (fun gk s5 s10 wr => ∃ (j : Nat) (aj : Option Addr) (cj : Nat), j ≤ n ∧ gk = n - j ∧ s5 = .slice aj j cj ∧ s10 = .int .i64 ((j : Int)) ∧ scC p q (l.drop j) = C ∧ OwnW wr w.heap.size 44 3 aj j cj (((l.take j).map (scF p q)).flatMap Wo.vals) ∧ Blk wr w.heap.size #[.int .i64 p, .int .i64 q] 51 ∧ Below w.heap.size w wr)
  case atStart => exact ⟨0, none, 0, by omega, by omega, rfl, rfl, EC.out, OwnW.nil _ _ _ _, Blk.new _ _ _ _ rfl, by exact (by repeat' (first | (with_reducible exact Below.refl _ _) | (with_reducible assumption) | (with_reducible refine below_alloc ?_ _ ?_) | (with_reducible refine below_set _ ?_ ?_) | (with_reducible refine Below.drew ?_) | (with_reducible refine below_dN ?_ _) | (apply below_thenA; assumption) | omega | (simp; done) | (simp; omega) | (simp [*]; done)))⟩
  case round =>
    obtain ⟨j, aj, cj, hj, rfl, rfl, rfl, hcd, o1, t3, hB⟩ := hrel
    have hsB := hB.size
    have hsh := o1.shape
    by_cases hjk : j < n
    · have ix : (j : Int) < (n : Int) := by omega
      have hjl : j < l.length := by rw [HL.out]; exact hjk
      obtain ⟨g, off, rfl, hg, hc⟩ := (HR.out.below hB).at hjk
      have hx := fun k (hk : k < 3) => (hc k hk).trans (flW_get Wo.vals 3 (fun _ => rfl) wo0 l j k hjl hk)
      have hfit : (l.getD j wo0).Fit := by
        have e : l.getD j wo0 = l[j] := by simp [List.getD, hjl]
        rw [e]; exact HF.out _ (List.getElem_mem hjl)
      have hca := scC_at (p := p) (q := q) hjl
      rw [hcd] at hca
      have hmp : ((l.take (j + 1)).map (scF p q)).flatMap Wo.vals = ((l.take j).map (scF p q)).flatMap Wo.vals ++ (scF p q (l.getD j wo0)).vals := by
        rw [List.take_succ_eq_append_getElem hjl, List.map_append, List.flatMap_append]
        congr 1
        simp [List.getD, hjl]
      obtain ⟨x, ex⟩ : ∃ x, l.getD j wo0 = x := ⟨_, rfl⟩
      rw [ex] at hx hfit hca hmp
      have h0 := hx 0 (by omega)
      have h1 := hx 1 (by omega)
      have h2 := hx 2 (by omega)
      rw [Nat.add_zero] at h0
      rw [show x.vals[0]? = some (.int .i64 x.w) from rfl] at h0
      rw [show x.vals[1]? = some (.int .i64 x.s) from rfl] at h1
      rw [show x.vals[2]? = some (.bool x.br) from rfl] at h2
      have P1 := fun W => fix_scale x.w p q hfit.1 HP.out HQ.out W
      have P2 := fun W => fix_scale x.s p q hfit.2 HP.out HQ.out W
      unfold Gives at P1 P2
      have hwv : (scF p q x).vals = [.int .i64 (scaleN x.w p q), .int .i64 (scaleN x.s p q), .bool x.br] := rfl
      rw [hwv] at hmp
      unfold scE at hca
      obtain ⟨n1, en1⟩ : ∃ v, scaleN x.w p q = v := ⟨_, rfl⟩
      obtain ⟨n2, en2⟩ : ∃ v, scaleN x.s p q = v := ⟨_, rfl⟩
      obtain ⟨c1, ec1⟩ : ∃ v, scaleE x.w p q = v := ⟨_, rfl⟩
      obtain ⟨c2, ec2⟩ : ∃ v, scaleE x.s p q = v := ⟨_, rfl⟩
      simp only [en1, ec1] at P1
      simp only [en2, ec2] at P2
      rw [en1, en2] at hmp
      rw [ec1, ec2] at hca
      have hcc : (c1 ≠ 0 → C = c1) ∧ (c1 = 0 → c2 ≠ 0 → C = c2) ∧ (c1 = 0 → c2 = 0 → C = scC p q (l.drop (j + 1))) := by
        refine ⟨fun h => ?_, fun h h' => ?_, fun h h' => ?_⟩
        · rw [hca, if_pos (by rw [if_pos h]; exact h), if_pos h]
        · rw [hca, if_pos (by rw [if_neg (by simpa using h)]; exact h'), if_neg (by simpa using h)]
        · rw [hca, if_neg (by rw [if_neg (by simpa using h)]; simpa using h')]
      have HMP := Lib.hid hmp
      have HCC := Lib.hid hcc
      have HG1 := Lib.hid (show ∀ g, (Value.slice aj j cj).ownBlock = some g → g < wr.heap.size from fun g h => (o1.ge h).2)
      clear hx hc hca hmp hwv hcc ex en1 en2 ec1 ec2
      go_upto_region 5 with (fail)
      refine wp_worldW (fun W => OwnW W w.heap.size 44 3 aj j cj (((l.take j).map (scF p q)).flatMap Wo.vals) ∧ Blk W w.heap.size #[.int .i64 p, .int .i64 q] 51 ∧ Blk W wr.heap.size #[.int .i64 x.w, .int .i64 x.s, .bool x.br] 44 ∧ Below w.heap.size w W ∧ wr.heap.size + 1 ≤ W.heap.size) ⟨o1.alloc _, t3.alloc _, Blk.new _ _ _ _ rfl, by exact (by repeat' (first | (with_reducible exact Below.refl _ _) | (with_reducible assumption) | (with_reducible refine below_alloc ?_ _ ?_) | (with_reducible refine below_set _ ?_ ?_) | (with_reducible refine Below.drew ?_) | (with_reducible refine below_dN ?_ _) | (apply below_thenA; assumption) | omega | (simp; done) | (simp; omega) | (simp [*]; done))), by simp⟩ ?_
      have hlr := t3.lt
      clear hfit hB o1 t3 hcd h0 h1 h2
      rintro W1 ⟨o5, t5, tE5, hB5, hz5⟩
      obtain ⟨ys, eys⟩ : ∃ ys, ((l.take j).map (scF p q)).flatMap Wo.vals = ys := ⟨_, rfl⟩
      rw [eys] at o5 HMP
      have hyl : ys.length = j * 3 := o5.1
      clear eys
      by_cases z1 : c1 = 0
      · have S1 : ∀ W, Calls Try.prog 31 #[.int .i64 x.w, .agg #[.int .i64 p, .int .i64 q]] W fun e w' => e = .returned (.int .i64 n1) ∧ Below W.heap.size W w' := fun W => (P1 W).mono fun e w' h => ⟨h.1 z1, h.2.2⟩
        by_cases z2 : c2 = 0
        · have S2 : ∀ W, Calls Try.prog 31 #[.int .i64 x.s, .agg #[.int .i64 p, .int .i64 q]] W fun e w' => e = .returned (.int .i64 n2) ∧ Below W.heap.size W w' := fun W => (P2 W).mono fun e w' h => ⟨h.1 z2, h.2.2⟩
          have HCA := Lib.hid (HCC.out.2.2 z1 z2)
          clear P1 P2 HCC z1 z2
          go_upto_region 5 with (fail)
          rename_i K1 hK1
          refine wp_region_calm (fun w' => OwnW w' w.heap.size 44 3 aj j cj ys ∧ Blk w' w.heap.size #[.int .i64 p, .int .i64 q] 51 ∧ Blk w' wr.heap.size #[.int .i64 x.w, .int .i64 x.s, .bool x.br] 44 ∧ Below w.heap.size w w' ∧ wr.heap.size + 1 ≤ w'.heap.size) [13] (fun w' => True) [Is (.slice aj j cj), Is (.pointer (some ⟨wr.heap.size, 0, none⟩)), Is (.int .i64 x.w), Is (.agg #[.int .i64 p, .int .i64 q]), Is (.int .i64 n1), Is (.pointer (some ⟨wr.heap.size, 1, none⟩)), Is (.int .i64 x.s), Is (.agg #[.int .i64 p, .int .i64 q]), Is (.int .i64 n2), Is (.pointer (some ⟨wr.heap.size, 2, none⟩)), Is (.bool x.br), Is (.agg #[.int .i64 n1, .int .i64 n2, .bool x.br]), sliW (wr.heap.size + 1) 44 [.int .i64 n1, .int .i64 n2, .bool x.br], ownW w.heap.size 44 3 (j + 1) (ys ++ [.int .i64 n1, .int .i64 n2, .bool x.br]), ownW w.heap.size 44 3 (j + 1) (ys ++ [.int .i64 n1, .int .i64 n2, .bool x.br])] [] (by kernel_rfl) (by kernel_rfl) (by kernel_rfl) (by kernel_rfl) ⟨o5.drew, t5.drew, tE5.drew, hB5.drew, hz5⟩ trivial ?_ ?_ ?_ ?_ ?_
          · rintro W W' ⟨o1, t3, tE, hBB, hl⟩ hb
            exact ⟨o1.below hb, t3.below hb, tE.below hb, hBB.trans (hb.mono hBB.size), Nat.le_trans hl hb.size⟩
          · intro W W' hB h0 hb; exact trivial
          · intro k vs W hk h
            exact absurd hk (by simp)
          · intro Q; clear hK1 
            refine ⟨?_, ?_, ?_, ?_, ?_, ?_, ?_, ?_, ?_, ?_, ?_, ?_, ?_, ?_, ?_, trivial⟩
            · intro vs W hW hW0 hd hne hold K hK hA hL; clear hne hA hL; have o1 := hW.1; have t3 := hW.2.1; have tE := hW.2.2.1; have hBB := hW.2.2.2.1; have hl := hW.2.2.2.2; simp only [puts, Act.put, List.setIfInBounds_toArray, List.set_cons_zero, List.set_cons_succ, Nat.zero_add, Nat.reduceAdd] at hK ⊢; have e14 : vs 14 = _ := hold 14 (by kernel_rfl); clear hd hold; simp only [e14] at hK; go_simp; exact hK.out rfl _ _ (Below.refl _ _) rfl
            · intro vs W hW hW0 hd hne hold K hK hA hL; clear hne hA hL; have o1 := hW.1; have t3 := hW.2.1; have tE := hW.2.2.1; have hBB := hW.2.2.2.1; have hl := hW.2.2.2.2; simp only [puts, Act.put, List.setIfInBounds_toArray, List.set_cons_zero, List.set_cons_succ, Nat.zero_add, Nat.reduceAdd] at hK ⊢; clear hd hold; go_simp; exact hK.out rfl _ _ (Below.refl _ _) rfl
            · intro vs W hW hW0 hd hne hold K hK hA hL; clear hne hA hL; have o1 := hW.1; have t3 := hW.2.1; have tE := hW.2.2.1; have hBB := hW.2.2.2.1; have hl := hW.2.2.2.2; simp only [puts, Act.put, List.setIfInBounds_toArray, List.set_cons_zero, List.set_cons_succ, Nat.zero_add, Nat.reduceAdd] at hK ⊢; have eb : vs 1 = _ := hd 1 (by kernel_rfl); have q1 := tE.cell 0 _ rfl; clear hd hold; simp only [eb] at hK; go_simp; exact hK.out rfl _ _ (Below.refl _ _) rfl
            · intro vs W hW hW0 hd hne hold K hK hA hL; clear hne hA hL; have o1 := hW.1; have t3 := hW.2.1; have tE := hW.2.2.1; have hBB := hW.2.2.2.1; have hl := hW.2.2.2.2; simp only [puts, Act.put, List.setIfInBounds_toArray, List.set_cons_zero, List.set_cons_succ, Nat.zero_add, Nat.reduceAdd] at hK ⊢; have q1 := t3.cell 0 _ rfl; have q2 := t3.cell 1 _ rfl; clear hd hold; go_simp; exact hK.out rfl _ _ (Below.refl _ _) rfl
            · intro vs W hW hW0 hd hne hold K hK hA hL; clear hne hA hL; have o1 := hW.1; have t3 := hW.2.1; have tE := hW.2.2.1; have hBB := hW.2.2.2.1; have hl := hW.2.2.2.2; simp only [puts, Act.put, List.setIfInBounds_toArray, List.set_cons_zero, List.set_cons_succ, Nat.zero_add, Nat.reduceAdd] at hK ⊢; have eb : vs 2 = _ := hd 2 (by kernel_rfl); have ed : vs 3 = _ := hd 3 (by kernel_rfl); clear hd hold; simp only [eb, ed] at hK; go_simp; refine (S1 W).mono ?_; (rintro e wx ⟨rfl, hbx⟩); go_simp; exact hK.out rfl _ _ hbx rfl
            · intro vs W hW hW0 hd hne hold K hK hA hL; clear hne hA hL; have o1 := hW.1; have t3 := hW.2.1; have tE := hW.2.2.1; have hBB := hW.2.2.2.1; have hl := hW.2.2.2.2; simp only [puts, Act.put, List.setIfInBounds_toArray, List.set_cons_zero, List.set_cons_succ, Nat.zero_add, Nat.reduceAdd] at hK ⊢; clear hd hold; go_simp; exact hK.out rfl _ _ (Below.refl _ _) rfl
            · intro vs W hW hW0 hd hne hold K hK hA hL; clear hne hA hL; have o1 := hW.1; have t3 := hW.2.1; have tE := hW.2.2.1; have hBB := hW.2.2.2.1; have hl := hW.2.2.2.2; simp only [puts, Act.put, List.setIfInBounds_toArray, List.set_cons_zero, List.set_cons_succ, Nat.zero_add, Nat.reduceAdd] at hK ⊢; have eb : vs 5 = _ := hd 5 (by kernel_rfl); have q1 := tE.cell 1 _ rfl; clear hd hold; simp only [eb] at hK; go_simp; exact hK.out rfl _ _ (Below.refl _ _) rfl
            · intro vs W hW hW0 hd hne hold K hK hA hL; clear hne hA hL; have o1 := hW.1; have t3 := hW.2.1; have tE := hW.2.2.1; have hBB := hW.2.2.2.1; have hl := hW.2.2.2.2; simp only [puts, Act.put, List.setIfInBounds_toArray, List.set_cons_zero, List.set_cons_succ, Nat.zero_add, Nat.reduceAdd] at hK ⊢; have q1 := t3.cell 0 _ rfl; have q2 := t3.cell 1 _ rfl; clear hd hold; go_simp; exact hK.out rfl _ _ (Below.refl _ _) rfl
            · intro vs W hW hW0 hd hne hold K hK hA hL; clear hne hA hL; have o1 := hW.1; have t3 := hW.2.1; have tE := hW.2.2.1; have hBB := hW.2.2.2.1; have hl := hW.2.2.2.2; simp only [puts, Act.put, List.setIfInBounds_toArray, List.set_cons_zero, List.set_cons_succ, Nat.zero_add, Nat.reduceAdd] at hK ⊢; have eb : vs 6 = _ := hd 6 (by kernel_rfl); have ed : vs 7 = _ := hd 7 (by kernel_rfl); clear hd hold; simp only [eb, ed] at hK; go_simp; refine (S2 W).mono ?_; (rintro e wx ⟨rfl, hbx⟩); go_simp; exact hK.out rfl _ _ hbx rfl
            · intro vs W hW hW0 hd hne hold K hK hA hL; clear hne hA hL; have o1 := hW.1; have t3 := hW.2.1; have tE := hW.2.2.1; have hBB := hW.2.2.2.1; have hl := hW.2.2.2.2; simp only [puts, Act.put, List.setIfInBounds_toArray, List.set_cons_zero, List.set_cons_succ, Nat.zero_add, Nat.reduceAdd] at hK ⊢; clear hd hold; go_simp; exact hK.out rfl _ _ (Below.refl _ _) rfl
            · intro vs W hW hW0 hd hne hold K hK hA hL; clear hne hA hL; have o1 := hW.1; have t3 := hW.2.1; have tE := hW.2.2.1; have hBB := hW.2.2.2.1; have hl := hW.2.2.2.2; simp only [puts, Act.put, List.setIfInBounds_toArray, List.set_cons_zero, List.set_cons_succ, Nat.zero_add, Nat.reduceAdd] at hK ⊢; have eb : vs 9 = _ := hd 9 (by kernel_rfl); have q1 := tE.cell 2 _ rfl; clear hd hold; simp only [eb] at hK; go_simp; exact hK.out rfl _ _ (Below.refl _ _) rfl
            · intro vs W hW hW0 hd hne hold K hK hA hL; clear hne hA hL; have o1 := hW.1; have t3 := hW.2.1; have tE := hW.2.2.1; have hBB := hW.2.2.2.1; have hl := hW.2.2.2.2; simp only [puts, Act.put, List.setIfInBounds_toArray, List.set_cons_zero, List.set_cons_succ, Nat.zero_add, Nat.reduceAdd] at hK ⊢; have e4 : vs 4 = _ := hd 4 (by kernel_rfl); have e8 : vs 8 = _ := hd 8 (by kernel_rfl); have e10 : vs 10 = _ := hd 10 (by kernel_rfl); clear hd hold; simp only [e4, e8, e10] at hK; go_simp; exact hK.out rfl _ _ (Below.refl _ _) rfl
            · intro vs W hW hW0 hd hne hold K hK hA hL; clear hne hA hL; have o1 := hW.1; have t3 := hW.2.1; have tE := hW.2.2.1; have hBB := hW.2.2.2.1; have hl := hW.2.2.2.2; simp only [puts, Act.put, List.setIfInBounds_toArray, List.set_cons_zero, List.set_cons_succ, Nat.zero_add, Nat.reduceAdd] at hK ⊢; have ee : vs 11 = _ := hd 11 (by kernel_rfl); clear hd hold; simp only [ee] at hK; go_simp; exact hK.out rfl _ _ ((Below.refl _ _).alloc (Nat.le_refl _) _) ⟨W.heap.size, rfl, hl, Blk.new _ _ _ _ rfl⟩
            · intro vs W hW hW0 hd hne hold K hK hA hL; clear hK hA; have o1 := hW.1; have t3 := hW.2.1; have tE := hW.2.2.1; have hBB := hW.2.2.2.1; have hl := hW.2.2.2.2; simp only [puts, Act.put, List.setIfInBounds_toArray, List.set_cons_zero, List.set_cons_succ, Nat.zero_add, Nat.reduceAdd] at hL ⊢; have ea : vs 0 = _ := hd 0 (by kernel_rfl); have h5 : SliW (wr.heap.size + 1) 44 [.int .i64 n1, .int .i64 n2, .bool x.br] (vs 12) W := hd 12 (by kernel_rfl); obtain ⟨bq, ebq, hlb, tb⟩ := h5; clear hd hold; simp only [ea, ebq] at hL ⊢; rw [if_pos (show Region.wanted _ _ = true from rfl)]; refine wp_append_keep (.tmp 14) (.tmp 26) 35 rfl w.heap.size 44 i0 (.agg #[.int .i64 0, .int .i64 0, .bool false]) 3 24 Try.underlying35 hi hz0 hz1 hz2 rfl (by decide) _ _ _ rfl o1 ⟨bq, 0, none⟩ 1 1 [.int .i64 n1, .int .i64 n2, .bool x.br] rfl rfl (blk_newsW tb) cellsW3 (by unfold maxLen; omega) (by omega) (by have := hBB.size; omega) ?_; intro v' w1 ho1 hgr hk1; obtain ⟨a5, c5, rfl, ho2, hbe, hbT, hb2⟩ := OwnW.app o1 ho1 hgr (by omega) (by have := hBB.size; omega); simp only [Act.put, List.setIfInBounds_toArray, List.set_cons_zero, List.set_cons_succ, Nat.zero_add, Nat.reduceAdd]; refine hL.out rfl _ _ ⟨hk1, hbT _ _ _ t3 (by decide), hb2 _ _ _ tE (fun q hq => by have := HG1.out q hq; omega), hbe _ _ (Nat.le_refl _) hBB, Nat.le_trans hl hgr.size⟩ (fun h => absurd h (by decide)) ⟨a5, c5, rfl, ho2⟩ ?_; exact claims_keep_a ⟨.inr (.inr is_keep), .inr (.inr is_keep), .inr (.inr is_keep), .inr (.inr is_keep), .inr (.inr is_keep), .inr (.inr is_keep), .inr (.inr is_keep), .inr (.inr is_keep), .inr (.inr is_keep), .inr (.inr is_keep), .inr (.inr is_keep), .inr (.inr is_keep), .inr (.inr fun h => by obtain ⟨b9, e9, l9, t9⟩ := h; exact ⟨b9, e9, l9, hb2 _ _ _ t9 (fun q hq => by have := HG1.out q hq; omega)⟩), .inl rfl, .inr (.inl (by kernel_rfl)), trivial⟩
            · intro vs W hW hW0 hd hne hold K hK hA hL; clear hne hA hL; have o1 := hW.1; have t3 := hW.2.1; have tE := hW.2.2.1; have hBB := hW.2.2.2.1; have hl := hW.2.2.2.2; simp only [puts, Act.put, List.setIfInBounds_toArray, List.set_cons_zero, List.set_cons_succ, Nat.zero_add, Nat.reduceAdd] at hK ⊢; have h7 : OwnVW w.heap.size 44 3 (j + 1) (ys ++ [.int .i64 n1, .int .i64 n2, .bool x.br]) (vs 13) W := hd 13 (by kernel_rfl); obtain ⟨a5, c5, e7, o5⟩ := h7; clear hd hold; simp only [e7] at hK; go_simp; exact hK.out rfl _ _ (Below.refl _ _) ⟨a5, c5, rfl, o5⟩
          · intro va WA hW hV _
            obtain ⟨-, t6, -, hB6, -⟩ := hW
            have h14 : OwnVW w.heap.size 44 3 (j + 1) (ys ++ [.int .i64 n1, .int .i64 n2, .bool x.br]) (va 14) WA := hV 14 (by decide)
            obtain ⟨a5, c5, e5, o6⟩ := h14
            have O6 := Lib.hid o6
            have T6 := Lib.hid t6
            have HB6 := Lib.hid hB6
            clear hV o6 t6 hB6
            simp only [puts, Act.put, List.setIfInBounds_toArray, List.set_cons_zero, List.set_cons_succ, Nat.zero_add, Nat.reduceAdd, e5]
            refine hK1 _ _ ?_
            clear hK1 e5
            go_wp2_with fail
            go_roundg (n - (j + 1))
            case measure => omega
            case rel => exact ⟨j + 1, a5, c5, by omega, rfl, rfl, by go_num, HCA.out.symm, by rw [HMP.out]; exact O6.out, T6.out, HB6.out⟩
        · have S2 : ∀ W, Calls Try.prog 31 #[.int .i64 x.s, .agg #[.int .i64 p, .int .i64 q]] W fun e w' => e = .panicked (gave c2) ∧ Below W.heap.size W w' := fun W => (P2 W).mono fun e w' h => ⟨h.2.1 z2, h.2.2⟩
          have HCA := Lib.hid (HCC.out.2.1 z1 z2)
          have HC0 := Lib.hid (show C ≠ 0 by rw [HCA.out]; exact z2)
          clear P1 P2 HCC z1 z2
          go_upto_region 5 with (fail)
          rename_i K1 hK1
          refine wp_region_cl (fun w' => OwnW w' w.heap.size 44 3 aj j cj ys ∧ Blk w' w.heap.size #[.int .i64 p, .int .i64 q] 51 ∧ Blk w' wr.heap.size #[.int .i64 x.w, .int .i64 x.s, .bool x.br] 44 ∧ Below w.heap.size w w' ∧ wr.heap.size + 1 ≤ w'.heap.size) [13] (fun w' => True) [Is (.slice aj j cj), Is (.pointer (some ⟨wr.heap.size, 0, none⟩)), Is (.int .i64 x.w), Is (.agg #[.int .i64 p, .int .i64 q]), Is (.int .i64 n1), Is (.pointer (some ⟨wr.heap.size, 1, none⟩)), Is (.int .i64 x.s), Is (.agg #[.int .i64 p, .int .i64 q]), .own (fun _ _ => False) (fun _ _ _ h _ => h), Is (.pointer (some ⟨wr.heap.size, 2, none⟩)), Is (.bool x.br), .own (fun _ _ => False) (fun _ _ _ h _ => h), .own (fun _ _ => False) (fun _ _ _ h _ => h), .own (fun _ _ => False) (fun _ _ _ h _ => h), .own (fun _ _ => False) (fun _ _ _ h _ => h)] [] (by kernel_rfl) (by kernel_rfl) (by kernel_rfl) (by kernel_rfl) ⟨o5.drew, t5.drew, tE5.drew, hB5.drew, hz5⟩ trivial ?_ ?_ ?_ ?_ ?_
          · rintro W W' ⟨o1, t3, tE, hBB, hl⟩ hb
            exact ⟨o1.below hb, t3.below hb, tE.below hb, hBB.trans (hb.mono hBB.size), Nat.le_trans hl hb.size⟩
          · intro W W' hB h0 hb; exact trivial
          · intro k vs W hk h
            exact absurd hk (by simp)
          · clear hK1 
            refine ⟨?_, ?_, ?_, ?_, ?_, ?_, ?_, ?_, ?_, ?_, ?_, ?_, ?_, ?_, ?_, trivial⟩
            · intro vs W hW hW0 hd hne hold K hK hA hL; clear hne hA hL; have o1 := hW.1; have t3 := hW.2.1; have tE := hW.2.2.1; have hBB := hW.2.2.2.1; have hl := hW.2.2.2.2; simp only [puts, Act.put, List.setIfInBounds_toArray, List.set_cons_zero, List.set_cons_succ, Nat.zero_add, Nat.reduceAdd] at hK ⊢; have e14 : vs 14 = _ := hold 14 (by kernel_rfl); clear hd hold; simp only [e14] at hK; go_simp; exact hK.out rfl _ _ (Below.refl _ _) rfl
            · intro vs W hW hW0 hd hne hold K hK hA hL; clear hne hA hL; have o1 := hW.1; have t3 := hW.2.1; have tE := hW.2.2.1; have hBB := hW.2.2.2.1; have hl := hW.2.2.2.2; simp only [puts, Act.put, List.setIfInBounds_toArray, List.set_cons_zero, List.set_cons_succ, Nat.zero_add, Nat.reduceAdd] at hK ⊢; clear hd hold; go_simp; exact hK.out rfl _ _ (Below.refl _ _) rfl
            · intro vs W hW hW0 hd hne hold K hK hA hL; clear hne hA hL; have o1 := hW.1; have t3 := hW.2.1; have tE := hW.2.2.1; have hBB := hW.2.2.2.1; have hl := hW.2.2.2.2; simp only [puts, Act.put, List.setIfInBounds_toArray, List.set_cons_zero, List.set_cons_succ, Nat.zero_add, Nat.reduceAdd] at hK ⊢; have eb : vs 1 = _ := hd 1 (by kernel_rfl); have q1 := tE.cell 0 _ rfl; clear hd hold; simp only [eb] at hK; go_simp; exact hK.out rfl _ _ (Below.refl _ _) rfl
            · intro vs W hW hW0 hd hne hold K hK hA hL; clear hne hA hL; have o1 := hW.1; have t3 := hW.2.1; have tE := hW.2.2.1; have hBB := hW.2.2.2.1; have hl := hW.2.2.2.2; simp only [puts, Act.put, List.setIfInBounds_toArray, List.set_cons_zero, List.set_cons_succ, Nat.zero_add, Nat.reduceAdd] at hK ⊢; have q1 := t3.cell 0 _ rfl; have q2 := t3.cell 1 _ rfl; clear hd hold; go_simp; exact hK.out rfl _ _ (Below.refl _ _) rfl
            · intro vs W hW hW0 hd hne hold K hK hA hL; clear hne hA hL; have o1 := hW.1; have t3 := hW.2.1; have tE := hW.2.2.1; have hBB := hW.2.2.2.1; have hl := hW.2.2.2.2; simp only [puts, Act.put, List.setIfInBounds_toArray, List.set_cons_zero, List.set_cons_succ, Nat.zero_add, Nat.reduceAdd] at hK ⊢; have eb : vs 2 = _ := hd 2 (by kernel_rfl); have ed : vs 3 = _ := hd 3 (by kernel_rfl); clear hd hold; simp only [eb, ed] at hK; go_simp; refine (S1 W).mono ?_; (rintro e wx ⟨rfl, hbx⟩); go_simp; exact hK.out rfl _ _ hbx rfl
            · intro vs W hW hW0 hd hne hold K hK hA hL; clear hne hA hL; have o1 := hW.1; have t3 := hW.2.1; have tE := hW.2.2.1; have hBB := hW.2.2.2.1; have hl := hW.2.2.2.2; simp only [puts, Act.put, List.setIfInBounds_toArray, List.set_cons_zero, List.set_cons_succ, Nat.zero_add, Nat.reduceAdd] at hK ⊢; clear hd hold; go_simp; exact hK.out rfl _ _ (Below.refl _ _) rfl
            · intro vs W hW hW0 hd hne hold K hK hA hL; clear hne hA hL; have o1 := hW.1; have t3 := hW.2.1; have tE := hW.2.2.1; have hBB := hW.2.2.2.1; have hl := hW.2.2.2.2; simp only [puts, Act.put, List.setIfInBounds_toArray, List.set_cons_zero, List.set_cons_succ, Nat.zero_add, Nat.reduceAdd] at hK ⊢; have eb : vs 5 = _ := hd 5 (by kernel_rfl); have q1 := tE.cell 1 _ rfl; clear hd hold; simp only [eb] at hK; go_simp; exact hK.out rfl _ _ (Below.refl _ _) rfl
            · intro vs W hW hW0 hd hne hold K hK hA hL; clear hne hA hL; have o1 := hW.1; have t3 := hW.2.1; have tE := hW.2.2.1; have hBB := hW.2.2.2.1; have hl := hW.2.2.2.2; simp only [puts, Act.put, List.setIfInBounds_toArray, List.set_cons_zero, List.set_cons_succ, Nat.zero_add, Nat.reduceAdd] at hK ⊢; have q1 := t3.cell 0 _ rfl; have q2 := t3.cell 1 _ rfl; clear hd hold; go_simp; exact hK.out rfl _ _ (Below.refl _ _) rfl
            · intro vs W hW hW0 hd hne hold K hK hA hL; clear hne hA hL; have o1 := hW.1; have t3 := hW.2.1; have tE := hW.2.2.1; have hBB := hW.2.2.2.1; have hl := hW.2.2.2.2; simp only [puts, Act.put, List.setIfInBounds_toArray, List.set_cons_zero, List.set_cons_succ, Nat.zero_add, Nat.reduceAdd] at hK ⊢; have eb : vs 6 = _ := hd 6 (by kernel_rfl); have ed : vs 7 = _ := hd 7 (by kernel_rfl); clear hd hold hK; simp only [eb, ed]; go_simp; refine (S2 W).mono ?_; (rintro e wx ⟨rfl, hbx⟩); go_simp; simp only [bodyPost]; exact ⟨trivial, by rw [EQ.out]; exact ⟨fun h => absurd h HC0.out, fun _ => by rw [HCA.out], hBB.trans (hbx.mono hBB.size)⟩⟩
            · intro vs W hW hW0 hd hne hold K hK hA hL; clear hne hA hL; have o1 := hW.1; have t3 := hW.2.1; have tE := hW.2.2.1; have hBB := hW.2.2.2.1; have hl := hW.2.2.2.2; simp only [puts, Act.put, List.setIfInBounds_toArray, List.set_cons_zero, List.set_cons_succ, Nat.zero_add, Nat.reduceAdd] at hK ⊢; clear hd hold; go_simp; exact hK.out rfl _ _ (Below.refl _ _) rfl
            · intro vs W hW hW0 hd hne hold K hK hA hL; clear hne hA hL; have o1 := hW.1; have t3 := hW.2.1; have tE := hW.2.2.1; have hBB := hW.2.2.2.1; have hl := hW.2.2.2.2; simp only [puts, Act.put, List.setIfInBounds_toArray, List.set_cons_zero, List.set_cons_succ, Nat.zero_add, Nat.reduceAdd] at hK ⊢; have eb : vs 9 = _ := hd 9 (by kernel_rfl); have q1 := tE.cell 2 _ rfl; clear hd hold; simp only [eb] at hK; go_simp; exact hK.out rfl _ _ (Below.refl _ _) rfl
            · intro vs W hW hW0 hd hne hold K hK hA hL; clear hne hA hL; have o1 := hW.1; have t3 := hW.2.1; have tE := hW.2.2.1; have hBB := hW.2.2.2.1; have hl := hW.2.2.2.2; simp only [puts, Act.put, List.setIfInBounds_toArray, List.set_cons_zero, List.set_cons_succ, Nat.zero_add, Nat.reduceAdd] at hK ⊢; exact absurd (show False from hd 8 (by kernel_rfl)) (fun h => h)
            · intro vs W hW hW0 hd hne hold K hK hA hL; clear hne hA hL; have o1 := hW.1; have t3 := hW.2.1; have tE := hW.2.2.1; have hBB := hW.2.2.2.1; have hl := hW.2.2.2.2; simp only [puts, Act.put, List.setIfInBounds_toArray, List.set_cons_zero, List.set_cons_succ, Nat.zero_add, Nat.reduceAdd] at hK ⊢; exact absurd (show False from hd 11 (by kernel_rfl)) (fun h => h)
            · intro vs W hW hW0 hd hne hold K hK hA hL; clear hne hA hL; have o1 := hW.1; have t3 := hW.2.1; have tE := hW.2.2.1; have hBB := hW.2.2.2.1; have hl := hW.2.2.2.2; simp only [puts, Act.put, List.setIfInBounds_toArray, List.set_cons_zero, List.set_cons_succ, Nat.zero_add, Nat.reduceAdd] at hK ⊢; exact absurd (show False from hd 12 (by kernel_rfl)) (fun h => h)
            · intro vs W hW hW0 hd hne hold K hK hA hL; clear hne hA hL; have o1 := hW.1; have t3 := hW.2.1; have tE := hW.2.2.1; have hBB := hW.2.2.2.1; have hl := hW.2.2.2.2; simp only [puts, Act.put, List.setIfInBounds_toArray, List.set_cons_zero, List.set_cons_succ, Nat.zero_add, Nat.reduceAdd] at hK ⊢; exact absurd (show False from hd 13 (by kernel_rfl)) (fun h => h)
          · intro va WA hW hV _
            exact absurd (show False from hV 14 (by decide)) (fun h => h)
      · have S1 : ∀ W, Calls Try.prog 31 #[.int .i64 x.w, .agg #[.int .i64 p, .int .i64 q]] W fun e w' => e = .panicked (gave c1) ∧ Below W.heap.size W w' := fun W => (P1 W).mono fun e w' h => ⟨h.2.1 z1, h.2.2⟩
        have HCA := Lib.hid (HCC.out.1 z1)
        have HC0 := Lib.hid (show C ≠ 0 by rw [HCA.out]; exact z1)
        clear P1 P2 HCC z1
        go_upto_region 5 with (fail)
        rename_i K1 hK1
        refine wp_region_cl (fun w' => OwnW w' w.heap.size 44 3 aj j cj ys ∧ Blk w' w.heap.size #[.int .i64 p, .int .i64 q] 51 ∧ Blk w' wr.heap.size #[.int .i64 x.w, .int .i64 x.s, .bool x.br] 44 ∧ Below w.heap.size w w' ∧ wr.heap.size + 1 ≤ w'.heap.size) [13] (fun w' => True) [Is (.slice aj j cj), Is (.pointer (some ⟨wr.heap.size, 0, none⟩)), Is (.int .i64 x.w), Is (.agg #[.int .i64 p, .int .i64 q]), .own (fun _ _ => False) (fun _ _ _ h _ => h), Is (.pointer (some ⟨wr.heap.size, 1, none⟩)), Is (.int .i64 x.s), Is (.agg #[.int .i64 p, .int .i64 q]), .own (fun _ _ => False) (fun _ _ _ h _ => h), Is (.pointer (some ⟨wr.heap.size, 2, none⟩)), Is (.bool x.br), .own (fun _ _ => False) (fun _ _ _ h _ => h), .own (fun _ _ => False) (fun _ _ _ h _ => h), .own (fun _ _ => False) (fun _ _ _ h _ => h), .own (fun _ _ => False) (fun _ _ _ h _ => h)] [] (by kernel_rfl) (by kernel_rfl) (by kernel_rfl) (by kernel_rfl) ⟨o5.drew, t5.drew, tE5.drew, hB5.drew, hz5⟩ trivial ?_ ?_ ?_ ?_ ?_
        · rintro W W' ⟨o1, t3, tE, hBB, hl⟩ hb
          exact ⟨o1.below hb, t3.below hb, tE.below hb, hBB.trans (hb.mono hBB.size), Nat.le_trans hl hb.size⟩
        · intro W W' hB h0 hb; exact trivial
        · intro k vs W hk h
          exact absurd hk (by simp)
        · clear hK1 
          refine ⟨?_, ?_, ?_, ?_, ?_, ?_, ?_, ?_, ?_, ?_, ?_, ?_, ?_, ?_, ?_, trivial⟩
          · intro vs W hW hW0 hd hne hold K hK hA hL; clear hne hA hL; have o1 := hW.1; have t3 := hW.2.1; have tE := hW.2.2.1; have hBB := hW.2.2.2.1; have hl := hW.2.2.2.2; simp only [puts, Act.put, List.setIfInBounds_toArray, List.set_cons_zero, List.set_cons_succ, Nat.zero_add, Nat.reduceAdd] at hK ⊢; have e14 : vs 14 = _ := hold 14 (by kernel_rfl); clear hd hold; simp only [e14] at hK; go_simp; exact hK.out rfl _ _ (Below.refl _ _) rfl
          · intro vs W hW hW0 hd hne hold K hK hA hL; clear hne hA hL; have o1 := hW.1; have t3 := hW.2.1; have tE := hW.2.2.1; have hBB := hW.2.2.2.1; have hl := hW.2.2.2.2; simp only [puts, Act.put, List.setIfInBounds_toArray, List.set_cons_zero, List.set_cons_succ, Nat.zero_add, Nat.reduceAdd] at hK ⊢; clear hd hold; go_simp; exact hK.out rfl _ _ (Below.refl _ _) rfl
          · intro vs W hW hW0 hd hne hold K hK hA hL; clear hne hA hL; have o1 := hW.1; have t3 := hW.2.1; have tE := hW.2.2.1; have hBB := hW.2.2.2.1; have hl := hW.2.2.2.2; simp only [puts, Act.put, List.setIfInBounds_toArray, List.set_cons_zero, List.set_cons_succ, Nat.zero_add, Nat.reduceAdd] at hK ⊢; have eb : vs 1 = _ := hd 1 (by kernel_rfl); have q1 := tE.cell 0 _ rfl; clear hd hold; simp only [eb] at hK; go_simp; exact hK.out rfl _ _ (Below.refl _ _) rfl
          · intro vs W hW hW0 hd hne hold K hK hA hL; clear hne hA hL; have o1 := hW.1; have t3 := hW.2.1; have tE := hW.2.2.1; have hBB := hW.2.2.2.1; have hl := hW.2.2.2.2; simp only [puts, Act.put, List.setIfInBounds_toArray, List.set_cons_zero, List.set_cons_succ, Nat.zero_add, Nat.reduceAdd] at hK ⊢; have q1 := t3.cell 0 _ rfl; have q2 := t3.cell 1 _ rfl; clear hd hold; go_simp; exact hK.out rfl _ _ (Below.refl _ _) rfl
          · intro vs W hW hW0 hd hne hold K hK hA hL; clear hne hA hL; have o1 := hW.1; have t3 := hW.2.1; have tE := hW.2.2.1; have hBB := hW.2.2.2.1; have hl := hW.2.2.2.2; simp only [puts, Act.put, List.setIfInBounds_toArray, List.set_cons_zero, List.set_cons_succ, Nat.zero_add, Nat.reduceAdd] at hK ⊢; have eb : vs 2 = _ := hd 2 (by kernel_rfl); have ed : vs 3 = _ := hd 3 (by kernel_rfl); clear hd hold hK; simp only [eb, ed]; go_simp; refine (S1 W).mono ?_; (rintro e wx ⟨rfl, hbx⟩); go_simp; simp only [bodyPost]; exact ⟨trivial, by rw [EQ.out]; exact ⟨fun h => absurd h HC0.out, fun _ => by rw [HCA.out], hBB.trans (hbx.mono hBB.size)⟩⟩
          · intro vs W hW hW0 hd hne hold K hK hA hL; clear hne hA hL; have o1 := hW.1; have t3 := hW.2.1; have tE := hW.2.2.1; have hBB := hW.2.2.2.1; have hl := hW.2.2.2.2; simp only [puts, Act.put, List.setIfInBounds_toArray, List.set_cons_zero, List.set_cons_succ, Nat.zero_add, Nat.reduceAdd] at hK ⊢; clear hd hold; go_simp; exact hK.out rfl _ _ (Below.refl _ _) rfl
          · intro vs W hW hW0 hd hne hold K hK hA hL; clear hne hA hL; have o1 := hW.1; have t3 := hW.2.1; have tE := hW.2.2.1; have hBB := hW.2.2.2.1; have hl := hW.2.2.2.2; simp only [puts, Act.put, List.setIfInBounds_toArray, List.set_cons_zero, List.set_cons_succ, Nat.zero_add, Nat.reduceAdd] at hK ⊢; have eb : vs 5 = _ := hd 5 (by kernel_rfl); have q1 := tE.cell 1 _ rfl; clear hd hold; simp only [eb] at hK; go_simp; exact hK.out rfl _ _ (Below.refl _ _) rfl
          · intro vs W hW hW0 hd hne hold K hK hA hL; clear hne hA hL; have o1 := hW.1; have t3 := hW.2.1; have tE := hW.2.2.1; have hBB := hW.2.2.2.1; have hl := hW.2.2.2.2; simp only [puts, Act.put, List.setIfInBounds_toArray, List.set_cons_zero, List.set_cons_succ, Nat.zero_add, Nat.reduceAdd] at hK ⊢; have q1 := t3.cell 0 _ rfl; have q2 := t3.cell 1 _ rfl; clear hd hold; go_simp; exact hK.out rfl _ _ (Below.refl _ _) rfl
          · intro vs W hW hW0 hd hne hold K hK hA hL; clear hne hA hL; have o1 := hW.1; have t3 := hW.2.1; have tE := hW.2.2.1; have hBB := hW.2.2.2.1; have hl := hW.2.2.2.2; simp only [puts, Act.put, List.setIfInBounds_toArray, List.set_cons_zero, List.set_cons_succ, Nat.zero_add, Nat.reduceAdd] at hK ⊢; exact absurd (show False from hd 4 (by kernel_rfl)) (fun h => h)
          · intro vs W hW hW0 hd hne hold K hK hA hL; clear hne hA hL; have o1 := hW.1; have t3 := hW.2.1; have tE := hW.2.2.1; have hBB := hW.2.2.2.1; have hl := hW.2.2.2.2; simp only [puts, Act.put, List.setIfInBounds_toArray, List.set_cons_zero, List.set_cons_succ, Nat.zero_add, Nat.reduceAdd] at hK ⊢; clear hd hold; go_simp; exact hK.out rfl _ _ (Below.refl _ _) rfl
          · intro vs W hW hW0 hd hne hold K hK hA hL; clear hne hA hL; have o1 := hW.1; have t3 := hW.2.1; have tE := hW.2.2.1; have hBB := hW.2.2.2.1; have hl := hW.2.2.2.2; simp only [puts, Act.put, List.setIfInBounds_toArray, List.set_cons_zero, List.set_cons_succ, Nat.zero_add, Nat.reduceAdd] at hK ⊢; have eb : vs 9 = _ := hd 9 (by kernel_rfl); have q1 := tE.cell 2 _ rfl; clear hd hold; simp only [eb] at hK; go_simp; exact hK.out rfl _ _ (Below.refl _ _) rfl
          · intro vs W hW hW0 hd hne hold K hK hA hL; clear hne hA hL; have o1 := hW.1; have t3 := hW.2.1; have tE := hW.2.2.1; have hBB := hW.2.2.2.1; have hl := hW.2.2.2.2; simp only [puts, Act.put, List.setIfInBounds_toArray, List.set_cons_zero, List.set_cons_succ, Nat.zero_add, Nat.reduceAdd] at hK ⊢; exact absurd (show False from hd 4 (by kernel_rfl)) (fun h => h)
          · intro vs W hW hW0 hd hne hold K hK hA hL; clear hne hA hL; have o1 := hW.1; have t3 := hW.2.1; have tE := hW.2.2.1; have hBB := hW.2.2.2.1; have hl := hW.2.2.2.2; simp only [puts, Act.put, List.setIfInBounds_toArray, List.set_cons_zero, List.set_cons_succ, Nat.zero_add, Nat.reduceAdd] at hK ⊢; exact absurd (show False from hd 11 (by kernel_rfl)) (fun h => h)
          · intro vs W hW hW0 hd hne hold K hK hA hL; clear hne hA hL; have o1 := hW.1; have t3 := hW.2.1; have tE := hW.2.2.1; have hBB := hW.2.2.2.1; have hl := hW.2.2.2.2; simp only [puts, Act.put, List.setIfInBounds_toArray, List.set_cons_zero, List.set_cons_succ, Nat.zero_add, Nat.reduceAdd] at hK ⊢; exact absurd (show False from hd 12 (by kernel_rfl)) (fun h => h)
          · intro vs W hW hW0 hd hne hold K hK hA hL; clear hne hA hL; have o1 := hW.1; have t3 := hW.2.1; have tE := hW.2.2.1; have hBB := hW.2.2.2.1; have hl := hW.2.2.2.2; simp only [puts, Act.put, List.setIfInBounds_toArray, List.set_cons_zero, List.set_cons_succ, Nat.zero_add, Nat.reduceAdd] at hK ⊢; exact absurd (show False from hd 13 (by kernel_rfl)) (fun h => h)
        · intro va WA hW hV _
          exact absurd (show False from hV 14 (by decide)) (fun h => h)
    · obtain rfl : n = j := by omega
      have ix : ¬ (n : Int) < (n : Int) := by omega
      rw [List.drop_eq_nil_of_le (by rw [HL.out]; omega)] at hcd
      rw [List.take_of_length_le (by rw [HL.out]; omega)] at o1
      obtain rfl : 0 = C := hcd
      go_wp2_with fail
      rw [EQ.out]
      exact ⟨fun _ => ⟨aj, cj, rfl, o1⟩, fun h => absurd rfl h, hB⟩
end Go.Proofs.Ytgmnboacehopfaa
