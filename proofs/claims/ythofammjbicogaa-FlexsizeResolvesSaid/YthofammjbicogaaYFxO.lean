/-
  The law's own functions of layer 19: resolved.
-/
import Derived.Test.YthofammjbicogaaYFxN
namespace Go.Proofs.Ythofammjbicogaa
open Go.RowKit
set_option linter.unusedSimpArgs false
set_option linter.unusedVariables false

def RvAns (n : Nat) (avail : Int) (l : List Fx) (w : World) (e : Ending) (w' : World) : Prop :=
  ∃ a2 m c2, e = .returned (.tuple #[.slice a2 m c2, .int .i64 (rsC avail l)]) ∧ (rsC avail l = 0 → ∃ xs, resO avail l = some xs ∧ m = n ∧ RowI w' a2 n xs) ∧ (rsC avail l ≠ 0 → m = 0) ∧ Below w.heap.size w w'
def itC (b : Nat) (H : Nat) (j : Nat) (vs : List Value) : Cl := .own (fun _ w => ∃ a c, Blk w b #[.slice a j c] 117 ∧ OwnW w H 85 7 a j c vs) (fun _ _ _ h hb => by obtain ⟨a, c, h1, h2⟩ := h; exact ⟨a, c, h1.below hb, h2.below hb⟩)
set_option maxRecDepth 100000 in
set_option maxHeartbeats 6400000 in
theorem law19_resolved (ao : Option Addr) (n cap : Nat) (l : List Fx) (avail : Int) (hn : n ≤ 100000) (hl : l.length = n) (hf : ∀ x ∈ l, FxFit x) (hav : IFit avail) (w : World) (hr : RowV w ao n 7 (fxV l)) :
    Calls Try.prog 43 #[.slice ao n cap, .int .i64 avail] w (RvAns n avail l w) := by
  have hmf : ∀ (fn : Fn) (first cap : Array Value) (w : World), (Instr.makeFunc fn first cap).run Try.prog w = .ok (.func fn first cap) w := fun _ _ _ _ => rfl
  obtain ⟨i0, hi, hz0, hz1, hz2⟩ := info_parts (show (Try.prog.info? 85).map (fun i => (i.zero, i.size, i.bytes)) = some (some (.agg #[.int .i64 0, .int .i64 0, .int .i64 0, .bool false, .int .i64 0, .int .i64 0, .int .i64 0]), 7, 56) by kernel_rfl)
  obtain ⟨Q, eQ⟩ : ∃ Q, Q = RvAns n avail l w := ⟨_, rfl⟩
  rw [← eQ]
  have EQ := Lib.hid eQ
  have HF := Lib.hid hf
  have HL := Lib.hid hl
  have HR := Lib.hid hr
  have HAV := Lib.hid hav
  clear eQ hf hl hr hav
  go_enter Try.func43, Try.ntmps43
  go_wp2_with fail
  go_loopg [7] n (fun gk s7 wr => ∃ (j : Nat) (aj : Option Addr) (cj : Nat), j ≤ n ∧ gk = n - j ∧ s7 = .int .i64 ((j : Int)) ∧ Blk wr (w.heap.size + 1) #[.slice aj j cj] 117 ∧ Blk wr w.heap.size #[.int .i64 avail] 2 ∧ OwnW wr w.heap.size 85 7 aj j cj (fxV (l.take j)) ∧ Below w.heap.size w wr)
  case atStart => exact ⟨0, none, 0, by omega, by omega, rfl, Blk.new _ _ _ _ (by simp), (Blk.new w _ _ _ rfl).alloc _, OwnW.nil _ _ _ _, (by repeat' (first | (with_reducible exact Below.refl _ _) | (with_reducible assumption) | (with_reducible refine below_alloc ?_ _ ?_) | (with_reducible refine below_set _ ?_ ?_) | (with_reducible refine Below.drew ?_) | (with_reducible refine below_dN ?_ _) | (apply below_thenA; assumption) | omega | (simp; done) | (simp; omega) | (simp [*]; done)))⟩
  case round =>
    obtain ⟨j, aj, cj, hj, rfl, rfl, hT, hT3, hO, hB⟩ := hrel
    have hlt6 := hT.lt
    have hsB := hB.size
    by_cases hjk : j < n
    · have ix : (j : Int) < (n : Int) := by omega
      have hjl : j < l.length := by rw [HL.out]; exact hjk
      obtain ⟨g, off, rfl, hg, hF⟩ := fx_at HR.out HL.out hjk
      have hsn := fxV_snoc hjl
      obtain ⟨x, ex⟩ : ∃ x, l.getD j fx0 = x := ⟨_, rfl⟩
      rw [ex] at hF hsn
      have HFX := Lib.hid (fun W (h : Below w.heap.size w W) => show FxAt W g (off + j * 7) x from by
        obtain ⟨h0, h1, h2, h3, h4, h5, h6⟩ := hF
        have k : ∀ {p : Nat} {v : Value}, w.cell? ⟨g, p, none⟩ = some v → W.cell? ⟨g, p, none⟩ = some v := fun {p v} q => (h.cell (p := ⟨g, p, none⟩) hg).trans q
        exact ⟨k h0, k h1, k h2, k h3, k h4, k h5, k h6⟩)
      obtain ⟨ys, eys⟩ : ∃ ys, fxV (l.take j) = ys := ⟨_, rfl⟩
      rw [eys] at hO hsn
      have HSN := Lib.hid hsn
      have hg1 : ∀ g, (Value.slice aj j cj).ownBlock = some g → g < wr.heap.size := fun g h => (hO.ge h).2
      have HG1 := Lib.hid hg1
      have hyl : ys.length = j * 7 := hO.1
      have TO := fun W => law19_told x W
      unfold Fx.val at TO
      clear hF hsn ex eys hg1
      go_wp2_with fail
      go_upto_region 5 with (fail)
      refine wp_region_calm (fun w' => Below w.heap.size w w' ∧ OwnW w' w.heap.size 85 7 aj j cj ys ∧ Blk w' w.heap.size #[.int .i64 avail] 2 ∧ (∃ s, Blk w' (w.heap.size + 1) #[s] 117) ∧ wr.heap.size ≤ w'.heap.size) [7, 8] (fun w' => Blk w' (w.heap.size + 1) #[.slice aj j cj] 117) [Is (.slice aj j cj), Is (.slice (some ⟨g, off, none⟩) n cap), Is (.int .i64 ((j : Int))), Is (.pointer (some ⟨g, off + j * 7, none⟩)), Is (.agg #[.int .i64 x.base, .int .i64 x.least, .int .i64 x.most, .bool x.bound, .int .i64 x.extra, .int .i64 x.grow, .int .i64 x.shrink]), Is (.agg #[.int .i64 x.base, .int .i64 x.least, .int .i64 x.most, .bool x.bound, .int .i64 x.extra, .int .i64 x.grow, .int .i64 x.shrink]), sliW wr.heap.size 85 x.vals, ownW w.heap.size 85 7 (j + 1) (ys ++ x.vals), itC (w.heap.size + 1) w.heap.size (j + 1) (ys ++ x.vals)] [] (by kernel_rfl) (by kernel_rfl) (by kernel_rfl) (by kernel_rfl) ⟨hB.drew, hO.drew, hT3, ⟨_, hT⟩, Nat.le_refl _⟩ hT ?_ ?_ ?_ ?_ ?_
      · rintro W W' ⟨hBB, o1, t3, hbx, hl⟩ hb
        exact ⟨hBB.trans (hb.mono hBB.size), o1.below hb, t3.below hb, by obtain ⟨s, q⟩ := hbx; exact ⟨s, q.below hb⟩, Nat.le_trans hl hb.size⟩
      · intro W W' hB h0 hb; exact h0.below hb
      · intro k vs W hk h
        exact absurd hk (by simp)
      · intro Q; clear hB hO hT hT3
        refine ⟨?_, ?_, ?_, ?_, ?_, ?_, ?_, ?_, ?_, trivial⟩
        · intro vs W hW hW0 hd hne hold K hK hA hL; clear hne hA hL; have hBB := hW.1; have o1 := hW.2.1; have t3 := hW.2.2.1; have hbx := hW.2.2.2.1; have hl := hW.2.2.2.2; simp only [puts, Act.put, List.setIfInBounds_toArray, List.set_cons_zero, List.set_cons_succ, Nat.zero_add, Nat.reduceAdd] at hK ⊢; have h00 := hW0 (by kernel_rfl); have q1 := h00.cell 0 _ rfl; clear hd hold; go_simp; exact hK.out rfl _ _ (Below.refl _ _) rfl
        · intro vs W hW hW0 hd hne hold K hK hA hL; clear hne hA hL; have hBB := hW.1; have o1 := hW.2.1; have t3 := hW.2.2.1; have hbx := hW.2.2.2.1; have hl := hW.2.2.2.2; simp only [puts, Act.put, List.setIfInBounds_toArray, List.set_cons_zero, List.set_cons_succ, Nat.zero_add, Nat.reduceAdd] at hK ⊢; clear hd hold; go_simp; exact hK.out rfl _ _ (Below.refl _ _) rfl
        · intro vs W hW hW0 hd hne hold K hK hA hL; clear hne hA hL; have hBB := hW.1; have o1 := hW.2.1; have t3 := hW.2.2.1; have hbx := hW.2.2.2.1; have hl := hW.2.2.2.2; simp only [puts, Act.put, List.setIfInBounds_toArray, List.set_cons_zero, List.set_cons_succ, Nat.zero_add, Nat.reduceAdd] at hK ⊢; clear hd hold; go_simp; exact hK.out rfl _ _ (Below.refl _ _) rfl
        · intro vs W hW hW0 hd hne hold K hK hA hL; clear hne hA hL; have hBB := hW.1; have o1 := hW.2.1; have t3 := hW.2.2.1; have hbx := hW.2.2.2.1; have hl := hW.2.2.2.2; simp only [puts, Act.put, List.setIfInBounds_toArray, List.set_cons_zero, List.set_cons_succ, Nat.zero_add, Nat.reduceAdd] at hK ⊢; have e1 : vs 1 = _ := hd 1 (by kernel_rfl); have e2 : vs 2 = _ := hd 2 (by kernel_rfl); clear hd hold; simp only [e1, e2] at hK; go_simp; exact hK.out rfl _ _ (Below.refl _ _) rfl
        · intro vs W hW hW0 hd hne hold K hK hA hL; clear hne hA hL; have hBB := hW.1; have o1 := hW.2.1; have t3 := hW.2.2.1; have hbx := hW.2.2.2.1; have hl := hW.2.2.2.2; simp only [puts, Act.put, List.setIfInBounds_toArray, List.set_cons_zero, List.set_cons_succ, Nat.zero_add, Nat.reduceAdd] at hK ⊢; have eb : vs 3 = _ := hd 3 (by kernel_rfl); obtain ⟨q0, q1, q2, q3, q4, q5, q6⟩ := HFX.out W hBB; clear hd hold; simp only [eb] at hK; go_simp; exact hK.out rfl _ _ (Below.refl _ _) rfl
        · intro vs W hW hW0 hd hne hold K hK hA hL; clear hne hA hL; have hBB := hW.1; have o1 := hW.2.1; have t3 := hW.2.2.1; have hbx := hW.2.2.2.1; have hl := hW.2.2.2.2; simp only [puts, Act.put, List.setIfInBounds_toArray, List.set_cons_zero, List.set_cons_succ, Nat.zero_add, Nat.reduceAdd] at hK ⊢; have eb : vs 4 = _ := hd 4 (by kernel_rfl); clear hd hold; simp only [eb] at hK; go_simp; refine (TO W).mono ?_; (rintro e wx ⟨rfl, hbx⟩); go_simp; exact hK.out rfl _ _ hbx rfl
        · intro vs W hW hW0 hd hne hold K hK hA hL; clear hne hA hL; have hBB := hW.1; have o1 := hW.2.1; have t3 := hW.2.2.1; have hbx := hW.2.2.2.1; have hl := hW.2.2.2.2; simp only [puts, Act.put, List.setIfInBounds_toArray, List.set_cons_zero, List.set_cons_succ, Nat.zero_add, Nat.reduceAdd] at hK ⊢; have ee : vs 5 = _ := hd 5 (by kernel_rfl); clear hd hold; simp only [ee] at hK; go_simp; exact hK.out rfl _ _ ((Below.refl _ _).alloc (Nat.le_refl _) _) ⟨W.heap.size, rfl, hl, Blk.new _ _ _ _ rfl⟩
        · intro vs W hW hW0 hd hne hold K hK hA hL; clear hK hA; have hBB := hW.1; have o1 := hW.2.1; have t3 := hW.2.2.1; have hbx := hW.2.2.2.1; have hl := hW.2.2.2.2; simp only [puts, Act.put, List.setIfInBounds_toArray, List.set_cons_zero, List.set_cons_succ, Nat.zero_add, Nat.reduceAdd] at hL ⊢; have ea : vs 0 = _ := hd 0 (by kernel_rfl); have h5 : SliW wr.heap.size 85 x.vals (vs 6) W := hd 6 (by kernel_rfl); obtain ⟨bq, ebq, hlb, tb⟩ := h5; clear hd hold; simp only [ea, ebq] at hL ⊢; rw [if_pos (show Region.wanted _ _ = true from rfl)]; refine wp_append_keep (.tmp 16) (.tmp 22) 117 rfl w.heap.size 85 i0 (.agg #[.int .i64 0, .int .i64 0, .int .i64 0, .bool false, .int .i64 0, .int .i64 0, .int .i64 0]) 7 56 Try.underlying117 hi hz0 hz1 hz2 rfl (by decide) _ _ _ rfl o1 ⟨bq, 0, none⟩ 1 1 x.vals rfl rfl (blk_news tb) (cells7 x) (by unfold maxLen; omega) (by omega) (by have := hBB.size; omega) ?_; intro v' w1 ho1 hgr hk1; obtain ⟨a5, c5, rfl, ho2, hbe, hbT, hb2⟩ := OwnW.app o1 ho1 hgr (by omega) (by have := hBB.size; omega); simp only [Act.put, List.setIfInBounds_toArray, List.set_cons_zero, List.set_cons_succ, Nat.zero_add, Nat.reduceAdd]; refine hL.out rfl _ _ ⟨hbe _ _ (Nat.le_refl _) hBB, hk1, hbT _ _ _ t3 (by decide), (by obtain ⟨s, q⟩ := hbx; exact ⟨s, hbT _ _ _ q (by decide)⟩), Nat.le_trans hl hgr.size⟩ (fun h => absurd h (by decide)) ⟨a5, c5, rfl, ho2⟩ ?_; exact claims_keep_a ⟨.inr (.inr is_keep), .inr (.inr is_keep), .inr (.inr is_keep), .inr (.inr is_keep), .inr (.inr is_keep), .inr (.inr is_keep), .inr (.inr fun h => by obtain ⟨b9, e9, l9, t9⟩ := h; exact ⟨b9, e9, l9, hb2 _ _ _ t9 (fun q hq => by have := HG1.out q hq; omega)⟩), .inl rfl, .inr (.inl (by kernel_rfl)), trivial⟩
        · intro vs W hW hW0 hd hne hold K hK hA hL; clear hK hA; have hBB := hW.1; have o1 := hW.2.1; have t3 := hW.2.2.1; have hbx := hW.2.2.2.1; have hl := hW.2.2.2.2; simp only [puts, Act.put, List.setIfInBounds_toArray, List.set_cons_zero, List.set_cons_succ, Nat.zero_add, Nat.reduceAdd] at hL ⊢; have h7 : OwnVW w.heap.size 85 7 (j + 1) (ys ++ x.vals) (vs 7) W := hd 7 (by kernel_rfl); obtain ⟨a5, c5, e5, o5⟩ := h7; obtain ⟨s0, tb0⟩ := hbx; have q1 := tb0.cell 0 _ rfl; have q2 := tb0.free 0; have hbt := But.set (b := w.heap.size + 1) W 0 (.slice a5 (j + 1) c5); have tb9 := tb0.set1 rfl (.slice a5 (j + 1) c5); have o9 := OwnW.aside o5 ⟨w.heap.size + 1, 0, none⟩ (.slice a5 (j + 1) c5) (o5.ne tb0 (by decide)); have o8 := OwnW.aside o1 ⟨w.heap.size + 1, 0, none⟩ (.slice a5 (j + 1) c5) (o1.ne tb0 (by decide)); have t39 := t3.but hbt (by omega); have hB9 := hbt.to hBB (by omega) hBB.size; have hz9 := hbt.size; clear hd hold; simp only [e5] at hL; go_simp; refine hL.out rfl undef _ ⟨hB9, o8, t39, ⟨_, tb9⟩, Nat.le_trans hl hz9⟩ (fun h => absurd h (by decide)) ⟨a5, c5, tb9, o9⟩ ?_; exact claims_keep_a ⟨.inr (.inr is_keep), .inr (.inr is_keep), .inr (.inr is_keep), .inr (.inr is_keep), .inr (.inr is_keep), .inr (.inr is_keep), .inr (.inr fun h => by obtain ⟨b9, e9, l9, t9⟩ := h; exact ⟨b9, e9, l9, t9.but hbt (by omega)⟩), .inr (.inr fun h => by obtain ⟨a6, c6, e6, o6⟩ := h; exact ⟨a6, c6, e6, OwnW.aside o6 _ _ (o6.ne tb0 (by decide))⟩), .inl rfl, trivial⟩
      · intro va WB hW hV _
        obtain ⟨hB, _, t3, _, _⟩ := hW
        have h8 : ∃ a c, Blk WB (w.heap.size + 1) #[.slice a (j + 1) c] 117 ∧ OwnW WB w.heap.size 85 7 a (j + 1) c (ys ++ x.vals) := hV 8 (by decide)
        obtain ⟨a5, c5, t6, o6⟩ := h8
        have T6 := Lib.hid t6
        have O6 := Lib.hid o6
        have T3 := Lib.hid t3
        have HB9 := Lib.hid hB
        clear hV t6 o6 t3 hB
        simp only [puts, Act.put, List.setIfInBounds_toArray, List.set_cons_zero, List.set_cons_succ, Nat.zero_add, Nat.reduceAdd]
        go_wp2_with fail
        go_roundg (n - (j + 1))
        case measure => omega
        case rel => exact ⟨j + 1, a5, c5, by omega, rfl, by go_num, T6.out, T3.out, by rw [HSN.out]; exact O6.out, HB9.out⟩
    · obtain rfl : n = j := by omega
      have ix : ¬ (n : Int) < (n : Int) := by omega
      rw [List.take_of_length_le (by rw [HL.out]; omega)] at hO
      obtain ⟨Wo, eWo⟩ : ∃ W, wr.alloc (.cells #[.slice none 0 0] 31) = W := ⟨_, rfl⟩
      have t8 : Blk Wo wr.heap.size #[.slice none 0 0] 31 := by rw [← eWo]; exact Blk.new wr _ _ _ rfl
      have hbo : Below wr.heap.size wr Wo := by rw [← eWo]; exact (by repeat' (first | (with_reducible exact Below.refl _ _) | (with_reducible assumption) | (with_reducible refine below_alloc ?_ _ ?_) | (with_reducible refine below_set _ ?_ ?_) | (with_reducible refine Below.drew ?_) | (with_reducible refine below_dN ?_ _) | (apply below_thenA; assumption) | omega | (simp; done) | (simp; omega) | (simp [*]; done)))
      have TR := try_rsv (w.heap.size + 1) w.heap.size wr.heap.size aj n cj l avail (by omega) HL.out HF.out HAV.out Wo (hO.below hbo).row (hT.below hbo) (hT3.below hbo) t8
      have hBo := hB.trans (hbo.mono hsB)
      have hso := hBo.size
      have HBo := Lib.hid hBo
      obtain ⟨c, ec⟩ : ∃ c, rsC avail l = c := ⟨_, rfl⟩
      rw [ec] at TR
      have EC := Lib.hid ec
      have hl8 := t8.lt
      clear hO hT hT3 hbo hBo t8 ec hB
      go_wp2_with fail
      refine TR.mono ?_
      rintro e w3 ⟨rfl, h1, h2, hb⟩
      have hB3 : Below w.heap.size w w3 := hb.to HBo.out (by simp; omega) hso
      have HB3 := Lib.hid hB3
      clear TR hb hB3
      by_cases hc : c = 0
      · obtain ⟨xs, e1, a2, c2, t8, r8, hcc, hg⟩ := h1 hc
        have d8 := t8.cell 0 _ rfl
        have E1 := Lib.hid e1
        have R8 := Lib.hid r8
        clear h1 h2 t8 r8 e1
        go_wp2_with fail
        rw [EQ.out]
        exact ⟨a2, n, c2, by rw [EC.out, hc]; rfl, fun _ => ⟨xs, E1.out, rfl, R8.out⟩, fun h => absurd (EC.out.trans hc) h, HB3.out⟩
      · have t8 := h2 hc
        have d8 := t8.cell 0 _ rfl
        clear h1 h2 t8
        go_wp2_with fail
        rw [EQ.out]
        exact ⟨none, 0, 0, by rw [EC.out]; rfl, fun h => absurd (EC.out.symm.trans h) hc, fun _ => rfl, HB3.out⟩
end Go.Proofs.Ythofammjbicogaa
