/-
  The law LineOffsets.
-/
import Derived.Test.YthofammjbicogaaYLnQ
import Derived.Test.YthofammjbicogaaZ6
import Derived.Test.YthofammjbicogaaYLnL
namespace Go.Proofs.Ythofammjbicogaa
open Go.RowKit
set_option linter.unusedSimpArgs false
set_option linter.unusedVariables false

theorem roff_row {r : Option (List Int)} {w w' : World} {e : Ending} (h : ROffAns r w e w') : ∃ ao c, e = .returned (.tuple #[.slice ao (r.getD []).length c, .int .i64 (eI r)]) ∧ RowI w' ao (r.getD []).length (r.getD []) ∧ (r.getD []).length ≤ 9223372036854775807 ∧ Below w.heap.size w w' := by
  obtain ⟨h1, h2, hb⟩ := h
  cases r with
  | none => exact ⟨none, 0, h2 rfl, RowI.nil _ _, Nat.zero_le _, hb⟩
  | some L =>
    obtain ⟨ao, c, e, ho⟩ := h1 L rfl
    exact ⟨ao, c, e, ho.row, (by have h3 : L.length ≤ c := ho.shape.1; have h4 : c ≤ maxLen := ho.shape.2; unfold maxLen at h4; show L.length ≤ _; omega), hb⟩
theorem eI_nn (r : Option (List Int)) : ¬ eI r < 0 := by unfold eI; split <;> decide
set_option maxRecDepth 100000 in
set_option maxHeartbeats 3200000 in
theorem law_offsets (v : Value) (k : Nat) (l : List It) (F T wx ax tx : Int) (hwx : IFit wx) (hax : IFit ax) (w : World) (hv : ItP w v k l) :
    Calls Try.prog 3 #[.agg #[v, .int .i64 F, .int .i64 T, .int .i64 wx, .int .i64 ax, .int .i64 tx]] w fun e w' => e = .returned (.bool true) ∧ Below w.heap.size w w' := by
  have hmf : ∀ (fn : Fn) (first cap : Array Value) (w : World), (Instr.makeFunc fn first cap).run Try.prog w = .ok (.func fn first cap) w := fun _ _ _ _ => rfl
  have hk30 : k ≤ 30 := by obtain ⟨_, _, _, _, _, ek, _⟩ := hv; omega
  have hl : l.length = k := by obtain ⟨_, _, _, _, _, _, hl, _⟩ := hv; exact hl
  have hf : ItFit l := by obtain ⟨_, _, _, _, _, _, _, _, hf⟩ := hv; exact hf
  have HV := Lib.hid hv
  have HL := Lib.hid hl
  have HF := Lib.hid hf
  obtain ⟨Wa, eWa⟩ : ∃ W, w.alloc (.cells #[v, .int .i64 F, .int .i64 T, .int .i64 wx, .int .i64 ax, .int .i64 tx] 24) = W := ⟨_, rfl⟩
  have t1 : Blk Wa w.heap.size #[v, .int .i64 F, .int .i64 T, .int .i64 wx, .int .i64 ax, .int .i64 tx] 24 := by rw [← eWa]; exact Blk.new w _ _ _ rfl
  have hBa : Below w.heap.size w Wa := by rw [← eWa]; exact (by repeat' (first | (with_reducible exact Below.refl _ _) | (with_reducible assumption) | (with_reducible refine below_alloc ?_ _ ?_) | (with_reducible refine below_set _ ?_ ?_) | (with_reducible refine Below.drew ?_) | (with_reducible refine below_dN ?_ _) | (apply below_thenA; assumption) | omega | (simp; done) | (simp; omega) | (simp [*]; done)))
  have hW : IFit (wx / 262144) := by unfold IFit at *; omega
  have hWn : IFit (-(wx / 262144)) := by unfold IFit at *; omega
  have hA : IFit (ax / 262144) := by unfold IFit at *; omega
  obtain ⟨ww, eW⟩ : ∃ x, wx / 262144 = x := ⟨_, rfl⟩
  obtain ⟨av, eA⟩ : ∃ x, ax / 262144 = x := ⟨_, rfl⟩
  rw [eW] at hW hWn
  rw [eA] at hA
  have T1 := fun b3 b1 b5 b6 b7 ao cap (hc : k ≤ cap) Wx h1 h2 h3 h4 h5 h6 => try_off b3 b1 b5 b6 b7 ao k cap l v F T ww av tx wx ax (by omega) hc hl hf hW hA Wx h1 h2 h3 h4 h5 h6
  have RF := fun (h : farP l F T ww av) ao cap W' => r13_off_f ao k cap F T ww 0 av tx l hl hWn hA h W'
  have RN := fun (h : ¬ farP l F T ww av) ao cap W' hr => (r13_off ao k cap F T ww 0 av tx l (by omega) hl hf h W' hr).mono fun _ _ x => roff_row x
  have hnn := eI_nn (offP l F T ww av tx)
  obtain ⟨L, eL⟩ : ∃ x, (offP l F T ww av tx).getD [] = x := ⟨_, rfl⟩
  obtain ⟨er, eer⟩ : ∃ x, eI (offP l F T ww av tx) = x := ⟨_, rfl⟩
  rw [eer] at hnn
  simp only [eL, eer] at T1 RN
  obtain ⟨far, efar⟩ : ∃ p : Prop, farP l F T ww av = p := ⟨_, rfl⟩
  rw [efar] at RF RN
  clear hv hl hf hwx hax eL eer efar hWn hW hA
  have EW := Lib.hid eW
  have EA := Lib.hid eA
  clear eW eA
  go_enter Try.func3, Try.ntmps3
  go_wp2_with fail
  refine (speaks13 _).mono ?_
  rintro e w1 ⟨rfl, hb⟩
  have t1 := t1.below hb
  have hB1 := hBa.trans (hb.mono hBa.size)
  have hs1 := hB1.size
  have BT := law13_both v k l w1 (HV.out.below hB1)
  have c1 := t1.cell 0 _ rfl
  clear hb hBa eWa
  go_wp2_with fail
  refine BT.mono ?_
  rintro e w2 ⟨a1, c1', a2, c2, rfl, o1, o2, hb⟩
  have k1 := t1.below hb
  have hB2 := hB1.trans (hb.mono hs1)
  have hs2 := hB2.size
  have hsh := o1.shape
  have l1 := k1.lt
  clear hb t1 BT c1
  obtain ⟨Wb, eWb⟩ : ∃ W, w2.alloc (.cells #[.slice a1 k c1'] 26) = W := ⟨_, rfl⟩
  have hbn : Below w2.heap.size w2 Wb := by rw [← eWb]; exact (by repeat' (first | (with_reducible exact Below.refl _ _) | (with_reducible assumption) | (with_reducible refine below_alloc ?_ _ ?_) | (with_reducible refine below_set _ ?_ ?_) | (with_reducible refine Below.drew ?_) | (with_reducible refine below_dN ?_ _) | (apply below_thenA; assumption) | omega | (simp; done) | (simp; omega) | (simp [*]; done)))
  have t3 : Blk Wb w2.heap.size #[.slice a1 k c1'] 26 := by rw [← eWb]; exact Blk.new w2 _ _ _ rfl
  have t1 := k1.below hbn
  have hzb : Wb.heap.size = w2.heap.size + 1 := by rw [← eWb]; simp
  have r1 := o1.row.below hbn
  have r2 := o2.row.below hbn
  have hB := hB2.trans (hbn.mono hs2)
  have hr1f := o1.lt
  have hr2f := o2.lt
  clear o1 o2 hbn k1 hB2 hB1
  go_wp2_with fail
  have l1' : w.heap.size < Wb.heap.size := t1.lt
  have hzB := Lib.hid hzb
  have hbb := Below.refl Wb.heap.size Wb
  have eW := EW.out
  have eA := EA.out
  clear eWb hzb
  go_upto_region 4 with (fail)
  rename_i K0 hK0
  refine wp_region_calm (fun w' => Below Wb.heap.size Wb w' ∧ Blk w' w.heap.size #[v, .int .i64 F, .int .i64 T, .int .i64 wx, .int .i64 ax, .int .i64 tx] 24 ∧ Wb.heap.size ≤ w'.heap.size) [] (fun w' => True) [Is (.pointer (some ⟨w.heap.size, 3, none⟩)), Is (.int .i64 wx), Is (.int .i64 ww), Is (.pointer (some ⟨w.heap.size, 4, none⟩)), Is (.int .i64 ax), Is (.int .i64 av), bxV Wb.heap.size 2 1, bxV Wb.heap.size 2 1, bxC 6 Wb.heap.size 2 #[.int .i64 ww], bxC 7 Wb.heap.size 2 #[.int .i64 av]] [6, 7] (by kernel_rfl) (by kernel_rfl) (by kernel_rfl) (by kernel_rfl) ⟨hbb.drew, t1, Nat.le_refl _⟩ trivial ?_ ?_ ?_ ?_ ?_
  · rintro W W' ⟨hBB, tP, hl⟩ hb
    exact ⟨hBB.trans (hb.mono hBB.size), tP.below hb, Nat.le_trans hl hb.size⟩
  · exact fun _ _ _ _ _ => trivial
  · intro k vs W hk h
    rcases (by simpa using hk : k = 6 ∨ k = 7) with rfl | rfl <;> (obtain ⟨b, cs, e, h1, h2, h3⟩ := h; exact ⟨b, e, h2.lt⟩)
  · intro Q; clear hK0 hB t1 hbb
    refine ⟨?_, ?_, ?_, ?_, ?_, ?_, ?_, ?_, ?_, ?_, trivial⟩
    · intro vs W hW hW0 hd hne hold K hK hA hL; clear hne hA hL; have hBB := hW.1; have tP := hW.2.1; have hl := hW.2.2; simp only [puts, Act.put, List.setIfInBounds_toArray, List.set_cons_zero, List.set_cons_succ, Nat.zero_add, Nat.reduceAdd] at hK ⊢; clear hd hold; go_simp; exact hK.out rfl _ _ (Below.refl _ _) rfl
    · intro vs W hW hW0 hd hne hold K hK hA hL; clear hne hA hL; have hBB := hW.1; have tP := hW.2.1; have hl := hW.2.2; simp only [puts, Act.put, List.setIfInBounds_toArray, List.set_cons_zero, List.set_cons_succ, Nat.zero_add, Nat.reduceAdd] at hK ⊢; have eb : vs 0 = _ := hd 0 (by kernel_rfl); have q1 := tP.cell 3 _ rfl; clear hd hold; simp only [eb] at hK; go_simp; exact hK.out rfl _ _ (Below.refl _ _) rfl
    · intro vs W hW hW0 hd hne hold K hK hA hL; clear hne hA hL; have hBB := hW.1; have tP := hW.2.1; have hl := hW.2.2; simp only [puts, Act.put, List.setIfInBounds_toArray, List.set_cons_zero, List.set_cons_succ, Nat.zero_add, Nat.reduceAdd] at hK ⊢; have e1 : vs 1 = _ := hd 1 (by kernel_rfl); clear hd hold; simp only [e1] at hK; go_simp; exact hK.out rfl _ _ (Below.refl _ _) rfl
    · intro vs W hW hW0 hd hne hold K hK hA hL; clear hne hA hL; have hBB := hW.1; have tP := hW.2.1; have hl := hW.2.2; simp only [puts, Act.put, List.setIfInBounds_toArray, List.set_cons_zero, List.set_cons_succ, Nat.zero_add, Nat.reduceAdd] at hK ⊢; clear hd hold; go_simp; exact hK.out rfl _ _ (Below.refl _ _) rfl
    · intro vs W hW hW0 hd hne hold K hK hA hL; clear hne hA hL; have hBB := hW.1; have tP := hW.2.1; have hl := hW.2.2; simp only [puts, Act.put, List.setIfInBounds_toArray, List.set_cons_zero, List.set_cons_succ, Nat.zero_add, Nat.reduceAdd] at hK ⊢; have eb : vs 3 = _ := hd 3 (by kernel_rfl); have q1 := tP.cell 4 _ rfl; clear hd hold; simp only [eb] at hK; go_simp; exact hK.out rfl _ _ (Below.refl _ _) rfl
    · intro vs W hW hW0 hd hne hold K hK hA hL; clear hne hA hL; have hBB := hW.1; have tP := hW.2.1; have hl := hW.2.2; simp only [puts, Act.put, List.setIfInBounds_toArray, List.set_cons_zero, List.set_cons_succ, Nat.zero_add, Nat.reduceAdd] at hK ⊢; have e4 : vs 4 = _ := hd 4 (by kernel_rfl); clear hd hold; simp only [e4] at hK; go_simp; exact hK.out rfl _ _ (Below.refl _ _) rfl
    · intro vs W hW hW0 hd hne hold K hK hA hL; clear hne hK hL; have hBB := hW.1; have tP := hW.2.1; have hl := hW.2.2; simp only [puts, Act.put, List.setIfInBounds_toArray, List.set_cons_zero, List.set_cons_succ, Nat.zero_add, Nat.reduceAdd] at hA ⊢; clear hd hold; go_simp; exact hA.out W.heap.size _ ((Below.refl _ _).alloc (Nat.le_refl _) _) (Nat.le_refl _) ⟨W.heap.size, _, rfl, hl, Blk.new _ _ _ _ rfl, rfl⟩
    · intro vs W hW hW0 hd hne hold K hK hA hL; clear hne hK hL; have hBB := hW.1; have tP := hW.2.1; have hl := hW.2.2; simp only [puts, Act.put, List.setIfInBounds_toArray, List.set_cons_zero, List.set_cons_succ, Nat.zero_add, Nat.reduceAdd] at hA ⊢; clear hd hold; go_simp; exact hA.out W.heap.size _ ((Below.refl _ _).alloc (Nat.le_refl _) _) (Nat.le_refl _) ⟨W.heap.size, _, rfl, hl, Blk.new _ _ _ _ rfl, rfl⟩
    · intro vs W hW hW0 hd hne hold K hK hA hL; clear hK hA; have hBB := hW.1; have tP := hW.2.1; have hl := hW.2.2; simp only [puts, Act.put, List.setIfInBounds_toArray, List.set_cons_zero, List.set_cons_succ, Nat.zero_add, Nat.reduceAdd] at hL ⊢; have ec : vs 2 = _ := hd 2 (by kernel_rfl); (have hxb : BxV Wb.heap.size 2 1 (vs 6) W := hd 6 (by kernel_rfl)); obtain ⟨b, cs0, eb, hlb, t0, hsz⟩ := hxb; obtain ⟨z0, q0⟩ := t0.cellx 0 (by omega); have p0 := t0.free 0; have tb := t0.set1 hsz (.int .i64 ww); have hbt := But.set (b := b) W 0 (.int .i64 ww); clear hd hold; simp only [ec, eb] at hL; have HSZ := Lib.hid hsz; clear hsz; have HNE := Lib.hid hne; clear hne; go_simp; have hne := HNE.out; have hsz := HSZ.out; have hnb : vs 7 ≠ .pointer (some ⟨b, 0, none⟩) := fun x => hne 6 7 (by decide) (by kernel_rfl) (by rw [eb, x]); refine hL.out rfl undef _ ⟨hbt.to hBB (by omega) hBB.size, tP.but hbt (by omega), Nat.le_trans hl hbt.size⟩ (fun _ => trivial) ⟨b, eb, hlb, tb⟩ ?_; exact claims_keep ⟨.inr is_keep, .inr is_keep, .inr is_keep, .inr is_keep, .inr is_keep, .inr is_keep, .inr fun h => BxV.but h hbt t0 tb (by rw [hsz]; rfl), .inr fun h => BxV.but h hbt t0 tb (by rw [hsz]; rfl), .inl rfl, .inr fun h => BxC.but h hbt hnb, trivial⟩
    · intro vs W hW hW0 hd hne hold K hK hA hL; clear hK hA; have hBB := hW.1; have tP := hW.2.1; have hl := hW.2.2; simp only [puts, Act.put, List.setIfInBounds_toArray, List.set_cons_zero, List.set_cons_succ, Nat.zero_add, Nat.reduceAdd] at hL ⊢; have ec : vs 5 = _ := hd 5 (by kernel_rfl); (have hxb : BxV Wb.heap.size 2 1 (vs 7) W := hd 7 (by kernel_rfl)); obtain ⟨b, cs0, eb, hlb, t0, hsz⟩ := hxb; obtain ⟨z0, q0⟩ := t0.cellx 0 (by omega); have p0 := t0.free 0; have tb := t0.set1 hsz (.int .i64 av); have hbt := But.set (b := b) W 0 (.int .i64 av); clear hd hold; simp only [ec, eb] at hL; have HSZ := Lib.hid hsz; clear hsz; have HNE := Lib.hid hne; clear hne; go_simp; have hne := HNE.out; have hsz := HSZ.out; have hnb : vs 6 ≠ .pointer (some ⟨b, 0, none⟩) := fun x => hne 7 6 (by decide) (by kernel_rfl) (by rw [eb, x]); refine hL.out rfl undef _ ⟨hbt.to hBB (by omega) hBB.size, tP.but hbt (by omega), Nat.le_trans hl hbt.size⟩ (fun _ => trivial) ⟨b, eb, hlb, tb⟩ ?_; exact claims_keep ⟨.inr is_keep, .inr is_keep, .inr is_keep, .inr is_keep, .inr is_keep, .inr is_keep, .inr fun h => BxV.but h hbt t0 tb (by rw [hsz]; rfl), .inr fun h => BxV.but h hbt t0 tb (by rw [hsz]; rfl), .inr fun h => BxC.but h hbt hnb, .inl rfl, trivial⟩
  · intro va WA hW hV hD
    obtain ⟨hBB, _, hl1⟩ := hW
    have h5 : BxC Wb.heap.size 2 #[.int .i64 ww] (va 6) WA := hV 8 (by decide)
    have h6 : BxC Wb.heap.size 2 #[.int .i64 av] (va 7) WA := hV 9 (by decide)
    obtain ⟨b5, e5, hl5, t5⟩ := h5
    obtain ⟨b6, e6, hl6, t6⟩ := h6
    clear hV hD eW eA
    simp only [puts, Act.put, List.setIfInBounds_toArray, List.set_cons_zero, List.set_cons_succ, Nat.zero_add, Nat.reduceAdd, e5, e6]
    refine hK0 _ _ ?_
    clear hK0 e5 e6
    obtain ⟨Wc, eWc⟩ : ∃ W, WA.alloc (.cells #[.slice none 0 0] 31) = W := ⟨_, rfl⟩
    have t7 : Blk Wc WA.heap.size #[.slice none 0 0] 31 := by rw [← eWc]; exact Blk.new _ _ _ _ rfl
    have hbn : Below WA.heap.size WA Wc := by rw [← eWc]; exact (by repeat' (first | (with_reducible exact Below.refl _ _) | (with_reducible assumption) | (with_reducible refine below_alloc ?_ _ ?_) | (with_reducible refine below_set _ ?_ ?_) | (with_reducible refine Below.drew ?_) | (with_reducible refine below_dN ?_ _) | (apply below_thenA; assumption) | omega | (simp; done) | (simp; omega) | (simp [*]; done)))
    have hbc : Below Wb.heap.size Wb Wc := hBB.trans (hbn.mono hl1)
    have q5 := t5.below hbn
    have q6 := t6.below hbn
    have q1 := t1.below hbc
    have q3 := t3.below hbc
    have x1 := r1.below hbc
    have x2 := r2.below hbc
    have hB3 := hB.trans (hbc.mono hB.size)
    have l5 := t5.lt
    have l6 := t6.lt
    have hl7 : Wb.heap.size ≤ WA.heap.size := by omega
    have hlc : WA.heap.size < Wc.heap.size := t7.lt
    have T2 := T1 w2.heap.size w.heap.size b5 b6 WA.heap.size a1 c1' hsh.1 Wc x1 q3 q1 q5 q6 t7
    have X2 := Lib.hid x2
    have K1 := Lib.hid q1
    have K5 := Lib.hid q5
    have K6 := Lib.hid q6
    have HB3 := Lib.hid hB3
    have HR2 := Lib.hid hr2f
    have HZ := hzB.out
    have hne5 : b5 ≠ WA.heap.size := by omega
    have hne6 : b6 ≠ WA.heap.size := by omega
    have hne1 : w.heap.size ≠ WA.heap.size := by omega
    have l2 : w2.heap.size < Wb.heap.size := by omega
    clear t7 hbn hbc t5 t6 t1 t3 r1 r2 q5 q6 q1 q3 x1 x2 hB hB3 hBB T1 hr1f hr2f hzB HZ
    go_wp2_with fail
    refine T2.mono ?_
    rintro e w3 ⟨rfl, hR, hbt⟩
    have l3 := hbt.size
    have k1 := K1.out.butl hbt (by first | (simp; done) | (simp; omega))
    have k5 := K5.out.butl hbt (by first | (simp; done) | (simp; omega))
    have k6 := K6.out.butl hbt (by first | (simp; done) | (simp; omega))
    have x2 := X2.out.butl hbt (fun g off e => by have := HR2.out g off e; simp; omega)
    have hB4 : Below w.heap.size w w3 := hbt.to HB3.out (by simp; omega) HB3.out.size
    obtain ⟨a3, c3, q7, x3, f3⟩ := hR
    have c1 := k1.cell 1 _ rfl
    have c2' := k1.cell 2 _ rfl
    have c5 := k1.cell 5 _ rfl
    have d5 := k5.cell 0 _ rfl
    have d6 := k6.cell 0 _ rfl
    have Q7 := Lib.hid q7
    have X3 := Lib.hid x3
    have HB4 := Lib.hid hB4
    clear T2 hbt k1 k5 k6 q7 x3 f3 hB4 hl5 hl6 hl1 l5 l6 hl7 hlc hne5 hne6 hne1 eWc l3 hsh
    by_cases hfar : far
    · have RF2 := RF hfar a2 c2 w3
      clear RF RN hfar
      go_wp2_with fail
      refine RF2.mono ?_
      rintro e w4 ⟨rfl, hb⟩
      have hB5 := HB4.out.trans (hb.mono HB4.out.size)
      clear hb
      go_wp2_with fail
      go_ret
      exact ⟨rfl, hB5⟩
    · have RN2 := RN hfar a2 c2 w3 x2
      clear RF RN hfar
      go_wp2_with fail
      refine RN2.mono ?_
      rintro e w4 ⟨a4, c4, rfl, x4, hmx, hb⟩
      have hB5 := HB4.out.trans (hb.mono HB4.out.size)
      have q7 := Q7.out.below hb
      have x3 := X3.out.below hb
      have d7 := q7.cell 0 _ rfl
      have Q7 := Lib.hid q7
      have X3 := Lib.hid x3
      have X4 := Lib.hid x4
      have hln : ((L.length : Int) != (L.length : Int)) = false := by simp
      have hee : (er != er) = false := by simp
      clear hb q7 x3 x4 RN2 c1 c2' c5 d5 d6 x2
      go_wp2_with fail
      go_loopg [11] L.length (fun gk s11 wr => ∃ (j : Nat), j ≤ L.length ∧ gk = L.length - j ∧ s11 = .int .i64 ((j : Int)) ∧ Below w4.heap.size w4 wr)
      case atStart => exact ⟨0, by omega, by omega, rfl, Below.refl _ _⟩
      case round =>
        clear d7
        obtain ⟨j, hj, rfl, rfl, hb8⟩ := hrel
        have d7 := (Q7.out.below hb8).cell 0 _ rfl
        by_cases hjk : j < L.length
        · have ix : (j : Int) < (L.length : Int) := by omega
          obtain ⟨g, off, rfl, _, hcx⟩ := (X3.out.below hb8).at hjk
          obtain ⟨g', off', rfl, _, hcy⟩ := (X4.out.below hb8).at hjk
          obtain ⟨z, ez⟩ : ∃ z, L.getD j 0 = z := ⟨_, rfl⟩
          rw [ez] at hcx hcy
          clear ez
          go_wp2_with fail
          go_quiet (fail)
          go_wp2_with fail
          go_roundg (L.length - (j + 1))
          case measure => omega
          case rel => exact ⟨j + 1, by omega, rfl, by go_num, below_dN hb8 _⟩
        · obtain rfl : j = L.length := by omega
          have ix : ¬ (L.length : Int) < (L.length : Int) := by omega
          go_wp2_with fail
          go_ret
          exact ⟨rfl, hB5.trans (hb8.mono hB5.size)⟩
theorem law_offsets_in (v : Value) (F T wx ax tx : Int) (hwx : IFit wx) (hax : IFit ax) (w : World) (hv : ItIn w v) :
    Calls Try.prog 3 #[.agg #[v, .int .i64 F, .int .i64 T, .int .i64 wx, .int .i64 ax, .int .i64 tx]] w fun e w' => e = .returned (.bool true) ∧ Below w.heap.size w w' := by
  obtain ⟨k, l, h⟩ := itP_of hv
  exact law_offsets v k l F T wx ax tx hwx hax w h
end Go.Proofs.Ythofammjbicogaa
