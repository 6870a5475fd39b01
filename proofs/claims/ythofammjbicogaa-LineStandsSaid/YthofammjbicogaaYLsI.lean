/-
  The law LineStands.
-/
import Derived.Test.YthofammjbicogaaYLsH
import Derived.Test.YthofammjbicogaaYLsE
import Derived.Test.YthofammjbicogaaYLsJ
namespace Go.Proofs.Ythofammjbicogaa
open Go.RowKit
set_option linter.unusedSimpArgs false
set_option linter.unusedVariables false

set_option maxRecDepth 100000 in
set_option maxHeartbeats 6400000 in
theorem law_stands (v : Value) (av mo : Int) (h0 : 0 ≤ av) (h1 : av ≤ 65535) (g0 : 0 ≤ mo) (g1 : mo ≤ 255) (w : World) (hv : SmIn w v) :
    Calls Try.prog 4 #[v, .int .u16 av, .int .u8 mo] w fun e w' => e = .returned (.bool true) ∧ Below w.heap.size w w' := by
  have hmf : ∀ (fn : Fn) (first cap : Array Value) (w : World), (Instr.makeFunc fn first cap).run Try.prog w = .ok (.func fn first cap) w := fun _ _ _ _ => rfl
  obtain ⟨ao, n, cap, l, rfl, hn, hl, hr, hf⟩ := hv
  obtain ⟨k, ek⟩ : ∃ k, k = min n 40 := ⟨_, rfl⟩
  have IT := fun W hr => law13_items ao n cap k l hn ek hl hf W hr
  have hs := itS_sm hf k
  have hq : ((l.take k).map itS).length = k := by rw [List.length_map, List.length_take, hl]; omega
  obtain ⟨q, eq⟩ : ∃ q, (l.take k).map itS = q := ⟨_, rfl⟩
  rw [eq] at IT hs hq
  have hk40 : k ≤ 40 := by omega
  obtain ⟨L, least, p1, _, _, _, p5, _⟩ := greedy_plain hs (by omega) av
  have hlL : L.length ≤ 40 := by have := fillR_len q av 0; rw [p1] at this; simp at this; omega
  have wav : IntKind.i64.wrap av = av := by simp [IntKind.wrap, IntKind.bits, IntKind.signed]; omega
  have TG := fun b0 bm b9 ao cap hc W h1 h2 h3 v h4 => try_sta1 b0 bm b9 ao k cap q av (by omega) hc hq hs.fit L p1 W h1 h2 h3 v h4
  have HP5 := Lib.hid p5
  have HS := Lib.hid hs
  have HQ := Lib.hid hq
  have HR := Lib.hid hr
  obtain ⟨Wa, eWa⟩ : ∃ W, w.alloc (.cells #[.int .u8 mo] 5) = W := ⟨_, rfl⟩
  have tm : Blk Wa w.heap.size #[.int .u8 mo] 5 := by rw [← eWa]; exact Blk.new w _ _ _ rfl
  have hBa : Below w.heap.size w Wa := by rw [← eWa]; exact (by repeat' (first | (with_reducible exact Below.refl _ _) | (with_reducible assumption) | (with_reducible refine below_alloc ?_ _ ?_) | (with_reducible refine below_set _ ?_ ?_) | (with_reducible refine Below.drew ?_) | (with_reducible refine below_dN ?_ _) | (apply below_thenA; assumption) | omega | (simp; done) | (simp; omega) | (simp [*]; done)))
  clear p1 p5 hs hq hr eq ek hl hf
  go_enter Try.func4, Try.ntmps4
  go_wp2_with fail
  refine (speaks13 _).mono ?_
  rintro e w1 ⟨rfl, hb⟩
  have hB1 := hBa.trans (hb.mono hBa.size)
  have ITx := IT w1 (HR.out.below hB1)
  have tm := tm.below hb
  clear hb IT eWa hBa
  go_wp2_with fail
  refine ITx.mono ?_
  rintro e w2 ⟨a1, c1, rfl, o1, hb⟩
  have hB2 := hB1.trans (hb.mono hB1.size)
  have hs2 := hB2.size
  have hsh := o1.shape
  have tm := tm.below hb
  have ltm := tm.lt
  obtain ⟨Wb, eWb⟩ : ∃ W, ((w2.alloc (.cells #[.slice a1 k c1] 26)).alloc (.cells #[.slice none 0 0] 44)).alloc (.cells #[.int .i64 av] 2) = W := ⟨_, rfl⟩
  have t5 : Blk Wb w2.heap.size #[.slice a1 k c1] 26 := by rw [← eWb]; exact ((Blk.new w2 _ _ _ rfl).alloc _).alloc _
  have t7 : Blk Wb (w2.heap.size + 1) #[.slice none 0 0] 44 := by rw [← eWb]; exact (Blk.new _ _ _ _ (by simp)).alloc _
  have t6 : Blk Wb (w2.heap.size + 1 + 1) #[.int .i64 av] 2 := by rw [← eWb]; exact Blk.new _ _ _ _ (by simp)
  have hbn : Below w2.heap.size w2 Wb := by rw [← eWb]; exact (by repeat' (first | (with_reducible exact Below.refl _ _) | (with_reducible assumption) | (with_reducible refine below_alloc ?_ _ ?_) | (with_reducible refine below_set _ ?_ ?_) | (with_reducible refine Below.drew ?_) | (with_reducible refine below_dN ?_ _) | (apply below_thenA; assumption) | omega | (simp; done) | (simp; omega) | (simp [*]; done)))
  have hB3 := hB2.trans (hbn.mono hs2)
  have r1 := o1.row.below hbn
  have hrf := o1.lt
  have T1 := TG w2.heap.size (w2.heap.size + 1 + 1) (w2.heap.size + 1) a1 c1 hsh.1 Wb r1 t5 t6 _ t7
  have KM := Lib.hid (tm.below hbn)
  have K5 := Lib.hid t5
  have K6 := Lib.hid t6
  have R1 := Lib.hid r1
  have HB3 := Lib.hid hB3
  have HRF := Lib.hid hrf
  clear hb t5 t6 t7 hbn hB1 hB2 hB3 o1 r1 hrf TG ITx tm
  go_wp2_with fail
  refine T1.mono ?_
  rintro e w3 ⟨rfl, hR, hbt⟩
  obtain ⟨a3, c3, q7, x3, f3⟩ := hR
  have km := KM.out.butl hbt (by simp; omega)
  have k5 := K5.out.butl hbt (by first | (simp; done) | (simp; omega))
  have k6 := K6.out.butl hbt (by first | (simp; done) | (simp; omega))
  have r1 := R1.out.butl hbt (fun g off e => by have := HRF.out g off e; simp; omega)
  have hB4 : Below w.heap.size w w3 := hbt.to HB3.out (by simp; omega) HB3.out.size
  have l5 := k5.lt
  have l6 := k6.lt
  have lm := km.lt
  have QM := Lib.hid km
  have Q5 := Lib.hid k5
  have Q6 := Lib.hid k6
  have Q7 := Lib.hid q7
  have X3 := Lib.hid x3
  have R1' := Lib.hid r1
  have HB4 := Lib.hid hB4
  have hrl : ∀ g off, a1 = some ⟨g, off, none⟩ → g < w3.heap.size := fun g off e => by have := HRF.out g off e; omega
  have HRL := Lib.hid hrl
  have d7 := q7.cell 0 _ rfl
  clear T1 hbt k5 k6 q7 x3 r1 hB4 eWb km hrl
  go_wp2_with fail
  go_loopg [11] L.length (fun gk s11 wr => ∃ (j a : Nat), j ≤ L.length ∧ gk = L.length - j ∧ s11 = .int .i64 ((j : Int)) ∧ a ≤ k ∧ FillOk q av least a (L.drop j) ∧ Below w3.heap.size w3 wr)
  case atStart => exact ⟨0, 0, by omega, by omega, rfl, by omega, by rw [List.drop_zero]; exact HP5.out, Below.refl _ _⟩
  case round =>
    clear d7
    obtain ⟨j, a, hj, rfl, rfl, hak, hfo, hB⟩ := hrel
    have hsB := hB.size
    have d7 := (Q7.out.below hB).cell 0 _ rfl
    by_cases hjk : j < L.length
    · have ix : (j : Int) < (L.length : Int) := by omega
      obtain ⟨g, off, rfl, hg, hcx⟩ := (X3.out.below hB).at hjk
      have hgv := lnV_get L j hjk
      rw [List.drop_eq_getElem_cons hjk] at hfo
      have ex : L[j] = L.getD j ln0 := by simp [List.getD, hjk]
      rw [ex] at hfo
      obtain ⟨x, exx⟩ : ∃ x, L.getD j ln0 = x := ⟨_, rfl⟩
      rw [exx] at hfo hgv
      obtain ⟨f1, f2, f3, f4, _, _, _, _, f9⟩ := hfo
      have e0 := hcx 0 (by omega)
      have e1 := hcx 1 (by omega)
      have e2 := hcx 2 (by omega)
      have e3 := hcx 3 (by omega)
      rw [hgv.1, Nat.add_zero, f1] at e0
      rw [hgv.2.1] at e1
      rw [hgv.2.2.1] at e2
      rw [hgv.2.2.2] at e3
      obtain ⟨t, et⟩ : ∃ t, x.t = t := ⟨_, rfl⟩
      obtain ⟨ww, eww⟩ : ∃ t, x.w = t := ⟨_, rfl⟩
      obtain ⟨hh, ehh⟩ : ∃ t, x.h = t := ⟨_, rfl⟩
      rw [et] at e1 f2 f3 f4 f9
      rw [eww] at e2 f4
      rw [ehh] at e3
      rw [HQ.out] at f3
      have F4 := Lib.hid f4
      have F9 := Lib.hid f9
      have hwb := ws_bnd HS.out a t
      rw [← f4] at hwb
      have hwb2 : ww ≤ 5242800 := by omega
      have hwb1 := hwb.1
      clear hcx hgv ex exx f1 et eww ehh f4 f9 hwb
      obtain ⟨W1, eW1⟩ : ∃ W, wr.alloc (.cells #[.int .i64 ((a : Int)), .int .i64 ((t : Int)), .int .i64 ww, .int .i64 hh] 36) = W := ⟨_, rfl⟩
      have tx : Blk W1 wr.heap.size #[.int .i64 ((a : Int)), .int .i64 ((t : Int)), .int .i64 ww, .int .i64 hh] 36 := by rw [← eW1]; exact Blk.new wr _ _ _ rfl
      have hb1 : Below wr.heap.size wr W1 := by rw [← eW1]; exact (by repeat' (first | (with_reducible exact Below.refl _ _) | (with_reducible assumption) | (with_reducible refine below_alloc ?_ _ ?_) | (with_reducible refine below_set _ ?_ ?_) | (with_reducible refine Below.drew ?_) | (with_reducible refine below_dN ?_ _) | (apply below_thenA; assumption) | omega | (simp; done) | (simp; omega) | (simp [*]; done)))
      have hB1 := hB.trans (hb1.mono hsB)
      have hz1 : wr.heap.size < W1.heap.size := tx.lt
      have hs31 := hB1.size
      have TX := Lib.hid tx
      have HB1 := Lib.hid hB1
      clear hB hb1 tx hB1
      obtain ⟨w4, rfl⟩ : ∃ x, x = wr := ⟨_, rfl⟩
      go_wp2_with fail
      go_loopg [13] 4 (fun gk s13 wx => ∃ (tn bt : Nat), 1 ≤ tn ∧ tn ≤ 5 ∧ gk = 5 - tn ∧ s13 = .pointer (some ⟨bt, 0, none⟩) ∧ Blk wx bt #[.int .i64 ((tn : Int))] 3 ∧ W1.heap.size ≤ bt ∧ Below W1.heap.size W1 wx)
      case atStart => exact ⟨1, W1.heap.size, by omega, by omega, by omega, rfl, Blk.new W1 _ _ _ rfl, Nat.le_refl _, (by repeat' (first | (with_reducible exact Below.refl _ _) | (with_reducible assumption) | (with_reducible refine below_alloc ?_ _ ?_) | (with_reducible refine below_set _ ?_ ?_) | (with_reducible refine Below.drew ?_) | (with_reducible refine below_dN ?_ _) | (apply below_thenA; assumption) | omega | (simp; done) | (simp; omega) | (simp [*]; done)))⟩
      case round =>
        obtain ⟨tn, bt, ht1, ht5, rfl, rfl, tb, hbt1, hBx⟩ := hrel
        have cb := tb.cell 0 _ rfl
        have hsx := hBx.size
        by_cases htn : tn ≤ 4
        · have itn : (tn : Int) ≤ 4 := by omega
          obtain ⟨m, em⟩ : ∃ m, t - a = m := ⟨_, rfl⟩
          have hm1 : 1 ≤ m := by omega
          have hbm : (t : Int) - (a : Int) = (m : Int) := by omega
          obtain ⟨la, ela⟩ : ∃ b, ((t : Int) == (q.length : Int)) = b := ⟨_, rfl⟩
          obtain ⟨F, eF⟩ : ∃ f, av - ww = f := ⟨_, rfl⟩
          obtain ⟨G, eG⟩ : ∃ f, av + mo - ww = f := ⟨_, rfl⟩
          have OA : ∀ W, RowV W a1 k 4 (itV q) → Calls Try.prog 18 #[.slice a1 k c1, .agg #[.int .i64 ((a : Int)), .int .i64 ((t : Int)), .int .i64 ww, .int .i64 hh], .int .i64 av, .int .i64 ((tn : Int))] W (OffAns (some (posL q a m F tn la)) W) := fun W hr => by
            have h := ln_offsets_ok a1 k c1 a t ww hh av tn q (by omega) hsh.1 HQ.out HS.out.fit f2 f3 (by unfold IFit; omega) (by unfold IFit; omega) W hr
            rw [offR_small HS.out f2 (by omega) ww av tn (by omega), ela, em, eF] at h
            exact h
          have OB : ∀ W, RowV W a1 k 4 (itV q) → Calls Try.prog 18 #[.slice a1 k c1, .agg #[.int .i64 ((a : Int)), .int .i64 ((t : Int)), .int .i64 ww, .int .i64 hh], .int .i64 (av + mo), .int .i64 ((tn : Int))] W (OffAns (some (posL q a m G tn la)) W) := fun W hr => by
            have h := ln_offsets_ok a1 k c1 a t ww hh (av + mo) tn q (by omega) hsh.1 HQ.out HS.out.fit f2 f3 (by unfold IFit; omega) (by unfold IFit; omega) W hr
            rw [offR_small HS.out f2 (by omega) ww (av + mo) tn (by omega), ela, em, eG] at h
            exact h
          obtain ⟨Wt, eWt⟩ : ∃ W, (wr.alloc (.cells #[.slice none 0 0] 31)).alloc (.cells #[.slice none 0 0] 31) = W := ⟨_, rfl⟩
          have ta : Blk Wt wr.heap.size #[.slice none 0 0] 31 := by rw [← eWt]; exact (Blk.new wr _ _ _ rfl).alloc _
          have tf : Blk Wt (wr.heap.size + 1) #[.slice none 0 0] 31 := by rw [← eWt]; exact Blk.new _ _ _ _ (by simp)
          have hbt' : Below wr.heap.size wr Wt := by rw [← eWt]; exact (by repeat' (first | (with_reducible exact Below.refl _ _) | (with_reducible assumption) | (with_reducible refine below_alloc ?_ _ ?_) | (with_reducible refine below_set _ ?_ ?_) | (with_reducible refine Below.drew ?_) | (with_reducible refine below_dN ?_ _) | (apply below_thenA; assumption) | omega | (simp; done) | (simp; omega) | (simp [*]; done)))
          have hB3w : Below w3.heap.size w3 Wt := HB1.out.trans ((hBx.trans (hbt'.mono hsx)).mono hs31)
          have hB1w : Below W1.heap.size W1 Wt := hBx.trans (hbt'.mono hsx)
          have hG : StaB w2.heap.size w4.heap.size (w2.heap.size + 1 + 1) bt w.heap.size wr.heap.size (wr.heap.size + 1) a1 k c1 q a t ww hh av tn mo Wt Wt :=
            ⟨ButL.of (Below.refl _ _), Q5.out.below hB3w, TX.out.below hB1w, Q6.out.below hB3w, tb.below hbt', QM.out.below hB3w, R1'.out.below hB3w, ⟨_, ta⟩, _, tf⟩
          have ltb := tb.lt
          have T2 := try_sta2 w2.heap.size w4.heap.size (w2.heap.size + 1 + 1) bt w.heap.size wr.heap.size (wr.heap.size + 1) a1 k c1 q a t ww hh av tn mo _ _ g0 g1 h0 h1 OA OB (by omega) (by omega) (by omega) (by omega) (by omega) (by omega) (by omega) (by omega) (by omega) (by omega) (by omega) Wt (fun g off e => by have := HRL.out g off e; omega) hG
          have TB := Lib.hid (tb.below hbt')
          have HB3W := Lib.hid hB3w
          have HB1W := Lib.hid hB1w
          clear OA OB ta tf hbt' hB3w hB1w hG tb hBx
          go_wp2_with fail
          refine T2.mono ?_
          rintro e w5 ⟨rfl, ⟨⟨aA, cA, tA, rA, fA⟩, ⟨aB, cB, tB, rB, fB⟩⟩, hbt5⟩
          have hB35 : Below w3.heap.size w3 w5 := hbt5.to HB3W.out (by simp; omega) HB3W.out.size
          have hB15 : Below W1.heap.size W1 w5 := hbt5.to HB1W.out (by simp; omega) HB1W.out.size
          have tb5 := TB.out.butl hbt5 (by simp; omega)
          have tx5 := TX.out.below hB15
          rw [posL_len] at tA rA tB rB
          obtain ⟨PA, ePA⟩ : ∃ x, posL q a m F tn la = x := ⟨_, rfl⟩
          obtain ⟨PB, ePB⟩ : ∃ x, posL q a m G tn la = x := ⟨_, rfl⟩
          rw [ePA] at rA
          rw [ePB] at rB
          have EPA := Lib.hid ePA
          have EPB := Lib.hid ePB
          have TA := Lib.hid tA
          have TBB := Lib.hid tB
          have RA := Lib.hid rA
          have RB := Lib.hid rB
          have TX5 := Lib.hid tx5
          have TB5 := Lib.hid tb5
          have HB35 := Lib.hid hB35
          have HB15 := Lib.hid hB15
          have cA0 := tA.cell 0 _ rfl
          have cB0 := tB.cell 0 _ rfl
          have cx0 := tx5.cell 0 _ rfl
          have cx1 := tx5.cell 1 _ rfl
          have hmm : ((m : Int) != (m : Int)) = false := by simp
          have EM := Lib.hid em
          have ELA := Lib.hid ela
          have EF := Lib.hid eF
          have EG := Lib.hid eG
          clear T2 hbt5 tA tB rA rB fA fB hB35 hB15 tb5 tx5 ePA ePB em ela eF eG eWt cb d7
          go_wp2_with fail
          obtain ⟨w6, rfl⟩ : ∃ x, x = w5 := ⟨_, rfl⟩
          go_loopg [17] m (fun gk s17 wx => ∃ (kk : Nat), kk ≤ m ∧ gk = m - kk ∧ s17 = .int .i64 ((kk : Int)) ∧ Below w6.heap.size w6 wx)
          case atStart => exact ⟨0, by omega, by omega, rfl, Below.refl _ _⟩
          case round =>
            clear cA0 cB0 cx0 cx1 hmm
            obtain ⟨kk, hkk, rfl, rfl, hBk⟩ := hrel
            have cA0 := (TA.out.below hBk).cell 0 _ rfl
            by_cases hkm : kk < m
            · have ikm : (kk : Int) < (m : Int) := by omega
              have cB0 := (TBB.out.below hBk).cell 0 _ rfl
              have cx0 := (TX5.out.below hBk).cell 0 _ rfl
              have hB3k := HB35.out.trans (hBk.mono HB35.out.size)
              have c5 := (Q5.out.below hB3k).cell 0 _ rfl
              obtain ⟨gA, oA, rfl, hgA, hcA⟩ := RA.out.at hkm
              obtain ⟨gB, oB, rfl, hgB, hcB⟩ := RB.out.at hkm
              have eA : PA.getD kk 0 = posF q a m F tn la kk := by rw [← EPA.out, posL_get _ _ _ _ _ _ hkm]
              have eB : PB.getD kk 0 = posF q a m G tn la kk := by rw [← EPB.out, posL_get _ _ _ _ _ _ hkm]
              have hFG : F ≤ G := by rw [← EF.out, ← EG.out]; omega
              have hmo := pos_more (l := q) a m hFG tn la hkm
              rw [← eA, ← eB] at hmo
              obtain ⟨y, ey⟩ : ∃ x, PB.getD kk 0 = x := ⟨_, rfl⟩
              obtain ⟨x0, ex0⟩ : ∃ x, PA.getD kk 0 = x := ⟨_, rfl⟩
              rw [ex0] at hcA hmo
              rw [ey] at hcB hmo
              have cA1 := (hBk.cell (p := ⟨gA, oA + kk, none⟩) hgA).trans hcA
              have cB1 := (hBk.cell (p := ⟨gB, oB + kk, none⟩) hgB).trans hcB
              have hyx : decide (y < x0) = false := by simp; omega
              have EX0 := Lib.hid ex0
              clear hcA hcB hmo hB3k eA eB hFG ex0 ey hgA hgB
              obtain ⟨w7, rfl⟩ : ∃ x, x = wr := ⟨_, rfl⟩
              go_upto_region 21 with (fail)
              go_cut [113] from 69 to 113 (fun s wx => s = .bool false ∧ ∃ nd, wx = w7.drewN nd)
              case first =>
                by_cases hk0 : kk = 0
                · have hk1 : decide ((0 : Int) < (kk : Int)) = false := decide_eq_false (by omega)
                  have hk2 : decide (0 < kk) = false := decide_eq_false (by omega)
                  clear hk0
                  go_quiet (fail)
                  go_wp2
                  go_meet
                  case rel => exact ⟨rfl, _, rfl⟩
                · have hk1 : decide ((0 : Int) < (kk : Int)) = true := decide_eq_true (by omega)
                  have hk2 : decide (0 < kk) = true := decide_eq_true (by omega)
                  have hkm1 : kk - 1 < m := by omega
                  have haq : a + kk - 1 < k := by have := EM.out; omega
                  obtain ⟨gA', oA', e', hgA', hcA'⟩ := RA.out.at hkm1
                  obtain ⟨rfl, rfl⟩ : gA = gA' ∧ oA = oA' := by simpa using e'
                  have eA1 : PA.getD (kk - 1) 0 = posF q a m F tn la (kk - 1) := by rw [← EPA.out, posL_get _ _ _ _ _ _ hkm1]
                  have eA0 : PA.getD kk 0 = posF q a m F tn la kk := by rw [← EPA.out, posL_get _ _ _ _ _ _ hkm]
                  have hst := pos_step (l := q) a m F tn la (j := kk - 1) (by omega)
                  rw [show kk - 1 + 1 = kk by omega, ← eA1, ← eA0, show a + (kk - 1) = a + kk - 1 by omega, EX0.out] at hst
                  have hbd := pos_bnd HS.out a m (F := F) (B := 5242800) tn la hkm1 (by have := EM.out; omega) (by have := EF.out; omega)
                  rw [← eA1] at hbd
                  have hib := HS.out (a + kk - 1)
                  obtain ⟨x1, ex1⟩ : ∃ x, PA.getD (kk - 1) 0 = x := ⟨_, rfl⟩
                  obtain ⟨iw, eiw⟩ : ∃ x, (q.getD (a + kk - 1) it0).w = x := ⟨_, rfl⟩
                  obtain ⟨is, eis⟩ : ∃ x, (q.getD (a + kk - 1) it0).s = x := ⟨_, rfl⟩
                  obtain ⟨gq, oq, rfl, hgq, hcq⟩ := R1'.out.at haq
                  have hiq := itV_get q (a + kk - 1) (by rw [HQ.out]; exact haq)
                  rw [ex1] at hst hbd hcA'
                  rw [eiw, eis] at hst
                  rw [eiw, eis] at hib
                  have hq0 := hcq 0 (by omega)
                  rw [hiq.1, eiw, Nat.add_zero] at hq0
                  have hq1 := hcq 1 (by omega)
                  rw [hiq.2.1, eis] at hq1
                  have hB3k := HB35.out.trans (hBk.mono HB35.out.size)
                  have cA2 := (hBk.cell (p := ⟨gA, oA + (kk - 1), none⟩) hgA').trans hcA'
                  have cq0 := (hB3k.cell (p := ⟨gq, oq + (a + kk - 1) * 4, none⟩) hgq).trans hq0
                  have cq1 := (hB3k.cell (p := ⟨gq, oq + (a + kk - 1) * 4 + 1, none⟩) hgq).trans hq1
                  have hlt : decide (x0 < x1 + iw + is) = false := by simp; omega
                  have ik1 : (kk : Int) - 1 = ((kk - 1 : Nat) : Int) := by omega
                  have ik2 : (a : Int) + (kk : Int) - 1 = ((a + kk - 1 : Nat) : Int) := by omega
                  have b1 : -20000000 ≤ x1 := by omega
                  have b2 : x1 ≤ 20000000 := by omega
                  have b3 : 0 ≤ iw := hib.1.1
                  have b4 : iw ≤ 65535 := hib.1.2
                  have b5 : 0 ≤ is := hib.2.1.1
                  have b6 : is ≤ 65535 := hib.2.1.2
                  clear hk0 hst hbd hib hiq hcq hq0 hq1 hcA' hgA' hgq hB3k eA1 eA0 ex1 eiw eis e'
                  go_quiet (fail)
                  go_wp2
                  go_meet
                  case rel => exact ⟨rfl, _, rfl⟩
              case rest =>
                obtain ⟨rfl, nd, rfl⟩ := hcut
                go_wp2_with fail
                go_roundg (m - (kk + 1))
                case measure => omega
                case rel => exact ⟨kk + 1, by omega, rfl, by go_num, below_dN hBk _⟩
            · obtain rfl : m = kk := by omega
              have ikm : ¬ (m : Int) < (m : Int) := by omega
              have hk0m : 0 < m := by omega
              have hkm1 : m - 1 < m := by omega
              have htk1 : t - 1 < k := by omega
              have hB3k := HB35.out.trans (hBk.mono HB35.out.size)
              obtain ⟨gA, oA, rfl, hgA, hc0⟩ := RA.out.at hk0m
              obtain ⟨gA', oA', e', hgA', hc1⟩ := RA.out.at hkm1
              obtain ⟨rfl, rfl⟩ : gA = gA' ∧ oA = oA' := by simpa using e'
              obtain ⟨gq, oq, rfl, hgq, hcq⟩ := R1'.out.at htk1
              have hq0 := hcq 0 (by omega)
              rw [(itV_get q (t - 1) (by rw [HQ.out]; exact htk1)).1, Nat.add_zero] at hq0
              have eA1 : PA.getD (m - 1) 0 = posF q a m F tn la (m - 1) := by rw [← EPA.out, posL_get _ _ _ _ _ _ hkm1]
              have eA0 : PA.getD 0 0 = sprAt F tn := by rw [← EPA.out, posL_get _ _ _ _ _ _ hk0m, pos_zero]
              have hpe := pos_end (l := q) f2 F tn la
              rw [EM.out, ← eA1, ← F4.out, gP_last] at hpe
              have hib := HS.out (t - 1)
              have hbd := pos_bnd HS.out a m (F := F) (B := 5242800) tn la hkm1 (by have := EM.out; omega) (by have := EF.out; omega)
              rw [← eA1] at hbd
              have hb0 := sprAt_bnd (F := F) (text := tn) (B := 5242800) (by have := EF.out; omega)
              rw [← eA0] at hb0
              obtain ⟨x1, ex1⟩ : ∃ x, PA.getD (m - 1) 0 = x := ⟨_, rfl⟩
              obtain ⟨x0, ex0⟩ : ∃ x, PA.getD 0 0 = x := ⟨_, rfl⟩
              obtain ⟨iw, eiw⟩ : ∃ x, (q.getD (t - 1) it0).w = x := ⟨_, rfl⟩
              rw [ex1] at hpe hbd hc1
              rw [ex0] at hb0 hc0 eA0
              rw [eiw] at hpe hib hq0
              obtain ⟨en, een⟩ : ∃ x, x1 + iw = x := ⟨_, rfl⟩
              rw [een] at hpe
              have PL := stands_plain F ww av x0 en _ m tn la EF.out eA0 hpe rfl
              have cA1 := (hBk.cell (p := ⟨gA, oA + (m - 1), none⟩) hgA).trans hc1
              have cA2 := (hBk.cell (p := ⟨gA, oA, none⟩) hgA).trans (by simpa using hc0)
              have cq0 := (hB3k.cell (p := ⟨gq, oq + (t - 1) * 4, none⟩) hgq).trans hq0
              have cx1 := (TX5.out.below hBk).cell 1 _ rfl
              have cx2 := (TX5.out.below hBk).cell 2 _ rfl
              have cb0 := (TB5.out.below hBk).cell 0 _ rfl
              have c5 := (Q5.out.below hB3k).cell 0 _ rfl
              have c6 := (Q6.out.below hB3k).cell 0 _ rfl
              have im1 : (m : Int) - 1 = ((m - 1 : Nat) : Int) := by omega
              have it1 : (t : Int) - 1 = ((t - 1 : Nat) : Int) := by omega
              have b1 : -20000000 ≤ x1 := by omega
              have b2 : x1 ≤ 20000000 := by omega
              have b3 : 0 ≤ iw := hib.1.1
              have b4 : iw ≤ 65535 := hib.1.2
              have b5 : -5242800 ≤ x0 := hb0.1
              have b6 : x0 ≤ 5242800 := hb0.2
              have hPL := Lib.hid PL
              have EF2 := EF.out
              have HC0 := Lib.hid hc0
              have HGA := Lib.hid hgA
              clear hpe hib hbd hb0 hc0 hc1 hcq hq0 eA1 eA0 ex1 ex0 eiw e' hgA' hgA hgq PL hB3k EF2
              go_wp2_with fail
              go_quiet (fail)
              obtain ⟨w8, e8⟩ : ∃ x, wr.drewN nq = x := ⟨_, rfl⟩
              have hb8 : Below wr.heap.size wr w8 := by rw [← e8]; exact below_dN (Below.refl _ _) _
              rw [e8]
              have hB68 := hBk.trans (hb8.mono hBk.size)
              have hB38 := HB35.out.trans (hB68.mono HB35.out.size)
              have hB18 := HB15.out.trans (hB68.mono HB15.out.size)
              clear cA0 cA1 cA2 cq0 cx1 cx2 cb0 c5 c6 im1 it1
              have cA0 := (TA.out.below hB68).cell 0 _ rfl
              have cA2 := (hB68.cell (p := ⟨gA, oA, none⟩) HGA.out).trans (by simpa using HC0.out)
              have tx8 := TX5.out.below hB68
              have cx1 := tx8.cell 1 _ rfl
              have cx2 := tx8.cell 2 _ rfl
              have cb0 := (TB5.out.below hB68).cell 0 _ rfl
              have c5 := (Q5.out.below hB38).cell 0 _ rfl
              have c6 := (Q6.out.below hB38).cell 0 _ rfl
              have EF2 := EF.out
              have b7 : -20000000 ≤ en := by omega
              have b8 : en ≤ 30000000 := by omega
              have HB68 := Lib.hid hB68
              have HB38 := Lib.hid hB38
              have HB18 := Lib.hid hB18
              have HBk := Lib.hid hBk
              clear hb8 hB68 hB38 hB18 tx8 hBk b1 b2 b3 b4 een e8
              go_upto_region 25 with (fail)
              obtain ⟨w9, e9⟩ : ∃ x, x = w8 := ⟨_, rfl⟩
              go_cut [132] from 132 to 146 (fun s wx => s = .bool false ∧ w8 = wx)
              case first =>
                by_cases h1 : tn = 1
                · have t1 : ((tn : Int) == 1) = true := by simp; omega
                  have ⟨p1, p2⟩ := hPL.out.1 h1
                  have p3 : (x0 != 0) = false := by simp; exact p1
                  have p4 : (en != ww) = false := by simp; exact p2
                  clear h1 p1 p2
                  go_wp2
                  go_meet
                  case rel => exact ⟨rfl, rfl⟩
                · have t1 : ((tn : Int) == 1) = false := by simp; omega
                  clear h1
                  go_wp2
                  go_meet
                  case rel => exact ⟨rfl, rfl⟩
              case rest =>
                obtain ⟨rfl, rfl⟩ := hcut
                go_upto_region 26 with (fail)
                go_cut [132] from 147 to 153 (fun s wx => s = .bool false ∧ w8 = wx)
                case first =>
                  by_cases h1 : tn = 2
                  · have t1 : ((tn : Int) == 2) = true := by simp; omega
                    have p4 : (en != av) = false := by simp; exact hPL.out.2.1 h1
                    clear h1
                    go_wp2
                    go_meet
                    case rel => exact ⟨rfl, rfl⟩
                  · have t1 : ((tn : Int) == 2) = false := by simp; omega
                    clear h1
                    go_wp2
                    go_meet
                    case rel => exact ⟨rfl, rfl⟩
                case rest =>
                  obtain ⟨rfl, rfl⟩ := hcut
                  go_upto_region 28 with (fail)
                  go_cut [154] from 154 to 175 (fun s wx => s = .bool false ∧ ∃ nd, wx = w8.drewN nd)
                  case first =>
                    by_cases h1 : tn = 3
                    · have t1 : ((tn : Int) == 3) = true := by simp; omega
                      have ⟨p1, p2⟩ := hPL.out.2.2.1 h1
                      have p3 : decide (av - en < x0) = false := by simp; exact p1
                      have p4 : decide (x0 + 1 < av - en) = false := by simp; exact p2
                      clear h1 p1 p2
                      go_quiet (fail)
                      go_wp2
                      go_meet
                      case rel => exact ⟨rfl, _, rfl⟩
                    · have t1 : ((tn : Int) == 3) = false := by simp; omega
                      clear h1
                      go_quiet (fail)
                      go_wp2
                      go_meet
                      case rel => exact ⟨rfl, _, rfl⟩
                  case rest =>
                    obtain ⟨rfl, nd2, rfl⟩ := hcut
                    obtain ⟨w10, e10⟩ : ∃ x, w8.drewN nd2 = x := ⟨_, rfl⟩
                    have hb10 : Below w8.heap.size w8 w10 := by rw [← e10]; exact below_dN (Below.refl _ _) _
                    rw [e10]
                    have hB610 := HB68.out.trans (hb10.mono HB68.out.size)
                    have hB310 := HB38.out.trans (hb10.mono HB38.out.size)
                    have hB110 := HB18.out.trans (hb10.mono HB18.out.size)
                    clear cA0 cA2 cx1 cx2 cb0 c5 c6
                    have cA0 := (TA.out.below hB610).cell 0 _ rfl
                    have cA2 := (hB610.cell (p := ⟨gA, oA, none⟩) HGA.out).trans (by simpa using HC0.out)
                    have tx10 := TX5.out.below hB610
                    have cx1 := tx10.cell 1 _ rfl
                    have cx2 := tx10.cell 2 _ rfl
                    have cb0 := (TB5.out.below hB610).cell 0 _ rfl
                    have c5 := (Q5.out.below hB310).cell 0 _ rfl
                    have c6 := (Q6.out.below hB310).cell 0 _ rfl
                    have HB110 := Lib.hid hB110
                    clear hb10 hB610 hB310 hB110 tx10 e10
                    go_upto_region 30 with (fail)
                    go_cut [176] from 176 to 205 (fun s wx => s = .bool false ∧ w10 = wx)
                    case first =>
                      by_cases h1 : tn = 4
                      · have t1 : ((tn : Int) == 4) = true := by simp; omega
                        have ⟨p1, p2⟩ := hPL.out.2.2.2 h1
                        have p3 : (x0 != 0) = false := by simp; exact p1
                        by_cases h2 : 1 < m
                        · have n2 : decide ((1 : Int) < (m : Int)) = true := decide_eq_true (by omega)
                          have n3 : decide (1 < m) = true := decide_eq_true h2
                          by_cases h3 : t < k
                          · have n4 : decide ((t : Int) < (k : Int)) = true := decide_eq_true (by omega)
                            have n5 : decide (t < k) = true := decide_eq_true h3
                            have hla : la = false := by rw [← ELA.out, HQ.out]; simp; omega
                            by_cases h4 : 0 < F
                            · have n6 : decide ((0 : Int) < F) = true := decide_eq_true h4
                              have p4 : (en != av) = false := by simp; exact p2 h2 hla h4
                              clear h1 h2 h3 h4 p1 p2
                              go_wp2
                              go_meet
                              case rel => exact ⟨rfl, rfl⟩
                            · have n6 : decide ((0 : Int) < F) = false := decide_eq_false h4
                              clear h1 h2 h3 h4 p1 p2
                              go_wp2
                              go_meet
                              case rel => exact ⟨rfl, rfl⟩
                          · have n4 : decide ((t : Int) < (k : Int)) = false := decide_eq_false (by omega)
                            have n5 : decide (t < k) = false := decide_eq_false h3
                            clear h1 h2 h3 p1 p2
                            go_wp2
                            go_meet
                            case rel => exact ⟨rfl, rfl⟩
                        · have n2 : decide ((1 : Int) < (m : Int)) = false := decide_eq_false (by omega)
                          have n3 : decide (1 < m) = false := decide_eq_false h2
                          clear h1 h2 p1 p2
                          go_wp2
                          go_meet
                          case rel => exact ⟨rfl, rfl⟩
                      · have t1 : ((tn : Int) == 4) = false := by simp; omega
                        clear h1
                        go_wp2
                        go_meet
                        case rel => exact ⟨rfl, rfl⟩
                    case rest =>
                      obtain ⟨rfl, rfl⟩ := hcut
                      have itn5 : tn + 1 ≤ 5 := by omega
                      clear cA0 cA2 cx1 cx2 c5 c6
                      go_wp2_with fail
                      go_roundg (5 - (tn + 1))
                      case measure => omega
                      case rel => exact ⟨tn + 1, w10.heap.size, by omega, by omega, rfl, rfl, by simpa using Blk.new w10 _ _ _ rfl, HB110.out.size, HB110.out.trans (Below.mono (show Below w10.heap.size w10 _ from (by repeat' (first | (with_reducible exact Below.refl _ _) | (with_reducible assumption) | (with_reducible refine below_alloc ?_ _ ?_) | (with_reducible refine below_set _ ?_ ?_) | (with_reducible refine Below.drew ?_) | (with_reducible refine below_dN ?_ _) | (apply below_thenA; assumption) | omega | (simp; done) | (simp; omega) | (simp [*]; done)))) HB110.out.size)⟩
        · have itn : ¬ (tn : Int) ≤ 4 := by omega
          have hB3x := HB1.out.trans (hBx.mono hs31)
          go_wp2_with fail
          go_roundg (L.length - (j + 1))
          case measure => omega
          case rel => exact ⟨j + 1, t, by omega, rfl, by go_num, f3, F9.out, hB3x⟩
    · obtain rfl : j = L.length := by omega
      have ix : ¬ (L.length : Int) < (L.length : Int) := by omega
      have hBf := HB4.out.trans (hB.mono HB4.out.size)
      go_wp2_with fail
      go_ret
      exact ⟨rfl, hBf⟩
end Go.Proofs.Ythofammjbicogaa
