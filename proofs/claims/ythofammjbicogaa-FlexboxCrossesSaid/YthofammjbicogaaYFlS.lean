/-
  The reference of layer 20: Cross; Cross of nothing.
-/
import Derived.Test.YthofammjbicogaaYFlR
import Derived.Laws.AppendOwnNone
namespace Go.Proofs.Ythofammjbicogaa
open Go.RowKit
set_option linter.unusedSimpArgs false
set_option linter.unusedVariables false

set_option maxRecDepth 100000 in
set_option maxHeartbeats 3200000 in
theorem ref20_cross (ao : Option Addr) (k cap : Nat) (xs : List Int) (avail gap ct : Int) (kn si : Bool) (hl : Lim xs k avail gap) (hk1 : 1 ≤ k) (hct : IFit ct) (w : World) (hx : RowI w ao k xs) :
    Calls Try.prog 52 #[.slice ao k cap, .int .i64 avail, .int .i64 gap, .bool kn, .bool si, .int .i64 ct] w (CrOut k (crAt xs k avail gap kn si ct) (crSz xs k avail gap kn si ct) w) := by
  obtain ⟨i0, hi, hz0, hz1, hz2⟩ := info_parts (show (Try.prog.info? 2).map (fun i => (i.zero, i.size, i.bytes)) = some (some (.int .i64 0), 1, 8) by kernel_rfl)
  obtain ⟨Q, eQ⟩ : ∃ Q : Ending → World → Prop, Q = CrOut k (crAt xs k avail gap kn si ct) (crSz xs k avail gap kn si ct) w := ⟨_, rfl⟩
  rw [← eQ]
  have EQ := Lib.hid eQ
  have hkp : 0 < k := hk1
  obtain ⟨gx, offx, rfl, hgx, _⟩ := hx.at hkp
  have hk30 := hl.k30
  have hxl : xs.length = k := hx.1
  have HX := Lib.hid hx
  have HL := Lib.hid hl
  have HXL := Lib.hid hxl
  have hk0 : ¬ (k : Int) = 0 := by omega
  have hkb : ((k : Int) == 0) = false := by simpa using hk0
  have hp0 := pre_lim hl.xs36
  have hF := room_lenB hl
  have hFl := room_lim hl hl.k30
  obtain ⟨F, eF⟩ : ∃ F, roomV xs avail gap k = F := ⟨_, rfl⟩
  rw [eF] at hF hFl
  have EF := Lib.hid eF
  have hzp : ∀ j, j ≤ k → -8796093022208 ≤ pre (zerL k) j ∧ pre (zerL k) j ≤ 8796093022208 := fun j _ => by unfold zerL; rw [pre_rep]; omega
  have PX := fun aw cw so sc sp W (hsp : ∀ j, j ≤ k → -8796093022208 ≤ pre sp j ∧ pre sp j ≤ 8796093022208) hx' hy' => ref20_places aw so k cw (k + 1) sc xs sp gap hk30 hl.gp (fun j hj => by have := hp0 j; omega) (by omega) hsp W hx' hy'
  have hpn : 0 < F → Nonneg (evL F k) := fun h => evL_nonneg (by omega)
  have hps : pre (evL F k) k = F := evL_sum hkp
  have PS := fun aw cw so sc W (h0 : 0 < F) hx' hy' => ref20_places aw so k cw (k + 1) sc (stL xs (fun i => xs.getD i 0 + (evL F k).getD i 0) k) (zerL k) gap hk30 hl.gp (fun j hj => by
    rw [stL_pre xs _ hxl j hj]
    have h1 := hp0 j
    have h2 := pre_nonneg (hpn h0) j
    have h3 := pre_mono (hpn h0) hj
    omega) (by omega) hzp W hx' hy'
  have RM := fun W hx' => ref20_room (some ⟨gx, offx, none⟩) k cap xs avail gap hl W hx'
  rw [eF] at RM
  have SPC := fun way W => ref20_spaces F way k hk1 (by omega) hF W
  have hspp := fun way j (hj : j ≤ k + 1) => spL_pre F way k hk1 hj
  have EV := fun W => ref20_even F (k : Int) k rfl (by omega) hF W
  have HSPP := Lib.hid hspp
  have HZP := Lib.hid hzp
  have HPN := Lib.hid hpn
  have HPS := Lib.hid hps
  have HFL := Lib.hid hFl
  clear eQ hx hl hxl hp0 hF hFl eF hspp hzp hpn hps
  go_enter Try.func52, Try.ntmps52
  have hx0 := HX.out.below (show Below w.heap.size w (w.alloc (.cells #[] 2)) from (by repeat' (first | (with_reducible exact Below.refl _ _) | (with_reducible assumption) | (with_reducible refine below_alloc ?_ _ ?_) | (with_reducible refine below_set _ ?_ ?_) | (with_reducible refine Below.drew ?_) | (with_reducible refine below_dN ?_ _) | (apply below_thenA; assumption) | omega | (simp; done) | (simp; omega) | (simp [*]; done))))
  obtain ⟨ad, ead, hnews⟩ := row_news hx0 hkp
  obtain rfl : ad = ⟨gx, offx, none⟩ := by simpa using ead.symm
  go_wp2_with (at_builtin; refine wpList_append_own _ rfl _ _ 31 rfl w.heap.size 2 i0 (.int .i64 0) 1 8 Try.underlying31 hi hz0 hz1 hz2 rfl (by decide) _ _ _ rfl (OwnI.void w).1 ⟨gx, offx, none⟩ k cap (i64s xs) rfl (by rw [i64s_len, HXL.out, Nat.mul_one]) hnews (i64s_cell _) (by unfold maxLen; omega) (by omega) (by simp) ?_)
  intro v' w2 hown hgrow _
  obtain ⟨a2, c2, rfl, ho, hbe, _, _, _⟩ := (OwnI.void w).app (ys := xs) (m := k) (v' := v') (by simpa [i64s] using hown) hgrow HXL.out (by simp)
  rw [Nat.zero_add, List.nil_append] at ho
  have hB : Below w.heap.size w w2 := hbe _ _ (Nat.le_refl _) (by repeat' (first | (with_reducible exact Below.refl _ _) | (with_reducible assumption) | (with_reducible refine below_alloc ?_ _ ?_) | (with_reducible refine below_set _ ?_ ?_) | (with_reducible refine Below.drew ?_) | (with_reducible refine below_dN ?_ _) | (apply below_thenA; assumption) | omega | (simp; done) | (simp; omega) | (simp [*]; done)))
  obtain ⟨g2, rfl, hg2⟩ := ho.head hkp
  clear hown hgrow hbe hnews ead hx0
  rw [Nat.zero_add]
  have hfr2 : ∀ (g off : Nat), (some ⟨g2, 0, none⟩ : Option Addr) = some ⟨g, off, none⟩ → w.heap.size ≤ g := fun g off e => by
    obtain ⟨rfl, _⟩ : g2 = g ∧ 0 = off := by simpa using e
    exact hg2
  have HFR2 := Lib.hid hfr2
  clear hfr2
  have hs2 := hB.size
  cases kn
  · clear SPC EV PS
    go_wp2_with fail
    refine (RM _ (HX.out.below hB)).mono ?_
    rintro e w4 ⟨rfl, hb⟩
    have ho4 := ho.below hb
    have hB4 := hB.trans (hb.mono hs2)
    clear hb RM ho hB
    go_wp2_with (at_make; refine wpList_make_full _ rfl _ _ 31 rfl w4.heap.size 2 i0 (.int .i64 0) 1 Try.underlying31 hi hz0 hz1 _ _ _ _ (k + 1) rfl rfl rfl rfl (by rw [hz2]; omega) (by unfold maxLen; omega) (Nat.le_refl _) ?_)
    intro w5 hown hgr
    have hb5 : Below w4.heap.size w4 w5 := (Below.refl _ w4).grown hgr (Nat.le_refl _) (fun _ h => by cases h)
    have t5 : BlkI w5 w4.heap.size (zerL k) := BlkI.made hown
    have hs4 := hB4.size
    have hy := t5.row (n := k + 1) (by simp [zerL])
    have ho5 := ho4.below hb5
    have hB5 := hB4.trans (hb5.mono hs4)
    clear hown hgr hb5 t5 ho4 hB4
    have PY := PX (some ⟨g2, 0, none⟩) c2 (some ⟨w4.heap.size, 0, none⟩) (k + 1) (zerL k) w5 HZP.out ho5.row hy
    clear PX
    go_wp2_with fail
    refine PY.mono ?_
    rintro e w6 ⟨a5, c5, rfl, ho6, hb⟩
    have hs5 := hB5.size
    have hB6 := hB5.trans (hb.mono hs5)
    have hor := ho5.row.below hb
    clear hb PY hy ho5 hB5
    go_wp2_with fail
    rw [EQ.out]
    exact ⟨a5, c5, some ⟨g2, 0, none⟩, c2, rfl, ho6.row, fun g off e => Nat.le_trans hs5 (ho6.from g off e), hor, HFR2.out, hB6⟩
  · cases si
    · go_wp2_with fail
      refine (RM _ (HX.out.below hB)).mono ?_
      rintro e w4 ⟨rfl, hb⟩
      have ho4 := ho.below hb
      have hB4 := hB.trans (hb.mono hs2)
      clear hb RM ho hB
      by_cases hc1 : ct = 1
      · subst hc1
        by_cases hF0 : 0 < F
        · clear SPC
          go_wp2_with fail
          refine (EV _).mono ?_
          rintro e w5 ⟨ap, cp, rfl, hp, _, _, hfr, hb⟩
          have ho5 := ho4.below hb
          have hs4 := hB4.size
          have hB5 := hB4.trans (hb.mono hs4)
          have hgp : ∀ g off, ap = some ⟨g, off, none⟩ → g ≠ g2 := fun g off e => by
            have h1 := hfr g off e
            obtain ⟨g', off', e', hlt, _⟩ := ho4.row.2 hkp
            obtain ⟨rfl, _⟩ : g2 = g' ∧ 0 = off' := by simpa using e'
            omega
          have HGP := Lib.hid hgp
          have HF0 := Lib.hid hF0
          clear hb EV ho4 hB4 hgp hfr hF0
          obtain ⟨ps, eps⟩ : ∃ ps, evL F k = ps := ⟨_, rfl⟩
          rw [eps] at hp
          have HP' := HPN.out HF0.out
          have HS' := HPS.out
          rw [eps] at PS HP' HS'
          have EPS := Lib.hid eps
          obtain ⟨fs, efs⟩ : ∃ fs, (fun i => xs.getD i 0 + ps.getD i 0) = fs := ⟨_, rfl⟩
          have hfs : ∀ i, fs i = xs.getD i 0 + ps.getD i 0 := fun i => by rw [← efs]
          rw [efs] at PS
          have EFS := Lib.hid efs
          have HFS := Lib.hid hfs
          have HPP := Lib.hid HP'
          have HSS := Lib.hid HS'
          clear eps efs hfs HP' HS' PX HPN HPS
          go_wp2_with fail
          go_loopg [19] k (fun gk s19 wr => ∃ j, j ≤ k ∧ gk = k - j ∧ s19 = .int .i64 ((j : Int)) ∧ OwnI wr w.heap.size (some ⟨g2, 0, none⟩) k c2 (stL xs fs j) ∧ RowI wr ap k ps ∧ Below w.heap.size w wr)
          case atStart => exact ⟨0, by omega, by omega, rfl, ho5, hp, hB5⟩
          case round =>
            clear ho5 hp hB5 hs4
            obtain ⟨j, hj, rfl, rfl, ho, hp, hB⟩ := hrel
            have hs := hB.size
            by_cases hjk : j < k
            · have ix : (j : Int) < (k : Int) := by omega
              obtain ⟨gp, offp, rfl, _, hcp⟩ := hp.at hjk
              obtain ⟨g', off', e', _, hcx⟩ := ho.row.at hjk
              obtain ⟨rfl, rfl⟩ : g2 = g' ∧ 0 = off' := by simpa using e'
              rw [Nat.zero_add, stL_get xs fs j (by rw [HXL.out]; omega) j, if_neg (by omega)] at hcx
              have hfr := ho.free j
              have hx := HL.out.xs36 j
              have hps := HPP.out j
              have hpl := get_le_pre HPP.out hjk
              rw [HSS.out] at hpl
              have hfl := HFL.out
              have ef := HFS.out j
              have es : stL xs fs (j + 1) = (stL xs fs j).set j (fs j) := rfl
              obtain ⟨x, ex⟩ : ∃ x, xs.getD j 0 = x := ⟨_, rfl⟩
              obtain ⟨y, ey⟩ : ∃ x, ps.getD j 0 = x := ⟨_, rfl⟩
              rw [ex] at hcx hx ef
              rw [ey] at hcp hps hpl ef
              rw [ef] at es
              have ES := Lib.hid es
              have hgne := HGP.out gp offp rfl
              have ho6 := ho.put hjk (x + y)
              have hp6 := hp.but (But.set (b := g2) wr j (.int .i64 (x + y))) (fun g off e => HGP.out g off e)
              have hB6 := hB.setCell (p := ⟨g2, j, none⟩) hg2 (.int .i64 (x + y))
              have hw : wrap64 (x + y) = x + y := by simp only [wrap64]; omega
              clear es ef ex ey hps hpl hfl hx e' ho hp hB
              go_wp2_with fail
              go_region
              all_goals
                go_wp2_with fail
                go_roundg (k - (j + 1))
                case measure => omega
                case rel => exact ⟨j + 1, by omega, rfl, by go_num, by rw [ES.out]; exact ho6.drew, hp6.drew, hB6.drew⟩
            · obtain rfl : j = k := by omega
              have ix : ¬ (j : Int) < (j : Int) := by omega
              clear hp
              go_wp2_with (at_make; refine wpList_make_full _ rfl _ _ 31 rfl wr.heap.size 2 i0 (.int .i64 0) 1 Try.underlying31 hi hz0 hz1 _ _ _ _ (j + 1) rfl rfl rfl rfl (by rw [hz2]; omega) (by unfold maxLen; omega) (Nat.le_refl _) ?_)
              intro w5 hown hgr
              have hb5 : Below wr.heap.size wr w5 := (Below.refl _ wr).grown hgr (Nat.le_refl _) (fun _ h => by cases h)
              have t5 : BlkI w5 wr.heap.size (zerL j) := BlkI.made hown
              have hy := t5.row (n := j + 1) (by simp [zerL])
              have ho5 := ho.below hb5
              have hB5 := hB.trans (hb5.mono hs)
              have hs5 := hB5.size
              have PSx := PS (some ⟨g2, 0, none⟩) c2 (some ⟨wr.heap.size, 0, none⟩) (j + 1) w5 HF0.out (EFS.out ▸ ho5.row) hy
              clear PS hown hgr hb5 t5 ho hB
              go_wp2_with fail
              refine PSx.mono ?_
              rintro e w6 ⟨a5, c5, rfl, ho6, hb⟩
              have hor := ho5.row.below hb
              have hB6 := hB5.trans (hb.mono hs5)
              clear hb PSx hy ho5 hB5
              go_wp2_with fail
              rw [EQ.out]
              unfold CrOut crAt crSz
              rw [EF.out, EPS.out]
              refine ⟨a5, c5, some ⟨g2, 0, none⟩, c2, rfl, ?_, fun g off e => Nat.le_trans hs5 (ho6.from g off e), ?_, HFR2.out, hB6⟩
              · have h0 := HF0.out
                rw [EFS.out]
                simpa [h0] using ho6.row
              · have h0 := HF0.out
                rw [EFS.out]
                simpa [h0] using hor
        · clear SPC EV PS
          go_wp2_with (at_make; refine wpList_make_full _ rfl _ _ 31 rfl w4.heap.size 2 i0 (.int .i64 0) 1 Try.underlying31 hi hz0 hz1 _ _ _ _ (k + 1) rfl rfl rfl rfl (by rw [hz2]; omega) (by unfold maxLen; omega) (Nat.le_refl _) ?_)
          intro w5 hown hgr
          have hb5 : Below w4.heap.size w4 w5 := (Below.refl _ w4).grown hgr (Nat.le_refl _) (fun _ h => by cases h)
          have t5 : BlkI w5 w4.heap.size (zerL k) := BlkI.made hown
          have hs4 := hB4.size
          have hy := t5.row (n := k + 1) (by simp [zerL])
          have ho5 := ho4.below hb5
          have hB5 := hB4.trans (hb5.mono hs4)
          clear hown hgr hb5 t5 ho4 hB4
          have PY := PX (some ⟨g2, 0, none⟩) c2 (some ⟨w4.heap.size, 0, none⟩) (k + 1) (zerL k) w5 HZP.out ho5.row hy
          clear PX
          go_wp2_with fail
          refine PY.mono ?_
          rintro e w6 ⟨a5, c5, rfl, ho6, hb⟩
          have hs5 := hB5.size
          have hB6 := hB5.trans (hb.mono hs5)
          have hor := ho5.row.below hb
          clear hb PY hy ho5 hB5
          go_wp2_with fail
          rw [EQ.out]
          unfold CrOut crAt crSz
          rw [EF.out]
          refine ⟨a5, c5, some ⟨g2, 0, none⟩, c2, rfl, ?_, fun g off e => Nat.le_trans hs5 (ho6.from g off e), ?_, HFR2.out, hB6⟩
          · have h0 : ¬ 0 < F := by omega
            simp only [h0, and_false, if_false, if_true, Bool.false_eq_true, Bool.and_false, Bool.and_true, beq_self_eq_true, Bool.not_true]; exact ho6.row
          · have h0 : ¬ 0 < F := by omega
            simp only [h0, and_false, if_false, if_true, Bool.false_eq_true]; exact hor
      · have hc1b : (ct == 1) = false := by simpa using hc1
        have HCT := Lib.hid hc1b
        clear EV PS hc1b
        go_wp2_with fail
        refine (SPC _ _).mono ?_
        rintro e w5 ⟨a6, c6, L, rfl, hy, hag, hb⟩
        have ho5 := ho4.below hb
        have hs4 := hB4.size
        have hB5 := hB4.trans (hb.mono hs4)
        have hsp := fun j (hj : j ≤ k + 1) => HSPP.out (wrap64 (ct - 1)) j hj
        have hfl := HFL.out
        have PL := PX (some ⟨gx, offx, none⟩) cap a6 c6 L w5 (fun j hj => by rw [pre_congr hag j hj]; have := hsp j (by omega); omega) (HX.out.below hB5) hy
        have hpl := plN_congr xs gap hag
        have HPL := Lib.hid hpl
        clear hb SPC hsp hy hfl PX ho4 hB4 hag hpl
        go_wp2_with fail
        refine PL.mono ?_
        rintro e w6 ⟨a5, c5, rfl, ho6, hb⟩
        have hs5 := hB5.size
        have hB6 := hB5.trans (hb.mono hs5)
        have hor := ho5.row.below hb
        clear hb PL ho5 hB5
        go_wp2_with fail
        rw [EQ.out]
        unfold CrOut crAt crSz
        rw [EF.out, ← HPL.out, HCT.out]
        refine ⟨a5, c5, some ⟨g2, 0, none⟩, c2, rfl, ?_, fun g off e => Nat.le_trans hs5 (ho6.from g off e), ?_, HFR2.out, hB6⟩
        · simpa using ho6.row
        · have hc1 : ¬ ct = 1 := by have := HCT.out; simpa using this
          simpa [hc1] using hor
    · clear SPC RM EV PX PS HSPP HZP HPN HPS
      go_wp2_with fail
      go_loopg [16] k (fun gk s16 wr => ∃ j, j ≤ k ∧ gk = k - j ∧ s16 = .int .i64 ((j : Int)) ∧ OwnI wr w.heap.size (some ⟨g2, 0, none⟩) k c2 (stL xs (fun _ => avail) j) ∧ Below w.heap.size w wr)
      case atStart => exact ⟨0, by omega, by omega, rfl, ho, hB⟩
      case round =>
        clear ho hB hs2
        obtain ⟨j, hj, rfl, rfl, ho, hB⟩ := hrel
        have hs := hB.size
        by_cases hjk : j < k
        · have ix : (j : Int) < (k : Int) := by omega
          have es : stL xs (fun _ => avail) (j + 1) = (stL xs (fun _ => avail) j).set j avail := rfl
          have ES := Lib.hid es
          have hfr := ho.free j
          obtain ⟨g', off', e', _, hcx⟩ := ho.row.at hjk
          obtain ⟨rfl, rfl⟩ : g2 = g' ∧ 0 = off' := by simpa using e'
          rw [Nat.zero_add] at hcx
          have ho6 := ho.put hjk avail
          have hB6 := hB.setCell (p := ⟨g2, j, none⟩) hg2 (.int .i64 avail)
          clear es e' ho hB
          go_wp2_with fail
          go_roundg (k - (j + 1))
          case measure => omega
          case rel => exact ⟨j + 1, by omega, rfl, by go_num, by rw [ES.out]; exact ho6, hB6⟩
        · obtain rfl : j = k := by omega
          have ix : ¬ (j : Int) < (j : Int) := by omega
          go_wp2_with (at_make; refine wpList_make_full _ rfl _ _ 31 rfl wr.heap.size 2 i0 (.int .i64 0) 1 Try.underlying31 hi hz0 hz1 _ _ _ _ j rfl rfl rfl rfl (by rw [hz2]; omega) (by unfold maxLen; omega) (Nat.le_refl _) ?_)
          intro w5 hown hgr
          have hb5 : Below wr.heap.size wr w5 := (Below.refl _ wr).grown hgr (Nat.le_refl _) (fun _ h => by cases h)
          have t5 : BlkI w5 wr.heap.size (List.replicate j 0) := BlkI.made hown
          have hy := t5.row (n := j) (by simp)
          have hor := ho.row.below hb5
          have hB5 := hB.trans (hb5.mono hs)
          clear hown hgr hb5 t5 ho hB
          go_wp2_with fail
          rw [EQ.out]
          unfold CrOut crAt crSz
          refine ⟨_, j, some ⟨g2, 0, none⟩, c2, rfl, hy, ?_, hor, HFR2.out, hB5⟩
          intro g off e
          obtain ⟨rfl, _⟩ : wr.heap.size = g ∧ 0 = off := by simpa using e
          exact hs
set_option maxRecDepth 100000 in
set_option maxHeartbeats 1600000 in
theorem flx_cross0 (ao : Option Addr) (cap : Nat) (avail gap ct : Int) (kn si : Bool) (hao : ao = none → cap = 0) (w : World) :
    Calls Try.prog 51 #[.slice ao 0 cap, .int .i64 avail, .int .i64 gap, .bool kn, .bool si, .int .i64 ct] w fun e w' => e = .returned (.tuple #[.slice none 0 0, .slice none 0 0]) ∧ Below w.heap.size w w' := by
  obtain ⟨i0, hi, hz0, hz1, hz2⟩ := info_parts (show (Try.prog.info? 2).map (fun i => (i.zero, i.size, i.bytes)) = some (some (.int .i64 0), 1, 8) by kernel_rfl)
  go_enter Try.func51, Try.ntmps51
  have hB0 : Below w.heap.size w (w.alloc (.cells #[] 2)) := (by repeat' (first | (with_reducible exact Below.refl _ _) | (with_reducible assumption) | (with_reducible refine below_alloc ?_ _ ?_) | (with_reducible refine below_set _ ?_ ?_) | (with_reducible refine Below.drew ?_) | (with_reducible refine below_dN ?_ _) | (apply below_thenA; assumption) | omega | (simp; done) | (simp; omega) | (simp [*]; done)))
  cases ao with
  | none =>
    obtain rfl := hao rfl
    go_wp2_with (first | (at_builtin; refine wpList_append_own_none rfl _ _ 31 rfl w.heap.size 2 i0 1 Try.underlying31 hi _ _ _ rfl (OwnI.void w).1 rfl ?_) | (at_make; refine wpList_make_full _ rfl _ _ 31 rfl 0 2 i0 (.int .i64 0) 1 Try.underlying31 hi hz0 hz1 _ _ _ _ 1 rfl rfl rfl rfl (by rw [hz2]; omega) (by unfold maxLen; omega) (Nat.zero_le _) ?_))
    intro w3 hown hgr
    have hb3 : Below _ _ w3 := (Below.refl _ (w.alloc (.cells #[] 2))).grown hgr (Nat.le_refl _) (fun _ h => by cases h)
    have hB3 := hB0.trans (hb3.mono hB0.size)
    clear hown hgr hb3
    go_wp2_with fail
    go_ret2
    exact ⟨rfl, hB3⟩
  | some ad =>
    go_wp2_with (at_builtin; refine wpList_append_own _ rfl _ _ 31 rfl w.heap.size 2 i0 (.int .i64 0) 1 8 Try.underlying31 hi hz0 hz1 hz2 rfl (by decide) _ _ _ rfl (OwnI.void w).1 ad 0 cap [] rfl rfl (by simp) (by simp) (by unfold maxLen; omega) (by omega) (by simp) ?_)
    intro v' w2 hown hgrow _
    have hB2 : Below w.heap.size w w2 := hB0.grown hgrow (by simp) (fun j hj => by simp [Value.ownBlock] at hj; omega)
    have hs2 := hB2.size
    clear hown hgrow
    go_wp2_with (at_make; refine wpList_make_full _ rfl _ _ 31 rfl 0 2 i0 (.int .i64 0) 1 Try.underlying31 hi hz0 hz1 _ _ _ _ 1 rfl rfl rfl rfl (by rw [hz2]; omega) (by unfold maxLen; omega) (Nat.zero_le _) ?_)
    intro w3 hown hgr
    have hb3 : Below _ _ w3 := (Below.refl _ w2).grown hgr (Nat.le_refl _) (fun _ h => by cases h)
    have hB3 := hB2.trans (hb3.mono hs2)
    clear hown hgr hb3
    go_wp2_with fail
    go_ret2
    exact ⟨rfl, hB3⟩
set_option maxRecDepth 100000 in
set_option maxHeartbeats 1600000 in
theorem ref20_cross0 (ao : Option Addr) (cap : Nat) (avail gap ct : Int) (kn si : Bool) (hao : ao = none → cap = 0) (w : World) :
    Calls Try.prog 52 #[.slice ao 0 cap, .int .i64 avail, .int .i64 gap, .bool kn, .bool si, .int .i64 ct] w fun e w' => e = .returned (.tuple #[.slice none 0 0, .slice none 0 0]) ∧ Below w.heap.size w w' := by
  obtain ⟨i0, hi, hz0, hz1, hz2⟩ := info_parts (show (Try.prog.info? 2).map (fun i => (i.zero, i.size, i.bytes)) = some (some (.int .i64 0), 1, 8) by kernel_rfl)
  go_enter Try.func52, Try.ntmps52
  have hB0 : Below w.heap.size w (w.alloc (.cells #[] 2)) := (by repeat' (first | (with_reducible exact Below.refl _ _) | (with_reducible assumption) | (with_reducible refine below_alloc ?_ _ ?_) | (with_reducible refine below_set _ ?_ ?_) | (with_reducible refine Below.drew ?_) | (with_reducible refine below_dN ?_ _) | (apply below_thenA; assumption) | omega | (simp; done) | (simp; omega) | (simp [*]; done)))
  cases ao with
  | none =>
    obtain rfl := hao rfl
    go_wp2_with (at_builtin; refine wpList_append_own_none rfl _ _ 31 rfl w.heap.size 2 i0 1 Try.underlying31 hi _ _ _ rfl (OwnI.void w).1 rfl ?_)
    go_wp2_with fail
    go_ret2
    exact ⟨rfl, hB0⟩
  | some ad =>
    go_wp2_with (at_builtin; refine wpList_append_own _ rfl _ _ 31 rfl w.heap.size 2 i0 (.int .i64 0) 1 8 Try.underlying31 hi hz0 hz1 hz2 rfl (by decide) _ _ _ rfl (OwnI.void w).1 ad 0 cap [] rfl rfl (by simp) (by simp) (by unfold maxLen; omega) (by omega) (by simp) ?_)
    intro v' w2 hown hgrow _
    have hB2 : Below w.heap.size w w2 := hB0.grown hgrow (by simp) (fun j hj => by simp [Value.ownBlock] at hj; omega)
    clear hown hgrow
    go_wp2_with fail
    go_ret2
    exact ⟨rfl, hB2⟩
end Go.Proofs.Ythofammjbicogaa
