/-
  The reference of layer 20: Spaces, of the ways that share out.
-/
import Derived.Test.YthofammjbicogaaYFlM
namespace Go.Proofs.Ythofammjbicogaa
open Go.RowKit
set_option linter.unusedSimpArgs false
set_option linter.unusedVariables false

set_option maxRecDepth 100000 in
set_option maxHeartbeats 3200000 in
theorem ref20_six (f : Int) (n : Nat) (hn : 1 ≤ n) (hn2 : n ≤ 400) (hf : lenB f = true) (h0 : 0 < f) (w : World) :
    Calls Try.prog 73 #[.int .i64 f, .int .i64 ((n : Int)), .int .i64 6] w (SpRef f n 6 w) := by
  obtain ⟨i0, hi, hz0, hz1, hz2⟩ := info_parts (show (Try.prog.info? 2).map (fun i => (i.zero, i.size, i.bytes)) = some (some (.int .i64 0), 1, 8) by kernel_rfl)
  have EV := fun W => ref20_even f ((n : Int) + 1) (n + 1) (by push_cast; rfl) (by omega) hf W
  have hsp : spL f n 6 = evL f (n + 1) := by
    unfold spL
    rw [if_neg (by decide), if_neg (by omega), if_neg (by omega), if_neg (by decide), if_pos rfl]
  obtain ⟨Q, eQ⟩ : ∃ Q : Ending → World → Prop, Q = SpRef f n 6 w := ⟨_, rfl⟩
  rw [← eQ]
  have EQ := Lib.hid eQ
  have HSP := Lib.hid hsp
  have hf0 : ¬ f ≤ 0 := by omega
  clear eQ hsp hf
  by_cases hn1 : n = 1
  · subst hn1
    go_enter Try.func73, Try.ntmps73
    go_wp2_with (at_make; refine wpList_make_full _ rfl _ _ 31 rfl w.heap.size 2 i0 (.int .i64 0) 1 Try.underlying31 hi hz0 hz1 _ _ _ _ 2 rfl rfl rfl rfl (by rw [hz2]; omega) (by unfold maxLen; omega) (Nat.le_refl _) ?_)
    intro w1 hown hgr
    have hB : Below w.heap.size w w1 := (Below.refl _ w).grown hgr (Nat.le_refl _) (fun _ h => by cases h)
    clear hown hgr
    go_wp2_with fail
    refine (EV _).mono ?_
    rintro e w2 ⟨ao, cap, rfl, r1, _, _, _, hb⟩
    have hbb := hB.trans (hb.mono hB.size)
    clear hb EV
    go_wp2_with fail
    rw [EQ.out]
    exact ⟨ao, cap, _, rfl, r1, fun i hi => by rw [HSP.out], hbb⟩
  · have hn1' : ¬ (n : Int) = 1 := by omega
    go_enter Try.func73, Try.ntmps73
    go_wp2_with (at_make; refine wpList_make_full _ rfl _ _ 31 rfl w.heap.size 2 i0 (.int .i64 0) 1 Try.underlying31 hi hz0 hz1 _ _ _ _ (n + 1) rfl rfl rfl rfl (by rw [hz2]; omega) (by unfold maxLen; omega) (Nat.le_refl _) ?_)
    intro w1 hown hgr
    have hB : Below w.heap.size w w1 := (Below.refl _ w).grown hgr (Nat.le_refl _) (fun _ h => by cases h)
    clear hown hgr
    go_wp2_with fail
    refine (EV _).mono ?_
    rintro e w2 ⟨ao, cap, rfl, r1, _, _, _, hb⟩
    have hbb := hB.trans (hb.mono hB.size)
    clear hb EV
    go_wp2_with fail
    rw [EQ.out]
    exact ⟨ao, cap, _, rfl, r1, fun i hi => by rw [HSP.out], hbb⟩
set_option maxRecDepth 100000 in
set_option maxHeartbeats 3200000 in
theorem ref20_four (f : Int) (m : Nat) (hm : 1 ≤ m) (hn2 : m ≤ 400) (hf : lenB f = true) (h0 : 0 < f) (w : World) :
    Calls Try.prog 73 #[.int .i64 f, .int .i64 (((m + 1 : Nat) : Int)), .int .i64 4] w (SpRef f (m + 1) 4 w) := by
  obtain ⟨i0, hi, hz0, hz1, hz2⟩ := info_parts (show (Try.prog.info? 2).map (fun i => (i.zero, i.size, i.bytes)) = some (some (.int .i64 0), 1, 8) by kernel_rfl)
  have EV := fun W => ref20_even f (m : Int) m rfl (by omega) hf W
  have hsp : spL f (m + 1) 4 = 0 :: evL f m ++ [0] := by
    unfold spL
    rw [if_neg (by decide), if_neg (by omega), if_pos ⟨rfl, h0, by omega⟩]
    rfl
  have hpl := evL_len f m
  obtain ⟨ps, eps⟩ : ∃ ps, evL f m = ps := ⟨_, rfl⟩
  rw [eps] at EV hsp hpl
  obtain ⟨Q, eQ⟩ : ∃ Q : Ending → World → Prop, Q = SpRef f (m + 1) 4 w := ⟨_, rfl⟩
  rw [← eQ]
  have EQ := Lib.hid eQ
  have HSP := Lib.hid hsp
  have HPL := Lib.hid hpl
  have hf0 : ¬ f ≤ 0 := by omega
  have hn1 : ¬ ((m : Int) + 1 = 1) := by omega
  have hn1b : ¬ (m = 0) := by omega
  have hn1c : ¬ ((m : Int) = 0) := by omega
  have wm : IntKind.i64.wrap ((m : Int) + 1 - 1) = (m : Int) := by simp [IntKind.wrap, IntKind.bits, IntKind.signed]; omega
  have wm2 : IntKind.i64.wrap (m : Int) = (m : Int) := by simp [IntKind.wrap, IntKind.bits, IntKind.signed]; omega
  clear eQ hsp hpl hf eps
  go_enter Try.func73, Try.ntmps73
  go_wp2_with (at_make; refine wpList_make_full _ rfl _ _ 31 rfl w.heap.size 2 i0 (.int .i64 0) 1 Try.underlying31 hi hz0 hz1 _ _ _ _ (m + 1 + 1) rfl rfl rfl rfl (by rw [hz2]; omega) (by unfold maxLen; omega) (Nat.le_refl _) ?_)
  intro w1 hown hgr
  have hB : Below w.heap.size w w1 := (Below.refl _ w).grown hgr (Nat.le_refl _) (fun _ h => by cases h)
  have t7 : BlkI w1 w.heap.size (zerL (m + 1)) := BlkI.made hown
  have hlt := t7.lt
  clear hown hgr
  go_wp2_with fail
  refine (EV _).mono ?_
  rintro e w2 ⟨ap, cp, rfl, hp, _, _, hfr, hb⟩
  replace t7 := t7.below hb
  replace hB := hB.trans (hb.mono hB.size)
  have hfr2 : ∀ g off, ap = some ⟨g, off, none⟩ → g ≠ w.heap.size := fun g off e => by have := hfr g off e; omega
  have HFR := Lib.hid hfr2
  clear hb hfr hfr2 EV hlt
  go_wp2_with fail
  go_loopg [9] m (fun gk s9 wr => ∃ (j : Nat), j ≤ m ∧ gk = m - j ∧ s9 = .int .i64 ((j : Int) + 1) ∧ BlkI wr w.heap.size (midL ps (m + 1) j) ∧ RowI wr ap m ps ∧ Below w.heap.size w wr)
  case atStart => exact ⟨0, by omega, by omega, rfl, t7, hp, hB⟩
  case round =>
    clear t7 hp hB
    obtain ⟨j, hj, rfl, rfl, t7, hp, hB⟩ := hrel
    by_cases hjk : j < m
    · have ix : (j : Int) + 1 < (m : Int) + 1 := by omega
      have ix1 : (j : Int) < (m : Int) := by omega
      have ix2 : (j : Int) + 1 < (m : Int) + 1 + 1 := by omega
      have ix3 : (0 : Int) ≤ (j : Int) + 1 := by omega
      obtain ⟨g, off, rfl, hg, hcx⟩ := hp.at hjk
      have hne : g ≠ w.heap.size := HFR.out g off rfl
      have hco := t7.cell (i := j + 1) (by rw [midL_len]; omega)
      have hfo := t7.free (j + 1)
      have es : midL ps (m + 1) (j + 1) = (midL ps (m + 1) j).set (j + 1) (ps.getD j 0) := rfl
      obtain ⟨x, ex⟩ : ∃ x, ps.getD j 0 = x := ⟨_, rfl⟩
      obtain ⟨y, ey⟩ : ∃ y, (midL ps (m + 1) j).getD (j + 1) 0 = y := ⟨_, rfl⟩
      rw [ex] at hcx es
      rw [ey] at hco
      have hnew := t7.put (j + 1) x
      rw [← es] at hnew
      have hpn := hp.but (But.set (b := w.heap.size) wr (j + 1) (.int .i64 x)) (fun g' off' e => by
        obtain ⟨rfl, rfl⟩ : g = g' ∧ off = off' := by simpa using e
        exact hne)
      have hB2 := hB.setCell (p := ⟨w.heap.size, j + 1, none⟩) (Nat.le_refl _) (.int .i64 x)
      have wj : IntKind.i64.wrap ((j : Int) + 1 - 1) = (j : Int) := by simp [IntKind.wrap, IntKind.bits, IntKind.signed]; omega
      have wj2 : IntKind.i64.wrap (j : Int) = (j : Int) := by simp [IntKind.wrap, IntKind.bits, IntKind.signed]; omega
      have HN := Lib.hid hnew
      have HP2 := Lib.hid hpn
      have HB2 := Lib.hid hB2
      clear ex ey es hnew hpn hB2 t7 hp hB
      go_wp2_with fail
      go_roundg (m - (j + 1))
      case measure => omega
      case rel => exact ⟨j + 1, by omega, rfl, by go_num, HN.out, HP2.out, HB2.out⟩
    · obtain rfl : j = m := by omega
      have ix : ¬ ((j : Int) + 1 < (j : Int) + 1) := by omega
      have T7 := Lib.hid t7
      clear t7 hp
      go_wp2_with fail
      rw [EQ.out]
      refine ⟨_, _, _, rfl, T7.out.row (midL_len _ _ _), fun i hi => ?_, hB⟩
      rw [HSP.out, midL_get ps (j + 1) j (by omega) i, between_get, HPL.out]
set_option maxRecDepth 100000 in
set_option maxHeartbeats 3200000 in
theorem ref20_five (f : Int) (n : Nat) (hn : 1 ≤ n) (hn2 : n ≤ 400) (hf : lenB f = true) (h0 : 0 < f) (w : World) :
    Calls Try.prog 73 #[.int .i64 f, .int .i64 ((n : Int)), .int .i64 5] w (SpRef f n 5 w) := by
  obtain ⟨i0, hi, hz0, hz1, hz2⟩ := info_parts (show (Try.prog.info? 2).map (fun i => (i.zero, i.size, i.bytes)) = some (some (.int .i64 0), 1, 8) by kernel_rfl)
  have EV := fun W => ref20_even f (2 * (n : Int)) (2 * n) (by push_cast; rfl) (by omega) hf W
  have hsp : spL f n 5 = arL (evL f (2 * n)) n (2 * n) := by
    unfold spL
    rw [if_neg (by decide), if_neg (by omega), if_neg (by omega), if_pos rfl]
  have hL := (lenB_iff f).1 hf
  have hpn := evL_nonneg (t := f) (p := 2 * n) (by omega)
  have hps := evL_sum (t := f) (p := 2 * n) (by omega)
  obtain ⟨ps, eps⟩ : ∃ ps, evL f (2 * n) = ps := ⟨_, rfl⟩
  rw [eps] at EV hpn hps hsp
  obtain ⟨Q, eQ⟩ : ∃ Q : Ending → World → Prop, Q = SpRef f n 5 w := ⟨_, rfl⟩
  rw [← eQ]
  have EQ := Lib.hid eQ
  have HSP := Lib.hid hsp
  have HPN := Lib.hid hpn
  have HPS := Lib.hid hps
  have hf0 : ¬ f ≤ 0 := by omega
  have hl2 := hL.2
  have HNC := Lib.hid (show n = 1 ∨ ¬ n = 1 by omega)
  clear eQ hsp hf eps hL hpn hps
  rcases HNC.out with hn1 | hn1
  · subst hn1
    go_enter Try.func73, Try.ntmps73
    go_wp2_with (at_make; refine wpList_make_full _ rfl _ _ 31 rfl w.heap.size 2 i0 (.int .i64 0) 1 Try.underlying31 hi hz0 hz1 _ _ _ _ 2 rfl rfl rfl rfl (by rw [hz2]; omega) (by unfold maxLen; omega) (Nat.le_refl _) ?_)
    intro w1 hown hgr
    have hB : Below w.heap.size w w1 := (Below.refl _ w).grown hgr (Nat.le_refl _) (fun _ h => by cases h)
    have t7 : BlkI w1 w.heap.size (zerL 1) := BlkI.made hown
    have hlt := t7.lt
    clear hown hgr
    go_wp2_with fail
    refine (EV _).mono ?_
    rintro e w2 ⟨ap, cp, rfl, hp, _, _, hfr, hb⟩
    replace t7 := t7.below hb
    replace hB := hB.trans (hb.mono hB.size)
    have hfr2 : ∀ g off, ap = some ⟨g, off, none⟩ → g ≠ w.heap.size := fun g off e => by have := hfr g off e; omega
    have HFR := Lib.hid hfr2
    clear hb hfr hfr2 EV hlt
    go_wp2_with fail
    go_loopg [11] 1 (fun gk s11 wr => ∃ (i : Nat), i ≤ 1 ∧ gk = 1 - i ∧ s11 = .int .i64 ((i : Int)) ∧ BlkI wr w.heap.size (arL ps 1 (2 * i)) ∧ RowI wr ap (2 * 1) ps ∧ Below w.heap.size w wr)
    case atStart => exact ⟨0, by omega, by omega, rfl, t7, hp, hB⟩
    case round =>
      clear t7 hp hB
      obtain ⟨i, hj, rfl, rfl, t7, hp, hB⟩ := hrel
      by_cases hjk : i < 1
      · have ix : (i : Int) < 1 := by omega
        obtain ⟨g, off, rfl, hg, hcx⟩ := hp.at (show 2 * i < 2 * 1 by omega)
        obtain ⟨g', off', e', hg', hcy⟩ := hp.at (show 2 * i + 1 < 2 * 1 by omega)
        obtain ⟨rfl, rfl⟩ : g = g' ∧ off = off' := by simpa using e'
        have hne : g ≠ w.heap.size := HFR.out g off rfl
        have hal := arL_len ps 1 (2 * i)
        have hal1 := arL_len ps 1 (2 * i + 1)
        have hco := t7.cell (i := i) (by rw [hal]; omega)
        have hfo := t7.free i
        have b0 := arL_nonneg HPN.out 1 (2 * i) i
        have b1 := get_le_pre (arL_nonneg HPN.out 1 (2 * i)) (show i < 1 + 1 by omega)
        rw [arL_pre ps 1 (2 * i) (by omega)] at b1
        have b2 := arL_nonneg HPN.out 1 (2 * i + 1) (i + 1)
        have b3 := get_le_pre (arL_nonneg HPN.out 1 (2 * i + 1)) (show i + 1 < 1 + 1 by omega)
        rw [arL_pre ps 1 (2 * i + 1) (by omega)] at b3
        have b4 := pre_mono HPN.out (show 2 * i ≤ 2 * 1 by omega)
        have b5 := pre_mono HPN.out (show 2 * i + 1 ≤ 2 * 1 by omega)
        have b6 := HPN.out (2 * i)
        have b7 := get_le_pre HPN.out (show 2 * i < 2 * 1 by omega)
        have b8 := HPN.out (2 * i + 1)
        have b9 := get_le_pre HPN.out (show 2 * i + 1 < 2 * 1 by omega)
        rw [HPS.out] at b4 b5 b7 b9
        have es : arL ps 1 (2 * i + 1) = (arL ps 1 (2 * i)).set i ((arL ps 1 (2 * i)).getD i 0 + ps.getD (2 * i) 0) := by
          show (arL ps 1 (2 * i)).set ((2 * i + 1) / 2) ((arL ps 1 (2 * i)).getD ((2 * i + 1) / 2) 0 + _) = _
          rw [show (2 * i + 1) / 2 = i by omega]
        have es2 : arL ps 1 (2 * (i + 1)) = (arL ps 1 (2 * i + 1)).set (i + 1) ((arL ps 1 (2 * i + 1)).getD (i + 1) 0 + ps.getD (2 * i + 1) 0) := by
          show (arL ps 1 (2 * i + 1)).set ((2 * i + 1 + 1) / 2) ((arL ps 1 (2 * i + 1)).getD ((2 * i + 1 + 1) / 2) 0 + _) = _
          rw [show (2 * i + 1 + 1) / 2 = i + 1 by omega]; rfl
        obtain ⟨x, ex⟩ : ∃ x, ps.getD (2 * i) 0 = x := ⟨_, rfl⟩
        obtain ⟨x2, ex2⟩ : ∃ x, ps.getD (2 * i + 1) 0 = x := ⟨_, rfl⟩
        obtain ⟨y, ey⟩ : ∃ y, (arL ps 1 (2 * i)).getD i 0 = y := ⟨_, rfl⟩
        obtain ⟨z, ez⟩ : ∃ y, (arL ps 1 (2 * i + 1)).getD (i + 1) 0 = y := ⟨_, rfl⟩
        rw [ex] at hcx b6 b7 es
        rw [ex2] at hcy b8 b9 es2
        rw [ey] at hco b0 b1 es
        rw [ez] at b2 b3 es2
        have w1' : wrap64 (y + x) = y + x := by simp only [wrap64]; omega
        have w2' : wrap64 (z + x2) = z + x2 := by simp only [wrap64]; omega
        have k1 := t7.put i (y + x)
        rw [← es] at k1
        have hpn : RowI (wr.setCell ⟨w.heap.size, i, none⟩ (.int .i64 (y + x))) (some ⟨g, off, none⟩) (2 * 1) ps := hp.but (But.set _ _ _) (fun g' off' e => by
          obtain ⟨rfl, rfl⟩ : g = g' ∧ off = off' := by simpa using e
          exact hne)
        have hB2 := hB.setCell (p := ⟨w.heap.size, i, none⟩) (Nat.le_refl _) (.int .i64 (y + x))
        have K1 := Lib.hid k1
        have HP2 := Lib.hid hpn
        have HB2 := Lib.hid hB2
        have EZ := Lib.hid ez
        have EX2 := Lib.hid ex2
        have HAL1 := Lib.hid hal1
        have ES2 := Lib.hid es2
        have HCX := Lib.hid hcy
        clear b0 b1 b2 b3 b4 b5 b6 b7 b8 b9 es es2 ex ex2 ey ez hal hal1 k1 hpn hB2 t7 hp hB hcy
        go_wp2_with fail
        go_region
        all_goals
          obtain ⟨W, eW⟩ : ∃ W, (wr.setCell ⟨w.heap.size, i, none⟩ (.int .i64 (y + x))).drew = W := ⟨_, rfl⟩
          have t8 : BlkI W w.heap.size (arL ps 1 (2 * i + 1)) := by rw [← eW]; exact Blk.drew K1.out
          have hp : RowI W (some ⟨g, off, none⟩) (2 * 1) ps := by rw [← eW]; exact RowI.drew HP2.out
          have hB : Below w.heap.size w W := by rw [← eW]; exact HB2.out.drew
          have hco := t8.cell (i := i + 1) (by rw [HAL1.out]; omega)
          rw [EZ.out] at hco
          have hfo := t8.free (i + 1)
          obtain ⟨g', off', e', hg', hcy⟩ := hp.at (show 2 * i + 1 < 2 * 1 by omega)
          obtain ⟨rfl, rfl⟩ : g = g' ∧ off = off' := by simpa using e'
          rw [EX2.out] at hcy
          have t9 := t8.put (i + 1) (z + x2)
          rw [← ES2.out] at t9
          have hp9 : RowI (W.setCell ⟨w.heap.size, i + 1, none⟩ (.int .i64 (z + x2))) (some ⟨g, off, none⟩) (2 * 1) ps := hp.but (But.set _ _ _) (fun g' off' e => by
            obtain ⟨rfl, rfl⟩ : g = g' ∧ off = off' := by simpa using e
            exact hne)
          have hB9 := hB.setCell (p := ⟨w.heap.size, i + 1, none⟩) (Nat.le_refl _) (.int .i64 (z + x2))
          have T9 := Lib.hid t9
          have HP9 := Lib.hid hp9
          have HB9 := Lib.hid hB9
          have ix2 : (0 : Int) ≤ 2 * (i : Int) + 1 := by omega
          have ix3 : (i : Int) + 1 < 1 + 1 := by omega
          rw [eW]
          clear t9 hp9 hB9 t8 hp hB eW
          go_wp2_with fail
          go_region
          all_goals
            go_wp2_with fail
            go_roundg (1 - (i + 1))
            case measure => omega
            case rel => exact ⟨i + 1, by omega, rfl, by go_num, Blk.drew T9.out, RowI.drew HP9.out, HB9.out.drew⟩
      · have ei : i = 1 := by omega
        subst ei
        have ix : ¬ ((1 : Int) < 1) := by omega
        have T7 := Lib.hid t7
        clear t7 hp
        go_wp2_with fail
        rw [EQ.out]
        refine ⟨_, _, _, rfl, T7.out.row (arL_len _ _ _), fun j hj => ?_, hB⟩
        rw [HSP.out]
  · have hn1' : ¬ (n : Int) = 1 := by omega
    go_enter Try.func73, Try.ntmps73
    go_wp2_with (at_make; refine wpList_make_full _ rfl _ _ 31 rfl w.heap.size 2 i0 (.int .i64 0) 1 Try.underlying31 hi hz0 hz1 _ _ _ _ (n + 1) rfl rfl rfl rfl (by rw [hz2]; omega) (by unfold maxLen; omega) (Nat.le_refl _) ?_)
    intro w1 hown hgr
    have hB : Below w.heap.size w w1 := (Below.refl _ w).grown hgr (Nat.le_refl _) (fun _ h => by cases h)
    have t7 : BlkI w1 w.heap.size (zerL n) := BlkI.made hown
    have hlt := t7.lt
    clear hown hgr
    go_wp2_with fail
    refine (EV _).mono ?_
    rintro e w2 ⟨ap, cp, rfl, hp, _, _, hfr, hb⟩
    replace t7 := t7.below hb
    replace hB := hB.trans (hb.mono hB.size)
    have hfr2 : ∀ g off, ap = some ⟨g, off, none⟩ → g ≠ w.heap.size := fun g off e => by have := hfr g off e; omega
    have HFR := Lib.hid hfr2
    clear hb hfr hfr2 EV hlt
    go_wp2_with fail
    go_loopg [11] n (fun gk s11 wr => ∃ (i : Nat), i ≤ n ∧ gk = n - i ∧ s11 = .int .i64 ((i : Int)) ∧ BlkI wr w.heap.size (arL ps n (2 * i)) ∧ RowI wr ap (2 * n) ps ∧ Below w.heap.size w wr)
    case atStart => exact ⟨0, by omega, by omega, rfl, t7, hp, hB⟩
    case round =>
      clear t7 hp hB
      obtain ⟨i, hj, rfl, rfl, t7, hp, hB⟩ := hrel
      by_cases hjk : i < n
      · have ix : (i : Int) < (n : Int) := by omega
        obtain ⟨g, off, rfl, hg, hcx⟩ := hp.at (show 2 * i < 2 * n by omega)
        obtain ⟨g', off', e', hg', hcy⟩ := hp.at (show 2 * i + 1 < 2 * n by omega)
        obtain ⟨rfl, rfl⟩ : g = g' ∧ off = off' := by simpa using e'
        have hne : g ≠ w.heap.size := HFR.out g off rfl
        have hal := arL_len ps n (2 * i)
        have hal1 := arL_len ps n (2 * i + 1)
        have hco := t7.cell (i := i) (by rw [hal]; omega)
        have hfo := t7.free i
        have b0 := arL_nonneg HPN.out n (2 * i) i
        have b1 := get_le_pre (arL_nonneg HPN.out n (2 * i)) (show i < n + 1 by omega)
        rw [arL_pre ps n (2 * i) (by omega)] at b1
        have b2 := arL_nonneg HPN.out n (2 * i + 1) (i + 1)
        have b3 := get_le_pre (arL_nonneg HPN.out n (2 * i + 1)) (show i + 1 < n + 1 by omega)
        rw [arL_pre ps n (2 * i + 1) (by omega)] at b3
        have b4 := pre_mono HPN.out (show 2 * i ≤ 2 * n by omega)
        have b5 := pre_mono HPN.out (show 2 * i + 1 ≤ 2 * n by omega)
        have b6 := HPN.out (2 * i)
        have b7 := get_le_pre HPN.out (show 2 * i < 2 * n by omega)
        have b8 := HPN.out (2 * i + 1)
        have b9 := get_le_pre HPN.out (show 2 * i + 1 < 2 * n by omega)
        rw [HPS.out] at b4 b5 b7 b9
        have es : arL ps n (2 * i + 1) = (arL ps n (2 * i)).set i ((arL ps n (2 * i)).getD i 0 + ps.getD (2 * i) 0) := by
          show (arL ps n (2 * i)).set ((2 * i + 1) / 2) ((arL ps n (2 * i)).getD ((2 * i + 1) / 2) 0 + _) = _
          rw [show (2 * i + 1) / 2 = i by omega]
        have es2 : arL ps n (2 * (i + 1)) = (arL ps n (2 * i + 1)).set (i + 1) ((arL ps n (2 * i + 1)).getD (i + 1) 0 + ps.getD (2 * i + 1) 0) := by
          show (arL ps n (2 * i + 1)).set ((2 * i + 1 + 1) / 2) ((arL ps n (2 * i + 1)).getD ((2 * i + 1 + 1) / 2) 0 + _) = _
          rw [show (2 * i + 1 + 1) / 2 = i + 1 by omega]; rfl
        obtain ⟨x, ex⟩ : ∃ x, ps.getD (2 * i) 0 = x := ⟨_, rfl⟩
        obtain ⟨x2, ex2⟩ : ∃ x, ps.getD (2 * i + 1) 0 = x := ⟨_, rfl⟩
        obtain ⟨y, ey⟩ : ∃ y, (arL ps n (2 * i)).getD i 0 = y := ⟨_, rfl⟩
        obtain ⟨z, ez⟩ : ∃ y, (arL ps n (2 * i + 1)).getD (i + 1) 0 = y := ⟨_, rfl⟩
        rw [ex] at hcx b6 b7 es
        rw [ex2] at hcy b8 b9 es2
        rw [ey] at hco b0 b1 es
        rw [ez] at b2 b3 es2
        have w1' : wrap64 (y + x) = y + x := by simp only [wrap64]; omega
        have w2' : wrap64 (z + x2) = z + x2 := by simp only [wrap64]; omega
        have k1 := t7.put i (y + x)
        rw [← es] at k1
        have hpn : RowI (wr.setCell ⟨w.heap.size, i, none⟩ (.int .i64 (y + x))) (some ⟨g, off, none⟩) (2 * n) ps := hp.but (But.set _ _ _) (fun g' off' e => by
          obtain ⟨rfl, rfl⟩ : g = g' ∧ off = off' := by simpa using e
          exact hne)
        have hB2 := hB.setCell (p := ⟨w.heap.size, i, none⟩) (Nat.le_refl _) (.int .i64 (y + x))
        have K1 := Lib.hid k1
        have HP2 := Lib.hid hpn
        have HB2 := Lib.hid hB2
        have EZ := Lib.hid ez
        have EX2 := Lib.hid ex2
        have HAL1 := Lib.hid hal1
        have ES2 := Lib.hid es2
        have HCX := Lib.hid hcy
        clear b0 b1 b2 b3 b4 b5 b6 b7 b8 b9 es es2 ex ex2 ey ez hal hal1 k1 hpn hB2 t7 hp hB hcy
        go_wp2_with fail
        go_region
        all_goals
          obtain ⟨W, eW⟩ : ∃ W, (wr.setCell ⟨w.heap.size, i, none⟩ (.int .i64 (y + x))).drew = W := ⟨_, rfl⟩
          have t8 : BlkI W w.heap.size (arL ps n (2 * i + 1)) := by rw [← eW]; exact Blk.drew K1.out
          have hp : RowI W (some ⟨g, off, none⟩) (2 * n) ps := by rw [← eW]; exact RowI.drew HP2.out
          have hB : Below w.heap.size w W := by rw [← eW]; exact HB2.out.drew
          have hco := t8.cell (i := i + 1) (by rw [HAL1.out]; omega)
          rw [EZ.out] at hco
          have hfo := t8.free (i + 1)
          obtain ⟨g', off', e', hg', hcy⟩ := hp.at (show 2 * i + 1 < 2 * n by omega)
          obtain ⟨rfl, rfl⟩ : g = g' ∧ off = off' := by simpa using e'
          rw [EX2.out] at hcy
          have t9 := t8.put (i + 1) (z + x2)
          rw [← ES2.out] at t9
          have hp9 : RowI (W.setCell ⟨w.heap.size, i + 1, none⟩ (.int .i64 (z + x2))) (some ⟨g, off, none⟩) (2 * n) ps := hp.but (But.set _ _ _) (fun g' off' e => by
            obtain ⟨rfl, rfl⟩ : g = g' ∧ off = off' := by simpa using e
            exact hne)
          have hB9 := hB.setCell (p := ⟨w.heap.size, i + 1, none⟩) (Nat.le_refl _) (.int .i64 (z + x2))
          have T9 := Lib.hid t9
          have HP9 := Lib.hid hp9
          have HB9 := Lib.hid hB9
          have ix2 : (0 : Int) ≤ 2 * (i : Int) + 1 := by omega
          have ix3 : (i : Int) + 1 < (n : Int) + 1 := by omega
          rw [eW]
          clear t9 hp9 hB9 t8 hp hB eW
          go_wp2_with fail
          go_region
          all_goals
            go_wp2_with fail
            go_roundg (n - (i + 1))
            case measure => omega
            case rel => exact ⟨i + 1, by omega, rfl, by go_num, Blk.drew T9.out, RowI.drew HP9.out, HB9.out.drew⟩
      · obtain rfl : i = n := by omega
        have ix : ¬ ((i : Int) < (i : Int)) := by omega
        have T7 := Lib.hid t7
        clear t7 hp
        go_wp2_with fail
        rw [EQ.out]
        refine ⟨_, _, _, rfl, T7.out.row (arL_len _ _ _), fun j hj => ?_, hB⟩
        rw [HSP.out]
end Go.Proofs.Ythofammjbicogaa
