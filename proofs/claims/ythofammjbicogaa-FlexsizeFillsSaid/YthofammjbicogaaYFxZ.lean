/-
  The law FlexsizeFills, walked.
-/
import Derived.Test.YthofammjbicogaaYFxY
namespace Go.Proofs.Ythofammjbicogaa
open Go.RowKit
set_option linter.unusedSimpArgs false
set_option linter.unusedVariables false

theorem bnd0 {y : Fl} (h : Cut y.it) (ht : 0 ≤ y.tg ∧ y.tg ≤ 549755813888) : (-1073741823 ≤ gF0 y ∧ gF0 y ≤ 551903297535) ∧ (-1073741823 ≤ gF1 y ∧ gF1 y ≤ 2147483646) ∧ (0 ≤ gF2 y ∧ gF2 y ≤ 4096000) ∧ (0 ≤ gF3 y ∧ gF3 y ≤ 4096000) ∧ (0 ≤ y.it.shrink * y.it.base ∧ y.it.shrink * y.it.base ≤ 4398046511104000) := by
  have hl := h.lim
  have hm : 0 ≤ y.it.shrink * y.it.base ∧ y.it.shrink * y.it.base ≤ 4096000 * 1073741823 := by
    unfold Cut at h
    exact ⟨Int.mul_nonneg (by omega) (by omega), Int.mul_le_mul (by omega) (by omega) (by omega) (by omega)⟩
  unfold gF0 gF1 gF2 gF3
  unfold Cut at h
  omega
set_option maxRecDepth 100000 in
set_option maxHeartbeats 6400000 in
theorem law_fills19 (v : Value) (av : Int) (hav : IFit av) (w : World) (hv : FxIn w v) :
    Calls Try.prog 10 #[v, .int .i64 av] w fun e w' => e = .returned (.bool true) ∧ Below w.heap.size w w' := by
  obtain ⟨ao, n, cap, l, rfl, hn, hl, hr, hf⟩ := hv
  obtain ⟨k, ek⟩ : ∃ k, k = min n 25 := ⟨_, rfl⟩
  have CU := fun W hr => law19_cut ao n cap k l hn ek hl hf W hr
  obtain ⟨q, eq⟩ : ∃ q, (l.take k).map cutX = q := ⟨_, rfl⟩
  have hql : q.length = k := by rw [← eq, List.length_map, List.length_take, hl]; omega
  have hqc : ∀ x ∈ q, Cut x := fun x hx => by
    rw [← eq] at hx
    obtain ⟨y, _, rfl⟩ := List.mem_map.1 hx
    exact cutX_cut y
  rw [eq] at CU
  have hk25 : k ≤ 25 := by omega
  have AV := and36 av
  obtain ⟨room, er⟩ : ∃ r, av % 68719476736 = r := ⟨_, rfl⟩
  rw [er] at AV
  have hr0 : 0 ≤ room ∧ room ≤ 68719476735 := by omega
  obtain ⟨m, hm⟩ := fill_plain hqc (by omega) hr0.1 hr0.2
  have hml : m.length = k := by rw [← hql, ← hm.its, List.length_map]
  have RV := fun a1 c1 W hr => law19_resolved a1 k c1 q room (by omega) hql (fun x hx => (hqc x hx).fit) (by unfold IFit; omega) W hr
  unfold RvAns at RV
  rw [hm.code, hm.res] at RV
  have HM := Lib.hid hm
  have HR := Lib.hid hr
  have HML := Lib.hid hml
  have HQL := Lib.hid hql
  clear hm hr hml hql hqc er eq ek hl hf
  go_enter Try.func10, Try.ntmps10
  go_wp2_with fail
  refine (speaks19 _).mono ?_
  rintro e w1 ⟨rfl, hb1⟩
  have CU1 := CU w1 (HR.out.below hb1)
  have HB1 := Lib.hid hb1
  clear hb1 CU
  go_wp2_with fail
  refine CU1.mono ?_
  rintro e w2 ⟨a1, c1, rfl, o1, hb2⟩
  have RV2 := RV a1 c1 w2 o1.row
  have hB2 := HB1.out.trans (hb2.mono HB1.out.size)
  have hrow := o1.row
  have HB2 := Lib.hid hB2
  have HROW := Lib.hid hrow
  clear RV CU1 hb2 hB2 o1 hrow
  go_wp2_with fail
  refine RV2.mono ?_
  rintro e w3 ⟨a2, mm, c2, rfl, h1, -, hb3⟩
  obtain ⟨xs, e1, rfl, r3⟩ := h1 (by first | rfl | trivial)
  obtain rfl : m.map Fl.tg = xs := by simpa using e1
  have hB3 := HB2.out.trans (hb3.mono HB2.out.size)
  have row3 := HROW.out.below hb3
  have HB3 := Lib.hid hB3
  have ROW3 := Lib.hid row3
  have R3 := Lib.hid r3
  clear RV2 h1 e1 hb3 hB3 row3 r3
  go_wp2_with fail
  go_loopg [14, 9, 10, 11, 12, 13] mm (fun gk s14 s9 s10 s11 s12 s13 wr => ∃ (j : Nat), j ≤ mm ∧ gk = mm - j ∧ s14 = .int .i64 ((j : Int)) ∧ s9 = .int .i64 (sm gF0 (m.take j)) ∧ s10 = .int .i64 (sm gF1 (m.take j)) ∧ s11 = .int .i64 (sm gF2 (m.take j)) ∧ s12 = .int .i64 (sm gF3 (m.take j)) ∧ s13 = .bool ((m.take j).all gFB) ∧ Below w3.heap.size w3 wr)
  case atStart => exact ⟨0, by omega, by omega, rfl, by simp [sm], by simp [sm], by simp [sm], by simp [sm], by simp, Below.refl _ _⟩
  case round =>
    obtain ⟨j, hj, rfl, rfl, rfl, rfl, rfl, rfl, rfl, hB⟩ := hrel
    by_cases hjk : j < mm
    · have ix : (j : Int) < (mm : Int) := by omega
      have hjm : j < m.length := by rw [HML.out]; exact hjk
      have hym : m.getD j fl0 ∈ m := by
        have e : m.getD j fl0 = m[j] := by simp [List.getD, hjm]
        rw [e]; exact List.getElem_mem hjm
      have hcy := HM.out.cut _ hym
      have hbb := bnd0 hcy.1 hcy.2.1
      have b0 := sm_bnd (f := gF0) (A := -1073741823) (B := 551903297535) (m := m.take j) (fun z hz => (bnd0 (HM.out.cut z (List.mem_of_mem_take hz)).1 (HM.out.cut z (List.mem_of_mem_take hz)).2.1).1)
      have b1 := sm_bnd (f := gF1) (A := -1073741823) (B := 2147483646) (m := m.take j) (fun z hz => (bnd0 (HM.out.cut z (List.mem_of_mem_take hz)).1 (HM.out.cut z (List.mem_of_mem_take hz)).2.1).2.1)
      have b2 := sm_bnd (f := gF2) (A := 0) (B := 4096000) (m := m.take j) (fun z hz => (bnd0 (HM.out.cut z (List.mem_of_mem_take hz)).1 (HM.out.cut z (List.mem_of_mem_take hz)).2.1).2.2.1)
      have b3 := sm_bnd (f := gF3) (A := 0) (B := 4096000) (m := m.take j) (fun z hz => (bnd0 (HM.out.cut z (List.mem_of_mem_take hz)).1 (HM.out.cut z (List.mem_of_mem_take hz)).2.1).2.2.2.1)
      have hlt : (m.take j).length ≤ 25 := by rw [List.length_take]; omega
      have t0 := sm_take (f := gF0) hjm
      have t1 := sm_take (f := gF1) hjm
      have t2 := sm_take (f := gF2) hjm
      have t3 := sm_take (f := gF3) hjm
      have t4 : (m.take (j + 1)).all gFB = ((m.take j).all gFB && gFB (m.getD j fl0)) := by
        rw [List.take_succ_eq_append_getElem hjm, List.all_append]
        simp [List.getD, hjm]
      obtain ⟨ga, oa, rfl, hga, hF⟩ := fx_at (ROW3.out.below hB) HQL.out hjk
      have eqy : q.getD j fx0 = (m.getD j fl0).it := by rw [← HM.out.its]; simp [List.getD, hjm]
      obtain ⟨gg, og, rfl, hgg, hcg⟩ := R3.out.at hjk
      have egy : (m.map Fl.tg).getD j 0 = (m.getD j fl0).tg := by simp [List.getD, hjm]
      rw [eqy] at hF
      rw [egy] at hcg
      obtain ⟨y, ey⟩ : ∃ y, m.getD j fl0 = y := ⟨_, rfl⟩
      rw [ey] at hF hcg hcy hbb t0 t1 t2 t3 t4
      obtain ⟨h0, h1, h2, h3, h4, h5, h6⟩ := hF
      have hdef : gFB y = ((y.it.lim y.it.base == y.it.base) && decide (y.it.least < y.tg) && (!y.it.bound || decide (y.tg < y.it.most))) := rfl
      have hd0 : gF0 y = y.tg + y.it.extra := rfl
      have hd1 : gF1 y = y.it.lim y.it.base + y.it.extra := rfl
      have hd2 : gF2 y = y.it.grow := rfl
      have hd3 : gF3 y = min y.it.shrink (y.it.shrink * y.it.base) := rfl
      have TO := fun W => law19_told y.it W
      have LO1 : ∀ W, Calls Try.prog 46 #[.agg #[.int .i64 y.it.least, .int .i64 y.it.most, .bool y.it.bound], .int .i64 y.it.base] W fun e w' => e = .returned (.int .i64 (y.it.lim y.it.base)) ∧ Below W.heap.size W w' := fun W => lim_of _ _ _ _ W
      have LO2 : ∀ W, Calls Try.prog 46 #[.agg #[.int .i64 y.it.least, .int .i64 y.it.most, .bool y.it.bound], .int .i64 y.tg] W fun e w' => e = .returned (.int .i64 y.tg) ∧ Below W.heap.size W w' := fun W => by
        have := lim_of y.it.least y.it.most y.it.bound y.tg W
        have e : limN y.it.least y.it.most y.it.bound y.tg = y.tg := hcy.2.2
        rw [e] at this
        exact this
      have hcl := hcy.1.lim
      have hct := hcy.2.1
      have hcc := hcy.1
      unfold Cut at hcc
      unfold Fx.val at TO
      obtain ⟨b, eb⟩ : ∃ z, y.it.base = z := ⟨_, rfl⟩
      obtain ⟨ls, els⟩ : ∃ z, y.it.least = z := ⟨_, rfl⟩
      obtain ⟨ms, ems⟩ : ∃ z, y.it.most = z := ⟨_, rfl⟩
      obtain ⟨bd, ebd⟩ : ∃ z, y.it.bound = z := ⟨_, rfl⟩
      obtain ⟨ex, eex⟩ : ∃ z, y.it.extra = z := ⟨_, rfl⟩
      obtain ⟨gr, egr⟩ : ∃ z, y.it.grow = z := ⟨_, rfl⟩
      obtain ⟨sh, esh⟩ : ∃ z, y.it.shrink = z := ⟨_, rfl⟩
      obtain ⟨tg, etg⟩ : ∃ z, y.tg = z := ⟨_, rfl⟩
      obtain ⟨lt, elt⟩ : ∃ z, y.it.lim y.it.base = z := ⟨_, rfl⟩
      rw [elt] at LO1 hcl hdef hd1
      rw [eb] at LO1 TO h0 hcc hdef hd3 hbb
      rw [els] at LO1 LO2 TO h1 hcc hdef
      rw [ems] at LO1 LO2 TO h2 hcc hdef
      rw [ebd] at LO1 LO2 TO h3 hdef
      rw [eex] at TO h4 hcc hd0 hd1
      rw [egr] at TO h5 hcc hd2
      rw [esh] at TO h6 hcc hd3 hbb
      rw [etg] at LO2 hcg hct hdef hd0
      rw [hd0, hd1, hd2, hd3] at hbb
      rw [hd0] at t0
      rw [hd1] at t1
      rw [hd2] at t2
      rw [hd3] at t3
      obtain ⟨p, ep⟩ : ∃ p, sh * b = p := ⟨_, rfl⟩
      rw [ep] at hbb t3
      obtain ⟨mn, emn⟩ : ∃ z, min sh p = z := ⟨_, rfl⟩
      rw [emn] at hbb t3
      obtain ⟨fb, efb⟩ : ∃ z, gFB y = z := ⟨_, rfl⟩
      rw [efb] at t4 hdef
      obtain ⟨S0, es0⟩ : ∃ z, sm gF0 (m.take j) = z := ⟨_, rfl⟩
      obtain ⟨S1, es1⟩ : ∃ z, sm gF1 (m.take j) = z := ⟨_, rfl⟩
      obtain ⟨S2, es2⟩ : ∃ z, sm gF2 (m.take j) = z := ⟨_, rfl⟩
      obtain ⟨S3, es3⟩ : ∃ z, sm gF3 (m.take j) = z := ⟨_, rfl⟩
      obtain ⟨fr, efr⟩ : ∃ z, (m.take j).all gFB = z := ⟨_, rfl⟩
      rw [es0] at t0 b0
      rw [es1] at t1 b1
      rw [es2] at t2 b2
      rw [es3] at t3 b3
      rw [efr] at t4
      rw [es0, es1, es2, es3, efr]
      have B0 : -26843545575 ≤ S0 ∧ S0 ≤ 13797582438375 := by omega
      have B1 : -26843545575 ≤ S1 ∧ S1 ≤ 53687091150 := by omega
      have B2 : 0 ≤ S2 ∧ S2 ≤ 102400000 := by omega
      have B3 : 0 ≤ S3 ∧ S3 ≤ 102400000 := by omega
      have HT := Lib.hid (⟨t0, t1, t2, t3, t4⟩ : _ ∧ _ ∧ _ ∧ _ ∧ _)
      have HDEF := Lib.hid hdef
      have HCG := Lib.hid hcg
      have EMN := Lib.hid emn
      clear t0 t1 t2 t3 t4 b0 b1 b2 b3 hlt hdef hd0 hd1 hd2 hd3 eb els ems ebd eex egr esh etg elt efb es0 es1 es2 es3 efr eqy egy ey hym hcy emn hcg hjm
      go_wp2_with fail
      refine (TO _).mono ?_
      rintro e w4 ⟨rfl, hb4⟩
      have hB4 := hB.trans (hb4.mono hB.size)
      go_wp2_with fail
      refine (LO1 _).mono ?_
      rintro e w5 ⟨rfl, hb5⟩
      have hbz : Below w4.heap.size w4 (w4.alloc (.cells #[.int .i64 b, .int .i64 ls, .int .i64 ms, .bool bd, .int .i64 ex, .int .i64 gr, .int .i64 sh] 85)) := (by repeat' (first | (with_reducible exact Below.refl _ _) | (with_reducible assumption) | (with_reducible refine below_alloc ?_ _ ?_) | (with_reducible refine below_set _ ?_ ?_) | (with_reducible refine Below.drew ?_) | (with_reducible refine below_dN ?_ _) | (apply below_thenA; assumption) | omega | (simp; done) | (simp; omega) | (simp [*]; done)))
      have tz := (Blk.new w4 #[.int .i64 b, .int .i64 ls, .int .i64 ms, .bool bd, .int .i64 ex, .int .i64 gr, .int .i64 sh] 85 _ rfl).below hb5
      have hB5 := hB4.trans ((hbz.trans (hb5.mono hbz.size)).mono hB4.size)
      have cg := (hB5.cell (p := ⟨gg, og + j, none⟩) hgg).trans HCG.out
      have hg5 : gg < w5.heap.size := Nat.lt_of_lt_of_le hgg hB5.size
      have z0 := tz.cell 0 _ rfl
      have z1 := tz.cell 1 _ rfl
      have z2 := tz.cell 2 _ rfl
      have z3 := tz.cell 3 _ rfl
      have z4 := tz.cell 4 _ rfl
      have z5 := tz.cell 5 _ rfl
      have z6 := tz.cell 6 _ rfl
      have hlz := tz.lt
      have HB5 := Lib.hid hB5
      have TZ5 := Lib.hid tz
      clear hbz hb5 hb4 hB4 hB5 tz h0 h1 h2 h3 h4 h5 h6 hB TO LO1
      go_upto_region 16 with (fail)
      go_quiet (fail)
      obtain ⟨nq0, rfl⟩ : ∃ n, n = nq := ⟨_, rfl⟩
      have emn := EMN.out
      go_upto_region 17 with (fail)
      go_quiet ((simp only [run_mn2]; exact ⟨rfl, rfl⟩))
      obtain ⟨w6, e6⟩ : ∃ x, (w5.drewN nq0).drewN nq = x := ⟨_, rfl⟩
      have hb6 : Below w5.heap.size w5 w6 := by rw [← e6]; exact below_dN (below_dN (Below.refl _ _) _) _
      rw [e6]
      have cg6 := (hb6.cell (p := ⟨gg, og + j, none⟩) hg5).trans cg
      have tz6 : Blk w6 w4.heap.size #[.int .i64 b, .int .i64 ls, .int .i64 ms, .bool bd, .int .i64 ex, .int .i64 gr, .int .i64 sh] 85 := by rw [← e6]; exact TZ5.out
      have hB6 := HB5.out.trans (hb6.mono HB5.out.size)
      have hlz6 := tz6.lt
      have hg6 : gg < w6.heap.size := Nat.lt_of_lt_of_le hg5 hb6.size
      clear cg z0 z1 z2 z3 z4 z5 z6 emn hb6 e6
      have cg := cg6
      have z0 := tz6.cell 0 _ rfl
      have z1 := tz6.cell 1 _ rfl
      have z2 := tz6.cell 2 _ rfl
      have z3 := tz6.cell 3 _ rfl
      have HB6 := Lib.hid hB6
      have TZ6 := Lib.hid tz6
      clear cg6 tz6 hB6 hlz hg5
      go_upto_region 18 with (fail)
      go_cut [13] from 85 to 117 (fun sv wx => sv = .bool (fr && fb) ∧ ∃ nd, wx = w6.drewN nd)
      case first =>
        cases fr
        · go_quiet (fail)
          go_wp2
          go_meet
          case rel => exact ⟨rfl, _, rfl⟩
        · obtain ⟨c1', e1'⟩ : ∃ c, (lt == b) = c := ⟨_, rfl⟩
          obtain ⟨c2', e2'⟩ : ∃ c, decide (ls < tg) = c := ⟨_, rfl⟩
          obtain ⟨c4', e4'⟩ : ∃ c, decide (tg < ms) = c := ⟨_, rfl⟩
          have hd := HDEF.out
          rw [e1', e2', e4'] at hd
          cases c1'
          · have HD := Lib.hid hd
            clear hd
            go_quiet (fail)
            go_wp2
            go_meet
            case rel => exact ⟨by rw [HD.out]; rfl, _, rfl⟩
          · cases c2'
            · have HD := Lib.hid hd
              clear hd
              go_quiet (fail)
              go_wp2
              go_meet
              case rel => exact ⟨by rw [HD.out]; rfl, _, rfl⟩
            · cases bd
              · have HD := Lib.hid hd
                clear hd
                go_quiet (fail)
                go_wp2
                go_meet
                case rel => exact ⟨by rw [HD.out]; rfl, _, rfl⟩
              · have HD := Lib.hid hd
                clear hd
                go_quiet (fail)
                go_wp2
                go_meet
                case rel => exact ⟨by rw [HD.out]; rfl, _, rfl⟩
      case rest =>
        obtain ⟨rfl, nd, rfl⟩ := hcut
        obtain ⟨w7, e7⟩ : ∃ x, w6.drewN nd = x := ⟨_, rfl⟩
        have hb7 : Below w6.heap.size w6 w7 := by rw [← e7]; exact below_dN (Below.refl _ _) _
        rw [e7]
        have cg7 := (hb7.cell (p := ⟨gg, og + j, none⟩) hg6).trans cg
        have tz7 := TZ6.out.below hb7
        have hB7 := HB6.out.trans (hb7.mono HB6.out.size)
        have hg7 : gg < w7.heap.size := Nat.lt_of_lt_of_le hg6 hb7.size
        clear cg z0 z1 z2 z3 hb7 e7
        have cg := cg7
        have z1 := tz7.cell 1 _ rfl
        have z2 := tz7.cell 2 _ rfl
        have z3 := tz7.cell 3 _ rfl
        have hlz7 := tz7.lt
        have HB7 := Lib.hid hB7
        have TZ7 := Lib.hid tz7
        clear cg7 tz7 hB7 hlz6 hg6
        have hne : (tg != tg) = false := by simp
        go_upto_region 19 with (fail)
        go_cut [129] from 118 to 129 (fun sv wx => sv = .bool false ∧ Below w7.heap.size w7 wx)
        case first =>
          have HGC := Lib.hid (fun W (h : Below w7.heap.size w7 W) => ((HB7.out.trans (h.mono HB7.out.size)).cell (p := ⟨gg, og + j, none⟩) hgg).trans HCG.out)
          clear cg z1 z2 z3
          go_upto_region 19 with (fail)
          rename_i K1 hK1
          refine wp_region_calm (fun w' => Blk w' w4.heap.size #[.int .i64 b, .int .i64 ls, .int .i64 ms, .bool bd, .int .i64 ex, .int .i64 gr, .int .i64 sh] 85 ∧ Below w7.heap.size w7 w') [] (fun w' => True) [Is (.slice (some ⟨gg, og, none⟩) mm c2), Is (.int .i64 ((j : Int))), Is (.pointer (some ⟨gg, og + j, none⟩)), Is (.int .i64 tg), Is (.pointer (some ⟨w4.heap.size, 1, none⟩)), Is (.agg #[.int .i64 ls, .int .i64 ms, .bool bd]), Is (.slice (some ⟨gg, og, none⟩) mm c2), Is (.int .i64 ((j : Int))), Is (.pointer (some ⟨gg, og + j, none⟩)), Is (.int .i64 tg), Is (.int .i64 tg), Is (.bool false)] [] (by kernel_rfl) (by kernel_rfl) (by kernel_rfl) (by kernel_rfl) ⟨TZ7.out, (Below.refl _ _).drew⟩ trivial ?_ ?_ ?_ ?_ ?_
          · rintro W W' ⟨tY, hBB⟩ hb
            exact ⟨tY.below hb, hBB.trans (hb.mono hBB.size)⟩
          · exact fun _ _ _ _ _ => trivial
          · intro k vs W hk h
            exact absurd hk (by simp)
          · intro Q; clear hK1 
            refine ⟨?_, ?_, ?_, ?_, ?_, ?_, ?_, ?_, ?_, ?_, ?_, ?_, trivial⟩
            · intro vs W hW hW0 hd hne hold K hK hA hL; clear hne hA hL; have tY := hW.1; have hBB := hW.2; simp only [puts, Act.put, List.setIfInBounds_toArray, List.set_cons_zero, List.set_cons_succ, Nat.zero_add, Nat.reduceAdd] at hK ⊢; clear hd hold; go_simp; exact hK.out rfl _ _ (Below.refl _ _) rfl
            · intro vs W hW hW0 hd hne hold K hK hA hL; clear hne hA hL; have tY := hW.1; have hBB := hW.2; simp only [puts, Act.put, List.setIfInBounds_toArray, List.set_cons_zero, List.set_cons_succ, Nat.zero_add, Nat.reduceAdd] at hK ⊢; clear hd hold; go_simp; exact hK.out rfl _ _ (Below.refl _ _) rfl
            · intro vs W hW hW0 hd hne hold K hK hA hL; clear hne hA hL; have tY := hW.1; have hBB := hW.2; simp only [puts, Act.put, List.setIfInBounds_toArray, List.set_cons_zero, List.set_cons_succ, Nat.zero_add, Nat.reduceAdd] at hK ⊢; have e0 : vs 0 = _ := hd 0 (by kernel_rfl); have e1 : vs 1 = _ := hd 1 (by kernel_rfl); clear hd hold; simp only [e0, e1] at hK; go_simp; exact hK.out rfl _ _ (Below.refl _ _) rfl
            · intro vs W hW hW0 hd hne hold K hK hA hL; clear hne hA hL; have tY := hW.1; have hBB := hW.2; simp only [puts, Act.put, List.setIfInBounds_toArray, List.set_cons_zero, List.set_cons_succ, Nat.zero_add, Nat.reduceAdd] at hK ⊢; have q := HGC.out W hBB; have eb : vs 2 = _ := hd 2 (by kernel_rfl); clear hd hold; simp only [eb] at hK; go_simp; exact hK.out rfl _ _ (Below.refl _ _) rfl
            · intro vs W hW hW0 hd hne hold K hK hA hL; clear hne hA hL; have tY := hW.1; have hBB := hW.2; simp only [puts, Act.put, List.setIfInBounds_toArray, List.set_cons_zero, List.set_cons_succ, Nat.zero_add, Nat.reduceAdd] at hK ⊢; clear hd hold; go_simp; exact hK.out rfl _ _ (Below.refl _ _) rfl
            · intro vs W hW hW0 hd hne hold K hK hA hL; clear hne hA hL; have tY := hW.1; have hBB := hW.2; simp only [puts, Act.put, List.setIfInBounds_toArray, List.set_cons_zero, List.set_cons_succ, Nat.zero_add, Nat.reduceAdd] at hK ⊢; have eb : vs 4 = _ := hd 4 (by kernel_rfl); have q1 := tY.cell 1 _ rfl; have q2 := tY.cell 2 _ rfl; have q3 := tY.cell 3 _ rfl; clear hd hold; simp only [eb] at hK; go_simp; exact hK.out rfl _ _ (Below.refl _ _) rfl
            · intro vs W hW hW0 hd hne hold K hK hA hL; clear hne hA hL; have tY := hW.1; have hBB := hW.2; simp only [puts, Act.put, List.setIfInBounds_toArray, List.set_cons_zero, List.set_cons_succ, Nat.zero_add, Nat.reduceAdd] at hK ⊢; clear hd hold; go_simp; exact hK.out rfl _ _ (Below.refl _ _) rfl
            · intro vs W hW hW0 hd hne hold K hK hA hL; clear hne hA hL; have tY := hW.1; have hBB := hW.2; simp only [puts, Act.put, List.setIfInBounds_toArray, List.set_cons_zero, List.set_cons_succ, Nat.zero_add, Nat.reduceAdd] at hK ⊢; clear hd hold; go_simp; exact hK.out rfl _ _ (Below.refl _ _) rfl
            · intro vs W hW hW0 hd hne hold K hK hA hL; clear hne hA hL; have tY := hW.1; have hBB := hW.2; simp only [puts, Act.put, List.setIfInBounds_toArray, List.set_cons_zero, List.set_cons_succ, Nat.zero_add, Nat.reduceAdd] at hK ⊢; have e6 : vs 6 = _ := hd 6 (by kernel_rfl); have e7 : vs 7 = _ := hd 7 (by kernel_rfl); clear hd hold; simp only [e6, e7] at hK; go_simp; exact hK.out rfl _ _ (Below.refl _ _) rfl
            · intro vs W hW hW0 hd hne hold K hK hA hL; clear hne hA hL; have tY := hW.1; have hBB := hW.2; simp only [puts, Act.put, List.setIfInBounds_toArray, List.set_cons_zero, List.set_cons_succ, Nat.zero_add, Nat.reduceAdd] at hK ⊢; have q := HGC.out W hBB; have eb : vs 8 = _ := hd 8 (by kernel_rfl); clear hd hold; simp only [eb] at hK; go_simp; exact hK.out rfl _ _ (Below.refl _ _) rfl
            · intro vs W hW hW0 hd hne hold K hK hA hL; clear hne hA hL; have tY := hW.1; have hBB := hW.2; simp only [puts, Act.put, List.setIfInBounds_toArray, List.set_cons_zero, List.set_cons_succ, Nat.zero_add, Nat.reduceAdd] at hK ⊢; have eb : vs 5 = _ := hd 5 (by kernel_rfl); have ed : vs 9 = _ := hd 9 (by kernel_rfl); clear hd hold; simp only [eb, ed] at hK; go_simp; refine (LO2 W).mono ?_; (rintro e wx ⟨rfl, hbx⟩); go_simp; exact hK.out rfl _ _ hbx rfl
            · intro vs W hW hW0 hd hne hold K hK hA hL; clear hne hA hL; have tY := hW.1; have hBB := hW.2; simp only [puts, Act.put, List.setIfInBounds_toArray, List.set_cons_zero, List.set_cons_succ, Nat.zero_add, Nat.reduceAdd] at hK ⊢; have eb : vs 3 = _ := hd 3 (by kernel_rfl); have ed : vs 10 = _ := hd 10 (by kernel_rfl); clear hd hold; simp only [eb, ed] at hK; go_simp; exact hK.out rfl _ _ (Below.refl _ _) rfl
          · intro va WB hW hV _
            obtain ⟨_, hB2⟩ := hW
            have e11 : va 11 = .bool false := hV 11 (by decide)
            simp only [puts, Act.put, List.setIfInBounds_toArray, List.set_cons_zero, List.set_cons_succ, Nat.zero_add, Nat.reduceAdd, e11]
            refine hK1 _ _ ?_
            go_meet
            case rel => exact ⟨rfl, hB2⟩
        case rest =>
          obtain ⟨rfl, hb8⟩ := hcut
          have hB8 := HB7.out.trans (hb8.mono HB7.out.size)
          have HB8 := Lib.hid hB8
          clear hb8 hB8 cg z1 z2 z3
          go_wp2_with fail
          go_roundg (mm - (j + 1))
          case measure => omega
          case rel =>
            obtain ⟨u0, u1, u2, u3, u4⟩ := HT.out
            exact ⟨j + 1, by omega, rfl, by go_num, by rw [u0], by rw [u1], by rw [u2], by rw [u3], by rw [u4], HB8.out⟩
    · obtain rfl : mm = j := by omega
      have ix : ¬ (mm : Int) < (mm : Int) := by omega
      rw [List.take_of_length_le (by rw [HML.out]; omega)]
      have up := HM.out.up
      have down := HM.out.down
      have full := HM.out.full
      obtain ⟨S0, es0⟩ : ∃ z, sm gF0 m = z := ⟨_, rfl⟩
      obtain ⟨S1, es1⟩ : ∃ z, sm gF1 m = z := ⟨_, rfl⟩
      obtain ⟨S2, es2⟩ : ∃ z, sm gF2 m = z := ⟨_, rfl⟩
      obtain ⟨S3, es3⟩ : ∃ z, sm gF3 m = z := ⟨_, rfl⟩
      obtain ⟨fr, efr⟩ : ∃ z, m.all gFB = z := ⟨_, rfl⟩
      rw [es1] at up down
      rw [es0, es1, es2, es3] at full
      have full2 : fr = true → (S1 < room ∧ 4096 ≤ S2) ∨ (¬ S1 < room ∧ 4096 ≤ S3) → S0 = room := fun h => full (fun y hy => List.all_eq_true.1 (efr.trans h) y hy)
      rw [es0, es1, es2, es3, efr]
      have UP := Lib.hid up
      have DN := Lib.hid down
      have FU := Lib.hid full2
      have HBr := Lib.hid hB
      clear up down full full2 es0 es1 es2 es3 efr hB
      obtain ⟨wa, rfl⟩ : ∃ x, x = wr := ⟨_, rfl⟩
      go_wp2_with fail
      go_loopg [17] mm (fun gk s17 wx => ∃ (j : Nat), j ≤ mm ∧ gk = mm - j ∧ s17 = .int .i64 ((j : Int)) ∧ Below w3.heap.size w3 wx)
      case atStart => exact ⟨0, by omega, by omega, rfl, HBr.out⟩
      case round =>
        obtain ⟨j, hj, rfl, rfl, hB⟩ := hrel
        by_cases hjk : j < mm
        · have ix : (j : Int) < (mm : Int) := by omega
          have hjm : j < m.length := by rw [HML.out]; exact hjk
          have hym : m.getD j fl0 ∈ m := by
            have e : m.getD j fl0 = m[j] := by simp [List.getD, hjm]
            rw [e]; exact List.getElem_mem hjm
          have hup := fun h => UP.out h _ hym
          have hdn := fun h => DN.out h _ hym
          obtain ⟨ga, oa, rfl, hga, hF⟩ := fx_at ROW3.out HQL.out hjk
          have eqy : q.getD j fx0 = (m.getD j fl0).it := by rw [← HM.out.its]; simp [List.getD, hjm]
          obtain ⟨gg, og, rfl, hgg, hcg⟩ := R3.out.at hjk
          have egy : (m.map Fl.tg).getD j 0 = (m.getD j fl0).tg := by simp [List.getD, hjm]
          rw [eqy] at hF
          rw [egy] at hcg
          obtain ⟨y, ey⟩ : ∃ y, m.getD j fl0 = y := ⟨_, rfl⟩
          rw [ey] at hF hcg hup hdn
          have TO := fun W => law19_told y.it W
          have LO1 : ∀ W, Calls Try.prog 46 #[.agg #[.int .i64 y.it.least, .int .i64 y.it.most, .bool y.it.bound], .int .i64 y.it.base] W fun e w' => e = .returned (.int .i64 (y.it.lim y.it.base)) ∧ Below W.heap.size W w' := fun W => lim_of _ _ _ _ W
          unfold Fx.val at TO
          have HFX := Lib.hid (fun W (h : Below w3.heap.size w3 W) => show FxAt W ga (oa + j * 7) y.it from by
            obtain ⟨h0, h1, h2, h3, h4, h5, h6⟩ := hF
            have k : ∀ {p : Nat} {v : Value}, w3.cell? ⟨ga, p, none⟩ = some v → W.cell? ⟨ga, p, none⟩ = some v := fun {p v} q => (h.cell (p := ⟨ga, p, none⟩) hga).trans q
            exact ⟨k h0, k h1, k h2, k h3, k h4, k h5, k h6⟩)
          have HGC := Lib.hid (fun W (h : Below w3.heap.size w3 W) => (h.cell (p := ⟨gg, og + j, none⟩) hgg).trans hcg)
          obtain ⟨lt, elt⟩ : ∃ z, y.it.lim y.it.base = z := ⟨_, rfl⟩
          obtain ⟨tg, etg⟩ : ∃ z, y.tg = z := ⟨_, rfl⟩
          obtain ⟨gr, egr⟩ : ∃ z, y.it.grow = z := ⟨_, rfl⟩
          obtain ⟨sh, esh⟩ : ∃ z, y.it.shrink = z := ⟨_, rfl⟩
          rw [elt, etg, egr] at hup
          rw [elt, etg, esh] at hdn
          rw [elt] at LO1
          have EGR := Lib.hid egr
          have ESH := Lib.hid esh
          have ETG := Lib.hid etg
          have HUP := Lib.hid hup
          have HDN := Lib.hid hdn
          have HBj := Lib.hid hB
          have hszj := hB.size
          clear hF hcg hup hdn elt etg egr esh eqy egy ey hym hjm hB
          go_upto_region 24 with (fail)
          go_cut [18] from 136 to 147 (fun sv wx => sv = .int .i64 lt ∧ Below w3.heap.size w3 wx)
          case first =>
            go_upto_region 24 with (fail)
            rename_i K1 hK1
            refine wp_region_calm (fun w' => Below w3.heap.size w3 w') [] (fun w' => True) [Is (.slice (some ⟨ga, oa, none⟩) mm c1), Is (.int .i64 ((j : Int))), Is (.pointer (some ⟨ga, oa + j * 7, none⟩)), Is (.agg #[.int .i64 y.it.base, .int .i64 y.it.least, .int .i64 y.it.most, .bool y.it.bound, .int .i64 y.it.extra, .int .i64 y.it.grow, .int .i64 y.it.shrink]), Is (.agg #[.int .i64 y.it.base, .int .i64 y.it.least, .int .i64 y.it.most, .bool y.it.bound, .int .i64 y.it.extra, .int .i64 y.it.grow, .int .i64 y.it.shrink]), Is (.agg #[.int .i64 y.it.least, .int .i64 y.it.most, .bool y.it.bound]), Is (.slice (some ⟨ga, oa, none⟩) mm c1), Is (.int .i64 ((j : Int))), Is (.pointer (some ⟨ga, oa + j * 7, none⟩)), Is (.pointer (some ⟨ga, oa + j * 7, none⟩)), Is (.int .i64 y.it.base), Is (.int .i64 lt), Is (.int .i64 lt)] [] (by kernel_rfl) (by kernel_rfl) (by kernel_rfl) (by kernel_rfl) HBj.out.drew trivial ?_ ?_ ?_ ?_ ?_
            · rintro W W' hBB hb
              exact hBB.trans (hb.mono hBB.size)
            · exact fun _ _ _ _ _ => trivial
            · intro k vs W hk h
              exact absurd hk (by simp)
            · intro Q; clear hK1 
              refine ⟨?_, ?_, ?_, ?_, ?_, ?_, ?_, ?_, ?_, ?_, ?_, ?_, ?_, trivial⟩
              · intro vs W hW hW0 hd hne hold K hK hA hL; clear hne hA hL; have hBB := hW; simp only [puts, Act.put, List.setIfInBounds_toArray, List.set_cons_zero, List.set_cons_succ, Nat.zero_add, Nat.reduceAdd] at hK ⊢; clear hd hold; go_simp; exact hK.out rfl _ _ (Below.refl _ _) rfl
              · intro vs W hW hW0 hd hne hold K hK hA hL; clear hne hA hL; have hBB := hW; simp only [puts, Act.put, List.setIfInBounds_toArray, List.set_cons_zero, List.set_cons_succ, Nat.zero_add, Nat.reduceAdd] at hK ⊢; clear hd hold; go_simp; exact hK.out rfl _ _ (Below.refl _ _) rfl
              · intro vs W hW hW0 hd hne hold K hK hA hL; clear hne hA hL; have hBB := hW; simp only [puts, Act.put, List.setIfInBounds_toArray, List.set_cons_zero, List.set_cons_succ, Nat.zero_add, Nat.reduceAdd] at hK ⊢; have e0 : vs 0 = _ := hd 0 (by kernel_rfl); have e1 : vs 1 = _ := hd 1 (by kernel_rfl); clear hd hold; simp only [e0, e1] at hK; go_simp; exact hK.out rfl _ _ (Below.refl _ _) rfl
              · intro vs W hW hW0 hd hne hold K hK hA hL; clear hne hA hL; have hBB := hW; simp only [puts, Act.put, List.setIfInBounds_toArray, List.set_cons_zero, List.set_cons_succ, Nat.zero_add, Nat.reduceAdd] at hK ⊢; have eb : vs 2 = _ := hd 2 (by kernel_rfl); obtain ⟨q0, q1, q2, q3, q4, q5, q6⟩ := HFX.out W hBB; clear hd hold; simp only [eb] at hK; go_simp; exact hK.out rfl _ _ (Below.refl _ _) rfl
              · intro vs W hW hW0 hd hne hold K hK hA hL; clear hne hA hL; have hBB := hW; simp only [puts, Act.put, List.setIfInBounds_toArray, List.set_cons_zero, List.set_cons_succ, Nat.zero_add, Nat.reduceAdd] at hK ⊢; have eb : vs 3 = _ := hd 3 (by kernel_rfl); clear hd hold; simp only [eb] at hK; go_simp; refine (TO W).mono ?_; (rintro e wx ⟨rfl, hbx⟩); go_simp; exact hK.out rfl _ _ hbx rfl
              · intro vs W hW hW0 hd hne hold K hK hA hL; clear hne hA hL; have hBB := hW; simp only [puts, Act.put, List.setIfInBounds_toArray, List.set_cons_zero, List.set_cons_succ, Nat.zero_add, Nat.reduceAdd] at hK ⊢; have e4 : vs 4 = _ := hd 4 (by kernel_rfl); clear hd hold; simp only [e4] at hK; go_simp; exact hK.out rfl _ _ (Below.refl _ _) rfl
              · intro vs W hW hW0 hd hne hold K hK hA hL; clear hne hA hL; have hBB := hW; simp only [puts, Act.put, List.setIfInBounds_toArray, List.set_cons_zero, List.set_cons_succ, Nat.zero_add, Nat.reduceAdd] at hK ⊢; clear hd hold; go_simp; exact hK.out rfl _ _ (Below.refl _ _) rfl
              · intro vs W hW hW0 hd hne hold K hK hA hL; clear hne hA hL; have hBB := hW; simp only [puts, Act.put, List.setIfInBounds_toArray, List.set_cons_zero, List.set_cons_succ, Nat.zero_add, Nat.reduceAdd] at hK ⊢; clear hd hold; go_simp; exact hK.out rfl _ _ (Below.refl _ _) rfl
              · intro vs W hW hW0 hd hne hold K hK hA hL; clear hne hA hL; have hBB := hW; simp only [puts, Act.put, List.setIfInBounds_toArray, List.set_cons_zero, List.set_cons_succ, Nat.zero_add, Nat.reduceAdd] at hK ⊢; have e6 : vs 6 = _ := hd 6 (by kernel_rfl); have e7 : vs 7 = _ := hd 7 (by kernel_rfl); clear hd hold; simp only [e6, e7] at hK; go_simp; exact hK.out rfl _ _ (Below.refl _ _) rfl
              · intro vs W hW hW0 hd hne hold K hK hA hL; clear hne hA hL; have hBB := hW; simp only [puts, Act.put, List.setIfInBounds_toArray, List.set_cons_zero, List.set_cons_succ, Nat.zero_add, Nat.reduceAdd] at hK ⊢; have e8 : vs 8 = _ := hd 8 (by kernel_rfl); clear hd hold; simp only [e8] at hK; go_simp; exact hK.out rfl _ _ (Below.refl _ _) rfl
              · intro vs W hW hW0 hd hne hold K hK hA hL; clear hne hA hL; have hBB := hW; simp only [puts, Act.put, List.setIfInBounds_toArray, List.set_cons_zero, List.set_cons_succ, Nat.zero_add, Nat.reduceAdd] at hK ⊢; have eb : vs 9 = _ := hd 9 (by kernel_rfl); obtain ⟨q0, q1, q2, q3, q4, q5, q6⟩ := HFX.out W hBB; clear hd hold; simp only [eb] at hK; go_simp; exact hK.out rfl _ _ (Below.refl _ _) rfl
              · intro vs W hW hW0 hd hne hold K hK hA hL; clear hne hA hL; have hBB := hW; simp only [puts, Act.put, List.setIfInBounds_toArray, List.set_cons_zero, List.set_cons_succ, Nat.zero_add, Nat.reduceAdd] at hK ⊢; have eb : vs 5 = _ := hd 5 (by kernel_rfl); have ed : vs 10 = _ := hd 10 (by kernel_rfl); clear hd hold; simp only [eb, ed] at hK; go_simp; refine (LO1 W).mono ?_; (rintro e wx ⟨rfl, hbx⟩); go_simp; exact hK.out rfl _ _ hbx rfl
              · intro vs W hW hW0 hd hne hold K hK hA hL; clear hne hA hL; have hBB := hW; simp only [puts, Act.put, List.setIfInBounds_toArray, List.set_cons_zero, List.set_cons_succ, Nat.zero_add, Nat.reduceAdd] at hK ⊢; have e11 : vs 11 = _ := hd 11 (by kernel_rfl); clear hd hold; simp only [e11] at hK; go_simp; exact hK.out rfl _ _ (Below.refl _ _) rfl
            · intro va WB hW hV _
              have e12 : va 12 = .int .i64 lt := hV 12 (by decide)
              simp only [puts, Act.put, List.setIfInBounds_toArray, List.set_cons_zero, List.set_cons_succ, Nat.zero_add, Nat.reduceAdd, e12]
              refine hK1 _ _ ?_
              go_meet
              case rel => exact ⟨rfl, hW⟩
          case rest =>
            obtain ⟨rfl, hB9⟩ := hcut
            obtain ⟨w9, rfl⟩ : ∃ x, x = wc := ⟨_, rfl⟩
            have cg := HGC.out w9 hB9
            rw [ETG.out] at cg
            obtain ⟨q0, q1, q2, q3, q4, q5, q6⟩ := HFX.out w9 hB9
            rw [EGR.out] at q5
            rw [ESH.out] at q6
            have HB9 := Lib.hid hB9
            clear hB9 q0 q1 q2 q3 q4
            go_upto_region 25 with (fail)
            go_cut [203] from 148 to 203 (fun sv wx => sv = .bool false ∧ w9 = wx)
            case first =>
              by_cases p1 : S1 < room
              · have b1 : decide (S1 < room) = true := decide_eq_true p1
                have b2 : decide (room ≤ S1) = false := decide_eq_false (by omega)
                obtain ⟨u1, u2⟩ := HUP.out p1
                have b3 : decide (tg < lt) = false := decide_eq_false (by omega)
                by_cases p2 : gr = 0
                · have b4 : (gr == 0) = true := by simp; exact p2
                  have b5 : (tg != lt) = false := by simp; exact u2 p2
                  clear p1 p2 u1 u2
                  go_wp2
                  go_meet
                  case rel => exact ⟨rfl, rfl⟩
                · have b4 : (gr == 0) = false := by simp; exact p2
                  clear p1 p2 u1 u2
                  go_wp2
                  go_meet
                  case rel => exact ⟨rfl, rfl⟩
              · have b1 : decide (S1 < room) = false := decide_eq_false p1
                have b2 : decide (room ≤ S1) = true := decide_eq_true (by omega)
                obtain ⟨u1, u2⟩ := HDN.out (by omega)
                have b3 : decide (lt < tg) = false := decide_eq_false (by omega)
                by_cases p2 : sh = 0
                · have b4 : (sh == 0) = true := by simp; exact p2
                  have b5 : (tg != lt) = false := by simp; exact u2 p2
                  clear p1 p2 u1 u2
                  go_wp2
                  go_meet
                  case rel => exact ⟨rfl, rfl⟩
                · have b4 : (sh == 0) = false := by simp; exact p2
                  clear p1 p2 u1 u2
                  go_wp2
                  go_meet
                  case rel => exact ⟨rfl, rfl⟩
            case rest =>
              obtain ⟨rfl, rfl⟩ := hcut
              clear cg q5 q6
              go_wp2_with fail
              go_roundg (mm - (j + 1))
              case measure => omega
              case rel => exact ⟨j + 1, by omega, rfl, by go_num, HB9.out⟩
        · obtain rfl : mm = j := by omega
          have ix : ¬ (mm : Int) < (mm : Int) := by omega
          have hBf := HB3.out.trans (hB.mono HB3.out.size)
          have HBF := Lib.hid hBf
          clear hB hBf
          obtain ⟨wf, rfl⟩ : ∃ x, x = wr := ⟨_, rfl⟩
          go_upto_region 27 with (fail)
          go_cut [225] from 204 to 225 (fun sv wx => ∃ cc : Bool, sv = .bool cc ∧ (cc = true → S0 = room) ∧ wf = wx)
          case first =>
            cases fr
            · go_wp2
              go_meet
              case rel => exact ⟨false, rfl, (fun h => by cases h), rfl⟩
            · by_cases p1 : S1 < room
              · have b1 : decide (S1 < room) = true := decide_eq_true p1
                have b2 : decide (room ≤ S1) = false := decide_eq_false (by omega)
                obtain ⟨cc, ec⟩ : ∃ c, decide (4096 ≤ S2) = c := ⟨_, rfl⟩
                have hcc : cc = true → S0 = room := fun h => FU.out rfl (.inl ⟨p1, of_decide_eq_true (ec.trans h)⟩)
                have HCC := Lib.hid hcc
                clear hcc p1
                cases cc
                all_goals
                  go_wp2
                  go_meet
                  case rel => exact ⟨_, rfl, (fun h => HCC.out (by first | trivial | exact h | cases h)), rfl⟩
              · have b1 : decide (S1 < room) = false := decide_eq_false p1
                have b2 : decide (room ≤ S1) = true := decide_eq_true (by omega)
                obtain ⟨cc, ec⟩ : ∃ c, decide (4096 ≤ S3) = c := ⟨_, rfl⟩
                have hcc : cc = true → S0 = room := fun h => FU.out rfl (.inr ⟨by omega, of_decide_eq_true (ec.trans h)⟩)
                have HCC := Lib.hid hcc
                clear hcc p1
                cases cc
                all_goals
                  go_wp2
                  go_meet
                  case rel => exact ⟨_, rfl, (fun h => HCC.out (by first | trivial | exact h | cases h)), rfl⟩
          case rest =>
            obtain ⟨cc, rfl, hcc, rfl⟩ := hcut
            cases cc
            · clear hcc
              go_wp2_with fail
              go_ret
              exact ⟨rfl, HBF.out⟩
            · have hs := hcc rfl
              have b0 : (S0 == room) = true := by simp; exact hs
              clear hcc hs
              go_wp2_with fail
              go_ret
              exact ⟨rfl, HBF.out⟩
end Go.Proofs.Ythofammjbicogaa
