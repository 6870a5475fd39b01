/-
  Layer 11 (style): the reference's Compute.
-/
/-
  Package real: the order of floats; the reference's.
-/
/-
  Package math: what Ldexp needs; package real: nearest.
-/
/-
  Package real: Nearest.
-/
/-
  Layer 11 (style): Default.
-/
import Derived.Test.YtmkblfejoniccaaDoorZ12
import Derived.Test.YtmkblfejoniccaaDoorZ11
import Derived.Test.YtmkblfejoniccaaDoorZ8
import Derived.Test.YtmkblfejoniccaaDoorZ3
import Derived.Test.YtmkblfejoniccaaDoorZ5
import Derived.Test.YtmkblfejoniccaaDoorZ1
namespace Go.Proofs.YtmkblfejoniccaaDoor
open Go Go.RowKit
set_option linter.unusedSimpArgs false
set_option linter.unusedVariables false

set_option maxRecDepth 100000 in
set_option maxHeartbeats 3200000 in
theorem ref11_compute (x : Rs) (hx : x.Fit) (w : World) :
    Calls Tryd.prog 31 #[.agg (cellsF 64 (refF x))] w fun e w' => e = .returned (.tuple #[.agg (cellsF 61 (outR x)), .int .i64 (dE x)]) ∧ Below w.heap.size w w' := by
  have hxn := hx.n 4 (by omega)
  have HX := Lib.hid hx
  clear hx
  go_enter Tryd.func31, Tryd.ntmps31
  go_upto_region 2 with (fail)
  refine wp_worldS (RmW x w w.heap.size (w.heap.size + 1) (w.heap.size + 1 + 1) (G1 x 0)) ⟨Blk.alloc (Blk.alloc (Blk.new _ _ _ _ rfl) _) _, by rw [← zerR_cells]; exact Blk.alloc (Blk.new _ _ _ _ (by simp)) _, by rw [G1_zero, ← zerR_cells]; exact Blk.new _ _ _ _ (by simp), (by repeat' (first | (with_reducible exact Below.refl _ _) | (with_reducible assumption) | (with_reducible refine below_alloc ?_ _ ?_) | (with_reducible refine below_set _ ?_ ?_) | (with_reducible refine Below.drew ?_) | (with_reducible refine below_dN ?_ _) | (apply below_thenA; assumption) | omega | (simp; done) | (simp; omega) | (simp [*]; done))), Nat.le_refl _, by omega, by omega, by omega, by omega, by omega⟩ ?_
  intro W1 hS0
  obtain ⟨E1, e1⟩ : ∃ E, fstE (fun i => (dL x i).2.2) 0 19 = E := ⟨_, rfl⟩
  have HE1 := Lib.hid e1
  go_wp2_with fail
  go_loopg [5] 19 (fun gk s5 wr => ∃ i : Nat, i ≤ 19 ∧ gk = 19 - i ∧ s5 = .int .i64 ((i : Int)) ∧ fstE (fun i => (dL x i).2.2) i (19 - i) = E1 ∧ RmW x w w.heap.size (w.heap.size + 1) (w.heap.size + 1 + 1) (G1 x i) wr)
  case atStart => exact ⟨0, by omega, rfl, rfl, e1, hS0⟩
  case round =>
    clear e1 hS0
    obtain ⟨i, hi, rfl, rfl, hE, hS⟩ := hrel
    by_cases hik : i < 19
    · have ix : (i : Int) < 19 := by omega
      have HS := Lib.hid hS
      have HEE := Lib.hid hE
      have hsz0 := hS.sty.lt
      clear hE
      go_upto_region 5 with (fail)
      have DC := fun W => rdec_len x HX.out i hik W
      have MC := fun W => ref11_may i hik W
      have FS := G1_set x i hik
      obtain ⟨⟨kd, nn, c⟩, ed⟩ : ∃ q, dL x i = q := ⟨_, rfl⟩
      rw [ed] at DC FS
      dsimp only at DC FS
      have HED := Lib.hid ed
      have HFS := Lib.hid FS
      obtain ⟨M, eM⟩ : ∃ M, myL i = M := ⟨_, rfl⟩
      rw [eM] at DC MC
      clear ed FS eM
      go_upto_region 5 with (fail)
      rename_i K5 hK5
      refine wp_region_calm (fun w' => RmW x w w.heap.size (w.heap.size + 1) (w.heap.size + 1 + 1) (G1 x i) w' ∧ wr.heap.size ≤ w'.heap.size) [] (fun w' => True) [Is (.int .i64 ((i : Int))), Is (.pointer (some ⟨w.heap.size, 0, none⟩)), Is (.pointer (some ⟨w.heap.size, i, none⟩)), Is (.int .u64 (x.L i)), Is (.int .i64 ((i : Int))), Is (.pointer (some ⟨w.heap.size, 19, none⟩)), Is (.pointer (some ⟨w.heap.size, 19 + i, none⟩)), Is (.bool (x.P i)), Is (.int .i64 ((i : Int))), Is (.int .i64 M), Is (.tuple #[.agg #[.int .i64 kd, .int .i64 nn], .int .i64 c]), Is (.tuple #[.agg #[.int .i64 kd, .int .i64 nn], .int .i64 c]), Is (.agg #[.int .i64 kd, .int .i64 nn]), Is (.int .i64 c), bxV wr.heap.size 76 2, bxC 14 wr.heap.size 76 #[.int .i64 kd, .int .i64 nn], Is (.int .i64 c)] [14] (by kernel_rfl) (by kernel_rfl) (by kernel_rfl) (by kernel_rfl) ⟨hS.drew, Nat.le_refl _⟩ trivial ?_ ?_ ?_ ?_ ?_
      · rintro W W' ⟨hC, hl⟩ hb
        exact ⟨hC.below hb, Nat.le_trans hl hb.size⟩
      · exact fun _ _ _ _ _ => trivial
      · intro k vs W hk h
        obtain rfl : k = 14 := (by simpa using hk) <;> (obtain ⟨b, cs0, e, h1, h2, h3⟩ := h; exact ⟨b, e, h2.lt⟩)
      · intro Q; clear hK5 
        refine ⟨?_, ?_, ?_, ?_, ?_, ?_, ?_, ?_, ?_, ?_, ?_, ?_, ?_, ?_, ?_, ?_, ?_, trivial⟩
        · intro vs W hW hW0 hd hne hold K hK hA hL; clear hne hA hL; have hC := hW.1; have hl := hW.2; simp only [puts, Act.put, List.setIfInBounds_toArray, List.set_cons_zero, List.set_cons_succ, Nat.zero_add, Nat.reduceAdd] at hK ⊢; clear hd hold; go_simp; exact hK.out rfl _ _ (Below.refl _ _) rfl
        · intro vs W hW hW0 hd hne hold K hK hA hL; clear hne hA hL; have hC := hW.1; have hl := hW.2; simp only [puts, Act.put, List.setIfInBounds_toArray, List.set_cons_zero, List.set_cons_succ, Nat.zero_add, Nat.reduceAdd] at hK ⊢; clear hd hold; go_simp; exact hK.out rfl _ _ (Below.refl _ _) rfl
        · intro vs W hW hW0 hd hne hold K hK hA hL; clear hne hA hL; have hC := hW.1; have hl := hW.2; simp only [puts, Act.put, List.setIfInBounds_toArray, List.set_cons_zero, List.set_cons_succ, Nat.zero_add, Nat.reduceAdd] at hK ⊢; have e1 : vs 1 = _ := hd 1 (by kernel_rfl); have e0 : vs 0 = _ := hd 0 (by kernel_rfl); clear hd hold; simp only [e1, e0] at hK; go_simp; exact hK.out rfl _ _ (Below.refl _ _) rfl
        · intro vs W hW hW0 hd hne hold K hK hA hL; clear hne hA hL; have hC := hW.1; have hl := hW.2; simp only [puts, Act.put, List.setIfInBounds_toArray, List.set_cons_zero, List.set_cons_succ, Nat.zero_add, Nat.reduceAdd] at hK ⊢; have ea : vs 2 = _ := hd 2 (by kernel_rfl); have q1 := hC.raw.cellF (i := i) (by omega); rw [(ref_len hik).1] at q1; clear hd hold; simp only [ea] at hK; go_simp; exact hK.out rfl _ _ (Below.refl _ _) rfl
        · intro vs W hW hW0 hd hne hold K hK hA hL; clear hne hA hL; have hC := hW.1; have hl := hW.2; simp only [puts, Act.put, List.setIfInBounds_toArray, List.set_cons_zero, List.set_cons_succ, Nat.zero_add, Nat.reduceAdd] at hK ⊢; clear hd hold; go_simp; exact hK.out rfl _ _ (Below.refl _ _) rfl
        · intro vs W hW hW0 hd hne hold K hK hA hL; clear hne hA hL; have hC := hW.1; have hl := hW.2; simp only [puts, Act.put, List.setIfInBounds_toArray, List.set_cons_zero, List.set_cons_succ, Nat.zero_add, Nat.reduceAdd] at hK ⊢; clear hd hold; go_simp; exact hK.out rfl _ _ (Below.refl _ _) rfl
        · intro vs W hW hW0 hd hne hold K hK hA hL; clear hne hA hL; have hC := hW.1; have hl := hW.2; simp only [puts, Act.put, List.setIfInBounds_toArray, List.set_cons_zero, List.set_cons_succ, Nat.zero_add, Nat.reduceAdd] at hK ⊢; have e5 : vs 5 = _ := hd 5 (by kernel_rfl); have e4 : vs 4 = _ := hd 4 (by kernel_rfl); clear hd hold; simp only [e5, e4] at hK; go_simp; exact hK.out rfl _ _ (Below.refl _ _) rfl
        · intro vs W hW hW0 hd hne hold K hK hA hL; clear hne hA hL; have hC := hW.1; have hl := hW.2; simp only [puts, Act.put, List.setIfInBounds_toArray, List.set_cons_zero, List.set_cons_succ, Nat.zero_add, Nat.reduceAdd] at hK ⊢; have ea : vs 6 = _ := hd 6 (by kernel_rfl); have q1 := hC.raw.cellF (i := 19 + i) (by omega); rw [(ref_len hik).2] at q1; clear hd hold; simp only [ea] at hK; go_simp; exact hK.out rfl _ _ (Below.refl _ _) rfl
        · intro vs W hW hW0 hd hne hold K hK hA hL; clear hne hA hL; have hC := hW.1; have hl := hW.2; simp only [puts, Act.put, List.setIfInBounds_toArray, List.set_cons_zero, List.set_cons_succ, Nat.zero_add, Nat.reduceAdd] at hK ⊢; clear hd hold; go_simp; exact hK.out rfl _ _ (Below.refl _ _) rfl
        · intro vs W hW hW0 hd hne hold K hK hA hL; clear hne hA hL; have hC := hW.1; have hl := hW.2; simp only [puts, Act.put, List.setIfInBounds_toArray, List.set_cons_zero, List.set_cons_succ, Nat.zero_add, Nat.reduceAdd] at hK ⊢; have ea : vs 8 = _ := hd 8 (by kernel_rfl); clear hd hold; simp only [ea] at hK; go_simp; refine (MC _).mono ?_; rintro e wx ⟨rfl, rfl⟩; go_simp; exact hK.out rfl _ _ (Below.refl _ _) rfl
        · intro vs W hW hW0 hd hne hold K hK hA hL; clear hne hA hL; have hC := hW.1; have hl := hW.2; simp only [puts, Act.put, List.setIfInBounds_toArray, List.set_cons_zero, List.set_cons_succ, Nat.zero_add, Nat.reduceAdd] at hK ⊢; have ea : vs 3 = _ := hd 3 (by kernel_rfl); have eb : vs 7 = _ := hd 7 (by kernel_rfl); have ed : vs 9 = _ := hd 9 (by kernel_rfl); clear hd hold; simp only [ea, eb, ed] at hK; go_simp; refine (DC _).mono ?_; rintro e wx ⟨rfl, hbx⟩; go_simp; exact hK.out rfl _ _ hbx rfl
        · intro vs W hW hW0 hd hne hold K hK hA hL; clear hne hA hL; have hC := hW.1; have hl := hW.2; simp only [puts, Act.put, List.setIfInBounds_toArray, List.set_cons_zero, List.set_cons_succ, Nat.zero_add, Nat.reduceAdd] at hK ⊢; have e10 : vs 10 = _ := hd 10 (by kernel_rfl); clear hd hold; simp only [e10] at hK; go_simp; exact hK.out rfl _ _ (Below.refl _ _) rfl
        · intro vs W hW hW0 hd hne hold K hK hA hL; clear hne hA hL; have hC := hW.1; have hl := hW.2; simp only [puts, Act.put, List.setIfInBounds_toArray, List.set_cons_zero, List.set_cons_succ, Nat.zero_add, Nat.reduceAdd] at hK ⊢; have e11 : vs 11 = _ := hd 11 (by kernel_rfl); clear hd hold; simp only [e11] at hK; go_simp; exact hK.out rfl _ _ (Below.refl _ _) rfl
        · intro vs W hW hW0 hd hne hold K hK hA hL; clear hne hA hL; have hC := hW.1; have hl := hW.2; simp only [puts, Act.put, List.setIfInBounds_toArray, List.set_cons_zero, List.set_cons_succ, Nat.zero_add, Nat.reduceAdd] at hK ⊢; have e11 : vs 11 = _ := hd 11 (by kernel_rfl); clear hd hold; simp only [e11] at hK; go_simp; exact hK.out rfl _ _ (Below.refl _ _) rfl
        · intro vs W hW hW0 hd hne hold K hK hA hL; clear hne hK hL; have hC := hW.1; have hl := hW.2; simp only [puts, Act.put, List.setIfInBounds_toArray, List.set_cons_zero, List.set_cons_succ, Nat.zero_add, Nat.reduceAdd] at hA ⊢; clear hd hold; go_simp; exact hA.out W.heap.size _ ((Below.refl _ _).alloc (Nat.le_refl _) _) (Nat.le_refl _) ⟨W.heap.size, _, rfl, hl, Blk.new _ _ _ _ rfl, rfl⟩
        · intro vs W hW hW0 hd hne hold K hK hA hL; clear hK hA; have hC := hW.1; have hl := hW.2; simp only [puts, Act.put, List.setIfInBounds_toArray, List.set_cons_zero, List.set_cons_succ, Nat.zero_add, Nat.reduceAdd] at hL ⊢; have ec : vs 12 = _ := hd 12 (by kernel_rfl); (have hxb : BxV wr.heap.size 76 2 (vs 14) W := hd 14 (by kernel_rfl)); obtain ⟨b, cs0, eb, hlb, t0, hsz⟩ := hxb; obtain ⟨z0, q0⟩ := t0.cellx 0 (by omega); have p0 := t0.free 0; obtain ⟨z1, q1⟩ := t0.cellx 1 (by omega); have p1 := t0.free 1; have tb := t0.set2 hsz (.int .i64 kd) (.int .i64 nn); have hbt := But.set2 (b := b) W (.int .i64 kd) (.int .i64 nn); clear hd hold; simp only [ec, eb] at hL; have HSZ := Lib.hid hsz; clear hsz; have HNE := Lib.hid hne; clear hne; go_simp; have hne := HNE.out; have hsz := HSZ.out; refine hL.out rfl undef _ ⟨hC.other hbt (by omega) (by omega) (by omega) (by omega), Nat.le_trans hl hbt.size⟩ (fun _ => trivial) ⟨b, eb, hlb, tb⟩ ?_; exact claims_keep ⟨.inr is_keep, .inr is_keep, .inr is_keep, .inr is_keep, .inr is_keep, .inr is_keep, .inr is_keep, .inr is_keep, .inr is_keep, .inr is_keep, .inr is_keep, .inr is_keep, .inr is_keep, .inr is_keep, .inr fun h => BxV.but h hbt t0 tb (by rw [hsz]; rfl), .inl rfl, .inr is_keep, trivial⟩
        · intro vs W hW hW0 hd hne hold K hK hA hL; clear hne hA hL; have hC := hW.1; have hl := hW.2; simp only [puts, Act.put, List.setIfInBounds_toArray, List.set_cons_zero, List.set_cons_succ, Nat.zero_add, Nat.reduceAdd] at hK ⊢; have e13 : vs 13 = _ := hd 13 (by kernel_rfl); clear hd hold; simp only [e13] at hK; go_simp; exact hK.out rfl _ _ (Below.refl _ _) rfl
      · intro va5 WB hW hV _
        obtain ⟨hSB, -⟩ := hW
        obtain ⟨g, eg, hlg, tg⟩ := hV 15 (by decide)
        replace eg : va5 14 = _ := eg
        have e16 : va5 16 = _ := hV 16 (by decide)
        clear hV
        simp only [puts, Act.put, List.setIfInBounds_toArray, List.set_cons_zero, List.set_cons_succ, Nat.zero_add, Nat.reduceAdd, eg, e16]
        refine hK5 _ _ ?_
        have hgn : g ≠ w.heap.size + 1 + 1 := by omega
        have HSB := Lib.hid hSB
        clear hSB hS
        by_cases hc : c = 0
        · subst hc
          have q1 := HSB.out.sty.cellF (i := i * 2) (by omega)
          have q2 := HSB.out.sty.cellF (i := i * 2 + 1) (by omega)
          have z1 := HSB.out.sty.free (i * 2)
          have z2 := HSB.out.sty.free (i * 2 + 1)
          have p1 := tg.cell 0 _ rfl
          have p2 := tg.cell 1 _ rfl
          clear tg DC MC hlg
          go_wp2_with fail
          go_roundg (19 - (i + 1))
          case measure => go_light; omega
          case rel =>
            go_light
            have tb := (HSB.out.sty.set (i * 2) (.int .i64 kd)).set (i * 2 + 1) (.int .i64 nn)
            rw [HFS.out] at tb
            refine ⟨i + 1, by omega, rfl, rfl, ?_, HSB.out.but ((But.set _ _ _).trans (But.set _ _ _)) tb⟩
            have := HEE.out
            rw [show 19 - i = (19 - (i + 1)) + 1 by omega, fstE_on (by rw [HED.out])] at this
            exact this
        · have z : (c == 0) = false := by simpa using hc
          have HC := Lib.hid hc
          clear hc tg DC MC hlg
          go_wp2_with (first
            | (refine wpl_buildV (by rfl) 79 _ (by rfl) #[] (.agg (cellsF 61 zerR)) (by rfl) (fun _ => by kernel_rfl) ?_; simp only [Act.put, List.setIfInBounds_toArray, List.set_cons_zero, List.set_cons_succ, Nat.zero_add, Nat.reduceAdd])
            | (refine wpl_storeF (by rfl) 79 _ _ (by rfl) HSB.out.out 0 61 (by omega) zerR (fun i _ => zerR_one i) (by kernel_rfl) (by rfl) (by rfl) ?_; simp only [Act.put, List.setIfInBounds_toArray, List.set_cons_zero, List.set_cons_succ, Nat.zero_add, Nat.reduceAdd])
            | (refine bodyPost_ret (results_c2 (by rfl) (by rfl) (by exact load_allF (HSB.out.out.storeF) 79 _ Tryd.underlying79 rfl (by kernel_rfl))) (by rfl) ?_))
          have hcE : E1 = c := by rw [← HEE.out, show 19 - i = (19 - (i + 1)) + 1 by omega, fstE_hit (by rw [HED.out]; exact HC.out), HED.out]
          have hd := dE_one (E := E1) HE1.out (by rw [hcE]; exact HC.out)
          refine ⟨⟨by rw [outR_no hd.1 (by rw [hcE]; exact HC.out)], by rw [hd.1, hcE]⟩, ?_⟩
          exact (But.setCells _ _ _).to HSB.out.bel (by omega) HSB.out.bel.size
    · have hi19 : i = 19 := by omega
      subst hi19
      have hE1 : E1 = 0 := hE.symm
      have hS2 : RmW x w w.heap.size (w.heap.size + 1) (w.heap.size + 1 + 1) (G2 x 0) wr := hS.but (But.of (Below.refl _ _)) (by rw [← G1_end]; exact hS.sty)
      clear hS
      subst hE1
      have HE0 := Lib.hid (show fstE (fun i => (dL x i).2.2) 0 19 = 0 from HE1.out)
      clear HE1
      go_wp2_with fail
      obtain ⟨E2, e2⟩ : ∃ E, fstE (fun i => (dN x i).2) 0 10 = E := ⟨_, rfl⟩
      have HE2 := Lib.hid e2
      go_loopg [8] 10 (fun gk s8 wr => ∃ i : Nat, i ≤ 10 ∧ gk = 10 - i ∧ s8 = .int .i64 ((i : Int)) ∧ fstE (fun i => (dN x i).2) i (10 - i) = E2 ∧ RmW x w w.heap.size (w.heap.size + 1) (w.heap.size + 1 + 1) (G2 x i) wr)
      case atStart => exact ⟨0, by omega, rfl, rfl, e2, hS2⟩
      case round =>
        clear e2 hS2
        obtain ⟨i, hi, rfl, rfl, hE, hS⟩ := hrel
        by_cases hik : i < 10
        · have ix : (i : Int) < 10 := by omega
          have HS := Lib.hid hS
          have HEE := Lib.hid hE
          have NC := fun W => ref11_number i hik (x.N i) (HX.out.n i hik) W
          have FS := G2_set x i hik
          have ed0 : nF i (x.N i) = dN x i := rfl
          have hdm : dM x i = if i < 4 ∧ x.B i = false then 0 else (dN x i).1 := rfl
          rw [ed0] at NC
          obtain ⟨⟨nn, c⟩, ed⟩ : ∃ q, dN x i = q := ⟨_, rfl⟩
          rw [ed] at NC hdm
          dsimp only at NC hdm
          have HED := Lib.hid ed
          have HFS := Lib.hid FS
          have HDM := Lib.hid hdm
          have q0 := hS.raw.cellF (i := 38 + i) (by omega)
          rw [ref_num hik] at q0
          clear ed ed0 FS hS hE hdm
          by_cases hc : c = 0
          · subst hc
            go_upto_region 15 with (go_at_call 78; with_reducible refine (NC _).mono ?_; rintro e w1 ⟨rfl, hb1⟩)
            have hS1 := HS.out.below hb1
            have q1 := hS1.sty.cellF (i := 38 + i) (by omega)
            have z1 := hS1.sty.free (38 + i)
            have HS1 := Lib.hid hS1
            clear q0 NC
            by_cases h4 : i < 4
            · have h4' : (i : Int) < 4 := by omega
              have q2 := hS1.raw.cellF (i := 60 + i) (by omega)
              rw [ref_lin h4] at q2
              obtain ⟨bb, ebb⟩ : ∃ q, x.B i = q := ⟨_, rfl⟩
              rw [ebb] at q2
              have HBB := Lib.hid ebb
              have H4 := Lib.hid h4
              clear ebb hS1 h4
              cases bb
              · go_wp2_with fail
                go_roundg (10 - (i + 1))
                case measure => go_light; omega
                case rel =>
                  go_light
                  have tb := HS1.out.sty.set (38 + i) (.int .i64 0)
                  have hm : dM x i = 0 := by rw [HDM.out, if_pos ⟨H4.out, HBB.out⟩]
                  have hFS := HFS.out
                  rw [hm] at hFS
                  rw [hFS] at tb
                  refine ⟨i + 1, by omega, rfl, rfl, ?_, (HS1.out.but (But.set _ _ _) tb)⟩
                  have := HEE.out
                  rw [show 10 - i = (10 - (i + 1)) + 1 by omega, fstE_on (by rw [HED.out])] at this
                  exact this
              · go_wp2_with fail
                go_roundg (10 - (i + 1))
                case measure => go_light; omega
                case rel =>
                  go_light
                  have tb := HS1.out.sty.set (38 + i) (.int .i64 nn)
                  have hm : dM x i = nn := by rw [HDM.out, if_neg (by rw [HBB.out]; simp)]
                  have hFS := HFS.out
                  rw [hm] at hFS
                  rw [hFS] at tb
                  refine ⟨i + 1, by omega, rfl, rfl, ?_, (HS1.out.but (But.set _ _ _) tb)⟩
                  have := HEE.out
                  rw [show 10 - i = (10 - (i + 1)) + 1 by omega, fstE_on (by rw [HED.out])] at this
                  exact this
            · have d4 : decide ((i : Int) < 4) = false := by simp; omega
              have H4 := Lib.hid h4
              clear hS1 h4
              go_wp2_with fail
              go_roundg (10 - (i + 1))
              case measure => go_light; omega
              case rel =>
                go_light
                have tb := HS1.out.sty.set (38 + i) (.int .i64 nn)
                have hm : dM x i = nn := by rw [HDM.out, if_neg (fun q => H4.out q.1)]
                have hFS := HFS.out
                rw [hm] at hFS
                rw [hFS] at tb
                refine ⟨i + 1, by omega, rfl, rfl, ?_, (HS1.out.but (But.set _ _ _) tb)⟩
                have := HEE.out
                rw [show 10 - i = (10 - (i + 1)) + 1 by omega, fstE_on (by rw [HED.out])] at this
                exact this
          · have z : (c == 0) = false := by simpa using hc
            have HC := Lib.hid hc
            clear hc
            go_wp2_with (first
              | (go_at_call 78; with_reducible refine (NC _).mono ?_; rintro e w1 ⟨rfl, hb1⟩; have hS1 := HS.out.below hb1; have HS1 := Lib.hid hS1; clear hS1)
              | (refine wpl_buildV (by rfl) 79 _ (by rfl) #[] (.agg (cellsF 61 zerR)) (by rfl) (fun _ => by kernel_rfl) ?_; simp only [Act.put, List.setIfInBounds_toArray, List.set_cons_zero, List.set_cons_succ, Nat.zero_add, Nat.reduceAdd])
              | (refine wpl_storeF (by rfl) 79 _ _ (by rfl) HS1.out.out 0 61 (by omega) zerR (fun i _ => zerR_one i) (by kernel_rfl) (by rfl) (by rfl) ?_; simp only [Act.put, List.setIfInBounds_toArray, List.set_cons_zero, List.set_cons_succ, Nat.zero_add, Nat.reduceAdd])
              | (refine bodyPost_ret (results_c2 (by rfl) (by rfl) (by exact load_allF (HS1.out.out.storeF) 79 _ Tryd.underlying79 rfl (by kernel_rfl))) (by rfl) ?_))
            have hcE : E2 = c := by rw [← HEE.out, show 10 - i = (10 - (i + 1)) + 1 by omega, fstE_hit (by rw [HED.out]; exact HC.out), HED.out]
            have hd := dE_two (E := E2) HE0.out HE2.out (by rw [hcE]; exact HC.out)
            refine ⟨⟨by rw [outR_no hd.1 (by rw [hcE]; exact HC.out)], by rw [hd.1, hcE]⟩, ?_⟩
            exact (But.setCells _ _ _).to HS1.out.bel (by omega) HS1.out.bel.size
        · have hi10 : i = 10 := by omega
          subst hi10
          have hE1 : E2 = 0 := hE.symm
          subst hE1
          have HE1 := Lib.hid (show fstE (fun i => (dN x i).2) 0 10 = 0 from HE2.out)
          clear HE2
          have KC := fun W => ref3_kind (x.N 4) hxn W
          have q0 : wr.cell? ⟨w.heap.size, 42, none⟩ = some (.int .u64 (x.N 4)) := hS.raw.cellF (i := 42) (by omega)
          have q1 := hS.sty.cellF (i := 48) (by omega)
          have z1 := hS.sty.free 48
          have hda : ((fKi (x.N 4) : Int) == 1) = dA x := by
            unfold dA
            by_cases h : fKi (x.N 4) = 1
            · rw [h]; rfl
            · rw [decide_eq_false h]; simp; omega
          obtain ⟨kk, ekk⟩ : ∃ q : Int, (fKi (x.N 4) : Int) = q := ⟨_, rfl⟩
          obtain ⟨da, eda⟩ : ∃ q, dA x = q := ⟨_, rfl⟩
          rw [ekk] at KC hda
          rw [eda] at hda
          have HDA := Lib.hid eda
          have HS := Lib.hid hS
          clear hS ekk eda
          go_upto_region 20 with (go_at_call 22; with_reducible refine (KC _).mono ?_; rintro e w1 ⟨rfl, rfl⟩)
          refine wp_worldS (RmW x w w.heap.size (w.heap.size + 1) (w.heap.size + 1 + 1) (G3 x)) ?_ ?_
          · have tb := HS.out.sty.set 48 (.bool da)
            rw [← HDA.out, G2_end] at tb
            rw [← HDA.out]
            exact HS.out.but (But.set _ _ _) tb
          intro W3 hS3
          clear q0 q1 z1 HS KC hda HDA
          obtain ⟨E3, e3⟩ : ∃ E, fstE (fun i => if okW i (x.W i) then 0 else 11) 0 12 = E := ⟨_, rfl⟩
          have HE3 := Lib.hid e3
          go_wp2_with fail
          go_loopg [13] 12 (fun gk s13 wr => ∃ i : Nat, i ≤ 12 ∧ gk = 12 - i ∧ s13 = .int .i64 ((i : Int)) ∧ fstE (fun i => if okW i (x.W i) then 0 else 11) i (12 - i) = E3 ∧ RmW x w w.heap.size (w.heap.size + 1) (w.heap.size + 1 + 1) (G3 x) wr)
          case atStart => exact ⟨0, by omega, rfl, rfl, e3, hS3⟩
          case round =>
            clear e3 hS3
            obtain ⟨i, hi, rfl, rfl, hE, hS⟩ := hrel
            by_cases hik : i < 12
            · have ix : (i : Int) < 12 := by omega
              have WC := fun W => ref11_word i hik (x.W i) (HX.out.w i hik) W
              have q0 := hS.raw.cellF (i := 48 + i) (by omega)
              rw [ref_wrd hik] at q0
              have HS := Lib.hid hS
              have q5 : fstE (fun i => if okW i (x.W i) then 0 else 11) i (12 - i) = E3 := hE
              rw [show 12 - i = (12 - (i + 1)) + 1 by omega] at q5
              obtain ⟨ok, eok⟩ : ∃ q, okW i (x.W i) = q := ⟨_, rfl⟩
              rw [eok] at WC
              clear hS hE
              cases ok
              · rw [fstE_hit (by rw [eok]; decide), eok] at q5
                have HQ := Lib.hid q5
                clear q5 eok
                go_wp2_with (first
                  | (go_at_call 79; with_reducible refine (WC _).mono ?_; rintro e w1 ⟨rfl, hb1⟩; have hS1 := HS.out.below hb1; have HS1 := Lib.hid hS1; clear hS1)
                  | (refine wpl_buildV (by rfl) 79 _ (by rfl) #[] (.agg (cellsF 61 zerR)) (by rfl) (fun _ => by kernel_rfl) ?_; simp only [Act.put, List.setIfInBounds_toArray, List.set_cons_zero, List.set_cons_succ, Nat.zero_add, Nat.reduceAdd])
                  | (refine wpl_storeF (by rfl) 79 _ _ (by rfl) HS1.out.out 0 61 (by omega) zerR (fun i _ => zerR_one i) (by kernel_rfl) (by rfl) (by rfl) ?_; simp only [Act.put, List.setIfInBounds_toArray, List.set_cons_zero, List.set_cons_succ, Nat.zero_add, Nat.reduceAdd])
                  | (refine bodyPost_ret (results_c2 (by rfl) (by rfl) (by exact load_allF (HS1.out.out.storeF) 79 _ Tryd.underlying79 rfl (by kernel_rfl))) (by rfl) ?_))
                have hd := dE_three HE0.out HE1.out HE3.out
                have h11 : E3 = 11 := by rw [← HQ.out]; rfl
                rw [h11] at hd
                refine ⟨⟨by rw [outR_no hd (by decide)], hd.symm⟩, ?_⟩
                exact (But.setCells _ _ _).to HS1.out.bel (by omega) HS1.out.bel.size
              · rw [fstE_on (by rw [eok]; rfl)] at q5
                have HQ := Lib.hid q5
                clear q5 eok
                go_wp2_with (go_at_call 79; with_reducible refine (WC _).mono ?_; rintro e w1 ⟨rfl, hb1⟩; have hS1 := HS.out.below hb1; have HS1 := Lib.hid hS1; clear hS1)
                go_roundg (12 - (i + 1))
                case measure => go_light; omega
                case rel =>
                  go_light
                  exact ⟨i + 1, by omega, rfl, rfl, HQ.out, HS1.out⟩
            · have hi12 : i = 12 := by omega
              subst hi12
              have hE1 : E3 = 0 := hE.symm
              subst hE1
              have HD := Lib.hid (dE_zero HE0.out HE1.out HE3.out)
              have tz : Blk (wr.setCells (w.heap.size + 1 + 1) 49 (cellsF 12 (fun k => refF x (48 + k))).toList) (w.heap.size + 1 + 1) (cellsF 61 (finR x)) 79 := by
                have := hS.sty.setCellsF 12 (fun k => refF x (48 + k)) 49
                rw [G3_end] at this
                exact this
              have hS9 := hS.but (But.setCells (b := w.heap.size + 1 + 1) _ 49 wr) tz
              have HS := Lib.hid hS
              have HS9' := Lib.hid hS9
              clear hS tz hS9
              go_upto_region 26 with (first
                | (refine wpl_loadF (by rfl) 57 _ (by rfl) HS.out.raw 48 12 (by omega) _ Tryd.underlying57 rfl (by kernel_rfl) (by rfl) ?_; simp only [Act.put, List.setIfInBounds_toArray, List.set_cons_zero, List.set_cons_succ, Nat.zero_add, Nat.reduceAdd])
                | (refine wpl_storeF (by rfl) 57 _ _ (by rfl) HS.out.sty 49 12 (by omega) (fun k => refF x (48 + k)) (fun i hi => by rw [ref_wrd hi]; rfl) (by kernel_rfl) (by rfl) (by rfl) ?_; simp only [Act.put, List.setIfInBounds_toArray, List.set_cons_zero, List.set_cons_succ, Nat.zero_add, Nat.reduceAdd]))
              refine wp_worldS (RmW x w w.heap.size (w.heap.size + 1) (w.heap.size + 1 + 1) (finR x)) HS9'.out ?_
              intro W9 hS9
              have HS9 := Lib.hid hS9
              clear HS9' hS9 HS
              go_wp2_with (first
                | (refine wpl_loadA (by rfl) 79 _ (by rfl) HS9.out.sty _ Tryd.underlying79 rfl (by kernel_rfl) (by rfl) ?_; simp only [Act.put, List.setIfInBounds_toArray, List.set_cons_zero, List.set_cons_succ, Nat.zero_add, Nat.reduceAdd])
                | (refine wpl_storeF (by rfl) 79 _ _ (by rfl) HS9.out.out 0 61 (by omega) (finR x) (fun i _ => by unfold finR; exact rstF_one _ _ _ _ _ _) (by kernel_rfl) (by rfl) (by rfl) ?_; simp only [Act.put, List.setIfInBounds_toArray, List.set_cons_zero, List.set_cons_succ, Nat.zero_add, Nat.reduceAdd])
                | (refine bodyPost_ret (results_c2 (by rfl) (by rfl) (by exact load_allF (HS9.out.out.storeF (g := finR x)) 79 _ Tryd.underlying79 rfl (by kernel_rfl))) (by rfl) ?_))
              refine ⟨⟨by rw [HD.out.2], HD.out.1.symm⟩, ?_⟩
              exact (But.setCells _ _ _).to HS9.out.bel (by omega) HS9.out.bel.size
end Go.Proofs.YtmkblfejoniccaaDoor
namespace Go.Proofs.YtmkblfejoniccaaDoor
open Go.RowKit
set_option linter.unusedSimpArgs false
set_option linter.unusedVariables false

set_option maxRecDepth 100000 in
set_option maxHeartbeats 1600000 in
theorem cmp_isnan (x : Nat) (hx : x < 18446744073709551616) (w : World) : Calls Tryd.prog 109 #[.int .u64 (x : Int)] w fun e w' => e = .returned (.bool false) ∧ w' = w := by
  go_enter Tryd.func109, Tryd.ntmps109
  go_wp2_with fail
  go_ret
  exact ⟨by first | rfl | simp, rfl⟩
set_option maxRecDepth 100000 in
set_option maxHeartbeats 1600000 in
theorem cmp_u64 (x y : Nat) (hx : x < 18446744073709551616) (hy : y < 18446744073709551616) (w : World) : Calls Tryd.prog 89 #[.int .u64 (x : Int), .int .u64 (y : Int)] w fun e w' => e = .returned (.int .i64 (cmU x y)) ∧ w' = w := by
  have NX := cmp_isnan x hx
  have NY := cmp_isnan y hy
  by_cases h1 : x < y
  · have c1 : decide ((x : Int) < (y : Int)) = true := by simp; omega
    have hc : cmU x y = -1 := by unfold cmU; rw [if_pos h1]
    rw [hc]
    clear hc
    go_enter Tryd.func89, Tryd.ntmps89
    go_wp2_with (first
      | (go_at_call 109; with_reducible refine (NX _).mono ?_; rintro e w1 ⟨rfl, rfl⟩)
      | (go_at_call 109; with_reducible refine (NY _).mono ?_; rintro e w1 ⟨rfl, rfl⟩))
    (go_light; simp [bodyPost, results, Tryd.results89, go_sem, *])
  · have c1 : decide ((x : Int) < (y : Int)) = false := by simp; omega
    by_cases h2 : y < x
    · have c2 : decide ((y : Int) < (x : Int)) = true := by simp; omega
      have hc : cmU x y = 1 := by unfold cmU; rw [if_neg h1, if_pos h2]
      rw [hc]
      clear hc
      go_enter Tryd.func89, Tryd.ntmps89
      go_wp2_with (first
        | (go_at_call 109; with_reducible refine (NX _).mono ?_; rintro e w1 ⟨rfl, rfl⟩)
        | (go_at_call 109; with_reducible refine (NY _).mono ?_; rintro e w1 ⟨rfl, rfl⟩))
      (go_light; simp [bodyPost, results, Tryd.results89, go_sem, *])
    · have c2 : decide ((y : Int) < (x : Int)) = false := by simp; omega
      have hc : cmU x y = 0 := by unfold cmU; rw [if_neg h1, if_neg h2]
      rw [hc]
      clear hc
      go_enter Tryd.func89, Tryd.ntmps89
      go_wp2_with (first
        | (go_at_call 109; with_reducible refine (NX _).mono ?_; rintro e w1 ⟨rfl, rfl⟩)
        | (go_at_call 109; with_reducible refine (NY _).mono ?_; rintro e w1 ⟨rfl, rfl⟩))
      (go_light; simp [bodyPost, results, Tryd.results89, go_sem, *])
theorem or_top (b : Nat) (hb : b < 9223372036854775808) : bits .or .u64 (b : Int) 9223372036854775808 = (b : Int) + 9223372036854775808 := by
  have h := bits_or_u64_nat b 9223372036854775808 (by omega) (by omega)
  have e : b ||| 9223372036854775808 = b + 9223372036854775808 := by
    have := Nat.two_pow_add_eq_or_of_lt (i := 63) (b := b) hb 1
    rw [show (2 : Nat) ^ 63 * 1 = 9223372036854775808 by decide] at this
    rw [Nat.or_comm, ← this]
    omega
  rw [e] at h
  exact h
set_option maxRecDepth 100000 in
set_option maxHeartbeats 1600000 in
theorem real_place (b : Nat) (hb : b < 18446744073709551616) (w : World) : Calls Tryd.prog 90 #[.float .f64 b] w fun e w' => e = .returned (.int .u64 (plF b : Int)) ∧ w' = w := by
  have FB := flo_bits
  have e1 := sg_eq b
  have hb1 : (0 : Int) ≤ (b : Int) := by omega
  have hb2 : (b : Int) < 18446744073709551616 := by omega
  have hs := fSg_iff hb
  by_cases n1 : fKi b = 1
  · have m1 : (FloatKind.f64.format.order b b != some .eq) = true := by rw [bne, show FloatKind.f64.format = Ieee.double from rfl, fl_eq_is b b hb hb, n1]; rfl
    have hp : (plF b : Int) = 18446744073709551615 := by unfold plF; rw [if_pos n1]; rfl
    rw [hp]
    clear hp hs
    go_enter Tryd.func90, Tryd.ntmps90
    go_wp2_with fail
    (go_light; simp [bodyPost, results, Tryd.results90, go_sem, *])
  · have m1 : (FloatKind.f64.format.order b b != some .eq) = false := by rw [bne, show FloatKind.f64.format = Ieee.double from rfl, fl_eq_is b b hb hb]; simp [n1]
    by_cases n2 : fSg b = true
    · have hp : (plF b : Int) = 18446744073709551615 - (b : Int) := by unfold plF; rw [if_neg n1, if_pos n2]; omega
      have ho := u64_not (b : Int) hb1 (by omega)
      have hsg : IntKind.u64.signed = false := rfl
      have hmx : IntKind.u64.max = 18446744073709551615 := rfl
      rw [hp]
      obtain ⟨r, er⟩ : ∃ r, 18446744073709551615 - (b : Int) = r := ⟨_, rfl⟩
      rw [er] at ho ⊢
      have r1 : 0 ≤ r := by omega
      have r2 : r ≤ 18446744073709551615 := by omega
      clear er
      rw [n2] at e1
      clear hp hs
      go_enter Tryd.func90, Tryd.ntmps90
      go_wp2_with fail
      (go_light; simp [bodyPost, results, Tryd.results90, go_sem, *])
    · have n3 : fSg b = false := by simpa using n2
      have hp : (plF b : Int) = (b : Int) + 9223372036854775808 := by unfold plF; rw [if_neg n1, if_neg n2]; rfl
      have ho := or_top b (by rw [hs] at n2; omega)
      rw [hp]
      rw [n3] at e1
      clear hp hs
      go_enter Tryd.func90, Tryd.ntmps90
      go_wp2_with fail
      (go_light; simp [bodyPost, results, Tryd.results90, go_sem, *])
set_option maxRecDepth 100000 in
set_option maxHeartbeats 1600000 in
theorem real_cmp (a b : Nat) (ha : a < 18446744073709551616) (hb : b < 18446744073709551616) (w : World) : Calls Tryd.prog 40 #[.float .f64 a, .float .f64 b] w fun e w' => e = .returned (.int .i64 (cmU (plF a) (plF b))) ∧ w' = w := by
  have PA := real_place a ha
  have PB := real_place b hb
  have CM := cmp_u64 (plF a) (plF b) (plF_lt a ha) (plF_lt b hb)
  go_enter Tryd.func40, Tryd.ntmps40
  go_wp2_with (first
    | (go_at_call 90; with_reducible refine (PA _).mono ?_; rintro e w1 ⟨rfl, rfl⟩)
    | (go_at_call 90; with_reducible refine (PB _).mono ?_; rintro e w1 ⟨rfl, rfl⟩)
    | (go_at_call 89; with_reducible refine (CM _).mono ?_; rintro e w1 ⟨rfl, rfl⟩))
  (go_light; simp [bodyPost, results, Tryd.results40, go_sem, *])
set_option maxRecDepth 100000 in
set_option maxHeartbeats 3200000 in
theorem ref3_cmp (a b : Nat) (ha : a < 18446744073709551616) (hb : b < 18446744073709551616) (w : World) : Calls Tryd.prog 41 #[.int .u64 (a : Int), .int .u64 (b : Int)] w fun e w' => e = .returned (.int .i64 (cmU (plF a) (plF b))) ∧ w' = w := by
  have KA := ref3_kind a ha
  have KB := ref3_kind b hb
  rw [← cmpF_is ha hb]
  have hc : cmpF a b = if fKi a = 1 ∨ fKi b = 1 then (if fKi a = fKi b then 0 else if fKi a = 1 then 1 else -1)
    else if fDn a ≠ fDn b then (if fDn a then -1 else 1) else if fDn a then -cmU a b else cmU a b := rfl
  have hn : cmU a b = if a < b then -1 else if b < a then 1 else 0 := rfl
  obtain ⟨c, ec⟩ : ∃ c, cmpF a b = c := ⟨_, rfl⟩
  rw [ec] at hc ⊢
  obtain ⟨k, ek⟩ : ∃ c, fKi a = c := ⟨_, rfl⟩
  obtain ⟨l, el⟩ : ∃ c, fKi b = c := ⟨_, rfl⟩
  obtain ⟨d, ed⟩ : ∃ c, fDn a = c := ⟨_, rfl⟩
  obtain ⟨u, eu⟩ : ∃ c, fDn b = c := ⟨_, rfl⟩
  obtain ⟨n, en⟩ : ∃ c, cmU a b = c := ⟨_, rfl⟩
  rw [ek, el, ed, eu, en] at hc
  rw [ek, ed] at KA
  rw [el, eu] at KB
  rw [en] at hn
  clear ek el ed eu ec en
  have hb1 : (0 : Int) ≤ (b : Int) := by omega
  have ha1 : (0 : Int) ≤ (a : Int) := by omega
  by_cases k1 : k = 1
  · rw [if_pos (.inl k1)] at hc
    have e1 : ((k : Int) == 1) = true := by simp; omega
    by_cases k2 : k = l
    · rw [if_pos k2] at hc
      have e3 : ((k : Int) == (l : Int)) = true := by simp; omega
      clear hn
      subst hc
      go_enter Tryd.func41, Tryd.ntmps41
      go_wp2_with (first
        | (go_at_call 22; with_reducible refine (KA _).mono ?_; rintro e w1 ⟨rfl, rfl⟩)
        | (go_at_call 22; with_reducible refine (KB _).mono ?_; rintro e w1 ⟨rfl, rfl⟩))
      (go_light; simp [bodyPost, results, Tryd.results41, go_sem, *])
    · rw [if_neg k2, if_pos k1] at hc
      have e3 : ((k : Int) == (l : Int)) = false := by simp; omega
      clear hn
      subst hc
      go_enter Tryd.func41, Tryd.ntmps41
      go_wp2_with (first
        | (go_at_call 22; with_reducible refine (KA _).mono ?_; rintro e w1 ⟨rfl, rfl⟩)
        | (go_at_call 22; with_reducible refine (KB _).mono ?_; rintro e w1 ⟨rfl, rfl⟩))
      (go_light; simp [bodyPost, results, Tryd.results41, go_sem, *])
  · have e1 : ((k : Int) == 1) = false := by simp; omega
    by_cases l1 : l = 1
    · rw [if_pos (.inr l1), if_neg (by omega), if_neg k1] at hc
      have e2 : ((l : Int) == 1) = true := by simp; omega
      have e3 : ((k : Int) == (l : Int)) = false := by simp; omega
      clear hn
      subst hc
      go_enter Tryd.func41, Tryd.ntmps41
      go_wp2_with (first
        | (go_at_call 22; with_reducible refine (KA _).mono ?_; rintro e w1 ⟨rfl, rfl⟩)
        | (go_at_call 22; with_reducible refine (KB _).mono ?_; rintro e w1 ⟨rfl, rfl⟩))
      (go_light; simp [bodyPost, results, Tryd.results41, go_sem, *])
    · rw [if_neg (by omega)] at hc
      have e2 : ((l : Int) == 1) = false := by simp; omega
      have key : (n = -1 ∧ a < b) ∨ (n = 1 ∧ ¬ a < b ∧ b < a) ∨ (n = 0 ∧ ¬ a < b ∧ ¬ b < a) := by
        rw [hn]
        by_cases h1 : a < b
        · rw [if_pos h1]; exact .inl ⟨rfl, h1⟩
        · rw [if_neg h1]
          by_cases h2 : b < a
          · rw [if_pos h2]; exact .inr (.inl ⟨rfl, h1, h2⟩)
          · rw [if_neg h2]; exact .inr (.inr ⟨rfl, h1, h2⟩)
      clear hn k1 l1
      rcases key with ⟨rfl, h1⟩ | ⟨rfl, h1, h2⟩ | ⟨rfl, h1, h2⟩
      · have c1 : decide ((a : Int) < (b : Int)) = true := by simp; omega
        have c2 : decide ((b : Int) < (a : Int)) = false := by simp; omega
        have h2 : ¬ b < a := by omega
        cases d <;> cases u <;> (replace hc := hc.trans (show _ = _ from rfl); subst hc)
        all_goals
          go_enter Tryd.func41, Tryd.ntmps41
          go_wp2_with (first
            | (go_at_call 22; with_reducible refine (KA _).mono ?_; rintro e w1 ⟨rfl, rfl⟩)
            | (go_at_call 22; with_reducible refine (KB _).mono ?_; rintro e w1 ⟨rfl, rfl⟩))
          (go_light; simp [bodyPost, results, Tryd.results41, go_sem, *])
      · have c1 : decide ((a : Int) < (b : Int)) = false := by simp; omega
        have c2 : decide ((b : Int) < (a : Int)) = true := by simp; omega
        cases d <;> cases u <;> (replace hc := hc.trans (show _ = _ from rfl); subst hc)
        all_goals
          go_enter Tryd.func41, Tryd.ntmps41
          go_wp2_with (first
            | (go_at_call 22; with_reducible refine (KA _).mono ?_; rintro e w1 ⟨rfl, rfl⟩)
            | (go_at_call 22; with_reducible refine (KB _).mono ?_; rintro e w1 ⟨rfl, rfl⟩))
          (go_light; simp [bodyPost, results, Tryd.results41, go_sem, *])
      · have c1 : decide ((a : Int) < (b : Int)) = false := by simp; omega
        have c2 : decide ((b : Int) < (a : Int)) = false := by simp; omega
        cases d <;> cases u <;> (replace hc := hc.trans (show _ = _ from rfl); subst hc)
        all_goals
          go_enter Tryd.func41, Tryd.ntmps41
          go_wp2_with (first
            | (go_at_call 22; with_reducible refine (KA _).mono ?_; rintro e w1 ⟨rfl, rfl⟩)
            | (go_at_call 22; with_reducible refine (KB _).mono ?_; rintro e w1 ⟨rfl, rfl⟩))
          (go_light; simp [bodyPost, results, Tryd.results41, go_sem, *])
end Go.Proofs.YtmkblfejoniccaaDoor
namespace Go.Proofs.YtmkblfejoniccaaDoor
open Go.RowKit
set_option linter.unusedSimpArgs false
set_option linter.unusedVariables false

def upB (t : Nat) (more : Bool) : Bool := decide (1024 < t % 2048) || (decide (t % 2048 = 1024) && (more || decide (t / 2048 % 2 = 1)))
def nrT (t : Nat) (more : Bool) : Nat := t / 2048 + (upB t more).toNat
theorem nrT_is (A d : Nat) : nrT (A / d) (decide (A % d ≠ 0)) = nrM A d := by
  unfold nrT nrM upB
  by_cases c1 : 1024 < A / d % 2048
  · rw [if_pos (.inl c1), decide_eq_true c1]; rfl
  · rw [decide_eq_false c1, Bool.false_or]
    by_cases c2 : A / d % 2048 = 1024
    · rw [decide_eq_true c2, Bool.true_and]
      by_cases c3 : A % d ≠ 0 ∨ A / d / 2048 % 2 = 1
      · rw [if_pos (.inr ⟨c2, c3⟩)]
        rcases c3 with c3 | c3
        · rw [decide_eq_true c3]; rfl
        · rw [decide_eq_true c3, Bool.or_true]; rfl
      · rw [if_neg (by omega), decide_eq_false (fun h => c3 (.inl h)), decide_eq_false (fun h => c3 (.inr h))]; rfl
    · rw [decide_eq_false c2, if_neg (by omega)]; rfl
set_option maxRecDepth 100000 in
set_option maxHeartbeats 1600000 in
theorem real_nearest (t : Nat) (more : Bool) (ht : t < 18446744073709551616) (w : World) : Calls Tryd.prog 59 #[.int .u64 (t : Int), .bool more] w fun e w' => e = .returned (.int .u64 ((nrT t more : Nat) : Int)) ∧ w' = w := by
  have e1 : (t : Int) / 2048 = ((t / 2048 : Nat) : Int) := by omega
  have e2 : bits .and .u64 (t : Int) 2047 = ((t % 2048 : Nat) : Int) := by
    have h := and_low t 11 2047 ht (by decide) (by decide)
    exact h
  have e3 : bits .and .u64 ((t / 2048 : Nat) : Int) 1 = ((t / 2048 % 2 : Nat) : Int) := by
    have h := and_low (t / 2048) 1 1 (by omega) (by decide) (by decide)
    exact h
  have hn : nrT t more = t / 2048 + (upB t more).toNat := rfl
  have hu : upB t more = (decide (1024 < t % 2048) || (decide (t % 2048 = 1024) && (more || decide (t / 2048 % 2 = 1)))) := rfl
  obtain ⟨m, em⟩ : ∃ m, t / 2048 = m := ⟨_, rfl⟩
  obtain ⟨r, er⟩ : ∃ m, t % 2048 = m := ⟨_, rfl⟩
  obtain ⟨o, eo⟩ : ∃ o, m % 2 = o := ⟨_, rfl⟩
  have bm : m < 9007199254740992 := by omega
  have br : r < 2048 := by omega
  rw [em] at e1 e3 hn hu
  rw [er] at e2 hu
  rw [hn]
  obtain ⟨u, eu⟩ : ∃ u, upB t more = u := ⟨_, rfl⟩
  rw [eu] at hu ⊢
  clear em er eu hn ht
  have key : (1024 < r ∧ u = true) ∨ (r < 1024 ∧ u = false) ∨ (r = 1024 ∧ u = (more || decide (o = 1))) := by
    by_cases c1 : 1024 < r
    · left; refine ⟨c1, ?_⟩; rw [hu, decide_eq_true c1]; rfl
    · by_cases c2 : r = 1024
      · right; right; refine ⟨c2, ?_⟩; rw [hu, decide_eq_false c1, decide_eq_true c2, eo]; rfl
      · right; left; refine ⟨by omega, ?_⟩; rw [hu, decide_eq_false c1, decide_eq_false c2]; rfl
  clear hu
  rcases key with ⟨c, rfl⟩ | ⟨c, rfl⟩ | ⟨c, hu⟩
  · have c1 : decide ((1024 : Int) < (r : Int)) = true := by simp; omega
    go_enter Tryd.func59, Tryd.ntmps59
    go_wp2_with fail
    (go_light; simp [bodyPost, results, Tryd.results59, go_sem, *])
  · have c1 : decide ((1024 : Int) < (r : Int)) = false := by simp; omega
    have c2 : ((r : Int) == 1024) = false := by simp; omega
    go_enter Tryd.func59, Tryd.ntmps59
    go_wp2_with fail
    (go_light; simp [bodyPost, results, Tryd.results59, go_sem, *])
  · subst c
    replace e2 : bits .and .u64 (t : Int) 2047 = 1024 := e2
    rw [eo] at e3
    clear eo
    cases more
    · by_cases c3 : o = 1
      · subst c3
        obtain rfl : u = true := hu
        replace e3 : bits .and .u64 (m : Int) 1 = 1 := e3
        go_enter Tryd.func59, Tryd.ntmps59
        go_wp2_with fail
        go_ret
        exact ⟨rfl, rfl⟩
      · obtain rfl : u = false := by rw [hu, decide_eq_false c3]; rfl
        clear hu
        have c4 : ((o : Int) == 1) = false := by simp; omega
        go_enter Tryd.func59, Tryd.ntmps59
        go_wp2_with fail
        go_ret
        exact ⟨rfl, rfl⟩
    · obtain rfl : u = true := hu
      go_enter Tryd.func59, Tryd.ntmps59
      go_wp2_with fail
      go_ret
      exact ⟨rfl, rfl⟩
end Go.Proofs.YtmkblfejoniccaaDoor
namespace Go.Proofs.YtmkblfejoniccaaDoor
open Go.RowKit
set_option linter.unusedSimpArgs false
set_option linter.unusedVariables false

set_option maxRecDepth 100000 in
set_option maxHeartbeats 1600000 in
theorem math_nan2 (w : World) : Calls Tryd.prog 42 #[] w fun e w' => e = .returned (.float .f64 9221120237041090561) ∧ w' = w := by
  have FF : ∀ w, (callFunc 16 #[.int .u64 9221120237041090561]).run Tryd.prog w = .ok (.value (.float .f64 9221120237041090561)) w := flo_from2 9221120237041090561
  go_enter Tryd.func42, Tryd.ntmps42
  go_wp2_with fail
  go_ret
  exact ⟨rfl, rfl⟩
set_option maxRecDepth 100000 in
set_option maxHeartbeats 1600000 in
theorem math_Ldexp (b : Nat) (e : Int) (h0 : 4503599627370496 ≤ b) (h : b < 9218868437227405312) (E : Nat) (hE : ((b / 4503599627370496 : Nat) : Int) + e = (E : Int)) (E1 : 1 ≤ E) (E2 : E ≤ 1900) (r : Nat) (hr : E * 4503599627370496 + b % 4503599627370496 = r) (w : World) :
    Calls Tryd.prog 58 #[.float .f64 b, .int .i64 e] w fun e w' => e = .returned (.float .f64 r) ∧ w' = w := by
  have LD := math_ldexp b e h0 h E hE E1 E2 r hr
  clear h0 h hE E1 E2 hr
  go_enter Tryd.func58, Tryd.ntmps58
  go_wp2_with (go_at_call 95; with_reducible refine (LD _).mono ?_; rintro e w1 ⟨rfl, rfl⟩)
  go_ret
  exact ⟨rfl, rfl⟩
/-- The nearest float's bits. -/
def nrG (a d : Nat) : Nat := (1085 - nrK a d) * 4503599627370496 + nrM (a * 2 ^ nrK a d) d
def nrB (N D : Int) : Nat := if goodB N D = false then 9221120237041090561 else if N = 0 then 0 else (if N < 0 then 9223372036854775808 else 0) + nrG N.natAbs D.natAbs
theorem neg_float {r : Nat} (h : r < 9223372036854775808) : Op.negFloat .f64 r = 9223372036854775808 + r := by
  show r ^^^ 2 ^ (11 + 52) = _
  have e : r ^^^ 2 ^ 63 = 2 ^ 63 ||| r := by
    refine Nat.eq_of_testBit_eq fun i => ?_
    rw [Nat.testBit_xor, Nat.testBit_or, Nat.testBit_two_pow]
    by_cases hi : 63 = i
    · subst hi
      rw [Nat.testBit_lt_two_pow (show r < 2 ^ 63 from h)]; rfl
    · simp [hi]
  have h2 := Nat.two_pow_add_eq_or_of_lt (i := 63) (b := r) h 1
  rw [Nat.mul_one] at h2
  rw [show 11 + 52 = 63 from rfl, e, ← h2]
set_option maxRecDepth 100000 in
set_option maxHeartbeats 3200000 in
theorem real_Nearest_bad (N D : Int) (hN : IFit N) (hD : IFit D) (hg : goodB N D = false) (w : World) : Calls Tryd.prog 20 #[.agg #[.int .i64 N, .int .i64 D]] w fun e w' => e = .returned (.float .f64 (nrB N D)) ∧ Below w.heap.size w w' := by
  have GD := rat_good N D hN hD
  rw [hg] at GD
  rw [show nrB N D = 9221120237041090561 by unfold nrB; rw [if_pos hg]]
  go_enter Tryd.func20, Tryd.ntmps20
  go_wp2_with (first
    | (go_at_call 18; (with_reducible refine (GD _).mono ?_); rintro e w' ⟨rfl, hb'⟩; obtain ⟨hc', hf'⟩ := bcell hb'; have hz' := bz1 (n := w.heap.size) hb' (by (try simp) <;> omega); have hs' := hb'.size; (try simp at hs'); (try (have hs2' := Nat.lt_of_succ_le hs')))
    | (go_at_call 42; with_reducible refine (math_nan2 _).mono ?_; rintro e w1 ⟨rfl, rfl⟩))
  go_ret
  exact ⟨rfl, (by repeat' (first | (with_reducible exact Below.refl _ _) | (with_reducible assumption) | (with_reducible refine below_alloc ?_ _ ?_) | (with_reducible refine below_set _ ?_ ?_) | (with_reducible refine Below.drew ?_) | (with_reducible refine below_dN ?_ _) | (apply below_thenA; assumption) | omega | (simp; done) | (simp; omega) | (simp [*]; done)))⟩
set_option maxRecDepth 100000 in
set_option maxHeartbeats 3200000 in
theorem real_Nearest_zero (D : Int) (hD : IFit D) (hg : goodB 0 D = true) (w : World) : Calls Tryd.prog 20 #[.agg #[.int .i64 0, .int .i64 D]] w fun e w' => e = .returned (.float .f64 (nrB 0 D)) ∧ Below w.heap.size w w' := by
  have GD := rat_good 0 D (by unfold IFit; omega) hD
  rw [hg] at GD
  rw [show nrB 0 D = 0 by unfold nrB; rw [if_neg (by rw [hg]; decide), if_pos rfl]]
  go_enter Tryd.func20, Tryd.ntmps20
  go_wp2_with (go_at_call 18; (with_reducible refine (GD _).mono ?_); rintro e w' ⟨rfl, hb'⟩; obtain ⟨hc', hf'⟩ := bcell hb'; have hz' := bz1 (n := w.heap.size) hb' (by (try simp) <;> omega); have hs' := hb'.size; (try simp at hs'); (try (have hs2' := Nat.lt_of_succ_le hs')))
  go_ret
  exact ⟨rfl, (by repeat' (first | (with_reducible exact Below.refl _ _) | (with_reducible assumption) | (with_reducible refine below_alloc ?_ _ ?_) | (with_reducible refine below_set _ ?_ ?_) | (with_reducible refine Below.drew ?_) | (with_reducible refine below_dN ?_ _) | (apply below_thenA; assumption) | omega | (simp; done) | (simp; omega) | (simp [*]; done)))⟩
/-- The three words of a quotient, and what the walk needs of them. -/
structure Wds (a d q0 r0 q1 r1 q2 r2 : Nat) : Prop where
  e0 : a / d = q0
  e1 : a % d = r0
  e2 : r0 * 18446744073709551616 / d = q1
  e3 : r0 * 18446744073709551616 % d = r1
  e4 : r1 * 18446744073709551616 / d = q2
  e5 : r1 * 18446744073709551616 % d = r2
  b0 : q0 ≤ 9223372036854775808
  b1 : q1 < 18446744073709551616
  b2 : q2 < 18446744073709551616
  c0 : r0 < d
  c1 : r1 < d
  c2 : r2 < d
theorem wds_of {a d : Nat} (ha : a ≤ 9223372036854775808) (hd : 0 < d) : ∃ q0 r0 q1 r1 q2 r2, Wds a d q0 r0 q1 r1 q2 r2 := by
  have w1 : ∀ r : Nat, r < d → r * 18446744073709551616 / d < 18446744073709551616 := fun r h => (Nat.div_lt_iff_lt_mul hd).2 (by
    rw [Nat.mul_comm 18446744073709551616 d]
    exact Nat.mul_lt_mul_of_pos_right h (by decide))
  have m0 := Nat.mod_lt a hd
  have m1 := Nat.mod_lt (a % d * 18446744073709551616) hd
  have m2 := Nat.mod_lt (a % d * 18446744073709551616 % d * 18446744073709551616) hd
  exact ⟨_, _, _, _, _, _, rfl, rfl, rfl, rfl, rfl, rfl, Nat.le_trans (Nat.div_le_self _ _) ha, w1 _ m0, w1 _ m1, m0, m1, m2⟩
/-- The join of two words, in the walk's own form. -/
theorem join_walk {q p n : Nat} (hn : n ≤ 63) (hq : q * 2 ^ n < 18446744073709551616) (hp : p < 18446744073709551616) :
    bits .or .u64 (IntKind.u64.wrap ((q : Int) * 2 ^ n)) ((p : Int) / 2 ^ (64 - n)) = (((q * 18446744073709551616 + p) * 2 ^ n / 18446744073709551616 : Nat) : Int) := by
  have e : (q : Int) * 2 ^ n = ((q * 2 ^ n : Nat) : Int) := by simp
  have h := (shift_join (q : Int) (p : Int) n hn (by omega) (by rw [e]; omega) (by omega) (by omega)).1
  rw [IntKind.wrap_u64, Int.emod_eq_of_lt (by rw [e]; omega) (by rw [e]; omega), h]
  simp
theorem below_walk {p n : Nat} : IntKind.u64.wrap ((p : Int) * 2 ^ n) = ((p * 2 ^ n % 18446744073709551616 : Nat) : Int) := by
  rw [IntKind.wrap_u64, show (p : Int) * 2 ^ n = ((p * 2 ^ n : Nat) : Int) by simp]
  omega
end Go.Proofs.YtmkblfejoniccaaDoor
namespace Go.Proofs.YtmkblfejoniccaaDoor
open Go Go.RowKit
set_option linter.unusedSimpArgs false
set_option linter.unusedVariables false

/-- The default on its way. -/
def stR (a : Nat) (b c : Bool) (d : Nat) : Rs where
  L := fun j => if b = true ∧ (j = 4 ∨ j = 5) then 9218868437227405312 else if j < a ∧ (j < 4 ∨ 14 ≤ j) then 9221120237041090561 else 0
  P := fun _ => false
  N := fun j => if c = true ∧ (j = 4 ∨ j = 9) then 9221120237041090561 else if c = true ∧ j = 6 then 4607182418800017408 else 0
  W := fun j => if j < d ∧ j ≠ 4 ∧ j ≠ 9 then 1 else 0
  B := fun _ => false
  C := 0
def defR : Rs := stR 19 true true 12
theorem stR_zero : cellsF 65 (rawF (stR 0 false false 0)) = #[.float .f64 0, .bool false, .float .f64 0, .bool false, .float .f64 0, .bool false, .float .f64 0, .bool false, .float .f64 0, .bool false, .float .f64 0, .bool false, .float .f64 0, .bool false, .float .f64 0, .bool false, .float .f64 0, .bool false, .float .f64 0, .bool false, .float .f64 0, .bool false, .float .f64 0, .bool false, .float .f64 0, .bool false, .float .f64 0, .bool false, .float .f64 0, .bool false, .float .f64 0, .bool false, .float .f64 0, .bool false, .float .f64 0, .bool false, .float .f64 0, .bool false, .float .f64 0, .float .f64 0, .float .f64 0, .float .f64 0, .float .f64 0, .float .f64 0, .float .f64 0, .float .f64 0, .float .f64 0, .float .f64 0, .int .i64 0, .int .i64 0, .int .i64 0, .int .i64 0, .int .i64 0, .int .i64 0, .int .i64 0, .int .i64 0, .int .i64 0, .int .i64 0, .int .i64 0, .int .i64 0, .bool false, .bool false, .bool false, .bool false, .int .u8 0] := by kernel_rfl
theorem stR_len (i : Nat) (hi : i < 19) (h : i < 4 ∨ 14 ≤ i) : (cellsF 65 (rawF (stR i false false 0))).setIfInBounds (i * 2) (.float .f64 9221120237041090561) = cellsF 65 (rawF (stR (i + 1) false false 0)) := by
  match i, hi with
  | 0, _ => (show _ = _; kernel_rfl)
  | 1, _ => (show _ = _; kernel_rfl)
  | 2, _ => (show _ = _; kernel_rfl)
  | 3, _ => (show _ = _; kernel_rfl)
  | 4, _ => omega
  | 5, _ => omega
  | 6, _ => omega
  | 7, _ => omega
  | 8, _ => omega
  | 9, _ => omega
  | 10, _ => omega
  | 11, _ => omega
  | 12, _ => omega
  | 13, _ => omega
  | 14, _ => (show _ = _; kernel_rfl)
  | 15, _ => (show _ = _; kernel_rfl)
  | 16, _ => (show _ = _; kernel_rfl)
  | 17, _ => (show _ = _; kernel_rfl)
  | 18, _ => (show _ = _; kernel_rfl)
  | n + 19, h => exact absurd h (by omega)
theorem stR_skip (i : Nat) (h : 4 ≤ i ∧ i < 14) : cellsF 65 (rawF (stR i false false 0)) = cellsF 65 (rawF (stR (i + 1) false false 0)) := by
  refine cellsF_ext (fun k hk => ?_)
  unfold rawF stR
  by_cases h1 : k < 38
  · rw [if_pos h1, if_pos h1]
    dsimp only
    have e : (k / 2 < i ∧ (k / 2 < 4 ∨ 14 ≤ k / 2)) = (k / 2 < i + 1 ∧ (k / 2 < 4 ∨ 14 ≤ k / 2)) := by apply propext; omega
    simp only [e]
  · rw [if_neg h1, if_neg h1]
theorem stR_inf : ((cellsF 65 (rawF (stR 19 false false 0))).setIfInBounds 8 (.float .f64 9218868437227405312)).setIfInBounds 10 (.float .f64 9218868437227405312) = cellsF 65 (rawF (stR 19 true false 0)) := by kernel_rfl
theorem stR_num : (((cellsF 65 (rawF (stR 19 true false 0))).setIfInBounds 42 (.float .f64 9221120237041090561)).setIfInBounds 47 (.float .f64 9221120237041090561)).setIfInBounds 44 (.float .f64 4607182418800017408) = cellsF 65 (rawF (stR 19 true true 0)) := by kernel_rfl
theorem stR_wrd (i : Nat) (hi : i < 12) (h : i ≠ 4 ∧ i ≠ 9) : (cellsF 65 (rawF (stR 19 true true i))).setIfInBounds (48 + i) (.int .i64 1) = cellsF 65 (rawF (stR 19 true true (i + 1))) := by
  match i, hi with
  | 0, _ => (show _ = _; kernel_rfl)
  | 1, _ => (show _ = _; kernel_rfl)
  | 2, _ => (show _ = _; kernel_rfl)
  | 3, _ => (show _ = _; kernel_rfl)
  | 4, _ => omega
  | 5, _ => (show _ = _; kernel_rfl)
  | 6, _ => (show _ = _; kernel_rfl)
  | 7, _ => (show _ = _; kernel_rfl)
  | 8, _ => (show _ = _; kernel_rfl)
  | 9, _ => omega
  | 10, _ => (show _ = _; kernel_rfl)
  | 11, _ => (show _ = _; kernel_rfl)
  | n + 12, h => exact absurd h (by omega)
theorem stR_wsk (i : Nat) (h : i = 4 ∨ i = 9) : cellsF 65 (rawF (stR 19 true true i)) = cellsF 65 (rawF (stR 19 true true (i + 1))) := by
  rcases h with rfl | rfl
  · kernel_rfl
  · kernel_rfl
theorem and_may (i : Nat) (hi : i < 19) : bits .and .i64 (myL i) 1 = if i < 4 ∨ (6 ≤ i ∧ i < 10) ∨ 14 ≤ i then 1 else 0 := by
  match i, hi with
  | 0, _ => (show _ = _; kernel_rfl)
  | 1, _ => (show _ = _; kernel_rfl)
  | 2, _ => (show _ = _; kernel_rfl)
  | 3, _ => (show _ = _; kernel_rfl)
  | 4, _ => (show _ = _; kernel_rfl)
  | 5, _ => (show _ = _; kernel_rfl)
  | 6, _ => (show _ = _; kernel_rfl)
  | 7, _ => (show _ = _; kernel_rfl)
  | 8, _ => (show _ = _; kernel_rfl)
  | 9, _ => (show _ = _; kernel_rfl)
  | 10, _ => (show _ = _; kernel_rfl)
  | 11, _ => (show _ = _; kernel_rfl)
  | 12, _ => (show _ = _; kernel_rfl)
  | 13, _ => (show _ = _; kernel_rfl)
  | 14, _ => (show _ = _; kernel_rfl)
  | 15, _ => (show _ = _; kernel_rfl)
  | 16, _ => (show _ = _; kernel_rfl)
  | 17, _ => (show _ = _; kernel_rfl)
  | 18, _ => (show _ = _; kernel_rfl)
  | n + 19, h => exact absurd h (by omega)
set_option maxRecDepth 100000 in
set_option maxHeartbeats 1600000 in
theorem math_inf (w : World) : Calls Tryd.prog 80 #[.int .i64 1] w fun e w' => e = .returned (.float .f64 9218868437227405312) ∧ w' = w := by
  have FF : ∀ w, (callFunc 16 #[.int .u64 9218868437227405312]).run Tryd.prog w = .ok (.value (.float .f64 9218868437227405312)) w := flo_from2 9218868437227405312
  go_enter Tryd.func80, Tryd.ntmps80
  go_wp2_with fail
  go_ret
  exact ⟨rfl, rfl⟩
/-- Default's world. -/
structure DfW (w : World) (x : Rs) (W : World) : Prop where
  out : Blk W w.heap.size (cellsF 65 (rawF (stR 0 false false 0))) 74
  raw : Blk W (w.heap.size + 1) (cellsF 65 (rawF x)) 74
  bel : Below w.heap.size w W
theorem DfW.but {w W W' : World} {x x' : Rs} (h : DfW w x W) (hb : But (w.heap.size + 1) W W') (t : Blk W' (w.heap.size + 1) (cellsF 65 (rawF x')) 74) : DfW w x' W' :=
  ⟨h.out.but hb (by omega), t, hb.to h.bel (by omega) h.bel.size⟩
theorem rawF_one (x : Rs) (k : Nat) : (rawF x k).oneCell' = true := by
  unfold rawF
  repeat' split
  all_goals rfl
set_option maxRecDepth 100000 in
set_option maxHeartbeats 3200000 in
theorem sty_default (w : World) : Calls Tryd.prog 33 #[] w fun e w' => e = .returned (.agg (cellsF 65 (rawF defR))) ∧ Below w.heap.size w w' := by
  have SF := sto_floS
  have NN := math_nan2
  have NI := math_inf
  go_enter Tryd.func33, Tryd.ntmps33
  go_upto_region 2 with (fail)
  refine wp_worldS (DfW w (stR 0 false false 0)) ⟨by rw [stR_zero]; exact Blk.alloc (Blk.new _ _ _ _ rfl) _, by rw [stR_zero]; exact Blk.new _ _ _ _ (by simp), (by repeat' (first | (with_reducible exact Below.refl _ _) | (with_reducible assumption) | (with_reducible refine below_alloc ?_ _ ?_) | (with_reducible refine below_set _ ?_ ?_) | (with_reducible refine Below.drew ?_) | (with_reducible refine below_dN ?_ _) | (apply below_thenA; assumption) | omega | (simp; done) | (simp; omega) | (simp [*]; done)))⟩ ?_
  intro W1 hS0
  go_wp2_with fail
  go_loopg [4] 19 (fun gk s4 wr => ∃ i : Nat, i ≤ 19 ∧ gk = 19 - i ∧ s4 = .int .i64 ((i : Int)) ∧ DfW w (stR i false false 0) wr)
  case atStart => exact ⟨0, by omega, rfl, rfl, hS0⟩
  case round =>
    clear hS0
    obtain ⟨i, hi, rfl, rfl, hS⟩ := hrel
    by_cases hik : i < 19
    · have ix : (i : Int) < 19 := by omega
      have MC := fun W => sty_may i hik W
      have hb := and_may i hik
      obtain ⟨M, eM⟩ : ∃ M, myL i = M := ⟨_, rfl⟩
      rw [eM] at MC hb
      clear eM
      have q1 := hS.raw.cellF (i := i * 2) (by omega)
      have z1 := hS.raw.free (i * 2)
      have HS := Lib.hid hS
      have HIK := Lib.hid hik
      clear hS hik
      by_cases h1 : i < 4
      · rw [if_pos (.inl h1)] at hb
        have i6 : (i : Int) < 6 := by omega
        have H1 := Lib.hid h1
        clear h1
        go_wp2_with (first
          | (go_at_call 74; with_reducible refine (MC _).mono ?_; rintro e w1 ⟨rfl, rfl⟩)
          | (go_at_call 42; with_reducible refine (NN _).mono ?_; rintro e w1 ⟨rfl, rfl⟩))
        go_roundg (19 - (i + 1))
        case measure => go_light; have := HIK.out; omega
        case rel =>
          go_light
          have tb := HS.out.raw.set (i * 2) (.float .f64 9221120237041090561)
          rw [stR_len i HIK.out (.inl H1.out)] at tb
          exact ⟨i + 1, by have := HIK.out; omega, rfl, rfl, HS.out.but (But.set _ _ _) tb⟩
      · by_cases h2 : 14 ≤ i
        · rw [if_pos (.inr (.inr h2))] at hb
          have i6 : decide ((i : Int) < 6) = false := by simp; omega
          have i14 : 14 ≤ (i : Int) := by omega
          have H2 := Lib.hid h2
          clear h1 h2
          go_wp2_with (first
            | (go_at_call 74; with_reducible refine (MC _).mono ?_; rintro e w1 ⟨rfl, rfl⟩)
            | (go_at_call 42; with_reducible refine (NN _).mono ?_; rintro e w1 ⟨rfl, rfl⟩))
          go_roundg (19 - (i + 1))
          case measure => go_light; have := HIK.out; omega
          case rel =>
            go_light
            have tb := HS.out.raw.set (i * 2) (.float .f64 9221120237041090561)
            rw [stR_len i HIK.out (.inr H2.out)] at tb
            exact ⟨i + 1, by have := HIK.out; omega, rfl, rfl, HS.out.but (But.set _ _ _) tb⟩
        · have hsk := stR_skip i ⟨by omega, by omega⟩
          have HSK := Lib.hid hsk
          clear hsk
          by_cases h3 : 6 ≤ i ∧ i < 10
          · rw [if_pos (.inr (.inl h3))] at hb
            have i6 : decide ((i : Int) < 6) = false := by simp; omega
            have i14 : decide (14 ≤ (i : Int)) = false := by simp; omega
            clear h1 h2 h3
            go_wp2_with (go_at_call 74; with_reducible refine (MC _).mono ?_; rintro e w1 ⟨rfl, rfl⟩)
            go_roundg (19 - (i + 1))
            case measure => go_light; have := HIK.out; omega
            case rel =>
              go_light
              exact ⟨i + 1, by have := HIK.out; omega, rfl, rfl, HS.out.out, by rw [← HSK.out]; exact HS.out.raw, HS.out.bel⟩
          · rw [if_neg (by omega)] at hb
            clear h1 h2 h3
            go_wp2_with (go_at_call 74; with_reducible refine (MC _).mono ?_; rintro e w1 ⟨rfl, rfl⟩)
            go_roundg (19 - (i + 1))
            case measure => go_light; have := HIK.out; omega
            case rel =>
              go_light
              exact ⟨i + 1, by have := HIK.out; omega, rfl, rfl, HS.out.out, by rw [← HSK.out]; exact HS.out.raw, HS.out.bel⟩
    · have hi19 : i = 19 := by omega
      subst hi19
      have q1 := hS.raw.cellF (i := 8) (by omega)
      have q2 := hS.raw.cellF (i := 10) (by omega)
      have z1 := hS.raw.free 8
      have z2 := hS.raw.free 10
      have HS := Lib.hid hS
      clear hS
      go_upto_region 9 with (go_at_call 80; with_reducible refine (NI _).mono ?_; rintro e w1 ⟨rfl, rfl⟩)
      refine wp_worldS (DfW w (stR 19 true false 0)) ?_ ?_
      · have tb := (HS.out.raw.set 8 (.float .f64 9218868437227405312)).set 10 (.float .f64 9218868437227405312)
        rw [stR_inf] at tb
        exact HS.out.but ((But.set _ _ _).trans (But.set _ _ _)) tb
      intro W2 hS
      clear q1 q2 z1 z2 HS NI
      have q1 := hS.raw.cellF (i := 42) (by omega)
      have q2 := hS.raw.cellF (i := 47) (by omega)
      have q3 := hS.raw.cellF (i := 44) (by omega)
      have z1 := hS.raw.free 42
      have z2 := hS.raw.free 47
      have z3 := hS.raw.free 44
      have HS := Lib.hid hS
      clear hS
      go_upto_region 10 with (go_at_call 42; with_reducible refine (NN _).mono ?_; rintro e w1 ⟨rfl, rfl⟩)
      refine wp_worldS (DfW w (stR 19 true true 0)) ?_ ?_
      · have tb := ((HS.out.raw.set 42 (.float .f64 9221120237041090561)).set 47 (.float .f64 9221120237041090561)).set 44 (.float .f64 4607182418800017408)
        rw [stR_num] at tb
        exact HS.out.but (((But.set _ _ _).trans (But.set _ _ _)).trans (But.set _ _ _)) tb
      intro W3 hS3
      clear q1 q2 q3 z1 z2 z3 HS NN SF
      go_wp2_with fail
      go_loopg [41] 12 (fun gk s41 wr => ∃ i : Nat, i ≤ 12 ∧ gk = 12 - i ∧ s41 = .int .i64 ((i : Int)) ∧ DfW w (stR 19 true true i) wr)
      case atStart => exact ⟨0, by omega, rfl, rfl, hS3⟩
      case round =>
        clear hS3
        obtain ⟨i, hi, rfl, rfl, hS⟩ := hrel
        by_cases hik : i < 12
        · have ix : (i : Int) < 12 := by omega
          have q1 := hS.raw.cellF (i := 48 + i) (by omega)
          have z1 := hS.raw.free (48 + i)
          have HS := Lib.hid hS
          have HIK := Lib.hid hik
          clear hS hik
          by_cases h4 : i = 4
          · subst h4
            have hsk := Lib.hid (stR_wsk 4 (.inl rfl))
            go_wp2_with fail
            go_roundg (12 - (4 + 1))
            case measure => go_light; omega
            case rel =>
              go_light
              exact ⟨4 + 1, by omega, rfl, rfl, HS.out.out, by rw [← hsk.out]; exact HS.out.raw, HS.out.bel⟩
          · by_cases h9 : i = 9
            · subst h9
              have hsk := Lib.hid (stR_wsk 9 (.inr rfl))
              go_wp2_with fail
              go_roundg (12 - (9 + 1))
              case measure => go_light; omega
              case rel =>
                go_light
                exact ⟨9 + 1, by omega, rfl, rfl, HS.out.out, by rw [← hsk.out]; exact HS.out.raw, HS.out.bel⟩
            · have n4 : ((i : Int) == 4) = false := by simp; omega
              have n9 : ((i : Int) == 9) = false := by simp; omega
              have H49 := Lib.hid (⟨h4, h9⟩ : i ≠ 4 ∧ i ≠ 9)
              have m4 : ((i : Int) != 4) = true := by simp; omega
              have m9 : ((i : Int) != 9) = true := by simp; omega
              have k4 : (i == 4) = false := by simp; omega
              have k9 : (i == 9) = false := by simp; omega
              have l4 : ((i : Int) = 4) = False := by simp; omega
              have l9 : ((i : Int) = 9) = False := by simp; omega
              go_wp2_with fail
              go_roundg (12 - (i + 1))
              case measure => go_light; have := HIK.out; omega
              case rel =>
                go_light
                have tb := HS.out.raw.set (48 + i) (.int .i64 1)
                rw [stR_wrd i HIK.out H49.out] at tb
                exact ⟨i + 1, by have := HIK.out; omega, rfl, rfl, HS.out.but (But.set _ _ _) tb⟩
        · have hi12 : i = 12 := by omega
          subst hi12
          have HS := Lib.hid hS
          clear hS
          go_wp2_with (first
            | (refine wpl_loadA (by rfl) 74 _ (by rfl) HS.out.raw _ Tryd.underlying74 rfl (by kernel_rfl) (by rfl) ?_; simp only [Act.put, List.setIfInBounds_toArray, List.set_cons_zero, List.set_cons_succ, Nat.zero_add, Nat.reduceAdd])
            | (refine wpl_storeF (by rfl) 74 _ _ (by rfl) HS.out.out 0 65 (by omega) (rawF (stR 19 true true 12)) (fun i _ => rawF_one _ i) (by kernel_rfl) (by rfl) (by rfl) ?_; simp only [Act.put, List.setIfInBounds_toArray, List.set_cons_zero, List.set_cons_succ, Nat.zero_add, Nat.reduceAdd])
            | (refine bodyPost_ret (results_c1 (by rfl) (by rfl) (by exact load_allF (HS.out.out.storeF (g := rawF (stR 19 true true 12))) 74 _ Tryd.underlying74 rfl (by kernel_rfl))) (by rfl) ?_))
          exact ⟨rfl, (But.setCells _ _ _).to HS.out.bel (by omega) HS.out.bel.size⟩
end Go.Proofs.YtmkblfejoniccaaDoor
