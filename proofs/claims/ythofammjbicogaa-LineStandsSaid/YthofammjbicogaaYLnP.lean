/-
  The reference of layer 13: Offsets of a line that is one.
-/
import Derived.Test.YthofammjbicogaaYLnO
import Derived.Deep.CutRange
import Derived.Deep.CutBlock
namespace Go.Proofs.Ythofammjbicogaa
open Go.RowKit
set_option linter.unusedSimpArgs false
set_option linter.unusedVariables false

set_option maxRecDepth 100000 in
set_option maxHeartbeats 6400000 in
theorem r13_off_yes (ao : Option Addr) (k cap a b : Nat) (W H avail text : Int) (l : List It) (hk : k ≤ 1000) (hl : l.length = k) (hf : ItFit l) (hab : a < b) (hbk : b ≤ k) (hW : LenB W) (hav : LenB avail) (hL : lenB (avail - W) = true) (w : World) (hr : RowV w ao k 4 (itV l)) :
    Calls Try.prog 19 #[.slice ao k cap, .agg #[.int .i64 ((a : Int)), .int .i64 ((b : Int)), .int .i64 W, .int .i64 H], .int .i64 avail, .int .i64 text] w (ROffAns (offR l a b W avail text) w) := by
  obtain ⟨i0, hi, hz0, hz1, hz2⟩ := info_parts (show (Try.prog.info? 2).map (fun i => (i.zero, i.size, i.bytes)) = some (some (.int .i64 0), 1, 8) by kernel_rfl)
  obtain ⟨R, eR⟩ : ∃ R, offR l a b W avail text = R := ⟨_, rfl⟩
  rw [eR]
  obtain ⟨Q, eQ⟩ : ∃ Q : Ending → World → Prop, Q = ROffAns R w := ⟨_, rfl⟩
  rw [← eQ]
  have EQ := Lib.hid eQ
  have hWn : IFit (-W) := by unfold LenB at hW; unfold IFit; omega
  have wrn : IntKind.i64.wrap (-W) = -W := by unfold IFit at hWn; simp [IntKind.wrap, IntKind.bits, IntKind.signed]; omega
  have AD := fun g W' h => addr_w hav.fit hWn g W' h
  have h0 : addP 0 [avail, -W] = some (avail - W) := by rw [add2_sub hav, hL]; rfl
  unfold addN addE at AD
  rw [h0] at AD
  have h4 : ¬ avail < -17592186044416 ∧ ¬ 17592186044416 < avail ∧ ¬ W < -17592186044416 ∧ ¬ 17592186044416 < W := by unfold LenB at hav hW; omega
  obtain ⟨j1, j2, j3, j4⟩ := h4
  obtain ⟨la, ela⟩ : ∃ x, ((b : Int) == (k : Int)) = x := ⟨_, rfl⟩
  obtain ⟨m, em⟩ : ∃ m, b - a = m := ⟨_, rfl⟩
  have hm : b = a + m := by omega
  unfold offR at eR
  rw [hl, ela, em, if_pos hL] at eR
  obtain ⟨F, eF⟩ : ∃ F, avail - W = F := ⟨_, rfl⟩
  rw [eF] at eR AD hL
  have hLL := (lenB_iff F).1 hL
  have hgf := fun j => gaps_fit hLL m text la j
  have hgl := sprL_len F m (by omega) text la
  have hatl := sprAt_len hLL text
  obtain ⟨gs, egs⟩ : ∃ g, sprL F m text la = g := ⟨_, rfl⟩
  obtain ⟨at0, eat0⟩ : ∃ g, sprAt F text = g := ⟨_, rfl⟩
  rw [egs, eat0] at eR
  rw [egs] at hgl
  rw [eat0] at hatl
  simp only [egs] at hgf
  have hm1 : 1 ≤ m := by omega
  have hm1000 : m ≤ 1000 := by omega
  have hbm : (b : Int) - (a : Int) = (m : Int) := by omega
  obtain ⟨gi, oi, rfl, hgi, _⟩ := hr.2 (by omega)
  obtain ⟨W0, eW⟩ : ∃ W0, w.alloc (.cells #[.int .i64 ((a : Int)), .int .i64 ((b : Int)), .int .i64 W, .int .i64 H] 39) = W0 := ⟨_, rfl⟩
  have t5 : Blk W0 w.heap.size #[.int .i64 ((a : Int)), .int .i64 ((b : Int)), .int .i64 W, .int .i64 H] 39 := by rw [← eW]; exact Blk.new w _ _ _ rfl
  have hB0 : Below w.heap.size w W0 := by rw [← eW]; exact (by repeat' (first | (with_reducible exact Below.refl _ _) | (with_reducible assumption) | (with_reducible refine below_alloc ?_ _ ?_) | (with_reducible refine below_set _ ?_ ?_) | (with_reducible refine Below.drew ?_) | (with_reducible refine below_dN ?_ _) | (apply below_thenA; assumption) | omega | (simp; done) | (simp; omega) | (simp [*]; done)))
  have c0 := t5.cell 0 _ rfl
  have c1 := t5.cell 1 _ rfl
  have c2 := t5.cell 2 _ rfl
  have iab : ¬ (b : Int) ≤ (a : Int) := by omega
  have ibk : ¬ (k : Int) < (b : Int) := by omega
  have ia0 : ¬ (a : Int) < 0 := by omega
  have T5 := Lib.hid t5
  have HV := Lib.hid hr
  have HF := Lib.hid hf
  have HL := Lib.hid hl
  have ER := Lib.hid eR
  have HGF := Lib.hid hgf
  have HGL := Lib.hid hgl
  have HATL := Lib.hid hatl
  have EGS := Lib.hid egs
  have EAT := Lib.hid eat0
  have ELA := Lib.hid ela
  have HM := Lib.hid hm
  have HLF := Lib.hid hL
  clear eQ eF egs eat0 hr hf hl eR hgf hgl hatl hW hav t5 hm em ela hL hLL h0 hWn hbm
  go_enter Try.func19, Try.ntmps19
  go_wp2_with fail
  refine (AD _ _ (Blk.new _ _ _ _ rfl)).mono ?_
  rintro e w2 ⟨rfl, hb⟩
  have hb2 : Below W0.heap.size W0 w2 := Below.trans (by repeat' (first | (with_reducible exact Below.refl _ _) | (with_reducible assumption) | (with_reducible refine below_alloc ?_ _ ?_) | (with_reducible refine below_set _ ?_ ?_) | (with_reducible refine Below.drew ?_) | (with_reducible refine below_dN ?_ _) | (apply below_thenA; assumption) | omega | (simp; done) | (simp; omega) | (simp [*]; done))) (hb.mono (by simp))
  have hB2 := hB0.trans (hb2.mono hB0.size)
  have hlt0 := T5.out.lt
  have t5 := T5.out.below hb2
  have hlt5 := t5.lt
  have c0 := t5.cell 0 _ rfl
  have c1 := t5.cell 1 _ rfl
  have c2 := t5.cell 2 _ rfl
  have hbm : (b : Int) - (a : Int) = (m : Int) := by have := HM.out; omega
  have T5 := Lib.hid t5
  clear hb hb2 hB0 t5 AD
  go_wp2_with (at_make; refine wpList_make_full _ rfl _ _ 31 rfl w2.heap.size 2 i0 (.int .i64 0) 1 Try.underlying31 hi hz0 hz1 _ _ _ _ m rfl rfl rfl rfl (by rw [hz2]; omega) (by unfold maxLen; omega) (Nat.le_refl _) ?_)
  intro w3 hown hgr
  have hb3 : Below w2.heap.size w2 w3 := (Below.refl _ w2).grown hgr (Nat.le_refl _) (fun _ h => by cases h)
  have tg : BlkI w3 w2.heap.size (List.replicate m 0) := BlkI.made hown
  have t5 := T5.out.below hb3
  have hB3 := hB2.trans (hb3.mono hB2.size)
  have c0 := t5.cell 0 _ rfl
  have c1 := t5.cell 1 _ rfl
  have T5 := Lib.hid t5
  obtain ⟨gg, egg⟩ : ∃ g, w2.heap.size = g := ⟨_, rfl⟩
  rw [egg] at tg ⊢
  obtain ⟨x2, ex2⟩ : ∃ x, (text == 2) = x := ⟨_, rfl⟩
  obtain ⟨x3, ex3⟩ : ∃ x, (text == 3) = x := ⟨_, rfl⟩
  clear hown hgr hb3 t5 egg hlt5 c2 j1 j2 j3 j4 wrn
  go_upto_if 70 with (fail)
  have EX2 := Lib.hid ex2
  clear ex2
  go_cut [12] from 69 to 71 (fun s wx => s = .int .i64 (if text = 2 then F else 0) ∧ wx = w3)
  case first =>
    cases x2
    · go_wp2_with fail
      go_meet
      case rel => exact ⟨by rw [if_neg (by have := EX2.out; simpa using this)], rfl⟩
    · go_wp2_with fail
      go_meet
      case rel => exact ⟨by rw [if_pos (by have := EX2.out; simpa using this)], rfl⟩
  case rest =>
    obtain ⟨rfl, rfl⟩ := hcut
    obtain ⟨v2, ev2⟩ : ∃ x, (if text = 2 then F else 0) = x := ⟨_, rfl⟩
    rw [ev2]
    have EV2 := Lib.hid ev2
    clear ev2
    go_upto_if 73 with (fail)
    have EX3 := Lib.hid ex3
    clear ex3
    go_cut [12] from 72 to 80 (fun s wx => s = .int .i64 at0 ∧ wx = wc)
    case first =>
      cases x3
      · have e3 : v2 = at0 := by
          rw [← EAT.out, ← EV2.out]
          unfold sprAt
          have := EX3.out
          rw [show (if text = 3 then F / 2 else 0) = (0 : Int) from if_neg (by simpa using this)]
        go_wp2_with fail
        go_meet
        case rel => exact ⟨by rw [e3], rfl⟩
      · have e3 : F / 2 = at0 := by
          have : text = 3 := by have := EX3.out; simpa using this
          rw [← EAT.out]
          unfold sprAt
          rw [if_neg (by omega), if_pos this]
        have E3 := Lib.hid e3
        have h1 := half_eq F
        rw [e3] at h1
        have t1 := Int.tmod_lt_of_pos F (show (0 : Int) < 2 by decide)
        have t2 := Int.lt_tmod_of_pos F (show (0 : Int) < 2 by decide)
        obtain ⟨f2, ef2⟩ : ∃ m, F.tmod 2 = m := ⟨_, rfl⟩
        rw [ef2] at h1 t1 t2
        have t3 := Int.tmod_lt_of_pos (f2 + 2) (show (0 : Int) < 2 by decide)
        have t4 : 0 ≤ (f2 + 2).tmod 2 := Int.tmod_nonneg _ (by omega)
        obtain ⟨f3, ef3⟩ : ∃ k, (f2 + 2).tmod 2 = k := ⟨_, rfl⟩
        rw [ef3] at h1 t3 t4
        have hLF := (lenB_iff F).1 HLF.out
        have hat0 := HATL.out
        have w1 : wrap64 (f2 + 2) = f2 + 2 := by simp only [wrap64]; omega
        have w2 : wrap64 (F - f3) = F - f3 := by unfold LenB at hLF; simp only [wrap64]; omega
        have w3 : wrap64 at0 = at0 := by unfold LenB at hat0; simp only [wrap64]; omega
        clear e3 t1 t2 t3 t4 hLF hat0
        go_wp2_with fail
        go_meet
        case rel => exact ⟨by rw [w3], rfl⟩
    case rest =>
      obtain ⟨rfl, rfl⟩ := hcut
      go_upto_region 14 with (fail)
      obtain ⟨B, eB⟩ : ∃ x, sprB F m text la = x := ⟨_, rfl⟩
      have EB := Lib.hid eB
      have HK := Lib.hid hbk
      clear eB c2 hbk ibk
      go_cut [101] from 81 to 101 (fun s wx => s = .bool B ∧ wx = wc)
      case first =>
        have hlb : la = true ↔ b = k := by rw [← ELA.out]; simp only [beq_iff_eq]; omega
        by_cases h4 : text = 4
        · have h4b : (text == 4) = true := by simpa using h4
          by_cases hF0 : 0 < F
          · have hF0b : decide (0 < F) = true := by simpa using hF0
            by_cases hbk' : b < k
            · have ibk2 : (b : Int) < (k : Int) := by omega
              have ibk2b : decide (b < k) = true := by simpa using hbk'
              have hla : la = false := by cases la; rfl; have := hlb.1 rfl; omega
              by_cases h1m : 1 < m
              · have hB : B = true := by rw [← EB.out]; unfold sprB; simp [h4, hF0, hla, h1m]
                have im : (1 : Int) < (m : Int) := by omega
                have HBE := Lib.hid hB
                clear hB hla hlb h4 hF0 ibk2 h1m
                go_wp2_with fail
                go_meet
                case rel => exact ⟨by rw [HBE.out], rfl⟩
              · have hB : B = false := by rw [← EB.out]; unfold sprB; simp [h1m]
                have im : ¬ (1 : Int) < (m : Int) := by omega
                have HBE := Lib.hid hB
                clear hB hla hlb h4 hF0 ibk2 h1m
                go_wp2_with fail
                go_meet
                case rel => exact ⟨by rw [HBE.out], rfl⟩
            · have ibk2 : ¬ (b : Int) < (k : Int) := by omega
              have ibk2b : decide (b < k) = false := by simpa using hbk'
              have hla : la = true := hlb.2 (by have := HK.out; omega)
              have hB : B = false := by rw [← EB.out]; unfold sprB; simp [hla]
              have HBE := Lib.hid hB
              clear hB hla hlb h4 hF0 ibk2 hbk'
              go_wp2_with fail
              go_meet
              case rel => exact ⟨by rw [HBE.out], rfl⟩
          · have hF0b : decide (0 < F) = false := by simpa using hF0
            have hB : B = false := by rw [← EB.out]; unfold sprB; simp [hF0b]
            have HBE := Lib.hid hB
            clear hB hlb h4 hF0
            go_wp2_with fail
            go_meet
            case rel => exact ⟨by rw [HBE.out], rfl⟩
        · have h4b : (text == 4) = false := by simpa using h4
          have hB : B = false := by rw [← EB.out]; unfold sprB; simp [h4]
          have HBE := Lib.hid hB
          clear hB hlb h4
          go_wp2_with fail
          go_meet
          case rel => exact ⟨by rw [HBE.out], rfl⟩
      case rest =>
        obtain ⟨rfl, rfl⟩ := hcut
        obtain ⟨w4, ew4⟩ : ∃ x, wc = x := ⟨_, rfl⟩
        subst ew4
        go_upto_if 101 with (fail)
        have ibk : (b : Int) ≤ (k : Int) := by have := HK.out; omega
        go_cut [13] from 102 to 122 (fun s wx => ∃ ag cg, s = .slice ag m cg ∧ RowI wx ag m gs ∧ Below wc.heap.size wc wx)
        case first =>
          cases B
          · have eg : gs = List.replicate m 0 := by rw [← EGS.out]; unfold sprL; rw [EB.out]; rfl
            have EG := Lib.hid eg
            clear eg
            go_wp2_with fail
            go_meet
            case rel => exact ⟨some ⟨gg, 0, none⟩, m, rfl, by rw [EG.out]; exact tg.row (by simp), Below.refl _ _⟩
          · have eg : gs = evL F (m - 1) ++ [0] := by rw [← EGS.out]; unfold sprL; rw [EB.out]; rfl
            have h1m : 1 < m := by have := EB.out; unfold sprB at this; simp at this; omega
            have EG := Lib.hid eg
            have im : (1 : Int) < (m : Int) := by omega
            have hB3s := hB3.size
            clear eg
            go_wp2_with fail
            go_loopg [14, 15] (m - 1) (fun gk s14 s15 wr => ∃ (j i : Nat) (aj : Option Addr) (cj : Nat), j ≤ m - 1 ∧ i = a + j ∧ gk = m - 1 - j ∧ s14 = .slice aj j cj ∧ s15 = .int .i64 ((i : Int)) ∧ OwnI wr wc.heap.size aj j cj (ones j) ∧ Below wc.heap.size wc wr)
            case atStart => exact ⟨0, a, none, 0, by omega, rfl, by omega, rfl, rfl, OwnI.nil _ _, Below.refl _ _⟩
            case round =>
              obtain ⟨j, i, aj, cj, hj, hij, rfl, rfl, rfl, ho, hBw⟩ := hrel
              have hsB := hBw.size
              have hsh := ho.shape
              have t5r := T5.out.below hBw
              have c1 := t5r.cell 1 _ rfl
              by_cases hjm : j < m - 1
              · have ij : (i : Int) + 1 < (b : Int) := by have := HM.out; omega
                have wri : IntKind.i64.wrap ((i : Int) + 1) = (i : Int) + 1 := by have := HM.out; simp [IntKind.wrap, IntKind.bits, IntKind.signed]; omega
                have HIJ := Lib.hid hij
                clear hij t5r
                go_wp2_with (at_builtin; refine wpList_append_own _ rfl _ _ 31 rfl wc.heap.size 2 i0 (.int .i64 0) 1 8 Try.underlying31 hi hz0 hz1 hz2 rfl (by decide) _ _ _ rfl (ho.1.alloc _) ⟨wr.heap.size, 0, none⟩ 1 1 [.int .i64 1] rfl rfl ?c1 ?c2 ?c3 ?c4 ?c5 ?_)
                case c1 =>
                  intro j u hj
                  match j, hj with
                  | 0, hj => simp at hj; subst hj; simp [Addr.add]
                case c2 => intro u hu; simp at hu; subst hu; rfl
                case c3 => unfold maxLen; omega
                case c4 => omega
                case c5 => simp; omega
                intro v' w5 hown' hgrow _
                obtain ⟨ao', cap', rfl, ho', hkeep, hB'⟩ := ho.grown hown' hgrow hsB
                have hB5 := hB' _ _ (Nat.le_refl _) hBw
                have hon : ones j ++ [1] = ones (j + 1) := by unfold ones; rw [List.replicate_succ']
                rw [hon] at ho'
                have HO := Lib.hid ho'
                clear hown' hgrow hB' ho' hkeep ho hsB hsh hon
                go_wp2_with fail
                go_roundg (m - 1 - (j + 1))
                case measure => omega
                case rel => exact ⟨j + 1, i + 1, ao', cap', by omega, by have := HIJ.out; omega, rfl, rfl, by go_num, HO.out, hB5⟩
              · have ij : ¬ (i : Int) + 1 < (b : Int) := by have := HM.out; omega
                have wri : IntKind.i64.wrap ((i : Int) + 1) = (i : Int) + 1 := by have := HM.out; simp [IntKind.wrap, IntKind.bits, IntKind.signed]; omega
                obtain ⟨p, ep⟩ : ∃ p, m - 1 = p := ⟨_, rfl⟩
                have hp : p + 1 = m := by omega
                obtain rfl : j = p := by omega
                have hj2 : j ≤ 1000 := by omega
                have SP := fun W' h => ref5_split_own F aj j cj (ones j) (by omega) ((lenB_iff F).1 HLF.out).fit (fits_ones j) W' h
                unfold SplitOwn at SP
                rw [shE_one (by omega) HLF.out, one_pre j j (Nat.le_refl _)] at SP
                have SP2 := SP _ ho.row
                have HP := Lib.hid hp
                have HIJ := Lib.hid hij
                have EPP := Lib.hid ep
                clear hij t5r SP hp ep hjm hj
                go_wp2_with fail
                refine SP2.mono ?_
                rintro e w5 ⟨ap, mp, cp, ys, rfl, hop, h1, -, hb⟩
                obtain ⟨rfl, rfl⟩ := h1 (by first | trivial | rfl)
                have hB5 := hBw.trans (hb.mono hBw.size)
                have hs5 := hb.size
                have hsh := hop.shape
                clear hb SP2 h1
                go_wp2_with (at_builtin; refine wpList_append_own _ rfl _ _ 31 rfl wr.heap.size 2 i0 (.int .i64 0) 1 8 Try.underlying31 hi hz0 hz1 hz2 rfl (by decide) _ _ _ rfl (hop.1.alloc _) ⟨w5.heap.size, 0, none⟩ 1 1 [.int .i64 0] rfl rfl ?d1 ?d2 ?d3 ?d4 ?d5 ?_)
                case d1 =>
                  intro j u hj
                  match j, hj with
                  | 0, hj => simp at hj; subst hj; simp [Addr.add]
                case d2 => intro u hu; simp at hu; subst hu; rfl
                case d3 => unfold maxLen; omega
                case d4 => omega
                case d5 => simp; omega
                intro v' w6 hown' hgrow _
                obtain ⟨ao', cap', rfl, ho', hkeep, hB'⟩ := hop.grown hown' hgrow hs5
                have hB6 := hB' _ _ hsB hB5
                have hrow := ho'.row
                have HROW := Lib.hid hrow
                clear hown' hgrow hB' ho' hkeep hop hrow
                go_wp2_with fail
                go_meet
                case rel => exact ⟨ao', cap', by rw [HP.out], by rw [EG.out, EPP.out, ← HP.out]; exact HROW.out, hB6⟩
        case rest =>
          obtain ⟨ag, cg, rfl, hg, hbc⟩ := hcut
          have t5c := T5.out.below hbc
          have hBc := hB3.trans (hbc.mono hB3.size)
          have hVc := HV.out.below hBc
          have hsc := hBc.size
          have hl5 := T5.out.lt
          have HBC := Lib.hid hBc
          clear c0 c1 tg hB3 hbc hB2 T5 hBc
          have T5 := Lib.hid t5c
          have HVC := Lib.hid hVc
          have HGR := Lib.hid hg
          have d0 := t5c.cell 0 _ rfl
          clear t5c hVc hg
          go_wp2_with fail
          go_loopg [11, 12, 16, 17] m (fun gk s11 s12 s16 s17 wr => ∃ (j i : Nat) (t : Int) (aj : Option Addr) (cj : Nat), j ≤ m ∧ i = a + j ∧ gk = m - j ∧ s11 = .int .i64 0 ∧ s12 = .int .i64 t ∧ s16 = .slice aj j cj ∧ s17 = .int .i64 ((i : Int)) ∧ (j < m → offF l a gs at0 j = some t) ∧ (∀ i, i < j → (offF l a gs at0 i).isSome = true) ∧ LenB t ∧ OwnI wr wc.heap.size aj j cj (offL l a gs at0 j) ∧ Below wc.heap.size wc wr)
          case atStart => exact ⟨0, a, at0, none, 0, by omega, rfl, by omega, rfl, rfl, rfl, rfl, (fun _ => rfl), (fun i hi => by omega), HATL.out, OwnI.nil _ _, Below.refl _ _⟩
          case round =>
            clear d0
            obtain ⟨j, i, t, aj, cj, hj, hij, rfl, rfl, rfl, rfl, rfl, hoj, hos, htL, ho, hB⟩ := hrel
            have hsB := hB.size
            have hsh := ho.shape
            have t5r := T5.out.below hB
            have d1 := t5r.cell 1 _ rfl
            by_cases hjm : j < m
            · have ix : (i : Int) < (b : Int) := by have := HM.out; omega
              have ixk : (i : Int) < (k : Int) := by have := HM.out; omega
              have ixn : i < k := by omega
              have hoj := hoj hjm
              obtain ⟨g', off', e', hgv', hcx⟩ := HVC.out.at ixn
              obtain ⟨rfl, rfl⟩ : gi = g' ∧ oi = off' := by simpa using e'
              obtain ⟨gG, oG, rfl, hgG, hcg⟩ := HGR.out.at hjm
              have hgv := itV_get l i (by rw [HL.out]; exact ixn)
              have c0 := hcx 0 (by omega)
              have c1 := hcx 1 (by omega)
              rw [hgv.1, Nat.add_zero] at c0
              rw [hgv.2.1] at c1
              have hfj := HF.out i
              have hgj := HGF.out j
              have est : offF l a gs at0 (j + 1) = addP 0 [t, (l.getD i it0).w, (l.getD i it0).s, gs.getD j 0] := by
                show (offF l a gs at0 j).bind _ = _
                rw [hoj, hij]; rfl
              have eo := offL_succ l a gs at0 j
              rw [hoj] at eo
              obtain ⟨x, ex⟩ : ∃ x, (l.getD i it0).w = x := ⟨_, rfl⟩
              obtain ⟨y, ey⟩ : ∃ x, (l.getD i it0).s = x := ⟨_, rfl⟩
              obtain ⟨gv, egv⟩ : ∃ x, gs.getD j 0 = x := ⟨_, rfl⟩
              rw [ex] at c0 hfj est
              rw [ey] at c1 hfj est
              rw [egv] at hcg hgj est
              have HCX := Lib.hid (fun W (h : Below wc.heap.size wc W) => (h.cell (p := ⟨gi, oi + i * 4, none⟩) hgv').trans c0)
              have HCY := Lib.hid (fun W (h : Below wc.heap.size wc W) => (h.cell (p := ⟨gi, oi + i * 4 + 1, none⟩) hgv').trans c1)
              have HCG := Lib.hid (fun W (h : Below wc.heap.size wc W) => (h.cell (p := ⟨gG, oG + j, none⟩) hgG).trans hcg)
              have A4 := fun g' W (h : Blk W g' #[.int .i64 t, .int .i64 x, .int .i64 y, .int .i64 gv] 2) => ref4_add g' 0 4 4 [t, x, y, gv] (by omega) W (ints_blk [t, x, y, gv] rfl h rfl (by intro z hz; simp at hz; rcases hz with rfl | rfl | rfl | rfl; exact htL.fit; exact hfj.1; exact hfj.2.1; exact hgj.fit)) h.lt
              obtain ⟨n, en⟩ : ∃ n, addN [t, x, y, gv] = n := ⟨_, rfl⟩
              obtain ⟨er, eer⟩ : ∃ n, addE [t, x, y, gv] = n := ⟨_, rfl⟩
              rw [en, eer] at A4
              have HN := Lib.hid en
              have HE := Lib.hid eer
              have EST := Lib.hid est
              have HOS := Lib.hid hos
              have HOJ := Lib.hid hoj
              have HTL := Lib.hid htL
              have HIJ := Lib.hid hij
              obtain ⟨ys, eys⟩ : ∃ ys, offL l a gs at0 j = ys := ⟨_, rfl⟩
              rw [eys] at ho eo
              have EO := Lib.hid eo
              clear e' hcx hgv ex ey egv est hfj hgj hos hoj htL eys eo en eer c0 c1 hcg hgv' hgG hij t5r
              go_wp2_with (at_builtin; refine wpList_append_own _ rfl _ _ 31 rfl wc.heap.size 2 i0 (.int .i64 0) 1 8 Try.underlying31 hi hz0 hz1 hz2 rfl (by decide) _ _ _ rfl (ho.1.alloc _) ⟨wr.heap.size, 0, none⟩ 1 1 [.int .i64 t] rfl rfl ?e1 ?e2 ?e3 ?e4 ?e5 ?_)
              case e1 =>
                intro j u hj
                match j, hj with
                | 0, hj => simp at hj; subst hj; simp [Addr.add]
              case e2 => intro u hu; simp at hu; subst hu; rfl
              case e3 => unfold maxLen; omega
              case e4 => omega
              case e5 => simp; omega
              intro v' w4 hown' hgrow _
              obtain ⟨ao', cap', rfl, ho', hkeep, hB'⟩ := ho.grown hown' hgrow hsB
              have hB4 := hB' _ _ (Nat.le_refl _) hB
              have hoj1 : OwnI w4 wc.heap.size ao' (j + 1) cap' (offL l a gs at0 (j + 1)) := by rw [EO.out]; exact ho'
              have HO1 := Lib.hid hoj1
              have t54 := T5.out.below hB4
              have d1 := t54.cell 1 _ rfl
              have hs4 := hB4.size
              clear hown' hgrow hB' ho' hkeep ho hB hsB hoj1 hsh t54
              by_cases hj1 : j + 1 < m
              · have ij : (i : Int) + 1 < (b : Int) := by have := HM.out; have := HIJ.out; omega
                have sbi : (i : Int) - (a : Int) = (j : Int) := by have := HIJ.out; omega
                have jcg : (j : Int) < (m : Int) := by omega
                have wrj : IntKind.i64.wrap (j : Int) = (j : Int) := by simp [IntKind.wrap, IntKind.bits, IntKind.signed]; omega
                have HJ1 := Lib.hid hj1
                clear hj1
                go_wp2_with fail
                go_upto_region 28 with (fail)
                rename_i K1 hK1
                refine wp_region_calm (fun w' => Below wc.heap.size wc w' ∧ OwnI w' wc.heap.size ao' (j + 1) cap' (offL l a gs at0 (j + 1))) [] (fun w' => True) [Is (.int .i64 t), Is (.slice (some ⟨gi, oi, none⟩) k cap), Is (.int .i64 ((i : Int))), Is (.pointer (some ⟨gi, oi + i * 4, none⟩)), Is (.pointer (some ⟨gi, oi + i * 4, none⟩)), Is (.int .i64 x), Is (.slice (some ⟨gi, oi, none⟩) k cap), Is (.int .i64 ((i : Int))), Is (.pointer (some ⟨gi, oi + i * 4, none⟩)), Is (.pointer (some ⟨gi, oi + i * 4 + 1, none⟩)), Is (.int .i64 y), Is (.slice (some ⟨gG, oG, none⟩) m cg), Is (.int .i64 ((i : Int))), Is (.pointer (some ⟨w.heap.size, 0, none⟩)), Is (.int .i64 ((a : Int))), Is (.int .i64 ((j : Int))), Is (.pointer (some ⟨gG, oG + j, none⟩)), Is (.int .i64 gv), sli4C 0 t x y gv, Is (.tuple #[.int .i64 n, .int .i64 er]), Is (.tuple #[.int .i64 n, .int .i64 er]), Is (.int .i64 n), Is (.int .i64 er), Is (.int .i64 n), Is (.int .i64 er)] [] (by kernel_rfl) (by kernel_rfl) (by kernel_rfl) (by kernel_rfl) ⟨hB4.drew, HO1.out.drew⟩ trivial ?_ ?_ ?_ ?_ ?_
                · rintro W W' ⟨hBB, hOO⟩ hb
                  exact ⟨hBB.trans (hb.mono hBB.size), hOO.below hb⟩
                · exact fun _ _ _ _ _ => trivial
                · intro k vs W hk h
                  exact absurd hk (by simp)
                · intro Q; clear hK1 hB4
                  refine ⟨?_, ?_, ?_, ?_, ?_, ?_, ?_, ?_, ?_, ?_, ?_, ?_, ?_, ?_, ?_, ?_, ?_, ?_, ?_, ?_, ?_, ?_, ?_, ?_, ?_, trivial⟩
                  · intro vs W hW hW0 hd hne hold K hK hA hL; clear hne hA hL; have hBB := hW.1; have hOO := hW.2; simp only [puts, Act.put, List.setIfInBounds_toArray, List.set_cons_zero, List.set_cons_succ, Nat.zero_add, Nat.reduceAdd] at hK ⊢; have e23 : vs 23 = _ := hold 23 (by kernel_rfl); clear hd hold; simp only [e23] at hK; go_simp; exact hK.out rfl _ _ (Below.refl _ _) rfl
                  · intro vs W hW hW0 hd hne hold K hK hA hL; clear hne hA hL; have hBB := hW.1; have hOO := hW.2; simp only [puts, Act.put, List.setIfInBounds_toArray, List.set_cons_zero, List.set_cons_succ, Nat.zero_add, Nat.reduceAdd] at hK ⊢; clear hd hold; go_simp; exact hK.out rfl _ _ (Below.refl _ _) rfl
                  · intro vs W hW hW0 hd hne hold K hK hA hL; clear hne hA hL; have hBB := hW.1; have hOO := hW.2; simp only [puts, Act.put, List.setIfInBounds_toArray, List.set_cons_zero, List.set_cons_succ, Nat.zero_add, Nat.reduceAdd] at hK ⊢; clear hd hold; go_simp; exact hK.out rfl _ _ (Below.refl _ _) rfl
                  · intro vs W hW hW0 hd hne hold K hK hA hL; clear hne hA hL; have hBB := hW.1; have hOO := hW.2; simp only [puts, Act.put, List.setIfInBounds_toArray, List.set_cons_zero, List.set_cons_succ, Nat.zero_add, Nat.reduceAdd] at hK ⊢; have e1 : vs 1 = _ := hd 1 (by kernel_rfl); have e2 : vs 2 = _ := hd 2 (by kernel_rfl); clear hd hold; simp only [e1, e2] at hK; go_simp; exact hK.out rfl _ _ (Below.refl _ _) rfl
                  · intro vs W hW hW0 hd hne hold K hK hA hL; clear hne hA hL; have hBB := hW.1; have hOO := hW.2; simp only [puts, Act.put, List.setIfInBounds_toArray, List.set_cons_zero, List.set_cons_succ, Nat.zero_add, Nat.reduceAdd] at hK ⊢; have e3 : vs 3 = _ := hd 3 (by kernel_rfl); clear hd hold; simp only [e3] at hK; go_simp; exact hK.out rfl _ _ (Below.refl _ _) rfl
                  · intro vs W hW hW0 hd hne hold K hK hA hL; clear hne hA hL; have hBB := hW.1; have hOO := hW.2; simp only [puts, Act.put, List.setIfInBounds_toArray, List.set_cons_zero, List.set_cons_succ, Nat.zero_add, Nat.reduceAdd] at hK ⊢; have q := HCX.out W hBB; have eb : vs 4 = _ := hd 4 (by kernel_rfl); clear hd hold; simp only [eb] at hK; go_simp; exact hK.out rfl _ _ (Below.refl _ _) rfl
                  · intro vs W hW hW0 hd hne hold K hK hA hL; clear hne hA hL; have hBB := hW.1; have hOO := hW.2; simp only [puts, Act.put, List.setIfInBounds_toArray, List.set_cons_zero, List.set_cons_succ, Nat.zero_add, Nat.reduceAdd] at hK ⊢; clear hd hold; go_simp; exact hK.out rfl _ _ (Below.refl _ _) rfl
                  · intro vs W hW hW0 hd hne hold K hK hA hL; clear hne hA hL; have hBB := hW.1; have hOO := hW.2; simp only [puts, Act.put, List.setIfInBounds_toArray, List.set_cons_zero, List.set_cons_succ, Nat.zero_add, Nat.reduceAdd] at hK ⊢; clear hd hold; go_simp; exact hK.out rfl _ _ (Below.refl _ _) rfl
                  · intro vs W hW hW0 hd hne hold K hK hA hL; clear hne hA hL; have hBB := hW.1; have hOO := hW.2; simp only [puts, Act.put, List.setIfInBounds_toArray, List.set_cons_zero, List.set_cons_succ, Nat.zero_add, Nat.reduceAdd] at hK ⊢; have e6 : vs 6 = _ := hd 6 (by kernel_rfl); have e7 : vs 7 = _ := hd 7 (by kernel_rfl); clear hd hold; simp only [e6, e7] at hK; go_simp; exact hK.out rfl _ _ (Below.refl _ _) rfl
                  · intro vs W hW hW0 hd hne hold K hK hA hL; clear hne hA hL; have hBB := hW.1; have hOO := hW.2; simp only [puts, Act.put, List.setIfInBounds_toArray, List.set_cons_zero, List.set_cons_succ, Nat.zero_add, Nat.reduceAdd] at hK ⊢; have e8 : vs 8 = _ := hd 8 (by kernel_rfl); clear hd hold; simp only [e8] at hK; go_simp; exact hK.out rfl _ _ (Below.refl _ _) rfl
                  · intro vs W hW hW0 hd hne hold K hK hA hL; clear hne hA hL; have hBB := hW.1; have hOO := hW.2; simp only [puts, Act.put, List.setIfInBounds_toArray, List.set_cons_zero, List.set_cons_succ, Nat.zero_add, Nat.reduceAdd] at hK ⊢; have q := HCY.out W hBB; have eb : vs 9 = _ := hd 9 (by kernel_rfl); clear hd hold; simp only [eb] at hK; go_simp; exact hK.out rfl _ _ (Below.refl _ _) rfl
                  · intro vs W hW hW0 hd hne hold K hK hA hL; clear hne hA hL; have hBB := hW.1; have hOO := hW.2; simp only [puts, Act.put, List.setIfInBounds_toArray, List.set_cons_zero, List.set_cons_succ, Nat.zero_add, Nat.reduceAdd] at hK ⊢; clear hd hold; go_simp; exact hK.out rfl _ _ (Below.refl _ _) rfl
                  · intro vs W hW hW0 hd hne hold K hK hA hL; clear hne hA hL; have hBB := hW.1; have hOO := hW.2; simp only [puts, Act.put, List.setIfInBounds_toArray, List.set_cons_zero, List.set_cons_succ, Nat.zero_add, Nat.reduceAdd] at hK ⊢; clear hd hold; go_simp; exact hK.out rfl _ _ (Below.refl _ _) rfl
                  · intro vs W hW hW0 hd hne hold K hK hA hL; clear hne hA hL; have hBB := hW.1; have hOO := hW.2; simp only [puts, Act.put, List.setIfInBounds_toArray, List.set_cons_zero, List.set_cons_succ, Nat.zero_add, Nat.reduceAdd] at hK ⊢; clear hd hold; go_simp; exact hK.out rfl _ _ (Below.refl _ _) rfl
                  · intro vs W hW hW0 hd hne hold K hK hA hL; clear hne hA hL; have hBB := hW.1; have hOO := hW.2; simp only [puts, Act.put, List.setIfInBounds_toArray, List.set_cons_zero, List.set_cons_succ, Nat.zero_add, Nat.reduceAdd] at hK ⊢; have q := (T5.out.below hBB).cell 0 _ rfl; have eb : vs 13 = _ := hd 13 (by kernel_rfl); clear hd hold; simp only [eb] at hK; go_simp; exact hK.out rfl _ _ (Below.refl _ _) rfl
                  · intro vs W hW hW0 hd hne hold K hK hA hL; clear hne hA hL; have hBB := hW.1; have hOO := hW.2; simp only [puts, Act.put, List.setIfInBounds_toArray, List.set_cons_zero, List.set_cons_succ, Nat.zero_add, Nat.reduceAdd] at hK ⊢; have e12 : vs 12 = _ := hd 12 (by kernel_rfl); have e14 : vs 14 = _ := hd 14 (by kernel_rfl); clear hd hold; simp only [e12, e14] at hK; go_simp; exact hK.out rfl _ _ (Below.refl _ _) rfl
                  · intro vs W hW hW0 hd hne hold K hK hA hL; clear hne hA hL; have hBB := hW.1; have hOO := hW.2; simp only [puts, Act.put, List.setIfInBounds_toArray, List.set_cons_zero, List.set_cons_succ, Nat.zero_add, Nat.reduceAdd] at hK ⊢; have e11 : vs 11 = _ := hd 11 (by kernel_rfl); have e15 : vs 15 = _ := hd 15 (by kernel_rfl); clear hd hold; simp only [e11, e15] at hK; go_simp; exact hK.out rfl _ _ (Below.refl _ _) rfl
                  · intro vs W hW hW0 hd hne hold K hK hA hL; clear hne hA hL; have hBB := hW.1; have hOO := hW.2; simp only [puts, Act.put, List.setIfInBounds_toArray, List.set_cons_zero, List.set_cons_succ, Nat.zero_add, Nat.reduceAdd] at hK ⊢; have q := HCG.out W hBB; have eb : vs 16 = _ := hd 16 (by kernel_rfl); clear hd hold; simp only [eb] at hK; go_simp; exact hK.out rfl _ _ (Below.refl _ _) rfl
                  · intro vs W hW hW0 hd hne hold K hK hA hL; clear hne hA hL; have hBB := hW.1; have hOO := hW.2; simp only [puts, Act.put, List.setIfInBounds_toArray, List.set_cons_zero, List.set_cons_succ, Nat.zero_add, Nat.reduceAdd] at hK ⊢; have ea : vs 0 = _ := hd 0 (by kernel_rfl); have eb : vs 5 = _ := hd 5 (by kernel_rfl); have ec : vs 10 = _ := hd 10 (by kernel_rfl); have ed : vs 17 = _ := hd 17 (by kernel_rfl); clear hd hold; simp only [ea, eb, ec, ed] at hK; go_simp; exact hK.out rfl _ _ ((Below.refl _ _).alloc (Nat.le_refl _) _) ⟨W.heap.size, rfl, Nat.zero_le _, Blk.new _ _ _ _ rfl⟩
                  · intro vs W hW hW0 hd hne hold K hK hA hL; clear hne hA hL; have hBB := hW.1; have hOO := hW.2; simp only [puts, Act.put, List.setIfInBounds_toArray, List.set_cons_zero, List.set_cons_succ, Nat.zero_add, Nat.reduceAdd] at hK ⊢; have h9 : Sli4 0 t x y gv (vs 18) W := hd 18 (by kernel_rfl); obtain ⟨b', eb, hlb, tb⟩ := h9; clear hd hold; simp only [eb] at hK; go_simp; refine (A4 b' W tb).mono ?_; (rintro e wx ⟨rfl, hbx⟩); go_simp; exact hK.out rfl _ _ hbx rfl
                  · intro vs W hW hW0 hd hne hold K hK hA hL; clear hne hA hL; have hBB := hW.1; have hOO := hW.2; simp only [puts, Act.put, List.setIfInBounds_toArray, List.set_cons_zero, List.set_cons_succ, Nat.zero_add, Nat.reduceAdd] at hK ⊢; have e19 : vs 19 = _ := hd 19 (by kernel_rfl); clear hd hold; simp only [e19] at hK; go_simp; exact hK.out rfl _ _ (Below.refl _ _) rfl
                  · intro vs W hW hW0 hd hne hold K hK hA hL; clear hne hA hL; have hBB := hW.1; have hOO := hW.2; simp only [puts, Act.put, List.setIfInBounds_toArray, List.set_cons_zero, List.set_cons_succ, Nat.zero_add, Nat.reduceAdd] at hK ⊢; have e20 : vs 20 = _ := hd 20 (by kernel_rfl); clear hd hold; simp only [e20] at hK; go_simp; exact hK.out rfl _ _ (Below.refl _ _) rfl
                  · intro vs W hW hW0 hd hne hold K hK hA hL; clear hne hA hL; have hBB := hW.1; have hOO := hW.2; simp only [puts, Act.put, List.setIfInBounds_toArray, List.set_cons_zero, List.set_cons_succ, Nat.zero_add, Nat.reduceAdd] at hK ⊢; have e20 : vs 20 = _ := hd 20 (by kernel_rfl); clear hd hold; simp only [e20] at hK; go_simp; exact hK.out rfl _ _ (Below.refl _ _) rfl
                  · intro vs W hW hW0 hd hne hold K hK hA hL; clear hne hA hL; have hBB := hW.1; have hOO := hW.2; simp only [puts, Act.put, List.setIfInBounds_toArray, List.set_cons_zero, List.set_cons_succ, Nat.zero_add, Nat.reduceAdd] at hK ⊢; have e21 : vs 21 = _ := hd 21 (by kernel_rfl); clear hd hold; simp only [e21] at hK; go_simp; exact hK.out rfl _ _ (Below.refl _ _) rfl
                  · intro vs W hW hW0 hd hne hold K hK hA hL; clear hne hA hL; have hBB := hW.1; have hOO := hW.2; simp only [puts, Act.put, List.setIfInBounds_toArray, List.set_cons_zero, List.set_cons_succ, Nat.zero_add, Nat.reduceAdd] at hK ⊢; have e22 : vs 22 = _ := hd 22 (by kernel_rfl); clear hd hold; simp only [e22] at hK; go_simp; exact hK.out rfl _ _ (Below.refl _ _) rfl
                · intro va WB hW hV _
                  obtain ⟨hBB, hOO⟩ := hW
                  have e23 : va 23 = .int .i64 n := hV 23 (by decide)
                  have e24 : va 24 = .int .i64 er := hV 24 (by decide)
                  clear hV hB4
                  simp only [puts, Act.put, List.setIfInBounds_toArray, List.set_cons_zero, List.set_cons_succ, Nat.zero_add, Nat.reduceAdd, e23, e24]
                  refine hK1 _ _ ?_
                  clear hK1 e23 e24
                  cases hA : addP 0 [t, x, y, gv] with
                  | none =>
                    have e1 : er = 2 := by rw [← HE.out]; unfold addE; rw [hA]; rfl
                    have hno : R = none := by
                      rw [← ER.out]
                      have h1 : offF l a gs at0 (j + 1) = none := by rw [EST.out, hA]
                      have h2 := offF_none h1 (m - 1 - (j + 1))
                      rw [show j + 1 + (m - 1 - (j + 1)) = m - 1 by have := HJ1.out; omega] at h2
                      rw [h2]; rfl
                    have HNO := Lib.hid hno
                    clear hA hno A4 HE HN
                    subst e1
                    go_wp2_with fail
                    rw [EQ.out]
                    exact ROffAns.no HNO.out (HBC.out.trans (hBB.mono hsc))
                  | some u =>
                    have e1 : er = 0 := by rw [← HE.out]; unfold addE; rw [hA]; rfl
                    have e2 : n = u := by rw [← HN.out]; unfold addN; rw [hA]; rfl
                    have hE : offF l a gs at0 (j + 1) = some n := by rw [EST.out, hA, e2]
                    have hu : LenB n := by
                      rw [e2, ← (lenB_iff u)]
                      refine addP_lenB (xs := [t, x, y, gv]) (s := 0) (by decide) hA
                    have HEE := Lib.hid hE
                    have HU := Lib.hid hu
                    clear hA A4 HE HN e2 hE hu
                    subst e1
                    go_wp2_with fail
                    go_roundg (m - (j + 1))
                    case measure => omega
                    case rel => exact ⟨j + 1, i + 1, n, ao', cap', by have := HJ1.out; omega, by have := HIJ.out; omega, rfl, rfl, rfl, rfl, by go_num, (fun _ => HEE.out), (fun i hi => by rcases Nat.lt_succ_iff_lt_or_eq.1 hi with h | h; exact HOS.out i h; rw [h, HOJ.out]; rfl), HU.out, hOO, hBB⟩
              · have ij : ¬ (i : Int) + 1 < (b : Int) := by have := HM.out; have := HIJ.out; omega
                have HJ1 := Lib.hid hj1
                clear hj1 A4
                go_wp2_with fail
                go_roundg (m - (j + 1))
                case measure => omega
                case rel => exact ⟨j + 1, i + 1, t, ao', cap', by omega, by have := HIJ.out; omega, rfl, rfl, rfl, rfl, by go_num, (fun h => absurd h HJ1.out), (fun i hi => by rcases Nat.lt_succ_iff_lt_or_eq.1 hi with h | h; exact HOS.out i h; rw [h, HOJ.out]; rfl), HTL.out, HO1.out, hB4⟩
            · obtain rfl : j = m := by omega
              have ix : ¬ (i : Int) < (b : Int) := by have := HM.out; omega
              have hyes : R = some (offL l a gs at0 j) := by
                rw [← ER.out, if_pos (hos _ (by omega))]
              have HY := Lib.hid hyes
              clear hyes hoj hos
              go_wp2_with fail
              rw [EQ.out, HY.out]
              have hln := offL_len l a gs at0 j
              have := ROffAns.yes (w := w) (w' := wr) (L := offL l a gs at0 j) (ao := aj) (c := cj) (by rw [hln]; exact ho.base (by omega)) (HBC.out.trans (hB.mono hsc))
              rw [hln] at this
              exact this
end Go.Proofs.Ythofammjbicogaa
