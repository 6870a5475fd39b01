/-
  The law FlexsizeRefuses.
-/
import Derived.Test.YthofammjbicogaaYFxP
namespace Go.Proofs.Ythofammjbicogaa
open Go.RowKit
set_option linter.unusedSimpArgs false
set_option linter.unusedVariables false

set_option maxRecDepth 100000 in
set_option maxHeartbeats 3200000 in
theorem speaks19 (w : World) : Calls Try.prog 41 #[] w fun e w' => e = .returned (.bool true) ∧ Below w.heap.size w w' := by
  obtain ⟨W0, eW⟩ : ∃ W0, w.alloc (.cells #[.int .i64 10, .int .i64 0, .int .i64 0, .bool false, .int .i64 0, .int .i64 4096, .int .i64 0, .int .i64 20, .int .i64 0, .int .i64 0, .bool false, .int .i64 0, .int .i64 4096, .int .i64 0] 78) = W0 := ⟨_, rfl⟩
  have k0 : Blk W0 w.heap.size #[.int .i64 10, .int .i64 0, .int .i64 0, .bool false, .int .i64 0, .int .i64 4096, .int .i64 0, .int .i64 20, .int .i64 0, .int .i64 0, .bool false, .int .i64 0, .int .i64 4096, .int .i64 0] 78 := by rw [← eW]; exact Blk.new w _ _ _ rfl
  have hb0 : Below w.heap.size w W0 := by rw [← eW]; exact (by repeat' (first | (with_reducible exact Below.refl _ _) | (with_reducible assumption) | (with_reducible refine below_alloc ?_ _ ?_) | (with_reducible refine below_set _ ?_ ?_) | (with_reducible refine Below.drew ?_) | (with_reducible refine below_dN ?_ _) | (apply below_thenA; assumption) | omega | (simp; done) | (simp; omega) | (simp [*]; done)))
  have hr : RowV W0 (some ⟨w.heap.size, 0, none⟩) 2 7 (fxV [spA, spB]) := rowV_blk k0 rfl rfl
  have RS := law19_resolved (some ⟨w.heap.size, 0, none⟩) 2 2 [spA, spB] 60 (by omega) rfl (by intro x hx; simp at hx; rcases hx with rfl | rfl <;> (unfold FxFit IFit; decide)) (by unfold IFit; omega) W0 hr
  unfold RvAns at RS
  rw [sp_code, sp_res] at RS
  clear k0 hr
  go_enter Try.func41, Try.ntmps41
  go_wp2_with fail
  refine RS.mono ?_
  rintro e w1 ⟨a2, m, c2, rfl, h1, -, hb⟩
  obtain ⟨xs, e1, rfl, r1⟩ := h1 (by first | rfl | trivial)
  cases e1
  obtain ⟨g, off, rfl, hg, q0⟩ := r1.at (i := 0) (by omega)
  obtain ⟨g', off', e', hg', q1⟩ := r1.at (i := 1) (by omega)
  obtain ⟨rfl, rfl⟩ : g = g' ∧ off = off' := by simpa using e'
  have q0' : w1.cell? ⟨g, off, none⟩ = some (.int .i64 25) := q0
  have q1' : w1.cell? ⟨g, off + 1, none⟩ = some (.int .i64 35) := q1
  have hB := hb0.trans (hb.mono hb0.size)
  clear q0 q1 r1 h1 RS eW e'
  go_wp2_with fail
  go_ret
  exact ⟨rfl, hB⟩
set_option maxRecDepth 100000 in
set_option maxHeartbeats 6400000 in
theorem law_refuses (x : Fx) (count : Int) (hx : FxFit x) (h0 : 0 ≤ count) (h1 : count ≤ 65535) (w : World) :
    Calls Try.prog 11 #[x.val, .int .u16 count] w fun e w' => e = .returned (.bool true) ∧ Below w.heap.size w w' := by
  obtain ⟨i0, hi, hz0, hz1, hz2⟩ := info_parts (show (Try.prog.info? 78).map (fun i => (i.zero, i.size, i.bytes)) = some (some (.agg #[.int .i64 0, .int .i64 0, .int .i64 0, .bool false, .int .i64 0, .int .i64 0, .int .i64 0]), 7, 56) by kernel_rfl)
  obtain ⟨n, en⟩ : ∃ n : Nat, count % 1030 = (n : Int) := ⟨(count % 1030).toNat, by omega⟩
  have hn : n ≤ 1029 := by omega
  have hrm : count.tmod 1030 = (n : Int) := by rw [Int.tmod_eq_emod_of_nonneg h0, en]
  have wc : IntKind.i64.wrap count = count := by simp [IntKind.wrap, IntKind.bits, IntKind.signed]; omega
  have MK : ∀ W, (Instr.makeSlice 73 (.int .i64 (n : Int)) (.int .i64 (n : Int))).run Try.prog W = .ok (.slice (some ⟨W.heap.size, 0, none⟩) n n) (W.alloc (.cells (madeCells nil7 (n * 7)) 78)) := fun W => by
    have := run_make (P := Try.prog) W 73 78 i0 (.agg nil7) Try.underlying73 hi hz0 .i64 .i64 (n : Int) (n : Int) (by omega) (by omega) (by rw [hz2]; omega) (by omega)
    rw [hz1] at this
    exact this
  have hb1 : Below w.heap.size w (w.alloc (.cells #[.int .i64 x.base, .int .i64 x.least, .int .i64 x.most, .bool x.bound, .int .i64 x.extra, .int .i64 x.grow, .int .i64 x.shrink] 78)) := (by repeat' (first | (with_reducible exact Below.refl _ _) | (with_reducible assumption) | (with_reducible refine below_alloc ?_ _ ?_) | (with_reducible refine below_set _ ?_ ?_) | (with_reducible refine Below.drew ?_) | (with_reducible refine below_dN ?_ _) | (apply below_thenA; assumption) | omega | (simp; done) | (simp; omega) | (simp [*]; done)))
  have cx := Blk.new w #[.int .i64 x.base, .int .i64 x.least, .int .i64 x.most, .bool x.bound, .int .i64 x.extra, .int .i64 x.grow, .int .i64 x.shrink] 78 _ rfl
  obtain ⟨w1, e1⟩ : ∃ W, w.alloc (.cells #[.int .i64 x.base, .int .i64 x.least, .int .i64 x.most, .bool x.bound, .int .i64 x.extra, .int .i64 x.grow, .int .i64 x.shrink] 78) = W := ⟨_, rfl⟩
  rw [e1] at hb1 cx
  have HX := Lib.hid hx
  have CX := Lib.hid cx
  have HB1 := Lib.hid hb1
  unfold Fx.val
  clear hx cx hb1 en
  go_enter Try.func11, Try.ntmps11
  go_wp2_with fail
  refine (speaks19 _).mono ?_
  rintro e w2 ⟨rfl, hb⟩
  have cx2 := CX.out.below hb
  have hB2 := HB1.out.trans (hb.mono HB1.out.size)
  have q0 := cx2.cell 0 _ rfl
  have q1 := cx2.cell 1 _ rfl
  have q2 := cx2.cell 2 _ rfl
  have q3 := cx2.cell 3 _ rfl
  have q4 := cx2.cell 4 _ rfl
  have q5 := cx2.cell 5 _ rfl
  have q6 := cx2.cell 6 _ rfl
  have CX2 := Lib.hid cx2
  have HB2 := Lib.hid hB2
  clear hb cx2 hB2 e1
  go_wp2_with fail
  obtain ⟨w3, e3⟩ : ∃ W, w2.alloc (.cells #[.int .i64 x.base, .int .i64 x.least, .int .i64 x.most, .bool x.bound, .int .i64 x.extra, .int .i64 x.grow, .int .i64 x.shrink] 78) = W := ⟨_, rfl⟩
  have t3 : Blk w3 w2.heap.size #[.int .i64 x.base, .int .i64 x.least, .int .i64 x.most, .bool x.bound, .int .i64 x.extra, .int .i64 x.grow, .int .i64 x.shrink] 78 := by rw [← e3]; exact Blk.new w2 _ _ _ rfl
  have hb3 : Below w2.heap.size w2 w3 := by rw [← e3]; exact (by repeat' (first | (with_reducible exact Below.refl _ _) | (with_reducible assumption) | (with_reducible refine below_alloc ?_ _ ?_) | (with_reducible refine below_set _ ?_ ?_) | (with_reducible refine Below.drew ?_) | (with_reducible refine below_dN ?_ _) | (apply below_thenA; assumption) | omega | (simp; done) | (simp; omega) | (simp [*]; done)))
  have RS := law19_resolved (some ⟨w2.heap.size, 0, none⟩) 1 1 [x] 100 (by omega) rfl (by intro y hy; simp at hy; subst hy; exact HX.out) (by unfold IFit; omega) w3 (rowV_blk t3 (by simp [fxV, Fx.vals]) rfl)
  unfold RvAns at RS
  have hcode : (x.may = false ∧ rsC 100 [x] = 1) ∨ (x.may = true ∧ (rsC 100 [x] = 0 ∨ rsC 100 [x] = 2)) := by
    unfold rsC
    cases hm : x.may
    · left; simp [hm]
    · right
      refine ⟨rfl, ?_⟩
      simp [hm]
      cases resO 100 [x] <;> simp
  obtain ⟨c, ec⟩ : ∃ c, rsC 100 [x] = c := ⟨_, rfl⟩
  rw [ec] at RS hcode
  rw [e3]
  have hB3 := HB2.out.trans (hb3.mono HB2.out.size)
  have cx3 := CX2.out.below hb3
  have HB3 := Lib.hid hB3
  have CX3 := Lib.hid cx3
  clear q0 q1 q2 q3 q4 q5 q6 t3 e3 hb3 ec hB3 cx3
  refine RS.mono ?_
  rintro e w4 ⟨a2, m, c2, rfl, -, -, hb4⟩
  have cx4 := CX3.out.below hb4
  have hB4 := HB3.out.trans (hb4.mono HB3.out.size)
  have q0 := cx4.cell 0 _ rfl
  have q5 := cx4.cell 5 _ rfl
  have q6 := cx4.cell 6 _ rfl
  have HB4 := Lib.hid hB4
  clear RS hb4 cx4 hB4
  obtain ⟨mm, emm⟩ : ∃ b, x.may = b := ⟨_, rfl⟩
  have EMM := Lib.hid emm
  rw [emm] at hcode
  have HC := Lib.hid hcode
  clear hcode emm
  go_upto_region 4 with (fail)
  go_cut [7] from 19 to 41 (fun sv wx => sv = .bool (!mm) ∧ w4 = wx)
  case first =>
    have hmay : x.may = (decide (0 ≤ min (min x.base x.grow) x.shrink) && decide (max x.grow x.shrink ≤ 4096000)) := rfl
    rw [EMM.out] at hmay
    obtain ⟨b, eb⟩ : ∃ b, x.base = b := ⟨_, rfl⟩
    obtain ⟨g, eg⟩ : ∃ b, x.grow = b := ⟨_, rfl⟩
    obtain ⟨s, es⟩ : ∃ b, x.shrink = b := ⟨_, rfl⟩
    rw [eb, eg, es] at hmay
    rw [eb] at q0
    rw [eg] at q5
    rw [es] at q6
    clear eb eg es
    by_cases p1 : b < 0
    · have b1 : decide (b < 0) = true := decide_eq_true p1
      have hm : mm = false := by rw [hmay, decide_eq_false (by omega)]; rfl
      have HM := Lib.hid hm
      clear hmay hm p1
      go_wp2
      go_meet
      case rel => exact ⟨by rw [HM.out]; rfl, rfl⟩
    · have b1 : decide (b < 0) = false := decide_eq_false p1
      by_cases p2 : g < 0
      · have b2 : decide (g < 0) = true := decide_eq_true p2
        have hm : mm = false := by rw [hmay, decide_eq_false (by omega)]; rfl
        have HM := Lib.hid hm
        clear hmay hm p1 p2
        go_wp2
        go_meet
        case rel => exact ⟨by rw [HM.out]; rfl, rfl⟩
      · have b2 : decide (g < 0) = false := decide_eq_false p2
        by_cases p3 : s < 0
        · have b3 : decide (s < 0) = true := decide_eq_true p3
          have hm : mm = false := by rw [hmay, decide_eq_false (by omega)]; rfl
          have HM := Lib.hid hm
          clear hmay hm p1 p2 p3
          go_wp2
          go_meet
          case rel => exact ⟨by rw [HM.out]; rfl, rfl⟩
        · have b3 : decide (s < 0) = false := decide_eq_false p3
          by_cases p4 : 4096000 < g
          · have b4 : decide (4096000 < g) = true := decide_eq_true p4
            have hm : mm = false := by rw [hmay, decide_eq_true (by omega), decide_eq_false (by omega)]; rfl
            have HM := Lib.hid hm
            clear hmay hm p1 p2 p3 p4
            go_wp2
            go_meet
            case rel => exact ⟨by rw [HM.out]; rfl, rfl⟩
          · have b4 : decide (4096000 < g) = false := decide_eq_false p4
            obtain ⟨b5, e5⟩ : ∃ b, decide (4096000 < s) = b := ⟨_, rfl⟩
            have hm : (!mm) = b5 := by
              rw [hmay, ← e5, decide_eq_true (show 0 ≤ min (min b g) s by omega), Bool.true_and]
              by_cases p5 : 4096000 < s
              · rw [decide_eq_true p5, decide_eq_false (by omega)]; rfl
              · rw [decide_eq_false p5, decide_eq_true (by omega)]; rfl
            have HM := Lib.hid hm
            clear hmay hm p1 p2 p3 p4
            go_wp2
            go_meet
            case rel => exact ⟨by rw [HM.out], rfl⟩
  case rest =>
    obtain ⟨rfl, rfl⟩ := hcut
    go_upto_region 5 with (fail)
    go_cut [57] from 42 to 57 (fun sv wx => sv = .bool false ∧ w4 = wx)
    case first =>
      rcases HC.out with ⟨rfl, rfl⟩ | ⟨rfl, rfl | rfl⟩
      all_goals
        go_wp2
        go_meet
        case rel => exact ⟨rfl, rfl⟩
    case rest =>
      obtain ⟨rfl, rfl⟩ := hcut
      clear q0 q5 q6
      have RS2 := law19_resolved (some ⟨w4.heap.size, 0, none⟩) n n (List.replicate n fx0) 100 (by omega) (by rw [List.length_replicate]) (fun y hy => by rw [List.eq_of_mem_replicate hy]; exact fx0_fit) (by unfold IFit; omega) (w4.alloc (.cells (madeCells nil7 (n * 7)) 78)) (made_row (Blk.new _ _ _ _ rfl))
      unfold RvAns at RS2
      have hb5 : Below w4.heap.size w4 (w4.alloc (.cells (madeCells nil7 (n * 7)) 78)) := (by repeat' (first | (with_reducible exact Below.refl _ _) | (with_reducible assumption) | (with_reducible refine below_alloc ?_ _ ?_) | (with_reducible refine below_set _ ?_ ?_) | (with_reducible refine Below.drew ?_) | (with_reducible refine below_dN ?_ _) | (apply below_thenA; assumption) | omega | (simp; done) | (simp; omega) | (simp [*]; done)))
      have hB5 := HB4.out.trans (hb5.mono HB4.out.size)
      have HB5 := Lib.hid hB5
      have hcd := rep_code n
      clear hb5 hB5
      by_cases h24 : 1024 < n
      · rw [hcd, if_pos h24] at RS2
        have ix : (1024 : Int) < (n : Int) := by omega
        clear hcd h24
        go_wp2_with fail
        refine RS2.mono ?_
        rintro e w6 ⟨a6, m6, c6, rfl, -, h2, hb6⟩
        obtain rfl := h2 (by decide)
        have hB6 := HB5.out.trans (hb6.mono HB5.out.size)
        have HB6 := Lib.hid hB6
        clear RS2 hb6 hB6 h2
        go_wp2_with fail
        go_ret
        exact ⟨rfl, HB6.out⟩
      · rw [hcd, if_neg h24] at RS2
        have ix : ¬ (1024 : Int) < (n : Int) := by omega
        clear hcd h24
        go_wp2_with fail
        refine RS2.mono ?_
        rintro e w6 ⟨a6, m6, c6, rfl, h2, -, hb6⟩
        obtain ⟨xs, -, rfl, -⟩ := h2 (by first | rfl | trivial)
        have hB6 := HB5.out.trans (hb6.mono HB5.out.size)
        have HB6 := Lib.hid hB6
        have hnn : ((m6 : Int) == (m6 : Int)) = true := by simp
        clear RS2 hb6 hB6 h2
        go_wp2_with fail
        go_ret
        exact ⟨rfl, HB6.out⟩
end Go.Proofs.Ythofammjbicogaa
