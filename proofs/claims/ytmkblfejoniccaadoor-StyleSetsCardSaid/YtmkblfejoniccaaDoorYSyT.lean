/-
  The statement StyleComputes: the walk.
-/
import Derived.Test.YtmkblfejoniccaaDoorYSyR
import Derived.Test.YtmkblfejoniccaaDoorYSyS
namespace Go.Proofs.YtmkblfejoniccaaDoor
open Go Go.RowKit
set_option linter.unusedSimpArgs false
set_option linter.unusedVariables false

theorem same11 (x : Rs) (w : World) : Calls Tryd.prog 32 #[.agg (cellsF 62 (styF (fun i => (dL x i).1) (fun i => (dL x i).2.1) (dM x) (dA x) x.W x.C)), .agg (cellsF 61 (finR x)), .int .u8 x.C] w fun e w' => e = .returned (.bool true) ∧ Below w.heap.size w w' := by
  refine same_of _ _ (fun i => (dL x i).1) (fun i => (dL x i).2.1) (dA x) x.C (fun i hi => ?_) (fun i hi => ?_) (fun w => ?_) (fun w => ?_) rfl rfl rfl w
  · unfold styF
    rw [if_pos (by omega), if_pos (by omega), if_pos (by omega), if_neg (by omega), show i * 2 / 2 = i by omega, show (i * 2 + 1) / 2 = i by omega]
    exact ⟨rfl, rfl⟩
  · unfold finR rstF
    rw [if_pos (by omega), if_pos (by omega), if_pos (by omega), if_neg (by omega), show i * 2 / 2 = i by omega, show (i * 2 + 1) / 2 = i by omega]
    exact ⟨rfl, rfl⟩
  · have := num_self (dM x) w
    rw [cellsF_ext (n := 10) (f := fun k => styF (fun i => (dL x i).1) (fun i => (dL x i).2.1) (dM x) (dA x) x.W x.C (38 + k)) (g := fun k => .int .i64 (dM x k)) (fun k hk => by
        show styF _ _ _ _ _ _ (38 + k) = _
        unfold styF
        rw [if_neg (by omega), if_pos (by omega), show 38 + k - 38 = k by omega]),
      cellsF_ext (n := 10) (f := fun k => finR x (38 + k)) (g := fun k => .int .i64 (dM x k)) (fun k hk => by
        show finR x (38 + k) = _
        unfold finR rstF
        rw [if_neg (by omega), if_pos (by omega), show 38 + k - 38 = k by omega])]
    exact this
  · have := wrd_self x.W w
    rw [cellsF_ext (n := 12) (f := fun k => styF (fun i => (dL x i).1) (fun i => (dL x i).2.1) (dM x) (dA x) x.W x.C (49 + k)) (g := fun k => .int .i64 (x.W k)) (fun k hk => by
        show styF _ _ _ _ _ _ (49 + k) = _
        unfold styF
        rw [if_neg (by omega), if_neg (by omega), if_neg (by omega), if_pos (by omega), show 49 + k - 49 = k by omega]),
      cellsF_ext (n := 12) (f := fun k => finR x (49 + k)) (g := fun k => .int .i64 (x.W k)) (fun k hk => by
        show finR x (49 + k) = _
        unfold finR rstF
        rw [if_neg (by omega), if_neg (by omega), if_neg (by omega), show 49 + k - 49 = k by omega])]
    exact this
set_option maxRecDepth 100000 in
set_option maxHeartbeats 3200000 in
theorem law_computes (x : Rs) (hx : x.Fit) (w : World) (hT : StyW w) : Calls Tryd.prog 8 #[.agg (cellsF 65 (lawF x))] w fun e w' => e = .returned (.bool true) ∧ Below w.heap.size w w' := by
  have HT := Lib.hid hT
  have TD := told11 x
  have SC := fun W (hW : StyW W) => sty_compute x hx W hW
  have RC := ref11_compute x hx
  have SM := same11 x
  have h1 : ∀ i, (outF x i).oneCell' = true := fun i => by
    unfold outF zerF
    split
    · exact styF_one _ _ _ _ _ _ i
    · exact styF_one _ _ _ _ _ _ i
  have h2 : ∀ i, (outR x i).oneCell' = true := fun i => by
    unfold outR finR
    split
    · exact rstF_one _ _ _ _ _ i
    · exact zerR_one i
  have hy : dE x = 0 → outF x = styF (fun i => (dL x i).1) (fun i => (dL x i).2.1) (dM x) (dA x) x.W x.C ∧ outR x = finR x := fun h => by
    unfold outF outR
    rw [if_pos h, if_pos h]
    exact ⟨rfl, rfl⟩
  have hn : dE x ≠ 0 → outF x = zerF := fun h => by unfold outF; rw [if_neg h]
  obtain ⟨fO, eO⟩ : ∃ f, outF x = f := ⟨_, rfl⟩
  obtain ⟨fR, eR⟩ : ∃ f, outR x = f := ⟨_, rfl⟩
  obtain ⟨E, eE⟩ : ∃ f, dE x = f := ⟨_, rfl⟩
  rw [eO, eE] at SC hy hn
  rw [eR, eE] at RC
  rw [eO] at h1
  rw [eR] at h2 hy
  have H1 := Lib.hid h1
  have H2 := Lib.hid h2
  have HY := Lib.hid hy
  have HN := Lib.hid hn
  have HSC := Lib.hid SC
  clear hT SC h1 h2 hy hn eO eR eE hx
  have BU : ∀ w, (Instr.build 83 #[(0, .agg (cellsF 19 (fun k => lawF x (0 + k)))), (1, .agg (cellsF 19 (fun k => lawF x (19 + k)))), (2, .agg (cellsF 10 (fun k => lawF x (38 + k)))), (3, .agg (cellsF 12 (fun k => lawF x (48 + k)))), (4, .agg (cellsF 4 (fun k => lawF x (60 + k))))]).run Tryd.prog w = .ok (.agg (cellsF 64 (refF x))) w := fun w => by kernel_rfl
  have HBU := Lib.hid BU
  clear BU
  go_enter Tryd.func8, Tryd.ntmps8
  go_upto_region 1 with fail
  refine wp_worldS (fun W => Blk W w.heap.size (cellsF 65 (lawF x)) 60 ∧ Below w.heap.size w W) ⟨Blk.new _ _ _ _ rfl, (by repeat' (first | (with_reducible exact Below.refl _ _) | (with_reducible assumption) | (with_reducible refine below_alloc ?_ _ ?_) | (with_reducible refine below_set _ ?_ ?_) | (with_reducible refine Below.drew ?_) | (with_reducible refine below_dN ?_ _) | (apply below_thenA; assumption) | omega | (simp; done) | (simp; omega) | (simp [*]; done)))⟩ ?_
  rintro W1 ⟨t1, hB1⟩
  have SP := speaks11 W1 (HT.out.below hB1)
  have HF := Lib.hid (And.intro t1 hB1)
  clear t1 hB1
  go_upto_region 3 with (go_at_call 28; with_reducible refine SP.mono ?_; rintro e w2 ⟨rfl, hb2⟩)
  have hF2 := And.intro (HF.out.1.below hb2) (HF.out.2.trans (hb2.mono HF.out.2.size))
  have HF2 := Lib.hid hF2
  clear hF2 HF hb2 SP
  go_upto_region 4 with (first
    | (refine wpl_loadA (by rfl) 60 _ (by rfl) HF2.out.1 _ Tryd.underlying60 rfl (by kernel_rfl) (by rfl) ?_; simp only [Act.put, List.setIfInBounds_toArray, List.set_cons_zero, List.set_cons_succ, Nat.zero_add, Nat.reduceAdd])
    | (go_at_call 30; with_reducible refine (TD _).mono ?_; rintro e w3 ⟨rfl, hb3⟩; have hB3 := HF2.out.2.trans (hb3.mono HF2.out.2.size); have CW := HSC.out w3 (HT.out.below hB3); have HB3 := Lib.hid hB3; clear hB3)
    | (go_at_call 29; with_reducible refine CW.mono ?_; rintro e w4 ⟨rfl, hb4⟩)
    | (refine wpl_storeW (by rfl) 66 _ _ (by rfl) (b := w4.heap.size) (n := 62) (f := zerF) (T := 66) (by rw [zerF_cells]; exact Blk.new _ _ _ _ rfl) fO (fun i _ => H1.out i) (by kernel_rfl) (by rfl) (by rfl) ?_; intro W5 t5 b5; simp only [Act.put, List.setIfInBounds_toArray, List.set_cons_zero, List.set_cons_succ, Nat.zero_add, Nat.reduceAdd]))
  have hB4 := HB3.out.trans (hb4.mono HB3.out.size)
  have t4 := (HF2.out.1.below hb3).below hb4
  obtain ⟨s, es⟩ : ∃ s, s = w4.heap.size := ⟨_, rfl⟩
  rw [← es]
  rw [← es] at t5 b5
  have hlt := t4.lt
  rw [← es] at hlt
  have t6 := (t4.alloc (.cells (cellsF 62 zerF) 66)).but (by rw [zerF_cells]; exact b5) (by omega)
  have hB6 : Below w.heap.size w W5 := b5.to (hB4.alloc hB4.size _) (by rw [es]; exact hB4.size) (by have := hB4.size; simp; omega)
  have HS := Lib.hid (And.intro t6 (And.intro t5 hB6))
  have hws : w.heap.size ≤ s := by rw [es]; exact hB4.size
  have HWS := Lib.hid hws
  clear t4 t5 b5 es hB4 hb3 hb4 CW HB3 HF2 t6 hB6 hlt hws HT TD
  go_upto_region 5 with (first
    | (refine wpl_loadF (by rfl) 54 _ (by rfl) HS.out.1 0 19 (by omega) _ Tryd.underlying54 rfl (by kernel_rfl) (by rfl) ?_; simp only [Act.put, List.setIfInBounds_toArray, List.set_cons_zero, List.set_cons_succ, Nat.zero_add, Nat.reduceAdd])
    | (refine wpl_loadF (by rfl) 55 _ (by rfl) HS.out.1 19 19 (by omega) _ Tryd.underlying55 rfl (by kernel_rfl) (by rfl) ?_; simp only [Act.put, List.setIfInBounds_toArray, List.set_cons_zero, List.set_cons_succ, Nat.zero_add, Nat.reduceAdd])
    | (refine wpl_loadF (by rfl) 56 _ (by rfl) HS.out.1 38 10 (by omega) _ Tryd.underlying56 rfl (by kernel_rfl) (by rfl) ?_; simp only [Act.put, List.setIfInBounds_toArray, List.set_cons_zero, List.set_cons_succ, Nat.zero_add, Nat.reduceAdd])
    | (refine wpl_loadF (by rfl) 57 _ (by rfl) HS.out.1 48 12 (by omega) _ Tryd.underlying57 rfl (by kernel_rfl) (by rfl) ?_; simp only [Act.put, List.setIfInBounds_toArray, List.set_cons_zero, List.set_cons_succ, Nat.zero_add, Nat.reduceAdd])
    | (refine wpl_loadF (by rfl) 58 _ (by rfl) HS.out.1 60 4 (by omega) _ Tryd.underlying58 rfl (by kernel_rfl) (by rfl) ?_; simp only [Act.put, List.setIfInBounds_toArray, List.set_cons_zero, List.set_cons_succ, Nat.zero_add, Nat.reduceAdd])
    | (refine wpl_buildV (by rfl) 83 _ (by rfl) _ _ (by kernel_rfl) HBU.out ?_; simp only [Act.put, List.setIfInBounds_toArray, List.set_cons_zero, List.set_cons_succ, Nat.zero_add, Nat.reduceAdd])
    | (go_at_call 31; with_reducible refine (RC _).mono ?_; rintro e w7 ⟨rfl, hb7⟩)
    | (refine wpl_storeW (by rfl) 79 _ _ (by rfl) (b := w7.heap.size) (n := 61) (f := zerR) (T := 79) (by rw [zerR_cells]; exact Blk.new _ _ _ _ rfl) fR (fun i _ => H2.out i) (by kernel_rfl) (by rfl) (by rfl) ?_; intro W8 t8 b8; simp only [Act.put, List.setIfInBounds_toArray, List.set_cons_zero, List.set_cons_succ, Nat.zero_add, Nat.reduceAdd]))
  have hB7 := HS.out.2.2.trans (hb7.mono HS.out.2.2.size)
  have t6 := HS.out.1.below hb7
  have t5 := HS.out.2.1.below hb7
  obtain ⟨m, em⟩ : ∃ m, m = w7.heap.size := ⟨_, rfl⟩
  rw [← em]
  rw [← em] at t8 b8
  have hl6 := t6.lt
  have hl5 := t5.lt
  rw [← em] at hl5 hl6
  have hs8 := (t5.alloc (.cells (cellsF 61 zerR) 79)).but (by rw [zerR_cells]; exact b8) (by omega)
  have hr8 := (t6.alloc (.cells (cellsF 61 zerR) 79)).but (by rw [zerR_cells]; exact b8) (by omega)
  have hB8 : Below w.heap.size w W8 := b8.to (hB7.alloc hB7.size _) (by rw [em]; exact hB7.size) (by have := hB7.size; simp; omega)
  have HR := Lib.hid (And.intro hs8 (And.intro t8 (And.intro hr8 hB8)))
  clear t8 b8 em hB7 hb7 HS hs8 hr8 hB8 hl5 hl6 t5 t6 RC HBU
  by_cases hE : E = 0
  · subst hE
    obtain ⟨e1, e2⟩ := HY.out rfl
    have q64 := HR.out.2.2.1.cellF (i := 64) (by omega)
    rw [show lawF x 64 = .int .u8 x.C from rfl] at q64
    rw [← e1, ← e2] at SM
    clear e1 e2
    go_wp2_with (first
      | (refine wplw_loadA (by kernel_rfl) 66 _ (by rfl) HR.out.1 _ Tryd.underlying66 rfl (by kernel_rfl) (by rfl) ?_; simp only [Act.put, List.setIfInBounds_toArray, List.set_cons_zero, List.set_cons_succ, Nat.zero_add, Nat.reduceAdd])
      | (refine wplw_loadA (by kernel_rfl) 79 _ (by rfl) HR.out.2.1 _ Tryd.underlying79 rfl (by kernel_rfl) (by rfl) ?_; simp only [Act.put, List.setIfInBounds_toArray, List.set_cons_zero, List.set_cons_succ, Nat.zero_add, Nat.reduceAdd])
      | (go_at_call 32; with_reducible refine (SM _).mono ?_; rintro e w9 ⟨rfl, hb9⟩))
    go_ret
    exact ⟨rfl, HR.out.2.2.2.trans (hb9.mono HR.out.2.2.2.size)⟩
  · have z := HN.out hE
    have z0 : (E == 0) = false := by simpa using hE
    have z1 : (E != 0) = true := by simpa using hE
    have EQ : ∀ w, (Op.equalIn 10000 66 (.agg (cellsF 62 fO)) (.agg (cellsF 62 zerF))).run Tryd.prog w = .ok true w := fun w => by rw [z]; exact sty_self _ _ _ _ _ _ w
    have HE := Lib.hid hE
    have EQ2 := EQ
    simp only [zerF_cells] at EQ2
    clear z hE
    go_wp2_with (first
      | (refine wplw_loadA (by kernel_rfl) 66 _ (by rfl) HR.out.1 _ Tryd.underlying66 rfl (by kernel_rfl) (by rfl) ?_; simp only [Act.put, List.setIfInBounds_toArray, List.set_cons_zero, List.set_cons_succ, Nat.zero_add, Nat.reduceAdd])
      | (refine wplw_buildV (by kernel_rfl) 66 _ (by rfl) #[] (.agg (cellsF 62 zerF)) (by rfl) (fun _ => by kernel_rfl) ?_; simp only [Act.put, List.setIfInBounds_toArray, List.set_cons_zero, List.set_cons_succ, Nat.zero_add, Nat.reduceAdd]))
    go_ret
    exact ⟨rfl, HR.out.2.2.2⟩
end Go.Proofs.YtmkblfejoniccaaDoor
