/-
  The statement StyleBorders.
-/
import Derived.Test.YtmkblfejoniccaaDoorZ14
namespace Go.Proofs.YtmkblfejoniccaaDoor
open Go Go.RowKit
set_option linter.unusedSimpArgs false
set_option linter.unusedVariables false

set_option maxRecDepth 100000 in
set_option maxHeartbeats 1600000 in
theorem brd1 (b3 b4 b5 b7 : Nat) (n p q : Int) (hn : IFit n) (hp : IFit p) (hq : IFit q) (W : World) (h3 : Blk W b3 #[.int .i64 n] 2) (h4 : Blk W b4 #[.int .i64 p] 2) (h5 : Blk W b5 #[.int .i64 q] 2) (h7 : Blk W b7 #[.int .i64 0] 2) :
    Calls Tryd.prog 35 #[.pointer (some ⟨b3, 0, none⟩), .pointer (some ⟨b4, 0, none⟩), .pointer (some ⟨b5, 0, none⟩), .pointer (some ⟨b7, 0, none⟩)] W (Puts b7 0 (hairN n p q) (scaleE n p q) W) := by
  have HC := fun W => sty_hairline n p q hn hp hq W
  unfold Gives at HC
  obtain ⟨h, eh⟩ : ∃ x, hairN n p q = x := ⟨_, rfl⟩
  obtain ⟨c, ec⟩ : ∃ x, scaleE n p q = x := ⟨_, rfl⟩
  rw [eh, ec]
  rw [eh, ec] at HC
  clear eh ec
  have q3 := h3.cell 0 _ rfl
  have q4 := h4.cell 0 _ rfl
  have q5 := h5.cell 0 _ rfl
  have H7 := Lib.hid h7
  clear h3 h4 h5 h7 hn hp hq
  by_cases hc : c = 0
  · have C : ∀ W, Calls Tryd.prog 36 #[.int .i64 n, .agg #[.int .i64 p, .int .i64 q]] W fun e w' => e = .returned (.int .i64 h) ∧ Below W.heap.size W w' := fun W => (HC W).mono fun e w' g => ⟨g.1 hc, g.2.2⟩
    have H := Lib.hid hc
    clear HC hc
    go_enter Tryd.func35, Tryd.ntmps35
    go_wp2_with (go_at_call 36; with_reducible refine (C _).mono ?_; rintro e w1 ⟨rfl, hb1⟩; have t7 := H7.out.below hb1; have q7 := t7.cell 0 _ rfl; have z7 := t7.free 0)
    refine bodyPost_end (results_none rfl _ _ _) rfl ?_
    exact ⟨fun _ => ⟨rfl, w1, hb1, rfl⟩, fun hc => absurd H.out hc⟩
  · have C : ∀ W, Calls Tryd.prog 36 #[.int .i64 n, .agg #[.int .i64 p, .int .i64 q]] W fun e w' => e = .panicked (gave c) ∧ Below W.heap.size W w' := fun W => (HC W).mono fun e w' g => ⟨g.2.1 hc, g.2.2⟩
    have H := Lib.hid hc
    clear HC hc
    go_enter Tryd.func35, Tryd.ntmps35
    go_wp2_with (go_at_call 36; with_reducible refine (C _).mono ?_; rintro e w1 ⟨rfl, hb1⟩)
    simp only [bodyPost]
    exact ⟨trivial, fun hc => absurd hc H.out, fun _ => ⟨rfl, hb1⟩⟩
set_option maxRecDepth 100000 in
set_option maxHeartbeats 1600000 in
theorem law_borders (n p q : Int) (hn : IFit n) (hp : IFit p) (hq : IFit q) (w : World) (hT : StyW w) :
    Calls Tryd.prog 10 #[.int .i64 n, .int .i64 p, .int .i64 q] w fun e w' => e = .returned (.bool true) ∧ Below w.heap.size w w' := by
  have RH := fun W => ref11_hairline n p q hn hp hq W
  have BR := fun b3 b4 b5 b7 W => brd1 b3 b4 b5 b7 n p q hn hp hq W
  have h0 : scaleE n p q ≠ 0 → hairN n p q = 0 := fun h => by unfold hairN; rw [if_pos h]
  obtain ⟨h, eh⟩ : ∃ x, hairN n p q = x := ⟨_, rfl⟩
  obtain ⟨c, ec⟩ : ∃ x, scaleE n p q = x := ⟨_, rfl⟩
  rw [eh, ec] at RH h0
  simp only [eh, ec] at BR
  have HBR := Lib.hid BR
  have H0 := Lib.hid h0
  have HT := Lib.hid hT
  clear eh ec hn hp hq hT BR h0
  go_enter Tryd.func10, Tryd.ntmps10
  go_upto_region 1 with (fail)
  refine wp_worldS (fun W => Blk W w.heap.size #[.int .i64 n] 2 ∧ Blk W (w.heap.size + 1) #[.int .i64 p] 2 ∧ Blk W (w.heap.size + 1 + 1) #[.int .i64 q] 2 ∧ Below w.heap.size w W) ⟨Blk.alloc (Blk.alloc (Blk.new _ _ _ _ rfl) _) _, Blk.alloc (Blk.new _ _ _ _ (by simp)) _, Blk.new _ _ _ _ (by simp), (by repeat' (first | (with_reducible exact Below.refl _ _) | (with_reducible assumption) | (with_reducible refine below_alloc ?_ _ ?_) | (with_reducible refine below_set _ ?_ ?_) | (with_reducible refine Below.drew ?_) | (with_reducible refine below_dN ?_ _) | (apply below_thenA; assumption) | omega | (simp; done) | (simp; omega) | (simp [*]; done)))⟩ ?_
  rintro W1 ⟨t3, t4, t5, hB1⟩
  have SP := speaks11 W1 (HT.out.below hB1)
  have HF := Lib.hid (And.intro t3 (And.intro t4 (And.intro t5 hB1)))
  clear t3 t4 t5 hB1
  go_upto_region 4 with (go_at_call 28; with_reducible refine SP.mono ?_; rintro e w2 ⟨rfl, hb2⟩)
  obtain ⟨g, eg⟩ : ∃ g, g = w2.heap.size := ⟨_, rfl⟩
  rw [← eg]
  have hf2 : Blk w2 w.heap.size #[.int .i64 n] 2 ∧ Blk w2 (w.heap.size + 1) #[.int .i64 p] 2 ∧ Blk w2 (w.heap.size + 1 + 1) #[.int .i64 q] 2 ∧ Below w.heap.size w w2 := ⟨HF.out.1.below hb2, HF.out.2.1.below hb2, HF.out.2.2.1.below hb2, HF.out.2.2.2.trans (hb2.mono HF.out.2.2.2.size)⟩
  have hg3 : w.heap.size + 1 + 1 < g := by rw [eg]; exact hf2.2.2.1.lt
  refine wp_worldS (fun W => Blk W w.heap.size #[.int .i64 n] 2 ∧ Blk W (w.heap.size + 1) #[.int .i64 p] 2 ∧ Blk W (w.heap.size + 1 + 1) #[.int .i64 q] 2 ∧ Below w.heap.size w W ∧ Blk W g #[.int .i64 0] 2) ⟨hf2.1.alloc _, hf2.2.1.alloc _, hf2.2.2.1.alloc _, hf2.2.2.2.alloc hf2.2.2.2.size _, Blk.new _ _ _ _ eg⟩ ?_
  rintro W3 ⟨t3, t4, t5, hB3, tg⟩
  have TR := try_puts 35 #[.pointer (some ⟨w.heap.size, 0, none⟩), .pointer (some ⟨w.heap.size + 1, 0, none⟩), .pointer (some ⟨w.heap.size + 1 + 1, 0, none⟩), .pointer (some ⟨g, 0, none⟩)] g 0 h c W3 _ _ tg
    (fun w => enters_of Tryd.func35 (by kernel_rfl) rfl _ w) (fun W hW => HBR.out _ _ _ _ W (t3.below hW) (t4.below hW) (t5.below hW) (tg.below hW))
  have he : (if c = 0 then (#[.int .i64 0] : Array Value).setIfInBounds 0 (.int .i64 h) else #[.int .i64 0]) = #[.int .i64 h] := by
    by_cases hc : c = 0
    · rw [if_pos hc]; rfl
    · rw [if_neg hc, H0.out hc]
  rw [he] at TR
  have HF3 := Lib.hid (And.intro t3 (And.intro t4 (And.intro t5 hB3)))
  clear t3 t4 t5 hB3 tg he eg hf2 SP HF hb2
  go_upto_region 5 with (go_at_call 34; with_reducible refine TR.mono ?_; rintro e w4 ⟨rfl, hbt, u7⟩)
  have q3 := (HF3.out.1.but hbt (by omega)).cell 0 _ rfl
  have q4 := (HF3.out.2.1.but hbt (by omega)).cell 0 _ rfl
  have q5 := (HF3.out.2.2.1.but hbt (by omega)).cell 0 _ rfl
  have hB4 : Below w.heap.size w w4 := hbt.to HF3.out.2.2.2 (by omega) HF3.out.2.2.2.size
  have HU7 := Lib.hid u7
  have HB4 := Lib.hid hB4
  clear TR hbt u7 hB4 HF3
  go_wp2_with (go_at_call 37; with_reducible refine (RH _).mono ?_; rintro e w5 ⟨rfl, hb5⟩; have q7 := (HU7.out.below hb5).cell 0 _ rfl)
  go_ret
  exact ⟨rfl, HB4.out.trans (hb5.mono HB4.out.size)⟩
end Go.Proofs.YtmkblfejoniccaaDoor
