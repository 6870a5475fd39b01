/-
  Package line: Offsets of no line; layer 13: the laws' speaks.
-/
import Derived.Test.YthofammjbicogaaYLnD
import Derived.Test.YthofammjbicogaaZ9
namespace Go.Proofs.Ythofammjbicogaa
open Go.RowKit
set_option linter.unusedSimpArgs false
set_option linter.unusedVariables false

set_option maxRecDepth 100000 in
set_option maxHeartbeats 1600000 in
theorem ln_offsets_no (v : Option Addr) (k cap : Nat) (a b W H avail text : Int) (h : a < 0 ∨ (k : Int) < b ∨ b ≤ a) (w : World) :
    Calls Try.prog 18 #[.slice v k cap, .agg #[.int .i64 a, .int .i64 b, .int .i64 W, .int .i64 H], .int .i64 avail, .int .i64 text] w fun e w' => e = .returned (.slice none 0 0) ∧ Below w.heap.size w w' := by
  have t5 := Blk.new w #[.int .i64 a, .int .i64 b, .int .i64 W, .int .i64 H] 36 _ rfl
  have hB0 : Below w.heap.size w (w.alloc (.cells #[.int .i64 a, .int .i64 b, .int .i64 W, .int .i64 H] 36)) := (by repeat' (first | (with_reducible exact Below.refl _ _) | (with_reducible assumption) | (with_reducible refine below_alloc ?_ _ ?_) | (with_reducible refine below_set _ ?_ ?_) | (with_reducible refine Below.drew ?_) | (with_reducible refine below_dN ?_ _) | (apply below_thenA; assumption) | omega | (simp; done) | (simp; omega) | (simp [*]; done)))
  have h3 : a < 0 ∨ (¬ a < 0 ∧ (k : Int) < b) ∨ (¬ a < 0 ∧ ¬ (k : Int) < b ∧ b ≤ a) := by omega
  have c0 := t5.cell 0 _ rfl
  have c1 := t5.cell 1 _ rfl
  clear h t5
  go_enter Try.func18, Try.ntmps18
  rcases h3 with i1 | ⟨i1, i2⟩ | ⟨i1, i2, i3⟩
  all_goals
    go_wp2_with fail
    go_ret
    exact ⟨rfl, hB0⟩
def spk : List It := [⟨30, 5, 0, true⟩, ⟨30, 5, 0, true⟩, ⟨30, 5, 9, false⟩]
def spkL : List Ln := [⟨0, 2, 65, 4⟩, ⟨2, 3, 30, 9⟩]
theorem spk_fill : fillR spk 70 4 = some spkL := by rfl
theorem spk_off : offR spk 0 2 65 71 4 = some [0, 41] := by rfl
theorem spk_fit : ItFit spk := fun i => by
  match i with
  | 0 => simp [spk, IFit, List.getD]
  | 1 => simp [spk, IFit, List.getD]
  | 2 => simp [spk, IFit, List.getD]
  | i + 3 => simp [spk, IFit, List.getD, it0]
def SpkRel (b1 b2 : Nat) (B : Nat) (W : World) : Prop :=
  ∃ a1 c1 a2 c2, Blk W b1 #[.slice a1 2 c1] 44 ∧ Blk W b2 #[.slice a2 2 c2] 31 ∧ RowV W a1 2 4 (lnV spkL) ∧ (∀ g off, a1 = some ⟨g, off, none⟩ → B < g) ∧ RowI W a2 2 [0, 41] ∧ (∀ g off, a2 = some ⟨g, off, none⟩ → B < g)
theorem SpkRel.but {b1 b2 : Nat} {B : Nat} {W W' : World} (h : SpkRel b1 b2 B W) (hb : But B W W') (h1 : b1 < B) (h2 : b2 < B) : SpkRel b1 b2 B W' := by
  obtain ⟨a1, c1, a2, c2, q1, q2, q3, q4, q5, q6⟩ := h
  exact ⟨a1, c1, a2, c2, q1.but hb (by omega), q2.but hb (by omega), q3.but hb (fun g off e => by have := q4 g off e; omega), q4, q5.but hb (fun g off e => by have := q6 g off e; omega), q6⟩
set_option maxRecDepth 100000 in
set_option maxHeartbeats 3200000 in
theorem speaks13a (b0 b1 b2 g0 : Nat) (W : World) (h12 : b1 ≠ b2) (h01 : b0 ≠ b1) (v1 v2 : Value) (h0 : Blk W b0 #[.slice (some ⟨g0, 0, none⟩) 3 3] 26) (h1 : Blk W b1 #[v1] 44) (h2 : Blk W b2 #[v2] 31) (hr : RowV W (some ⟨g0, 0, none⟩) 3 4 (itV spk)) (hg1 : g0 ≠ b1) (B : Nat) (hB : B < W.heap.size) (l1 : b1 ≤ B) (l2 : b2 ≤ B) :
    Calls Try.prog 53 #[.pointer (some ⟨b0, 0, none⟩), .pointer (some ⟨b1, 0, none⟩), .pointer (some ⟨b2, 0, none⟩)] W fun e W' => e = .returned (.tuple #[]) ∧ SpkRel b1 b2 B W' ∧ ButL [b1, b2] W W' := by
  have FL := fun W hr => ln_fill (some ⟨g0, 0, none⟩) 3 3 70 4 spk (by omega) (Nat.le_refl _) rfl spk_fit W hr
  have OF : ∀ W, RowV W (some ⟨g0, 0, none⟩) 3 4 (itV spk) → Calls Try.prog 18 #[.slice (some ⟨g0, 0, none⟩) 3 3, .agg #[.int .i64 0, .int .i64 2, .int .i64 65, .int .i64 4], .int .i64 71, .int .i64 4] W (OffAns (offR spk 0 2 65 71 4) W) := fun W hr => ln_offsets_ok (some ⟨g0, 0, none⟩) 3 3 0 2 65 4 71 4 spk (by omega) (Nat.le_refl _) rfl spk_fit (by omega) (by omega) (by unfold IFit; omega) (by unfold IFit; omega) W hr
  rw [spk_fill] at FL
  rw [spk_off] at OF
  obtain ⟨Q, eQ⟩ : ∃ Q : Ending → World → Prop, Q = fun e W' => e = .returned (.tuple #[]) ∧ SpkRel b1 b2 B W' ∧ ButL [b1, b2] W W' := ⟨_, rfl⟩
  rw [← eQ]
  have EQ := Lib.hid eQ
  have H0 := Lib.hid h0
  have H1 := Lib.hid h1
  have H2 := Lib.hid h2
  have HR := Lib.hid hr
  have c0 := h0.cell 0 _ rfl
  have h21 : b2 ≠ b1 := fun e => h12 e.symm
  clear eQ hr h1 h2 h0
  go_enter Try.func53, Try.ntmps53
  go_wp2_with fail
  refine (FL _ HR.out).mono ?_
  rintro e w1 ⟨s1, -, hb⟩
  obtain ⟨a1, c1, rfl, ho⟩ := s1 _ rfl
  have q1 := H1.out.below hb
  have d1 := q1.cell 0 _ rfl
  have g1 := q1.free 0
  obtain ⟨w2, ew⟩ : ∃ w2, w1.setCell ⟨b1, 0, none⟩ (.slice a1 2 c1) = w2 := ⟨_, rfl⟩
  have bt : But b1 w1 w2 := by rw [← ew]; exact But.set _ _ _
  have hs1 := hb.size
  have lb1 := H1.out.lt
  have hfr1 := ho.from
  have r1 : Blk w2 b1 #[.slice a1 2 c1] 44 := by rw [← ew]; exact q1.set 0 _
  have x1 := ho.row.but bt (fun g off e => by have := hfr1 g off e; omega)
  have r0 := (H0.out.below hb).but bt h01
  have r2 := (H2.out.below hb).but bt h21
  have hx2 := (HR.out.below hb).but bt (fun g off e => by obtain ⟨rfl, _⟩ : g0 = g ∧ 0 = off := by simpa using e
                                                          exact hg1)
  have hs2 : w2.heap.size = w1.heap.size := by rw [← ew]; simp
  have hBt : ButL [b1, b2] W w2 := by rw [← ew]; exact (ButL.of hb).trans (ButL.set _ _ _ (by simp))
  have e1 : (.slice a1 spkL.length c1 : Value) = .slice a1 2 c1 := rfl
  rw [e1]
  clear hb ho s1 FL c0 bt e1
  go_upto_region 1 with (fail)
  clear ew q1 d1 g1
  have c0 := r0.cell 0 _ rfl
  have c1' := r1.cell 0 _ rfl
  obtain ⟨ga, oa, rfl, hga, hca⟩ := x1.at (show 0 < 2 by omega)
  have p0 : w2.cell? ⟨ga, oa, none⟩ = some (.int .i64 0) := by have := hca 0 (by omega); simpa [lnV, spkL] using this
  have p1 : w2.cell? ⟨ga, oa + 1, none⟩ = some (.int .i64 2) := by have := hca 1 (by omega); simpa [lnV, spkL] using this
  have p2 : w2.cell? ⟨ga, oa + 2, none⟩ = some (.int .i64 65) := by have := hca 2 (by omega); simpa [lnV, spkL] using this
  have p3 : w2.cell? ⟨ga, oa + 3, none⟩ = some (.int .i64 4) := by have := hca 3 (by omega); simpa [lnV, spkL] using this
  have R1 := Lib.hid r1
  have R2 := Lib.hid r2
  have X1 := Lib.hid x1
  have HBT := Lib.hid hBt
  have HX2 := Lib.hid hx2
  have HS2 := Lib.hid hs2
  clear r1 r2 x1 hBt hx2 hs2 r0 hca
  go_region_with (go_at_call 18; refine (OF _ (show RowV (World.drew _) _ _ _ _ from HX2.out)).mono ?_; (rintro e w3 ⟨s1, -, hb⟩; obtain ⟨a2, c2, rfl, ho⟩ := s1 _ rfl; replace hb := below_undrew hb; have q2 := R2.out.below (w' := w3) hb; have d2 := q2.cell 0 _ rfl; have g2 := q2.free 0))
  all_goals
    have hs3 := hb.size
    have hs2' := HS2.out
    have y1 := X1.out.below hb
    have y0 := R1.out.below hb
    have y2 := R2.out.below hb
    have hfr2 := ho.from
    have hw2 : w2.drew.heap.size = w2.heap.size := rfl
    rw [hw2] at hfr2
    have hR : SpkRel b1 b2 B (w3.setCell ⟨b2, 0, none⟩ (.slice a2 2 c2)) := by
      refine ⟨_, c1, a2, c2, y0.other h12 _ _, y2.set1 rfl _, y1.but (But.set _ _ _) ?_, ?_, ho.row.but (But.set _ _ _) ?_, ?_⟩
      · intro g off e; have := hfr1 g off e; omega
      · intro g off e; have := hfr1 g off e; omega
      · intro g off e; have := hfr2 g off e; omega
      · intro g off e; have := hfr2 g off e; omega
    have hT : ButL [b1, b2] W (w3.setCell ⟨b2, 0, none⟩ (.slice a2 2 c2)) := (HBT.out.trans (ButL.of hb)).trans (ButL.set _ _ _ (by simp))
    have HR2 := Lib.hid hR
    have HT := Lib.hid hT
    clear hR hT y1 y0 y2 hb ho
    go_wp2_with fail
    go_end0
    rw [EQ.out]
    exact ⟨rfl, HR2.out, HT.out⟩
set_option maxRecDepth 100000 in
set_option maxHeartbeats 3200000 in
theorem speaks13 (w : World) : Calls Try.prog 14 #[] w fun e w' => e = .returned (.bool true) ∧ Below w.heap.size w w' := by
  have hmf : ∀ (fn : Fn) (first cap : Array Value) (w : World), (Instr.makeFunc fn first cap).run Try.prog w = .ok (.func fn first cap) w := fun _ _ _ _ => rfl
  obtain ⟨W0, eW⟩ : ∃ W0, (((w.alloc (.cells #[.int .i64 30, .int .i64 5, .int .i64 0, .bool true, .int .i64 30, .int .i64 5, .int .i64 0, .bool true, .int .i64 30, .int .i64 5, .int .i64 9, .bool false] 47)).alloc (.cells #[.slice (some ⟨w.heap.size, 0, none⟩) 3 3] 26)).alloc (.cells #[.slice none 0 0] 44)).alloc (.cells #[.slice none 0 0] 31) = W0 := ⟨_, rfl⟩
  have k0 : Blk W0 w.heap.size #[.int .i64 30, .int .i64 5, .int .i64 0, .bool true, .int .i64 30, .int .i64 5, .int .i64 0, .bool true, .int .i64 30, .int .i64 5, .int .i64 9, .bool false] 47 := by rw [← eW]; exact (((Blk.new w _ _ _ rfl).alloc _).alloc _).alloc _
  have k1 : Blk W0 (w.heap.size + 1) #[.slice (some ⟨w.heap.size, 0, none⟩) 3 3] 26 := by rw [← eW]; exact ((Blk.new _ _ _ _ (by simp)).alloc _).alloc _
  have k2 : Blk W0 (w.heap.size + 1 + 1) #[.slice none 0 0] 44 := by rw [← eW]; exact (Blk.new _ _ _ _ (by simp)).alloc _
  have k3 : Blk W0 (w.heap.size + 1 + 1 + 1) #[.slice none 0 0] 31 := by rw [← eW]; exact Blk.new _ _ _ _ (by simp)
  have hB0 : Below w.heap.size w W0 := by rw [← eW]; exact (by repeat' (first | (with_reducible exact Below.refl _ _) | (with_reducible assumption) | (with_reducible refine below_alloc ?_ _ ?_) | (with_reducible refine below_set _ ?_ ?_) | (with_reducible refine Below.drew ?_) | (with_reducible refine below_dN ?_ _) | (apply below_thenA; assumption) | omega | (simp; done) | (simp; omega) | (simp [*]; done)))
  have hz0 : W0.heap.size = w.heap.size + 4 := by rw [← eW]; simp
  have hr : RowV W0 (some ⟨w.heap.size, 0, none⟩) 3 4 (itV spk) := by
    refine ⟨rfl, fun _ => ⟨_, 0, rfl, k0.lt, fun i hi => ?_⟩⟩
    rw [Nat.zero_add]
    match i, hi with
    | 0, _ => exact k0.cell 0 _ rfl
    | 1, _ => exact k0.cell 1 _ rfl
    | 2, _ => exact k0.cell 2 _ rfl
    | 3, _ => exact k0.cell 3 _ rfl
    | 4, _ => exact k0.cell 4 _ rfl
    | 5, _ => exact k0.cell 5 _ rfl
    | 6, _ => exact k0.cell 6 _ rfl
    | 7, _ => exact k0.cell 7 _ rfl
    | 8, _ => exact k0.cell 8 _ rfl
    | 9, _ => exact k0.cell 9 _ rfl
    | 10, _ => exact k0.cell 10 _ rfl
    | 11, _ => exact k0.cell 11 _ rfl
  have TR := try_rel 53 #[.pointer (some ⟨w.heap.size + 1, 0, none⟩), .pointer (some ⟨w.heap.size + 1 + 1, 0, none⟩), .pointer (some ⟨w.heap.size + 1 + 1 + 1, 0, none⟩)] 0 [w.heap.size + 1 + 1, w.heap.size + 1 + 1 + 1] W0 (SpkRel (w.heap.size + 1 + 1) (w.heap.size + 1 + 1 + 1) W0.heap.size)
    (fun b hb => by simp at hb; omega) (fun W W' h hb => h.but hb (by omega) (by omega)) (fun w => enters_of Try.func53 (by kernel_rfl) rfl _ w)
    (fun W hb hlt => (speaks13a (w.heap.size + 1) (w.heap.size + 1 + 1) (w.heap.size + 1 + 1 + 1) w.heap.size W (by omega) (by omega) _ _ (k1.below hb) (k2.below hb) (k3.below hb) (hr.below hb) (by omega) W0.heap.size hlt (by omega) (by omega)).mono fun e W' h => ⟨fun _ => ⟨h.1, h.2.1⟩, fun h => absurd rfl h, h.2.2⟩)
  have HB0 := Lib.hid hB0
  clear k0 k1 k2 k3 hr hB0
  go_enter Try.func14, Try.ntmps14
  go_wp2_with fail
  refine TR.mono ?_
  rintro e w3 ⟨rfl, hr, hbt⟩
  obtain ⟨a1, c1, a2, c2, q1, q2, r1, _, r2, _⟩ := hr (by first | trivial | rfl)
  have hB3 : Below w.heap.size w w3 := hbt.to HB0.out (by simp; omega) HB0.out.size
  have d1 := q1.cell 0 _ rfl
  have d2 := q2.cell 0 _ rfl
  obtain ⟨ga, oa, rfl, _, hc0⟩ := r1.at (show 0 < 2 by omega)
  obtain ⟨ga', oa', e', _, hc1⟩ := r1.at (show 1 < 2 by omega)
  obtain ⟨rfl, rfl⟩ : ga = ga' ∧ oa = oa' := by simpa using e'
  obtain ⟨gb, ob, rfl, _, hd0⟩ := r2.at (show 0 < 2 by omega)
  obtain ⟨gb', ob', e2, _, hd1⟩ := r2.at (show 1 < 2 by omega)
  obtain ⟨rfl, rfl⟩ : gb = gb' ∧ ob = ob' := by simpa using e2
  have p0 : w3.cell? ⟨ga, oa, none⟩ = some (.int .i64 0) := by have := hc0 0 (by omega); simpa [lnV, spkL] using this
  have p1 : w3.cell? ⟨ga, oa + 1, none⟩ = some (.int .i64 2) := by have := hc0 1 (by omega); simpa [lnV, spkL] using this
  have p2 : w3.cell? ⟨ga, oa + 2, none⟩ = some (.int .i64 65) := by have := hc0 2 (by omega); simpa [lnV, spkL] using this
  have p3 : w3.cell? ⟨ga, oa + 3, none⟩ = some (.int .i64 4) := by have := hc0 3 (by omega); simpa [lnV, spkL] using this
  have p4 : w3.cell? ⟨ga, oa + 4, none⟩ = some (.int .i64 2) := by have := hc1 0 (by omega); simpa [lnV, spkL] using this
  have p5 : w3.cell? ⟨ga, oa + 4 + 1, none⟩ = some (.int .i64 3) := by have := hc1 1 (by omega); simpa [lnV, spkL] using this
  have p6 : w3.cell? ⟨ga, oa + 4 + 2, none⟩ = some (.int .i64 30) := by have := hc1 2 (by omega); simpa [lnV, spkL] using this
  have p7 : w3.cell? ⟨ga, oa + 4 + 3, none⟩ = some (.int .i64 9) := by have := hc1 3 (by omega); simpa [lnV, spkL] using this
  have s0 : w3.cell? ⟨gb, ob, none⟩ = some (.int .i64 0) := by simpa using hd0
  have s1 : w3.cell? ⟨gb, ob + 1, none⟩ = some (.int .i64 41) := by simpa using hd1
  clear TR hr hbt q1 q2 r1 r2 hc0 hc1 hd0 hd1 e' e2 eW hz0
  go_wp2_with fail
  go_ret
  exact ⟨rfl, hB3⟩
end Go.Proofs.Ythofammjbicogaa
