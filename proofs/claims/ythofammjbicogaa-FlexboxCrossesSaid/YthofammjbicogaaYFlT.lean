/-
  The law FlexboxCrosses.
-/
import Derived.Test.YthofammjbicogaaYFlS
import Derived.Test.YthofammjbicogaaYFlQ
namespace Go.Proofs.Ythofammjbicogaa
open Go.RowKit
set_option linter.unusedSimpArgs false
set_option linter.unusedVariables false

theorem stL_nil (f : Nat → Int) : ∀ j, stL [] f j = []
  | 0 => rfl
  | j + 1 => by unfold stL; rw [stL_nil f j]; rfl
theorem crSz_nil (av gp : Int) (kn si : Bool) (ct : Int) : crSz [] 0 av gp kn si ct = [] := by
  unfold crSz
  split
  · split
    · rfl
    · split <;> rfl
  · rfl
theorem crAt_nil (av gp : Int) (kn si : Bool) (ct : Int) : crAt [] 0 av gp kn si ct = [] := by
  unfold crAt
  split
  · rfl
  · split <;> rfl
theorem CrOut.void {LA LS : List Int} {w : World} {e : Ending} {w' : World} (h : e = .returned (.tuple #[.slice none 0 0, .slice none 0 0])) (hA : LA = []) (hS : LS = []) (hb : Below w.heap.size w w') : CrOut 0 LA LS w e w' := by
  subst hA; subst hS
  exact ⟨none, 0, none, 0, h, RowI.nil _ _, fun _ _ h => by simp at h, RowI.nil _ _, fun _ _ h => by simp at h, hb⟩
theorem flx_cross_all (ao : Option Addr) (k cap : Nat) (xs : List Int) (avail gap ct : Int) (kn si : Bool) (hl : Lim xs k avail gap) (hct : IFit ct) (hao : ao = none → cap = 0) (w : World) (hx : RowI w ao k xs) :
    Calls Try.prog 51 #[.slice ao k cap, .int .i64 avail, .int .i64 gap, .bool kn, .bool si, .int .i64 ct] w (CrOut k (crAt xs k avail gap kn si ct) (crSz xs k avail gap kn si ct) w) := by
  by_cases h : 1 ≤ k
  · exact flx_cross ao k cap xs avail gap ct kn si hl h hct w hx
  · obtain rfl : k = 0 := by omega
    obtain rfl : xs = [] := List.eq_nil_of_length_eq_zero hx.1
    exact (flx_cross0 ao cap avail gap ct kn si hao w).mono fun e w' h => CrOut.void h.1 (crAt_nil _ _ _ _ _) (crSz_nil _ _ _ _ _) h.2
theorem ref20_cross_all (ao : Option Addr) (k cap : Nat) (xs : List Int) (avail gap ct : Int) (kn si : Bool) (hl : Lim xs k avail gap) (hct : IFit ct) (hao : ao = none → cap = 0) (w : World) (hx : RowI w ao k xs) :
    Calls Try.prog 52 #[.slice ao k cap, .int .i64 avail, .int .i64 gap, .bool kn, .bool si, .int .i64 ct] w (CrOut k (crAt xs k avail gap kn si ct) (crSz xs k avail gap kn si ct) w) := by
  by_cases h : 1 ≤ k
  · exact ref20_cross ao k cap xs avail gap ct kn si hl h hct w hx
  · obtain rfl : k = 0 := by omega
    obtain rfl : xs = [] := List.eq_nil_of_length_eq_zero hx.1
    exact (ref20_cross0 ao cap avail gap ct kn si hao w).mono fun e w' h => CrOut.void h.1 (crAt_nil _ _ _ _ _) (crSz_nil _ _ _ _ _) h.2
def CrRel (b1 b2 k : Nat) (LA LS : List Int) (B : Nat) (W : World) : Prop :=
  ∃ a1 c1 a2 c2, Blk W b1 #[.slice a1 k c1] 31 ∧ Blk W b2 #[.slice a2 k c2] 31 ∧ RowI W a1 k LA ∧ (∀ g off, a1 = some ⟨g, off, none⟩ → B < g) ∧ RowI W a2 k LS ∧ (∀ g off, a2 = some ⟨g, off, none⟩ → B < g)
theorem CrRel.but {b1 b2 k : Nat} {LA LS : List Int} {B : Nat} {W W' : World} (h : CrRel b1 b2 k LA LS B W) (hb : But B W W') (h1 : b1 < B) (h2 : b2 < B) : CrRel b1 b2 k LA LS B W' := by
  obtain ⟨a1, c1, a2, c2, q1, q2, q3, q4, q5, q6⟩ := h
  exact ⟨a1, c1, a2, c2, q1.but hb (by omega), q2.but hb (by omega), q3.but hb (fun g off e => by have := q4 g off e; omega), q4, q5.but hb (fun g off e => by have := q6 g off e; omega), q6⟩
set_option maxRecDepth 100000 in
set_option maxHeartbeats 1600000 in
theorem crosses1 (b0 b1 b2 : Nat) (ao ba : Option Addr) (k cap m bc : Nat) (xs : List Int) (av gp way : Int) (kn si : Bool) (hl : Lim xs k av gp) (hway : IFit way) (hao : ao = none → cap = 0) (W : World) (hx : RowI W ao k xs)
    (h12 : b1 ≠ b2) (v1 v2 : Value) (h0 : Blk W b0 #[.slice ao k cap, .slice ba m bc, .int .i64 av, .int .i64 gp, .int .i64 way, .bool kn, .bool si] 60) (h1 : Blk W b1 #[v1] 31) (h2 : Blk W b2 #[v2] 31) (B : Nat) (hB : B < W.heap.size) (l1 : b1 ≤ B) (l2 : b2 ≤ B) :
    Calls Try.prog 50 #[.pointer (some ⟨b0, 0, none⟩), .pointer (some ⟨b1, 0, none⟩), .pointer (some ⟨b2, 0, none⟩)] W fun e W' => e = .returned (.tuple #[]) ∧ CrRel b1 b2 k (crAt xs k av gp kn si way) (crSz xs k av gp kn si way) B W' ∧ ButL [b1, b2] W W' := by
  have MN := fun W hx' => flx_cross_all ao k cap xs av gp way kn si hl hway hao W hx'
  obtain ⟨LA, eL⟩ : ∃ L, crAt xs k av gp kn si way = L := ⟨_, rfl⟩
  obtain ⟨LS, ems⟩ : ∃ L, crSz xs k av gp kn si way = L := ⟨_, rfl⟩
  rw [eL, ems] at MN ⊢
  obtain ⟨Q, eQ⟩ : ∃ Q : Ending → World → Prop, Q = fun e W' => e = .returned (.tuple #[]) ∧ CrRel b1 b2 k LA LS B W' ∧ ButL [b1, b2] W W' := ⟨_, rfl⟩
  rw [← eQ]
  have EQ := Lib.hid eQ
  have HX := Lib.hid hx
  have H1 := Lib.hid h1
  have H2 := Lib.hid h2
  have c0 := h0.cell 0 _ rfl
  have c2 := h0.cell 2 _ rfl
  have c3 := h0.cell 3 _ rfl
  have c4 := h0.cell 4 _ rfl
  have c5 := h0.cell 5 _ rfl
  have c6 := h0.cell 6 _ rfl
  have h21 : b2 ≠ b1 := fun e => h12 e.symm
  clear eQ hx h0 h1 h2 hl eL ems
  go_enter Try.func50, Try.ntmps50
  go_wp2_with fail
  refine (MN _ HX.out).mono ?_
  rintro e w1 ⟨a1, c1', a2, c2', rfl, x1, f1, x2, f2, hb⟩
  have q1 := H1.out.below hb
  have q2 := H2.out.below hb
  have d1 := q1.cell 0 _ rfl
  have d2 := q2.cell 0 _ rfl
  have g1 := q1.free 0
  have g2 := q2.free 0
  have hR : CrRel b1 b2 k LA LS B ((w1.setCell ⟨b1, 0, none⟩ (.slice a1 k c1')).setCell ⟨b2, 0, none⟩ (.slice a2 k c2')) := by
    refine ⟨a1, c1', a2, c2', (q1.set 0 _).other h12 _ _, (q2.other h21 _ _).set 0 _, (x1.but (But.set _ _ _) ?_).but (But.set _ _ _) ?_, ?_, (x2.but (But.set _ _ _) ?_).but (But.set _ _ _) ?_, ?_⟩
    · intro g off e; have := f1 g off e; omega
    · intro g off e; have := f1 g off e; omega
    · intro g off e; have := f1 g off e; omega
    · intro g off e; have := f2 g off e; omega
    · intro g off e; have := f2 g off e; omega
    · intro g off e; have := f2 g off e; omega
  have hBt : ButL [b1, b2] W ((w1.setCell ⟨b1, 0, none⟩ (.slice a1 k c1')).setCell ⟨b2, 0, none⟩ (.slice a2 k c2')) :=
    ((ButL.of hb).trans (ButL.set _ _ _ (by simp))).trans (ButL.set _ _ _ (by simp))
  have HR2 := Lib.hid hR
  have HT := Lib.hid hBt
  clear hR hBt q1 q2 x1 f1 x2 f2 hb MN
  go_wp2_with fail
  go_end0
  rw [EQ.out]
  exact ⟨rfl, HR2.out, HT.out⟩
set_option maxRecDepth 100000 in
set_option maxHeartbeats 3200000 in
theorem law_crosses (ao : Option Addr) (k0 cap m0 : Nat) (vb : Value) (xs : List Int) (bs : List Bool) (av gp way : Int) (kn si : Bool) (hk0 : k0 ≤ maxLen) (hav : IFit av) (hgp : IFit gp) (hway : IFit way) (w : World) (hx : RowI w ao k0 xs) (hb : SlB w vb m0 bs) :
    Calls Try.prog 13 #[.agg #[.slice ao k0 cap, vb, .int .i64 av, .int .i64 gp, .int .i64 way, .bool kn, .bool si]] w fun e w' => e = .returned (.bool true) ∧ Below w.heap.size w w' := by
  have hmf : ∀ (fn : Fn) (first cap : Array Value) (w : World), (Instr.makeFunc fn first cap).run Try.prog w = .ok (.func fn first cap) w := fun _ _ _ _ => rfl
  have eqA := eq_arr2
  have CT := fun W hx' hb' => law20_cut ao k0 cap m0 vb xs bs av gp way kn si hk0 hav hgp W hx' hb'
  have HL := cut_lim xs (min k0 30) av gp (by omega)
  have hbl : (bs.take (min m0 40 * 2)).length = min m0 40 * 2 := by rw [List.length_take, hb.1]; omega
  obtain ⟨k, ek⟩ : ∃ k, min k0 30 = k := ⟨_, rfl⟩
  obtain ⟨m, em⟩ : ∃ m, min m0 40 = m := ⟨_, rfl⟩
  have hm : m ≤ 100 := by omega
  have hk : k ≤ 30 := by omega
  rw [ek, em] at CT
  rw [ek] at HL
  rw [em] at hbl
  unfold CutOut at CT
  obtain ⟨ys, eys⟩ : ∃ ys, cutL xs k = ys := ⟨_, rfl⟩
  obtain ⟨cs, ecs⟩ : ∃ ys, bs.take (m * 2) = ys := ⟨_, rfl⟩
  obtain ⟨a2, ea2⟩ : ∃ y, av.tmod 1099511627776 = y := ⟨_, rfl⟩
  obtain ⟨g2, eg2⟩ : ∃ y, gp.tmod 1073741824 = y := ⟨_, rfl⟩
  rw [eys, ecs, ea2, eg2] at CT
  rw [eys, ea2, eg2] at HL
  rw [ecs] at hbl
  have HX := Lib.hid hx
  have HB := Lib.hid hb
  have HLL := Lib.hid HL
  have HBL := Lib.hid hbl
  clear eys ecs ea2 eg2 ek em hx hb hav hgp hk0 HL hbl
  have t0 := Blk.new w #[.slice ao k0 cap, vb, .int .i64 av, .int .i64 gp, .int .i64 way, .bool kn, .bool si] 60 _ rfl
  have hB0 : Below w.heap.size w (w.alloc (.cells #[.slice ao k0 cap, vb, .int .i64 av, .int .i64 gp, .int .i64 way, .bool kn, .bool si] 60)) := (by repeat' (first | (with_reducible exact Below.refl _ _) | (with_reducible assumption) | (with_reducible refine below_alloc ?_ _ ?_) | (with_reducible refine below_set _ ?_ ?_) | (with_reducible refine Below.drew ?_) | (with_reducible refine below_dN ?_ _) | (apply below_thenA; assumption) | omega | (simp; done) | (simp; omega) | (simp [*]; done)))
  have T0 := Lib.hid t0
  have HB0 := Lib.hid hB0
  clear t0 hB0
  go_enter Try.func13, Try.ntmps13
  go_wp2_with fail
  refine (speaks20 _).mono ?_
  rintro e w1 ⟨rfl, hb⟩
  have t1 := T0.out.below hb
  have hB := HB0.out.trans (hb.mono HB0.out.size)
  have c0 := t1.cell 0 _ rfl
  have c1 := t1.cell 1 _ rfl
  have c2 := t1.cell 2 _ rfl
  have c3 := t1.cell 3 _ rfl
  have c4 := t1.cell 4 _ rfl
  have c5 := t1.cell 5 _ rfl
  have c6 := t1.cell 6 _ rfl
  have T1 := Lib.hid t1
  clear hb t1
  go_wp2_with fail
  refine (CT _ (HX.out.below hB) (HB.out.below hB)).mono ?_
  rintro e w2 ⟨aj, cj, ba, bc, rfl, hr1, hr2, hfj, hnc, ⟨cv, hvb⟩, hb⟩
  have hlw1 := T1.out.lt
  have hfj2 : ∀ g off, aj = some ⟨g, off, none⟩ → g ≠ w.heap.size := fun g off e => by have := hfj g off e; omega
  have hfb2 : ∀ g off, ba = some ⟨g, off, none⟩ → g ≠ w.heap.size := fun g off e => by
    rcases HB.out.2 with ⟨h, _⟩ | ⟨g', off', c', h, _, _, hlt, _⟩
    · rw [hvb, e] at h; simp at h
    · rw [hvb, e] at h
      obtain ⟨⟨rfl, rfl⟩, rfl⟩ : (g = g' ∧ off = off') ∧ cv = c' := by simpa using h
      omega
  have HFJ := Lib.hid hfj2
  have HFB := Lib.hid hfb2
  clear hfj hfj2 hfb2 hvb
  have t1 := T1.out.below hb
  have hB2 := hB.trans (hb.mono hB.size)
  clear hb hB CT c0 c1 c2 c3 c4 c5 c6
  have c0 := t1.cell 0 _ rfl
  have c1 := t1.cell 1 _ rfl
  have c2 := t1.cell 2 _ rfl
  have c3 := t1.cell 3 _ rfl
  have c4 := t1.cell 4 _ rfl
  have c5 := t1.cell 5 _ rfl
  have c6 := t1.cell 6 _ rfl
  have f0 := t1.free 0
  have f1 := t1.free 1
  have f2 := t1.free 2
  have f3 := t1.free 3
  have f4 := t1.free 4
  have f5 := t1.free 5
  have f6 := t1.free 6
  have k1 := blk7 t1 (.slice aj k cj) (.slice ba m bc) (.int .i64 a2) (.int .i64 g2) (.int .i64 way) (.bool kn) (.bool si)
  have hY := but7 (X := w2) (b := w.heap.size) (.slice aj k cj) (.slice ba m bc) (.int .i64 a2) (.int .i64 g2) (.int .i64 way) (.bool kn) (.bool si)
  have hbX := hY.to hB2 (Nat.le_refl _) hB2.size
  have hx3 := hr1.but hY (fun g off e => HFJ.out g off e)
  have hy3 := hr2.but hY (fun g off e => HFB.out g off e)
  go_upto_region 4 with (fail)
  generalize ((((((w2.setCell ⟨w.heap.size, 0, none⟩ (.slice aj k cj)).setCell ⟨w.heap.size, 1, none⟩ (.slice ba m bc)).setCell ⟨w.heap.size, 2, none⟩ (.int .i64 a2)).setCell ⟨w.heap.size, 3, none⟩ (.int .i64 g2)).setCell ⟨w.heap.size, 4, none⟩ (.int .i64 way)).setCell ⟨w.heap.size, 5, none⟩ (.bool kn)).setCell ⟨w.heap.size, 6, none⟩ (.bool si) = X at k1 hY hbX hx3 hy3 ⊢
  have hlX := k1.lt
  have p1 : Blk ((X.alloc (.cells #[.slice none 0 0] 31)).alloc (.cells #[.slice none 0 0] 31)) X.heap.size #[.slice none 0 0] 31 := (Blk.new X _ _ _ rfl).alloc _
  have p2 : Blk ((X.alloc (.cells #[.slice none 0 0] 31)).alloc (.cells #[.slice none 0 0] 31)) (X.heap.size + 1) #[.slice none 0 0] 31 := Blk.new _ _ _ _ (by simp)
  have hbn : Below X.heap.size X ((X.alloc (.cells #[.slice none 0 0] 31)).alloc (.cells #[.slice none 0 0] 31)) := (by repeat' (first | (with_reducible exact Below.refl _ _) | (with_reducible assumption) | (with_reducible refine below_alloc ?_ _ ?_) | (with_reducible refine below_set _ ?_ ?_) | (with_reducible refine Below.drew ?_) | (with_reducible refine below_dN ?_ _) | (apply below_thenA; assumption) | omega | (simp; done) | (simp; omega) | (simp [*]; done)))
  have hzn : ((X.alloc (.cells #[.slice none 0 0] 31)).alloc (.cells #[.slice none 0 0] 31)).heap.size = X.heap.size + 2 := by simp
  obtain ⟨W0, eW⟩ : ∃ W0, (X.alloc (.cells #[.slice none 0 0] 31)).alloc (.cells #[.slice none 0 0] 31) = W0 := ⟨_, rfl⟩
  rw [eW] at p1 p2 hbn hzn
  have k0' := k1.below hbn
  have hx0 := hx3.below hbn
  have hy0 := hy3.below hbn
  have hB0 := hbX.trans (hbn.mono hbX.size)
  have TR := try_rel 50 #[.pointer (some ⟨w.heap.size, 0, none⟩), .pointer (some ⟨X.heap.size, 0, none⟩), .pointer (some ⟨X.heap.size + 1, 0, none⟩)] 0 [X.heap.size, X.heap.size + 1] W0 (CrRel X.heap.size (X.heap.size + 1) k (crAt ys k a2 g2 kn si way) (crSz ys k a2 g2 kn si way) W0.heap.size)
    (fun b hb => by simp at hb; omega) (fun W W' h hb => h.but hb (by omega) (by omega)) (fun w => enters_of Try.func50 (by kernel_rfl) rfl _ w)
    (fun W hb hlt => (crosses1 w.heap.size X.heap.size (X.heap.size + 1) aj ba k cj m bc ys a2 g2 way kn si HLL.out hway hnc W (hx0.below hb) (by omega) _ _ (k0'.below hb) (p1.below hb) (p2.below hb) W0.heap.size hlt (by omega) (by omega)).mono fun e W' h => ⟨fun _ => ⟨h.1, h.2.1⟩, fun h => absurd rfl h, h.2.2⟩)
  have RM := fun W hx' => ref20_cross_all aj k cj ys a2 g2 way kn si HLL.out hway hnc W hx'
  obtain ⟨L, eL⟩ : ∃ L, crAt ys k a2 g2 kn si way = L := ⟨_, rfl⟩
  obtain ⟨ms, ems⟩ : ∃ L, crSz ys k a2 g2 kn si way = L := ⟨_, rfl⟩
  rw [eL, ems] at TR RM
  have K0 := Lib.hid k0'
  have HX3 := Lib.hid hx3
  have HY3 := Lib.hid hy3
  have HBN := Lib.hid hbn
  have HB0 := Lib.hid hB0
  clear k1 hY hbX hx3 hy3 p1 p2 hbn t1 hB2 c0 c1 c2 c3 c4 c5 c6 f0 f1 f2 f3 f4 f5 f6 hr1 hr2 k0' hx0 hy0 hB0 eL ems
  go_wp2_with fail
  refine TR.mono ?_
  rintro e w3 ⟨rfl, hr, hbt⟩
  obtain ⟨a1, c1', a2', c2', q1, q2, q3, q4, q5, q6⟩ := hr (by first | trivial | rfl)
  have hlW0 := K0.out.lt
  have kx := K0.out.butl hbt (by simp; omega)
  have hbX3 : Below X.heap.size X w3 := hbt.to HBN.out (by simp) HBN.out.size
  have hx4 := HX3.out.below hbX3
  have hy4 := HY3.out.below hbX3
  have hB3 : Below w.heap.size w w3 := hbt.to HB0.out (by simp; omega) HB0.out.size
  have c0 := kx.cell 0 _ rfl
  have c1 := kx.cell 1 _ rfl
  have c2 := kx.cell 2 _ rfl
  have c3 := kx.cell 3 _ rfl
  have c4 := kx.cell 4 _ rfl
  have c5 := kx.cell 5 _ rfl
  have c6 := kx.cell 6 _ rfl
  have Q1 := Lib.hid q1
  have Q2 := Lib.hid q2
  have Q3 := Lib.hid q3
  have Q5 := Lib.hid q5
  clear TR hr hbt hbX3 kx q1 q2 q3 q5
  go_wp2_with fail
  refine (RM _ hx4).mono ?_
  rintro e w4 ⟨a3, c3', a4, c4', rfl, r1, _, r2, _, hb⟩
  have q1 := Q1.out.below hb
  have q2 := Q2.out.below hb
  have q3 := Q3.out.below hb
  have q5 := Q5.out.below hb
  have hB4 := hB3.trans (hb.mono hB3.size)
  have d1 := q1.cell 0 _ rfl
  have d2 := q2.cell 0 _ rfl
  have SM := fun W h1 h2 => same20 a1 a3 k c1' c3' L (by omega) W h1 h2
  have SM2 := fun W h1 h2 => same20 a2' a4 k c2' c4' ms (by omega) W h1 h2
  have HQ1 := Lib.hid q1
  have HQ2 := Lib.hid q2
  have HQ3 := Lib.hid q3
  have HQ5 := Lib.hid q5
  have HR1 := Lib.hid r1
  have HR2 := Lib.hid r2
  clear hb hB3 hx4 hy4 RM c0 c1 c2 c3 c4 c5 c6 q1 q2 q3 q5 r1 r2
  go_wp2_with fail
  refine (SM _ HQ3.out HR1.out).mono ?_
  rintro e w5 ⟨rfl, hb⟩
  have q2 := HQ2.out.below hb
  have d2 := q2.cell 0 _ rfl
  have q5 := HQ5.out.below hb
  have r2 := HR2.out.below hb
  have hB5 := hB4.trans (hb.mono hB4.size)
  clear hb hB4 SM q2 d1
  go_wp2_with fail
  refine (SM2 _ q5 r2).mono ?_
  rintro e w6 ⟨rfl, hb⟩
  have hB6 := hB5.trans (hb.mono hB5.size)
  clear hb hB5 SM2 q5 r2 d2
  go_wp2_with fail
  go_ret
  exact ⟨rfl, hB6⟩
end Go.Proofs.Ythofammjbicogaa
