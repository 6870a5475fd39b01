/-
  Main of nothing; the law FlexboxMains.
-/
import Derived.Test.YthofammjbicogaaYFlP
import Derived.Test.YthofammjbicogaaZ9
namespace Go.Proofs.Ythofammjbicogaa
open Go.RowKit
set_option linter.unusedSimpArgs false
set_option linter.unusedVariables false

set_option maxRecDepth 100000 in
set_option maxHeartbeats 1600000 in
theorem flx_main0 (ao : Option Addr) (cap : Nat) (vb : Value) (avail gap way : Int) (w : World) :
    Calls Try.prog 37 #[.slice ao 0 cap, vb, .int .i64 avail, .int .i64 gap, .int .i64 way] w fun e w' => e = .returned (.tuple #[.slice none 0 0, .slice none 0 0]) ∧ w' = w := by
  go_enter Try.func37, Try.ntmps37
  go_wp2_with fail
  go_ret2
  exact ⟨rfl, rfl⟩
set_option maxRecDepth 100000 in
set_option maxHeartbeats 1600000 in
theorem ref20_main0 (ao : Option Addr) (cap : Nat) (vb : Value) (avail gap way : Int) (hl : Lim [] 0 avail gap) (w : World) :
    Calls Try.prog 38 #[.slice ao 0 cap, vb, .int .i64 avail, .int .i64 gap, .int .i64 way] w fun e w' => e = .returned (.tuple #[.slice none 0 0, .slice none 0 0]) ∧ Below w.heap.size w w' := by
  obtain ⟨j0, ji, jz0, jz1, jz2⟩ := info_parts (show (Try.prog.info? 66).map (fun i => (i.zero, i.size, i.bytes)) = some (some (.agg #[.int .i64 0, .int .i64 0]), 2, 16) by kernel_rfl)
  have RM := fun W => ref20_room ao 0 cap [] avail gap hl W (RowI.nil _ _)
  obtain ⟨F, eF⟩ : ∃ F, roomV [] avail gap 0 = F := ⟨_, rfl⟩
  have eFz : ∀ W : World, True := fun _ => trivial
  rw [eF] at RM
  clear hl eF eFz
  go_enter Try.func38, Try.ntmps38
  go_wp2_with fail
  refine (RM _).mono ?_
  rintro e w1 ⟨rfl, hB⟩
  clear RM
  go_wp2_with fail
  go_loopg [13, 14] 0 (fun gk s13 s14 wr => s13 = .int .i64 0 ∧ s14 = .int .i64 0 ∧ Below w.heap.size w wr)
  case atStart => exact ⟨rfl, rfl, hB⟩
  case round =>
    clear hB
    obtain ⟨rfl, rfl, hB⟩ := hrel
    go_wp2_with (at_make; refine wpList_make_full _ rfl _ _ 62 rfl wr.heap.size 66 j0 (.agg #[.int .i64 0, .int .i64 0]) 2 Try.underlying62 ji jz0 jz1 _ _ _ _ 0 rfl rfl rfl rfl (by rw [jz2]; omega) (by unfold maxLen; omega) (Nat.le_refl _) ?_)
    intro w2 hown hgr
    have hb2 : Below wr.heap.size wr w2 := (Below.refl _ wr).grown hgr (Nat.le_refl _) (fun _ h => by cases h)
    have hB2 := hB.trans (hb2.mono hB.size)
    clear hown hgr
    go_wp2_with fail
    go_ret2
    exact ⟨rfl, hB2⟩
theorem SlB.below {w w' : World} {v : Value} {m : Nat} {bs : List Bool} (h : SlB w v m bs) (hb : Below w.heap.size w w') : SlB w' v m bs := by
  refine ⟨h.1, ?_⟩
  rcases h.2 with h | ⟨g, off, cap, h1, h2, h3, h5, h4⟩
  · exact .inl h
  · exact .inr ⟨g, off, cap, h1, h2, h3, Nat.lt_of_lt_of_le h5 hb.size, h4.below hb⟩
/-- What Main leaves, of however many things. -/
def MnAll (k : Nat) (L ms : List Int) (w : World) (e : Ending) (w' : World) : Prop :=
  ∃ a1 c1 a2 c2, e = .returned (.tuple #[.slice a1 k c1, .slice a2 k c2]) ∧ RowI w' a1 k L ∧ (∀ g off, a1 = some ⟨g, off, none⟩ → w.heap.size ≤ g) ∧ RowV w' a2 k 2 (i64s ms) ∧ (∀ g off, a2 = some ⟨g, off, none⟩ → w.heap.size ≤ g) ∧ Below w.heap.size w w'
theorem BlkM.row {W : World} {g k : Nat} {ms : List Int} (h : BlkM W g ms) (hl : ms.length = k * 2) : RowV W (some ⟨g, 0, none⟩) k 2 (i64s ms) := by
  refine ⟨by simp [i64s, hl], fun _ => ⟨g, 0, rfl, h.lt, fun i hi => ?_⟩⟩
  rw [Nat.zero_add, BlkM.cell h (by omega)]
  have : i < ms.length := by omega
  simp [i64s, List.getD, this]
theorem MnAll.of {k : Nat} {L ms : List Int} {w : World} {e : Ending} {w' : World} (h : MnOut k L ms w e w') (hl : ms.length = k * 2) : MnAll k L ms w e w' := by
  obtain ⟨a1, c1, g2, h1, h2, h3, h4, h5, h6⟩ := h
  exact ⟨a1, c1, _, _, h1, h3, h4, h5.row hl, fun g off e => by
    obtain ⟨rfl, _⟩ : g2 = g ∧ 0 = off := by simpa using e
    exact h2, h6⟩
theorem MnAll.void {L ms : List Int} {w : World} {e : Ending} {w' : World} (h : e = .returned (.tuple #[.slice none 0 0, .slice none 0 0])) (hL : L = []) (hm : ms = []) (hb : Below w.heap.size w w') : MnAll 0 L ms w e w' := by
  subst hL hm
  exact ⟨none, 0, none, 0, h, RowI.nil _ _, (fun _ _ e => by cases e), RowV.nil _ _ _, (fun _ _ e => by cases e), hb⟩
theorem mnMs_len (xs : List Int) (bs : List Bool) (k : Nat) (av gp : Int) : (mnMs xs bs k av gp).length = k * 2 := mgF_len _ _ _
theorem mnMs_nil (xs : List Int) (bs : List Bool) (av gp : Int) : mnMs xs bs 0 av gp = [] := List.eq_nil_of_length_eq_zero (by rw [mnMs_len])
theorem mnAt_nil (xs : List Int) (bs : List Bool) (av gp way : Int) : mnAt xs bs 0 av gp way = [] := by
  unfold mnAt
  split <;> rfl
theorem flx_main_all (ao ba : Option Addr) (k cap m bc : Nat) (xs : List Int) (bs : List Bool) (avail gap way : Int) (hl : Lim xs k avail gap) (hm : m ≤ 100) (hbs : bs.length = m * 2) (w : World) (hx : RowI w ao k xs) (hr : RowV w ba m 2 (bools bs)) :
    Calls Try.prog 37 #[.slice ao k cap, .slice ba m bc, .int .i64 avail, .int .i64 gap, .int .i64 way] w (MnAll k (mnAt xs bs k avail gap way) (mnMs xs bs k avail gap) w) := by
  by_cases h : 1 ≤ k
  · exact (flx_main ao ba k cap m bc xs bs avail gap way hl h hm hbs w hx hr).mono fun e w' h => MnAll.of h (mnMs_len _ _ _ _ _)
  · obtain rfl : k = 0 := by omega
    exact (flx_main0 ao cap _ avail gap way w).mono fun e w' h => MnAll.void h.1 (mnAt_nil _ _ _ _ _) (mnMs_nil _ _ _ _) (by rw [h.2]; exact Below.refl _ _)
theorem ref20_main_all (ao ba : Option Addr) (k cap m bc : Nat) (xs : List Int) (bs : List Bool) (avail gap way : Int) (hl : Lim xs k avail gap) (hm : m ≤ 100) (hbs : bs.length = m * 2) (w : World) (hx : RowI w ao k xs) (hr : RowV w ba m 2 (bools bs)) :
    Calls Try.prog 38 #[.slice ao k cap, .slice ba m bc, .int .i64 avail, .int .i64 gap, .int .i64 way] w (MnAll k (mnAt xs bs k avail gap way) (mnMs xs bs k avail gap) w) := by
  by_cases h : 1 ≤ k
  · exact (ref20_main ao ba k cap m bc xs bs avail gap way hl h hm hbs w hx hr).mono fun e w' h => MnAll.of h (mnMs_len _ _ _ _ _)
  · obtain rfl : k = 0 := by omega
    obtain rfl : xs = [] := List.eq_nil_of_length_eq_zero hx.1
    exact (ref20_main0 ao cap _ avail gap way hl w).mono fun e w' h => MnAll.void h.1 (mnAt_nil _ _ _ _ _) (mnMs_nil _ _ _ _) h.2
def MnRel2 (b1 b2 k : Nat) (L ms : List Int) (B : Nat) (W : World) : Prop :=
  ∃ a1 c1 a2 c2, Blk W b1 #[.slice a1 k c1] 31 ∧ Blk W b2 #[.slice a2 k c2] 62 ∧ RowI W a1 k L ∧ (∀ g off, a1 = some ⟨g, off, none⟩ → B < g) ∧ RowV W a2 k 2 (i64s ms) ∧ (∀ g off, a2 = some ⟨g, off, none⟩ → B < g)
theorem MnRel2.but {b1 b2 k : Nat} {L ms : List Int} {B : Nat} {W W' : World} (h : MnRel2 b1 b2 k L ms B W) (hb : But B W W') (h1 : b1 < B) (h2 : b2 < B) : MnRel2 b1 b2 k L ms B W' := by
  obtain ⟨a1, c1, a2, c2, q1, q2, q3, q4, q5, q6⟩ := h
  exact ⟨a1, c1, a2, c2, q1.but hb (by omega), q2.but hb (by omega), q3.but hb (fun g off e => by have := q4 g off e; omega), q4, q5.but hb (fun g off e => by have := q6 g off e; omega), q6⟩
set_option maxRecDepth 100000 in
set_option maxHeartbeats 1600000 in
theorem mains1 (b0 b1 b2 : Nat) (ao ba : Option Addr) (k cap m bc : Nat) (xs : List Int) (bs : List Bool) (av gp way : Int) (kn si : Bool) (hl : Lim xs k av gp) (hm : m ≤ 100) (hbs : bs.length = m * 2) (W : World) (hx : RowI W ao k xs) (hr : RowV W ba m 2 (bools bs))
    (h12 : b1 ≠ b2) (v1 v2 : Value) (h0 : Blk W b0 #[.slice ao k cap, .slice ba m bc, .int .i64 av, .int .i64 gp, .int .i64 way, .bool kn, .bool si] 60) (h1 : Blk W b1 #[v1] 31) (h2 : Blk W b2 #[v2] 62) (B : Nat) (hB : B < W.heap.size) (l1 : b1 ≤ B) (l2 : b2 ≤ B) :
    Calls Try.prog 36 #[.pointer (some ⟨b0, 0, none⟩), .pointer (some ⟨b1, 0, none⟩), .pointer (some ⟨b2, 0, none⟩)] W fun e W' => e = .returned (.tuple #[]) ∧ MnRel2 b1 b2 k (mnAt xs bs k av gp way) (mnMs xs bs k av gp) B W' ∧ ButL [b1, b2] W W' := by
  have MN := fun W hx' hr' => flx_main_all ao ba k cap m bc xs bs av gp way hl hm hbs W hx' hr'
  obtain ⟨L, eL⟩ : ∃ L, mnAt xs bs k av gp way = L := ⟨_, rfl⟩
  obtain ⟨ms, ems⟩ : ∃ L, mnMs xs bs k av gp = L := ⟨_, rfl⟩
  rw [eL, ems] at MN ⊢
  obtain ⟨Q, eQ⟩ : ∃ Q : Ending → World → Prop, Q = fun e W' => e = .returned (.tuple #[]) ∧ MnRel2 b1 b2 k L ms B W' ∧ ButL [b1, b2] W W' := ⟨_, rfl⟩
  rw [← eQ]
  have EQ := Lib.hid eQ
  have HX := Lib.hid hx
  have HR := Lib.hid hr
  have H1 := Lib.hid h1
  have H2 := Lib.hid h2
  have c0 := h0.cell 0 _ rfl
  have c1 := h0.cell 1 _ rfl
  have c2 := h0.cell 2 _ rfl
  have c3 := h0.cell 3 _ rfl
  have c4 := h0.cell 4 _ rfl
  have h21 : b2 ≠ b1 := fun e => h12 e.symm
  clear eQ hx hr h0 h1 h2 hl eL ems
  go_enter Try.func36, Try.ntmps36
  go_wp2_with fail
  refine (MN _ HX.out HR.out).mono ?_
  rintro e w1 ⟨a1, c1', a2, c2', rfl, x1, f1, x2, f2, hb⟩
  have q1 := H1.out.below hb
  have q2 := H2.out.below hb
  have d1 := q1.cell 0 _ rfl
  have d2 := q2.cell 0 _ rfl
  have g1 := q1.free 0
  have g2 := q2.free 0
  have hR : MnRel2 b1 b2 k L ms B ((w1.setCell ⟨b1, 0, none⟩ (.slice a1 k c1')).setCell ⟨b2, 0, none⟩ (.slice a2 k c2')) := by
    refine ⟨a1, c1', a2, c2', (q1.set 0 _).other h12 _ _, (q2.other h21 _ _).set 0 _, (x1.but (But.set _ _ _) ?_).but (But.set _ _ _) ?_, ?_, (x2.but (But.set _ _ _) ?_).but (But.set _ _ _) ?_, ?_⟩
    · intro g off e; have := f1 g off e; omega
    · intro g off e; have := f1 g off e; omega
    · intro g off e; have := f1 g off e; omega
    · intro g off e; have := f2 g off e; omega
    · intro g off e; have := f2 g off e; omega
    · intro g off e; have := f2 g off e; omega
  have hBt : ButL [b1, b2] W ((w1.setCell ⟨b1, 0, none⟩ (.slice a1 k c1')).setCell ⟨b2, 0, none⟩ (.slice a2 k c2')) :=
    ((ButL.of hb).trans (ButL.set _ _ _ (by simp))).trans (ButL.set _ _ _ (by simp))
  have HR2 := Lib.hid hR
  have HT := Lib.hid hBt
  clear hR hBt q1 q2 x1 f1 x2 f2 hb MN
  go_wp2_with fail
  go_end0
  rw [EQ.out]
  exact ⟨rfl, HR2.out, HT.out⟩
set_option maxRecDepth 100000 in
set_option maxHeartbeats 3200000 in
theorem law_mains (ao : Option Addr) (k0 cap m0 : Nat) (vb : Value) (xs : List Int) (bs : List Bool) (av gp way : Int) (kn si : Bool) (hk0 : k0 ≤ maxLen) (hav : IFit av) (hgp : IFit gp) (w : World) (hx : RowI w ao k0 xs) (hb : SlB w vb m0 bs) :
    Calls Try.prog 7 #[.agg #[.slice ao k0 cap, vb, .int .i64 av, .int .i64 gp, .int .i64 way, .bool kn, .bool si]] w fun e w' => e = .returned (.bool true) ∧ Below w.heap.size w w' := by
  have hmf : ∀ (fn : Fn) (first cap : Array Value) (w : World), (Instr.makeFunc fn first cap).run Try.prog w = .ok (.func fn first cap) w := fun _ _ _ _ => rfl
  have eqA := eq_arr2
  have CT := fun W hx' hb' => law20_cut ao k0 cap m0 vb xs bs av gp way kn si hk0 hav hgp W hx' hb'
  have HL := cut_lim xs (min k0 30) av gp (by omega)
  have hbl : (bs.take (min m0 40 * 2)).length = min m0 40 * 2 := by rw [List.length_take, hb.1]; omega
  obtain ⟨k, ek⟩ : ∃ k, min k0 30 = k := ⟨_, rfl⟩
  obtain ⟨m, em⟩ : ∃ m, min m0 40 = m := ⟨_, rfl⟩
  have hm : m ≤ 100 := by omega
  have hk : k ≤ 30 := by omega
  rw [ek, em] at CT
  rw [ek] at HL
  rw [em] at hbl
  unfold CutOut at CT
  obtain ⟨ys, eys⟩ : ∃ ys, cutL xs k = ys := ⟨_, rfl⟩
  obtain ⟨cs, ecs⟩ : ∃ ys, bs.take (m * 2) = ys := ⟨_, rfl⟩
  obtain ⟨a2, ea2⟩ : ∃ y, av.tmod 1099511627776 = y := ⟨_, rfl⟩
  obtain ⟨g2, eg2⟩ : ∃ y, gp.tmod 1073741824 = y := ⟨_, rfl⟩
  rw [eys, ecs, ea2, eg2] at CT
  rw [eys, ea2, eg2] at HL
  rw [ecs] at hbl
  have HX := Lib.hid hx
  have HB := Lib.hid hb
  have HLL := Lib.hid HL
  have HBL := Lib.hid hbl
  clear eys ecs ea2 eg2 ek em hx hb hav hgp hk0 HL hbl
  have t0 := Blk.new w #[.slice ao k0 cap, vb, .int .i64 av, .int .i64 gp, .int .i64 way, .bool kn, .bool si] 60 _ rfl
  have hB0 : Below w.heap.size w (w.alloc (.cells #[.slice ao k0 cap, vb, .int .i64 av, .int .i64 gp, .int .i64 way, .bool kn, .bool si] 60)) := (by repeat' (first | (with_reducible exact Below.refl _ _) | (with_reducible assumption) | (with_reducible refine below_alloc ?_ _ ?_) | (with_reducible refine below_set _ ?_ ?_) | (with_reducible refine Below.drew ?_) | (with_reducible refine below_dN ?_ _) | (apply below_thenA; assumption) | omega | (simp; done) | (simp; omega) | (simp [*]; done)))
  have T0 := Lib.hid t0
  have HB0 := Lib.hid hB0
  clear t0 hB0
  go_enter Try.func7, Try.ntmps7
  go_wp2_with fail
  refine (speaks20 _).mono ?_
  rintro e w1 ⟨rfl, hb⟩
  have t1 := T0.out.below hb
  have hB := HB0.out.trans (hb.mono HB0.out.size)
  have c0 := t1.cell 0 _ rfl
  have c1 := t1.cell 1 _ rfl
  have c2 := t1.cell 2 _ rfl
  have c3 := t1.cell 3 _ rfl
  have c4 := t1.cell 4 _ rfl
  have c5 := t1.cell 5 _ rfl
  have c6 := t1.cell 6 _ rfl
  have T1 := Lib.hid t1
  clear hb t1
  go_wp2_with fail
  refine (CT _ (HX.out.below hB) (HB.out.below hB)).mono ?_
  rintro e w2 ⟨aj, cj, ba, bc, rfl, hr1, hr2, hfj, ⟨cv, hvb⟩, hb⟩
  have hlw1 := T1.out.lt
  have hfj2 : ∀ g off, aj = some ⟨g, off, none⟩ → g ≠ w.heap.size := fun g off e => by have := hfj g off e; omega
  have hfb2 : ∀ g off, ba = some ⟨g, off, none⟩ → g ≠ w.heap.size := fun g off e => by
    rcases HB.out.2 with ⟨h, _⟩ | ⟨g', off', c', h, _, _, hlt, _⟩
    · rw [hvb, e] at h; simp at h
    · rw [hvb, e] at h
      obtain ⟨⟨rfl, rfl⟩, rfl⟩ : (g = g' ∧ off = off') ∧ cv = c' := by simpa using h
      omega
  have HFJ := Lib.hid hfj2
  have HFB := Lib.hid hfb2
  clear hfj hfj2 hfb2 hvb
  have t1 := T1.out.below hb
  have hB2 := hB.trans (hb.mono hB.size)
  clear hb hB CT c0 c1 c2 c3 c4 c5 c6
  have c0 := t1.cell 0 _ rfl
  have c1 := t1.cell 1 _ rfl
  have c2 := t1.cell 2 _ rfl
  have c3 := t1.cell 3 _ rfl
  have c4 := t1.cell 4 _ rfl
  have c5 := t1.cell 5 _ rfl
  have c6 := t1.cell 6 _ rfl
  have f0 := t1.free 0
  have f1 := t1.free 1
  have f2 := t1.free 2
  have f3 := t1.free 3
  have f4 := t1.free 4
  have f5 := t1.free 5
  have f6 := t1.free 6
  have k1 := blk7 t1 (.slice aj k cj) (.slice ba m bc) (.int .i64 a2) (.int .i64 g2) (.int .i64 way) (.bool kn) (.bool si)
  have hY := but7 (X := w2) (b := w.heap.size) (.slice aj k cj) (.slice ba m bc) (.int .i64 a2) (.int .i64 g2) (.int .i64 way) (.bool kn) (.bool si)
  have hbX := hY.to hB2 (Nat.le_refl _) hB2.size
  have hx3 := hr1.but hY (fun g off e => HFJ.out g off e)
  have hy3 := hr2.but hY (fun g off e => HFB.out g off e)
  go_upto_region 4 with (fail)
  generalize ((((((w2.setCell ⟨w.heap.size, 0, none⟩ (.slice aj k cj)).setCell ⟨w.heap.size, 1, none⟩ (.slice ba m bc)).setCell ⟨w.heap.size, 2, none⟩ (.int .i64 a2)).setCell ⟨w.heap.size, 3, none⟩ (.int .i64 g2)).setCell ⟨w.heap.size, 4, none⟩ (.int .i64 way)).setCell ⟨w.heap.size, 5, none⟩ (.bool kn)).setCell ⟨w.heap.size, 6, none⟩ (.bool si) = X at k1 hY hbX hx3 hy3 ⊢
  have hlX := k1.lt
  have p1 : Blk ((X.alloc (.cells #[.slice none 0 0] 31)).alloc (.cells #[.slice none 0 0] 62)) X.heap.size #[.slice none 0 0] 31 := (Blk.new X _ _ _ rfl).alloc _
  have p2 : Blk ((X.alloc (.cells #[.slice none 0 0] 31)).alloc (.cells #[.slice none 0 0] 62)) (X.heap.size + 1) #[.slice none 0 0] 62 := Blk.new _ _ _ _ (by simp)
  have hbn : Below X.heap.size X ((X.alloc (.cells #[.slice none 0 0] 31)).alloc (.cells #[.slice none 0 0] 62)) := (by repeat' (first | (with_reducible exact Below.refl _ _) | (with_reducible assumption) | (with_reducible refine below_alloc ?_ _ ?_) | (with_reducible refine below_set _ ?_ ?_) | (with_reducible refine Below.drew ?_) | (with_reducible refine below_dN ?_ _) | (apply below_thenA; assumption) | omega | (simp; done) | (simp; omega) | (simp [*]; done)))
  have hzn : ((X.alloc (.cells #[.slice none 0 0] 31)).alloc (.cells #[.slice none 0 0] 62)).heap.size = X.heap.size + 2 := by simp
  obtain ⟨W0, eW⟩ : ∃ W0, (X.alloc (.cells #[.slice none 0 0] 31)).alloc (.cells #[.slice none 0 0] 62) = W0 := ⟨_, rfl⟩
  rw [eW] at p1 p2 hbn hzn
  have k0' := k1.below hbn
  have hx0 := hx3.below hbn
  have hy0 := hy3.below hbn
  have hB0 := hbX.trans (hbn.mono hbX.size)
  have TR := try_rel 36 #[.pointer (some ⟨w.heap.size, 0, none⟩), .pointer (some ⟨X.heap.size, 0, none⟩), .pointer (some ⟨X.heap.size + 1, 0, none⟩)] 0 [X.heap.size, X.heap.size + 1] W0 (MnRel2 X.heap.size (X.heap.size + 1) k (mnAt ys cs k a2 g2 way) (mnMs ys cs k a2 g2) W0.heap.size)
    (fun b hb => by simp at hb; omega) (fun W W' h hb => h.but hb (by omega) (by omega)) (fun w => enters_of Try.func36 (by kernel_rfl) rfl _ w)
    (fun W hb hlt => (mains1 w.heap.size X.heap.size (X.heap.size + 1) aj ba k cj m bc ys cs a2 g2 way kn si HLL.out hm HBL.out W (hx0.below hb) (hy0.below hb) (by omega) _ _ (k0'.below hb) (p1.below hb) (p2.below hb) W0.heap.size hlt (by omega) (by omega)).mono fun e W' h => ⟨fun _ => ⟨h.1, h.2.1⟩, fun h => absurd rfl h, h.2.2⟩)
  have RM := fun W hx' hy' => ref20_main_all aj ba k cj m bc ys cs a2 g2 way HLL.out hm HBL.out W hx' hy'
  obtain ⟨L, eL⟩ : ∃ L, mnAt ys cs k a2 g2 way = L := ⟨_, rfl⟩
  have hms := mnMs_len ys cs k a2 g2
  obtain ⟨ms, ems⟩ : ∃ L, mnMs ys cs k a2 g2 = L := ⟨_, rfl⟩
  rw [eL, ems] at TR RM
  rw [ems] at hms
  have HMS := Lib.hid hms
  have K0 := Lib.hid k0'
  have HX3 := Lib.hid hx3
  have HY3 := Lib.hid hy3
  have HBN := Lib.hid hbn
  have HB0 := Lib.hid hB0
  clear k1 hY hbX hx3 hy3 p1 p2 hbn t1 hB2 c0 c1 c2 c3 c4 c5 c6 f0 f1 f2 f3 f4 f5 f6 hr1 hr2 k0' hx0 hy0 hB0 hms eL ems
  go_wp2_with fail
  refine TR.mono ?_
  rintro e w3 ⟨rfl, hr, hbt⟩
  obtain ⟨a1, c1', a2', c2', q1, q2, q3, q4, q5, q6⟩ := hr (by first | trivial | rfl)
  have hlW0 := K0.out.lt
  have kx := K0.out.butl hbt (by simp; omega)
  have hbX3 : Below X.heap.size X w3 := hbt.to HBN.out (by simp) HBN.out.size
  have hx4 := HX3.out.below hbX3
  have hy4 := HY3.out.below hbX3
  have hB3 : Below w.heap.size w w3 := hbt.to HB0.out (by simp; omega) HB0.out.size
  have c0 := kx.cell 0 _ rfl
  have c1 := kx.cell 1 _ rfl
  have c2 := kx.cell 2 _ rfl
  have c3 := kx.cell 3 _ rfl
  have c4 := kx.cell 4 _ rfl
  have Q1 := Lib.hid q1
  have Q2 := Lib.hid q2
  have Q3 := Lib.hid q3
  have Q5 := Lib.hid q5
  clear TR hr hbt hbX3 kx q1 q2 q3 q5
  go_wp2_with fail
  refine (RM _ hx4 hy4).mono ?_
  rintro e w4 ⟨a3, c3', a4, c4', rfl, r1, _, r2, _, hb⟩
  have q1 := Q1.out.below hb
  have q2 := Q2.out.below hb
  have q3 := Q3.out.below hb
  have q5 := Q5.out.below hb
  have hB4 := hB3.trans (hb.mono hB3.size)
  have d1 := q1.cell 0 _ rfl
  have d2 := q2.cell 0 _ rfl
  have SM := same20 a1 a3 k c1' c3' L (by omega) _ q3 r1
  have QQ2 := Lib.hid q2
  have Q5 := Lib.hid q5
  have R2 := Lib.hid r2
  clear hb hB3 hx4 hy4 RM c0 c1 c2 c3 c4 q1 q2 q3 q5 r1 r2
  go_wp2_with fail
  refine SM.mono ?_
  rintro e w5 ⟨rfl, hb⟩
  have q2 := QQ2.out.below hb
  have d2 := q2.cell 0 _ rfl
  have q5 := Q5.out.below hb
  have r2 := R2.out.below hb
  have hB5 := hB4.trans (hb.mono hB4.size)
  have QQ2 := Lib.hid q2
  have Q5 := Lib.hid q5
  have R2 := Lib.hid r2
  have HB5 := Lib.hid hB5
  clear hb hB4 SM q2 q5 r2 hB5 d1
  go_wp2_with fail
  go_loopg [8] k (fun gk s8 wr => ∃ (j : Nat), j ≤ k ∧ gk = k - j ∧ s8 = .int .i64 ((j : Int)) ∧ Below w5.heap.size w5 wr)
  case atStart => exact ⟨0, by omega, by omega, rfl, Below.refl _ _⟩
  case round =>
    clear d2
    obtain ⟨j, hj, rfl, rfl, hb5⟩ := hrel
    have d2 := (QQ2.out.below hb5).cell 0 _ rfl
    by_cases hjk : j < k
    · have ix : (j : Int) < (k : Int) := by omega
      obtain ⟨g, off, rfl, _, hcx⟩ := (Q5.out.below hb5).at hjk
      obtain ⟨g', off', rfl, _, hcy⟩ := (R2.out.below hb5).at hjk
      have e0 := hcx 0 (by omega)
      have e1 := hcx 1 (by omega)
      have e2 := hcy 0 (by omega)
      have e3 := hcy 1 (by omega)
      have hj2 : j * 2 + 1 < ms.length := by rw [HMS.out]; omega
      have hm0 : (i64s ms)[j * 2 + 0]? = some (.int .i64 (ms.getD (j * 2) 0)) := by simp [i64s, List.getD, show j * 2 < ms.length by omega]
      have hm1 : (i64s ms)[j * 2 + 1]? = some (.int .i64 (ms.getD (j * 2 + 1) 0)) := by simp [i64s, List.getD, hj2]
      rw [hm0, Nat.add_zero] at e0 e2
      rw [hm1] at e1 e3
      obtain ⟨x, ex⟩ : ∃ x, ms.getD (j * 2) 0 = x := ⟨_, rfl⟩
      obtain ⟨y, ey⟩ : ∃ y, ms.getD (j * 2 + 1) 0 = y := ⟨_, rfl⟩
      rw [ex] at e0 e2
      rw [ey] at e1 e3
      clear hcx hcy hm0 hm1 ex ey hj2
      go_wp2_with fail
      go_quiet (fail)
      go_wp2_with fail
      go_roundg (k - (j + 1))
      case measure => omega
      case rel => exact ⟨j + 1, by omega, rfl, by go_num, below_dN hb5 _⟩
    · obtain rfl : j = k := by omega
      have ix : ¬ (j : Int) < (j : Int) := by omega
      go_wp2_with fail
      go_ret
      exact ⟨rfl, HB5.out.trans (hb5.mono HB5.out.size)⟩
end Go.Proofs.Ythofammjbicogaa
