/-
  The law LineFills.
-/
import Derived.Test.YthofammjbicogaaYLnJ
namespace Go.Proofs.Ythofammjbicogaa
open Go.RowKit
set_option linter.unusedSimpArgs false
set_option linter.unusedVariables false

theorem RowV.butl {w w' : World} {l : List Nat} {ao : Option Addr} {k s : Nat} {vs : List Value} (h : RowV w ao k s vs) (hb : ButL l w w') (hne : ∀ g off, ao = some ⟨g, off, none⟩ → g ∉ l) : RowV w' ao k s vs := by
  refine ⟨h.1, fun hk => ?_⟩
  obtain ⟨g, off, e, hg, hc⟩ := h.2 hk
  exact ⟨g, off, e, Nat.lt_of_lt_of_le hg hb.size, fun i hi => (World.cell?_of_block (w := w) (a := ⟨g, off + i, none⟩) (hb.block g hg (hne g off e))).trans (hc i hi)⟩
theorem OwnW.lt {w : World} {B : Nat} {T : TypeId} {s k cap : Nat} {ao : Option Addr} {vs : List Value} (h : OwnW w B T s ao k cap vs) : ∀ g off, ao = some ⟨g, off, none⟩ → g < w.heap.size := fun g off e => by
  rcases h.2 with ⟨h1, _⟩ | ⟨g', c', cur, h1, _, hh, _⟩
  · rw [e] at h1; simp at h1
  · rw [e] at h1
    obtain ⟨⟨rfl, _⟩, _⟩ : (g = g' ∧ off = 0) ∧ cap = c' := by simpa using h1
    exact (Array.getElem?_eq_some_iff.1 hh).1
set_option maxRecDepth 100000 in
set_option maxHeartbeats 3200000 in
theorem law_fills (v : Value) (k : Nat) (l : List It) (avail low : Int) (w : World) (hv : ItP w v k l) :
    Calls Try.prog 5 #[v, .int .i64 avail, .int .i64 low] w fun e w' => e = .returned (.bool true) ∧ Below w.heap.size w w' := by
  have hmf : ∀ (fn : Fn) (first cap : Array Value) (w : World), (Instr.makeFunc fn first cap).run Try.prog w = .ok (.func fn first cap) w := fun _ _ _ _ => rfl
  have hk30 : k ≤ 30 := by obtain ⟨_, _, _, _, _, ek, _⟩ := hv; omega
  have hl : l.length = k := by obtain ⟨_, _, _, _, _, _, hl, _⟩ := hv; exact hl
  have hf : ItFit l := by obtain ⟨_, _, _, _, _, _, _, _, hf⟩ := hv; exact hf
  have HV := Lib.hid hv
  have HL := Lib.hid hl
  have HF := Lib.hid hf
  obtain ⟨Wa, eWa⟩ : ∃ W, (w.alloc (.cells #[.int .i64 avail] 2)).alloc (.cells #[.int .i64 low] 2) = W := ⟨_, rfl⟩
  have t4 : Blk Wa w.heap.size #[.int .i64 avail] 2 := by rw [← eWa]; exact (Blk.new w _ _ _ rfl).alloc _
  have t5 : Blk Wa (w.heap.size + 1) #[.int .i64 low] 2 := by rw [← eWa]; exact Blk.new _ _ _ _ (by simp)
  have hBa : Below w.heap.size w Wa := by rw [← eWa]; exact (by repeat' (first | (with_reducible exact Below.refl _ _) | (with_reducible assumption) | (with_reducible refine below_alloc ?_ _ ?_) | (with_reducible refine below_set _ ?_ ?_) | (with_reducible refine Below.drew ?_) | (with_reducible refine below_dN ?_ _) | (apply below_thenA; assumption) | omega | (simp; done) | (simp; omega) | (simp [*]; done)))
  clear hv hl hf
  go_enter Try.func5, Try.ntmps5
  go_wp2_with fail
  refine (speaks13 _).mono ?_
  rintro e w1 ⟨rfl, hb⟩
  have t4 := t4.below hb
  have t5 := t5.below hb
  have hB1 := hBa.trans (hb.mono hBa.size)
  have hs1 := hB1.size
  have BT := law13_both v k l w1 (HV.out.below hB1)
  clear hb hBa eWa
  go_wp2_with fail
  refine BT.mono ?_
  rintro e w2 ⟨a1, c1, a2, c2, rfl, o1, o2, hb⟩
  have k4 := t4.below hb
  have k5 := t5.below hb
  have hB2 := hB1.trans (hb.mono hs1)
  have hs2 := hB2.size
  have hsh := o1.shape
  have l5 := k5.lt
  obtain ⟨Wb, eWb⟩ : ∃ W, (((w2.alloc (.cells #[.slice a1 k c1] 26)).alloc (.cells #[.slice none 0 0] 44)).alloc (.cells #[.int .i64 0] 2)).alloc (.cells #[.int .i64 0] 2) = W := ⟨_, rfl⟩
  have t7 : Blk Wb w2.heap.size #[.slice a1 k c1] 26 := by rw [← eWb]; exact (((Blk.new w2 _ _ _ rfl).alloc _).alloc _).alloc _
  have t9 : Blk Wb (w2.heap.size + 1) #[.slice none 0 0] 44 := by rw [← eWb]; exact ((Blk.new _ _ _ _ (by simp)).alloc _).alloc _
  have t10 : Blk Wb (w2.heap.size + 1 + 1) #[.int .i64 0] 2 := by rw [← eWb]; exact (Blk.new _ _ _ _ (by simp)).alloc _
  have t11 : Blk Wb (w2.heap.size + 1 + 1 + 1) #[.int .i64 0] 2 := by rw [← eWb]; exact Blk.new _ _ _ _ (by simp)
  have hbn : Below w2.heap.size w2 Wb := by rw [← eWb]; exact (by repeat' (first | (with_reducible exact Below.refl _ _) | (with_reducible assumption) | (with_reducible refine below_alloc ?_ _ ?_) | (with_reducible refine below_set _ ?_ ?_) | (with_reducible refine Below.drew ?_) | (with_reducible refine below_dN ?_ _) | (apply below_thenA; assumption) | omega | (simp; done) | (simp; omega) | (simp [*]; done)))
  have hzb : Wb.heap.size = w2.heap.size + 4 := by rw [← eWb]; simp
  have q4 := k4.below hbn
  have q5 := k5.below hbn
  have r1 := o1.row.below hbn
  have r2 := o2.row.below hbn
  have hB3 := hB2.trans (hbn.mono hs2)
  have hr1f := o1.lt
  have hr2f := o2.lt
  have T1 := try_fill w2.heap.size w.heap.size (w.heap.size + 1) (w2.heap.size + 1) a1 k c1 l avail low (by omega) hsh.1 HL.out HF.out Wb r1 t7 q4 q5 t9
  have hfl := fillR_len l avail low
  rw [HL.out] at hfl
  have RF := fun W h => r13_fill a2 k c2 avail low l (by omega) HL.out HF.out W h
  have RL := fun W h => r13_least a2 k c2 l (by omega) HL.out HF.out W h
  have RW : ∀ W, RowV W a2 k 4 (itV l) → Calls Try.prog 31 #[.slice a2 k c2, .int .i64 0, .int .i64 ((k : Int))] W (RwAns (wd l 0 k) W) := fun W h => r13_width a2 k c2 0 k l (by omega) HL.out HF.out (Nat.zero_le _) (Nat.le_refl _) W h
  have RF2 := fun W h => (RF W h).mono fun _ _ x => r13_fill2 x
  have F2 := fun b10 W (hr : RowV W a1 k 4 (itV l)) h7 h10 => fills2 w2.heap.size a1 k c1 l (by omega) hsh.1 HL.out HF.out b10 W hr h7 (.int .i64 0) h10
  have F3 := fun b11 W (hr : RowV W a1 k 4 (itV l)) h7 h11 => fills3 w2.heap.size a1 k c1 l (by omega) hsh.1 HL.out HF.out b11 W hr h7 (.int .i64 0) h11
  have P2 := puts_cells (leastR l)
  have P3 := puts_cells (wd l 0 k)
  obtain ⟨L, eL1⟩ : ∃ L, (fillR l avail low).getD [] = L := ⟨_, rfl⟩
  obtain ⟨cF, ecF⟩ : ∃ c, eL (fillR l avail low) = c := ⟨_, rfl⟩
  obtain ⟨nL, enL⟩ : ∃ c, oN (leastR l) = c := ⟨_, rfl⟩
  obtain ⟨cL, ecL⟩ : ∃ c, oE (leastR l) = c := ⟨_, rfl⟩
  obtain ⟨nW, enW⟩ : ∃ c, oN (wd l 0 k) = c := ⟨_, rfl⟩
  obtain ⟨cW, ecW⟩ : ∃ c, oE (wd l 0 k) = c := ⟨_, rfl⟩
  unfold RwAns at RL RW
  rw [eL1, ecF] at T1 RF2
  rw [eL1] at hfl
  rw [enL, ecL] at RL F2 P2
  rw [enW, ecW] at RW F3 P3
  have R1 := Lib.hid r1
  have R2 := Lib.hid r2
  have K4 := Lib.hid q4
  have K5 := Lib.hid q5
  have K7 := Lib.hid t7
  have K10 := Lib.hid t10
  have K11 := Lib.hid t11
  have HB3 := Lib.hid hB3
  have HR1F := Lib.hid hr1f
  have HR2F := Lib.hid hr2f
  clear hb k4 k5 t4 t5 o1 o2 hB1 hB2 BT RF eL1 ecF enL ecL enW ecW hbn r1 r2 q4 q5 t7 t9 t10 t11 hB3 hr1f hr2f
  go_wp2_with fail
  refine T1.mono ?_
  rintro e w3 ⟨rfl, hR, hbt⟩
  have l3 := hbt.size
  have k4 := K4.out.butl hbt (by first | (simp; done) | (simp; omega))
  have k5 := K5.out.butl hbt (by first | (simp; done) | (simp; omega))
  have k7 := K7.out.butl hbt (by first | (simp; done) | (simp; omega))
  have k10 := K10.out.butl hbt (by first | (simp; done) | (simp; omega))
  have k11 := K11.out.butl hbt (by first | (simp; done) | (simp; omega))
  have r1 := R1.out.butl hbt (fun g off e => by have := HR1F.out g off e; simp; omega)
  have r2 := R2.out.butl hbt (fun g off e => by have := HR2F.out g off e; simp; omega)
  have hB4 : Below w.heap.size w w3 := hbt.to HB3.out (by simp; omega) HB3.out.size
  obtain ⟨a3, c3, q9, x9, f9⟩ := hR
  have T2 := try_puts 25 #[.pointer (some ⟨w2.heap.size, 0, none⟩), .pointer (some ⟨w2.heap.size + 1 + 1, 0, none⟩)] (w2.heap.size + 1 + 1) 0 nL cL w3 _ _ k10 (fun w => enters_of Try.func25 (by kernel_rfl) rfl _ w)
    (fun W hb => F2 (w2.heap.size + 1 + 1) W (r1.below hb) (k7.below hb) (k10.below hb))
  rw [P2] at T2
  have R1 := Lib.hid r1
  have R2 := Lib.hid r2
  have K4 := Lib.hid k4
  have K5 := Lib.hid k5
  have K7 := Lib.hid k7
  have K9 := Lib.hid q9
  have X9 := Lib.hid x9
  have F9 := Lib.hid f9
  have K11 := Lib.hid k11
  have HB4 := Lib.hid hB4
  have hl9 := q9.lt
  clear T1 hbt r1 r2 k4 k5 k7 k10 k11 q9 x9 f9 hB4 F2 P2
  go_wp2_with fail
  refine T2.mono ?_
  rintro e w4 ⟨rfl, hbt, k10⟩
  have l4 := hbt.size
  have k4 := K4.out.but hbt (by omega)
  have k5 := K5.out.but hbt (by omega)
  have k7 := K7.out.but hbt (by omega)
  have k9 := K9.out.but hbt (by omega)
  have k11 := K11.out.but hbt (by omega)
  have r1 := R1.out.but hbt (fun g off e => by have := HR1F.out g off e; omega)
  have r2 := R2.out.but hbt (fun g off e => by have := HR2F.out g off e; omega)
  have x9 := X9.out.but hbt (fun g off e => by have := F9.out g off e; omega)
  have hB5 : Below w.heap.size w w4 := hbt.to HB4.out (by omega) HB4.out.size
  have T3 := try_puts 27 #[.pointer (some ⟨w2.heap.size, 0, none⟩), .pointer (some ⟨w2.heap.size + 1 + 1 + 1, 0, none⟩)] (w2.heap.size + 1 + 1 + 1) 0 nW cW w4 _ _ k11 (fun w => enters_of Try.func27 (by kernel_rfl) rfl _ w)
    (fun W hb => F3 (w2.heap.size + 1 + 1 + 1) W (r1.below hb) (k7.below hb) (k11.below hb))
  rw [P3] at T3
  have R2 := Lib.hid r2
  have K4 := Lib.hid k4
  have K5 := Lib.hid k5
  have K9 := Lib.hid k9
  have X9 := Lib.hid x9
  have K10 := Lib.hid k10
  have HB5 := Lib.hid hB5
  clear T2 hbt r1 r2 k4 k5 k7 k9 k10 k11 x9 hB5 F3 P3
  go_wp2_with fail
  refine T3.mono ?_
  rintro e w5 ⟨rfl, hbt, k11⟩
  have l5' := hbt.size
  have k4 := K4.out.but hbt (by omega)
  have k5 := K5.out.but hbt (by omega)
  have k9 := K9.out.but hbt (by omega)
  have k10 := K10.out.but hbt (by omega)
  have r2 := R2.out.but hbt (fun g off e => by have := HR2F.out g off e; omega)
  have x9 := X9.out.but hbt (fun g off e => by have := F9.out g off e; omega)
  have hB6 : Below w.heap.size w w5 := hbt.to HB5.out (by omega) HB5.out.size
  have c4 := k4.cell 0 _ rfl
  have c5 := k5.cell 0 _ rfl
  have K9 := Lib.hid k9
  have K10 := Lib.hid k10
  have K11 := Lib.hid k11
  have X9 := Lib.hid x9
  have R2 := Lib.hid r2
  clear T3 hbt k4 k5 k9 k10 k11 x9 r2
  go_wp2_with fail
  refine (RF2 _ R2.out).mono ?_
  rintro e w6 ⟨a4, c4', rfl, x4, hb⟩
  have hB7 := hB6.trans (hb.mono hB6.size)
  have k9 := K9.out.below hb
  have k10 := K10.out.below hb
  have k11 := K11.out.below hb
  have x9 := X9.out.below hb
  have r2 := R2.out.below hb
  have HX4 := Lib.hid x4
  have K9 := Lib.hid k9
  have K10 := Lib.hid k10
  have K11 := Lib.hid k11
  have X9 := Lib.hid x9
  have R2 := Lib.hid r2
  clear hb hB6 RF2 k9 k10 k11 x9 r2 x4 c4 c5
  go_wp2_with fail
  refine (RL _ R2.out).mono ?_
  rintro e w7 ⟨rfl, hb⟩
  have hB8 := hB7.trans (hb.mono hB7.size)
  have k9 := K9.out.below hb
  have k10 := K10.out.below hb
  have k11 := K11.out.below hb
  have x9 := X9.out.below hb
  have r2 := R2.out.below hb
  have x4 := HX4.out.below hb
  have HX4 := Lib.hid x4
  have K9 := Lib.hid k9
  have K10 := Lib.hid k10
  have K11 := Lib.hid k11
  have X9 := Lib.hid x9
  have R2 := Lib.hid r2
  clear hb hB7 RL k9 k10 k11 x9 r2 x4
  go_wp2_with fail
  refine (RW _ R2.out).mono ?_
  rintro e w8 ⟨rfl, hb⟩
  have hB9 := hB8.trans (hb.mono hB8.size)
  have k9 := K9.out.below hb
  have k10 := K10.out.below hb
  have k11 := K11.out.below hb
  have x9 := X9.out.below hb
  have x4 := HX4.out.below hb
  have d9 := k9.cell 0 _ rfl
  have d10 := k10.cell 0 _ rfl
  have d11 := k11.cell 0 _ rfl
  have HX4 := Lib.hid x4
  have K9 := Lib.hid k9
  have X9 := Lib.hid x9
  have hln : ((L.length : Int) != (L.length : Int)) = false := by simp
  clear hb hB8 RW k9 k10 k11 x9 x4
  go_wp2_with fail
  go_loopg [21] L.length (fun gk s21 wr => ∃ (j : Nat), j ≤ L.length ∧ gk = L.length - j ∧ s21 = .int .i64 ((j : Int)) ∧ Below w8.heap.size w8 wr)
  case atStart => exact ⟨0, by omega, by omega, rfl, Below.refl _ _⟩
  case round =>
    clear d9 d10 d11
    obtain ⟨j, hj, rfl, rfl, hb8⟩ := hrel
    have d9 := (K9.out.below hb8).cell 0 _ rfl
    by_cases hjk : j < L.length
    · have ix : (j : Int) < (L.length : Int) := by omega
      obtain ⟨g, off, rfl, _, hcx⟩ := (X9.out.below hb8).at hjk
      obtain ⟨g', off', rfl, _, hcy⟩ := (HX4.out.below hb8).at hjk
      have hg := lnV_get L j hjk
      have e0 := hcx 0 (by omega)
      have e1 := hcx 1 (by omega)
      have e2 := hcx 2 (by omega)
      have e3 := hcx 3 (by omega)
      have f0 := hcy 0 (by omega)
      have f1 := hcy 1 (by omega)
      have f2 := hcy 2 (by omega)
      have f3 := hcy 3 (by omega)
      rw [hg.1, Nat.add_zero] at e0 f0
      rw [hg.2.1] at e1 f1
      rw [hg.2.2.1] at e2 f2
      rw [hg.2.2.2] at e3 f3
      obtain ⟨z0, ez0⟩ : ∃ z : Int, ((L.getD j ln0).f : Int) = z := ⟨_, rfl⟩
      obtain ⟨z1, ez1⟩ : ∃ z : Int, ((L.getD j ln0).t : Int) = z := ⟨_, rfl⟩
      obtain ⟨z2, ez2⟩ : ∃ z : Int, (L.getD j ln0).w = z := ⟨_, rfl⟩
      obtain ⟨z3, ez3⟩ : ∃ z : Int, (L.getD j ln0).h = z := ⟨_, rfl⟩
      rw [ez0] at e0 f0
      rw [ez1] at e1 f1
      rw [ez2] at e2 f2
      rw [ez3] at e3 f3
      clear hcx hcy hg ez0 ez1 ez2 ez3
      go_wp2_with fail
      go_quiet (fail)
      go_wp2_with fail
      go_roundg (L.length - (j + 1))
      case measure => omega
      case rel => exact ⟨j + 1, by omega, rfl, by go_num, below_dN hb8 _⟩
    · obtain rfl : j = L.length := by omega
      have ix : ¬ (L.length : Int) < (L.length : Int) := by omega
      go_wp2_with fail
      go_ret
      exact ⟨rfl, hB9.trans (hb8.mono hB9.size)⟩
end Go.Proofs.Ythofammjbicogaa
