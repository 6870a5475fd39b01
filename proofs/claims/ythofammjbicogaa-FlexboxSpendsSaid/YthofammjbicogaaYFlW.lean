/-
  The law FlexboxSpends.
-/
import Derived.Test.YthofammjbicogaaYFlV
import Derived.Test.YthofammjbicogaaYFlR
import Derived.Test.YthofammjbicogaaZ6
import Derived.Test.YthofammjbicogaaYSizC
namespace Go.Proofs.Ythofammjbicogaa
open Go.RowKit
set_option linter.unusedSimpArgs false
set_option linter.unusedVariables false

theorem wrap_u16 {x : Int} (h0 : 0 ≤ x) (h1 : x ≤ 65535) : IntKind.i64.wrap x = x := by
  have e1 : (2 : Int) ^ IntKind.i64.bits = 18446744073709551616 := by decide
  have e2 : (2 : Int) ^ (IntKind.i64.bits - 1) = 9223372036854775808 := by decide
  have e3 : x % 18446744073709551616 = x := Int.emod_eq_of_lt h0 (by omega)
  unfold IntKind.wrap
  simp only [e1, e2, e3]
  rw [if_neg (by simp [show ¬ 9223372036854775808 ≤ x by omega])]
theorem run_max3 {P : Program} (w : World) (ts : Array TypeId) (t : TypeId) (k : IntKind) (x y z : Int) :
    (Builtin.max_ ts t #[.int k x, .int k y, .int k z]).run P w = .ok (.int k (max (max x y) z)) w := by
  have e : ∀ a b : Int, max a b = if a < b then b else a := fun a b => by
    rw [Int.max_def]; split <;> split <;> omega
  rw [e, e]
  simp [Builtin.max_, Builtin.max2]
theorem run_min3 {P : Program} (w : World) (ts : Array TypeId) (t : TypeId) (k : IntKind) (x y z : Int) :
    (Builtin.min_ ts t #[.int k x, .int k y, .int k z]).run P w = .ok (.int k (min (min x y) z)) w := by
  have e : ∀ a b : Int, min a b = if b < a then b else a := fun a b => by
    rw [Int.min_def]; split <;> split <;> omega
  rw [e, e]
  simp [Builtin.min_, Builtin.min2]
theorem wrap_id {x : Int} (h : IFit x) : IntKind.i64.wrap x = x := by
  unfold IFit at h
  simp [IntKind.wrap, IntKind.bits, IntKind.signed]; omega
/-- The first numbers of a slice of uint16. -/
def SlU (w : World) (v : Value) (k : Nat) (xs : List Int) : Prop :=
  ∃ ao n cap, v = .slice ao n cap ∧ n ≤ maxLen ∧ k = min n 30 ∧ RowV w ao k 1 (xs.map fun x => .int .u16 x) ∧ U16s xs
theorem slU_of {w : World} {v : Value} (h : SlV .u16 w v) : ∃ k xs, SlU w v k xs := by
  rcases h with rfl | ⟨g, off, n, cap, xs, rfl, h1, h2, h3, h4, h5, h6⟩
  · exact ⟨0, [], none, 0, 0, rfl, by decide, rfl, RowV.nil _ _ _, fun i => by simp [List.getD]⟩
  · refine ⟨min n 30, xs.take (min n 30), some ⟨g, off, none⟩, n, cap, rfl, by omega, rfl, ⟨by rw [List.length_map, List.length_take]; omega, fun _ => ⟨g, off, rfl, h4, fun i hi => ?_⟩⟩, fun i => ?_⟩
    · have hx : i < xs.length := by omega
      rw [h5 i (by omega), List.getElem?_map, List.getElem?_take_of_lt (by omega)]
      simp [List.getD, hx]
    · simp only [List.getD]
      cases e : (xs.take (min n 30))[i]? with
      | none => simp
      | some x => exact u16_of_wf (h6 x (List.mem_of_mem_take (List.mem_of_getElem? e)))
set_option maxRecDepth 100000 in
set_option maxHeartbeats 6400000 in
theorem law_spends (v : Value) (k : Nat) (xs : List Int) (gp mr wy : Int) (hg0 : 0 ≤ gp) (hg2 : gp ≤ 255) (hm0 : 0 ≤ mr) (hm2 : mr ≤ 65535) (hy0 : 0 ≤ wy) (hy2 : wy ≤ 255) (w : World) (hs : SlU w v k xs) :
    Calls Try.prog 8 #[.agg #[v, .int .u8 gp, .int .u16 mr, .int .u8 wy]] w fun e w' => e = .returned (.bool true) ∧ Below w.heap.size w w' := by
  obtain ⟨i0, hi, hz0, hz1, hz2⟩ := info_parts (show (Try.prog.info? 2).map (fun i => (i.zero, i.size, i.bytes)) = some (some (.int .i64 0), 1, 8) by kernel_rfl)
  have hmf : ∀ (fn : Fn) (first cap : Array Value) (w : World), (Instr.makeFunc fn first cap).run Try.prog w = .ok (.func fn first cap) w := fun _ _ _ _ => rfl
  obtain ⟨ao, n, cap, rfl, hn, ek, hr, hu⟩ := hs
  have hk30 : k ≤ 30 := by omega
  have EK := Lib.hid ek
  have HU := Lib.hid hu
  have HR := Lib.hid hr
  have t0 := Blk.new w #[.slice ao n cap, .int .u8 gp, .int .u16 mr, .int .u8 wy] 70 _ rfl
  have hB0 : Below w.heap.size w (w.alloc (.cells #[.slice ao n cap, .int .u8 gp, .int .u16 mr, .int .u8 wy] 70)) := (by repeat' (first | (with_reducible exact Below.refl _ _) | (with_reducible assumption) | (with_reducible refine below_alloc ?_ _ ?_) | (with_reducible refine below_set _ ?_ ?_) | (with_reducible refine Below.drew ?_) | (with_reducible refine below_dN ?_ _) | (apply below_thenA; assumption) | omega | (simp; done) | (simp; omega) | (simp [*]; done)))
  have T0 := Lib.hid t0
  have HB0 := Lib.hid hB0
  clear t0 hB0 hr hu ek
  go_enter Try.func8, Try.ntmps8
  go_wp2_with fail
  refine (speaks20 _).mono ?_
  rintro e w1 ⟨rfl, hb⟩
  have t1 := T0.out.below hb
  have hB := HB0.out.trans (hb.mono HB0.out.size)
  have hl0 := t1.lt
  clear hb T0 HB0
  go_wp2_with fail
  go_upto_region 3 with (fail)
  rename_i K0 hK0
  refine wp_region_calm (fun w' => Below w.heap.size w w' ∧ Blk w' w.heap.size #[.slice ao n cap, .int .u8 gp, .int .u16 mr, .int .u8 wy] 70 ∧ w1.heap.size ≤ w'.heap.size) [] (fun w' => True) [Is (.pointer (some ⟨w.heap.size, 0, none⟩)), Is (.slice ao n cap), Is (.pointer (some ⟨w.heap.size, 1, none⟩)), Is (.int .u8 gp), Is (.pointer (some ⟨w.heap.size, 2, none⟩)), Is (.int .u16 mr), Is (.pointer (some ⟨w.heap.size, 3, none⟩)), Is (.int .u8 wy), bxV w1.heap.size 5 1, bxV w1.heap.size 5 1, Is (.slice ao n cap), bxC 8 w1.heap.size 5 #[.int .u8 gp], Is (.int .u16 mr), bxC 9 w1.heap.size 5 #[.int .u8 wy]] [8, 9] (by kernel_rfl) (by kernel_rfl) (by kernel_rfl) (by kernel_rfl) ⟨hB.drew, t1, Nat.le_refl _⟩ trivial ?_ ?_ ?_ ?_ ?_
  · rintro W W' ⟨hB, tP, hl⟩ hb
    exact ⟨hB.trans (hb.mono hB.size), tP.below hb, Nat.le_trans hl hb.size⟩
  · exact fun _ _ _ _ _ => trivial
  · intro k vs W hk h
    rcases (by simpa using hk : k = 8 ∨ k = 9) with rfl | rfl <;> (obtain ⟨b, cs, e, h1, h2, h3⟩ := h; exact ⟨b, e, h2.lt⟩)
  · intro Q; clear hK0 hB t1
    refine ⟨?_, ?_, ?_, ?_, ?_, ?_, ?_, ?_, ?_, ?_, ?_, ?_, ?_, ?_, trivial⟩
    · intro vs W hW hW0 hd hne hold K hK hA hL; clear hne hA hL; have hB := hW.1; have tP := hW.2.1; have hl := hW.2.2; simp only [puts, Act.put, List.setIfInBounds_toArray, List.set_cons_zero, List.set_cons_succ, Nat.zero_add, Nat.reduceAdd] at hK ⊢; clear hd hold; go_simp; exact hK.out rfl _ _ (Below.refl _ _) rfl
    · intro vs W hW hW0 hd hne hold K hK hA hL; clear hne hA hL; have hB := hW.1; have tP := hW.2.1; have hl := hW.2.2; simp only [puts, Act.put, List.setIfInBounds_toArray, List.set_cons_zero, List.set_cons_succ, Nat.zero_add, Nat.reduceAdd] at hK ⊢; have eb : vs 0 = _ := hd 0 (by kernel_rfl); have q1 := tP.cell 0 _ rfl; clear hd hold; simp only [eb] at hK; go_simp; exact hK.out rfl _ _ (Below.refl _ _) rfl
    · intro vs W hW hW0 hd hne hold K hK hA hL; clear hne hA hL; have hB := hW.1; have tP := hW.2.1; have hl := hW.2.2; simp only [puts, Act.put, List.setIfInBounds_toArray, List.set_cons_zero, List.set_cons_succ, Nat.zero_add, Nat.reduceAdd] at hK ⊢; clear hd hold; go_simp; exact hK.out rfl _ _ (Below.refl _ _) rfl
    · intro vs W hW hW0 hd hne hold K hK hA hL; clear hne hA hL; have hB := hW.1; have tP := hW.2.1; have hl := hW.2.2; simp only [puts, Act.put, List.setIfInBounds_toArray, List.set_cons_zero, List.set_cons_succ, Nat.zero_add, Nat.reduceAdd] at hK ⊢; have eb : vs 2 = _ := hd 2 (by kernel_rfl); have q1 := tP.cell 1 _ rfl; clear hd hold; simp only [eb] at hK; go_simp; exact hK.out rfl _ _ (Below.refl _ _) rfl
    · intro vs W hW hW0 hd hne hold K hK hA hL; clear hne hA hL; have hB := hW.1; have tP := hW.2.1; have hl := hW.2.2; simp only [puts, Act.put, List.setIfInBounds_toArray, List.set_cons_zero, List.set_cons_succ, Nat.zero_add, Nat.reduceAdd] at hK ⊢; clear hd hold; go_simp; exact hK.out rfl _ _ (Below.refl _ _) rfl
    · intro vs W hW hW0 hd hne hold K hK hA hL; clear hne hA hL; have hB := hW.1; have tP := hW.2.1; have hl := hW.2.2; simp only [puts, Act.put, List.setIfInBounds_toArray, List.set_cons_zero, List.set_cons_succ, Nat.zero_add, Nat.reduceAdd] at hK ⊢; have eb : vs 4 = _ := hd 4 (by kernel_rfl); have q1 := tP.cell 2 _ rfl; clear hd hold; simp only [eb] at hK; go_simp; exact hK.out rfl _ _ (Below.refl _ _) rfl
    · intro vs W hW hW0 hd hne hold K hK hA hL; clear hne hA hL; have hB := hW.1; have tP := hW.2.1; have hl := hW.2.2; simp only [puts, Act.put, List.setIfInBounds_toArray, List.set_cons_zero, List.set_cons_succ, Nat.zero_add, Nat.reduceAdd] at hK ⊢; clear hd hold; go_simp; exact hK.out rfl _ _ (Below.refl _ _) rfl
    · intro vs W hW hW0 hd hne hold K hK hA hL; clear hne hA hL; have hB := hW.1; have tP := hW.2.1; have hl := hW.2.2; simp only [puts, Act.put, List.setIfInBounds_toArray, List.set_cons_zero, List.set_cons_succ, Nat.zero_add, Nat.reduceAdd] at hK ⊢; have eb : vs 6 = _ := hd 6 (by kernel_rfl); have q1 := tP.cell 3 _ rfl; clear hd hold; simp only [eb] at hK; go_simp; exact hK.out rfl _ _ (Below.refl _ _) rfl
    · intro vs W hW hW0 hd hne hold K hK hA hL; clear hne hK hL; have hB := hW.1; have tP := hW.2.1; have hl := hW.2.2; simp only [puts, Act.put, List.setIfInBounds_toArray, List.set_cons_zero, List.set_cons_succ, Nat.zero_add, Nat.reduceAdd] at hA ⊢; clear hd hold; go_simp; exact hA.out W.heap.size _ ((Below.refl _ _).alloc (Nat.le_refl _) _) (Nat.le_refl _) ⟨W.heap.size, _, rfl, hl, Blk.new _ _ _ _ rfl, rfl⟩
    · intro vs W hW hW0 hd hne hold K hK hA hL; clear hne hK hL; have hB := hW.1; have tP := hW.2.1; have hl := hW.2.2; simp only [puts, Act.put, List.setIfInBounds_toArray, List.set_cons_zero, List.set_cons_succ, Nat.zero_add, Nat.reduceAdd] at hA ⊢; clear hd hold; go_simp; exact hA.out W.heap.size _ ((Below.refl _ _).alloc (Nat.le_refl _) _) (Nat.le_refl _) ⟨W.heap.size, _, rfl, hl, Blk.new _ _ _ _ rfl, rfl⟩
    · intro vs W hW hW0 hd hne hold K hK hA hL; clear hne hA hL; have hB := hW.1; have tP := hW.2.1; have hl := hW.2.2; simp only [puts, Act.put, List.setIfInBounds_toArray, List.set_cons_zero, List.set_cons_succ, Nat.zero_add, Nat.reduceAdd] at hK ⊢; have e1 : vs 1 = _ := hd 1 (by kernel_rfl); clear hd hold; simp only [e1] at hK; go_simp; exact hK.out rfl _ _ (Below.refl _ _) rfl
    · intro vs W hW hW0 hd hne hold K hK hA hL; clear hK hA; have hB := hW.1; have tP := hW.2.1; have hl := hW.2.2; simp only [puts, Act.put, List.setIfInBounds_toArray, List.set_cons_zero, List.set_cons_succ, Nat.zero_add, Nat.reduceAdd] at hL ⊢; have ec : vs 3 = _ := hd 3 (by kernel_rfl); (have hxb : BxV w1.heap.size 5 1 (vs 8) W := hd 8 (by kernel_rfl)); obtain ⟨b, cs0, eb, hlb, t0, hsz⟩ := hxb; obtain ⟨z0, q0⟩ := t0.cellx 0 (by omega); have p0 := t0.free 0; have tb := t0.set1 hsz (.int .u8 gp); have hbt := But.set (b := b) W 0 (.int .u8 gp); clear hd hold; simp only [ec, eb] at hL; have HSZ := Lib.hid hsz; clear hsz; have HNE := Lib.hid hne; clear hne; go_simp; have hne := HNE.out; have hsz := HSZ.out; have hnb : vs 9 ≠ .pointer (some ⟨b, 0, none⟩) := fun x => hne 8 9 (by decide) (by kernel_rfl) (by rw [eb, x]); refine hL.out rfl undef _ ⟨hbt.to hB (by omega) hB.size, tP.but hbt (by omega), Nat.le_trans hl hbt.size⟩ (fun _ => trivial) ⟨b, eb, hlb, tb⟩ ?_; exact claims_keep ⟨.inr is_keep, .inr is_keep, .inr is_keep, .inr is_keep, .inr is_keep, .inr is_keep, .inr is_keep, .inr is_keep, .inr fun h => BxV.but h hbt t0 tb (by rw [hsz]; rfl), .inr fun h => BxV.but h hbt t0 tb (by rw [hsz]; rfl), .inr is_keep, .inl rfl, .inr is_keep, .inr fun h => BxC.but h hbt hnb, trivial⟩
    · intro vs W hW hW0 hd hne hold K hK hA hL; clear hne hA hL; have hB := hW.1; have tP := hW.2.1; have hl := hW.2.2; simp only [puts, Act.put, List.setIfInBounds_toArray, List.set_cons_zero, List.set_cons_succ, Nat.zero_add, Nat.reduceAdd] at hK ⊢; have e5 : vs 5 = _ := hd 5 (by kernel_rfl); clear hd hold; simp only [e5] at hK; go_simp; exact hK.out rfl _ _ (Below.refl _ _) rfl
    · intro vs W hW hW0 hd hne hold K hK hA hL; clear hK hA; have hB := hW.1; have tP := hW.2.1; have hl := hW.2.2; simp only [puts, Act.put, List.setIfInBounds_toArray, List.set_cons_zero, List.set_cons_succ, Nat.zero_add, Nat.reduceAdd] at hL ⊢; have ec : vs 7 = _ := hd 7 (by kernel_rfl); (have hxb : BxV w1.heap.size 5 1 (vs 9) W := hd 9 (by kernel_rfl)); obtain ⟨b, cs0, eb, hlb, t0, hsz⟩ := hxb; obtain ⟨z0, q0⟩ := t0.cellx 0 (by omega); have p0 := t0.free 0; have tb := t0.set1 hsz (.int .u8 wy); have hbt := But.set (b := b) W 0 (.int .u8 wy); clear hd hold; simp only [ec, eb] at hL; have HSZ := Lib.hid hsz; clear hsz; have HNE := Lib.hid hne; clear hne; go_simp; have hne := HNE.out; have hsz := HSZ.out; have hnb : vs 8 ≠ .pointer (some ⟨b, 0, none⟩) := fun x => hne 9 8 (by decide) (by kernel_rfl) (by rw [eb, x]); refine hL.out rfl undef _ ⟨hbt.to hB (by omega) hB.size, tP.but hbt (by omega), Nat.le_trans hl hbt.size⟩ (fun _ => trivial) ⟨b, eb, hlb, tb⟩ ?_; exact claims_keep ⟨.inr is_keep, .inr is_keep, .inr is_keep, .inr is_keep, .inr is_keep, .inr is_keep, .inr is_keep, .inr is_keep, .inr fun h => BxV.but h hbt t0 tb (by rw [hsz]; rfl), .inr fun h => BxV.but h hbt t0 tb (by rw [hsz]; rfl), .inr is_keep, .inr fun h => BxC.but h hbt hnb, .inr is_keep, .inl rfl, trivial⟩
  · intro va WA hW hV hD
    obtain ⟨hB, _, hl1⟩ := hW
    have h1 : va 1 = .slice ao n cap := hV 1 (by decide)
    have h10 : va 10 = .slice ao n cap := hV 10 (by decide)
    have h12 : va 12 = .int .u16 mr := hV 12 (by decide)
    have h8 : BxC w1.heap.size 5 #[.int .u8 gp] (va 8) WA := hV 11 (by decide)
    have h9 : BxC w1.heap.size 5 #[.int .u8 wy] (va 9) WA := hV 13 (by decide)
    obtain ⟨b4, e4, hl4, t4⟩ := h8
    obtain ⟨b6, e6, hl6, t6⟩ := h9
    have h46 : b4 ≠ b6 := fun e => hD 8 9 (by decide) (by decide) (by decide) (by kernel_rfl) (by rw [e4, e6, e])
    clear hV hD
    simp only [puts, Act.put, List.setIfInBounds_toArray, List.set_cons_zero, List.set_cons_succ, Nat.zero_add, Nat.reduceAdd, e4, e6, h10, h12]
    refine hK0 _ _ ?_
    clear hK0 e4 e6 h1 h10 h12
    go_wp2_with fail
    obtain ⟨b7, e7⟩ : ∃ b, WA.heap.size = b := ⟨_, rfl⟩
    have h47 : b4 ≠ b7 := by have := t4.lt; omega
    have h67 : b6 ≠ b7 := by have := t6.lt; omega
    have hl7 : w.heap.size ≤ b7 := by omega
    have t7 : Blk (WA.alloc (.cells #[.slice none 0 0] 31)) b7 #[.slice none 0 0] 31 := Blk.new _ _ _ _ e7.symm
    have hbn : Below WA.heap.size WA (WA.alloc (.cells #[.slice none 0 0] 31)) := (by repeat' (first | (with_reducible exact Below.refl _ _) | (with_reducible assumption) | (with_reducible refine below_alloc ?_ _ ?_) | (with_reducible refine below_set _ ?_ ?_) | (with_reducible refine Below.drew ?_) | (with_reducible refine below_dN ?_ _) | (apply below_thenA; assumption) | omega | (simp; done) | (simp; omega) | (simp [*]; done)))
    replace t4 := t4.below hbn
    replace t6 := t6.below hbn
    replace hB := hB.trans (hbn.mono hB.size)
    have hl4' : w.heap.size ≤ b4 := by omega
    have hl6' : w.heap.size ≤ b6 := by omega
    rw [e7]
    clear hbn e7 hl4 hl6 hl1 hl0
    go_loopg [8, 9] k (fun gk s8 s9 wr => ∃ (j : Nat) (aj : Option Addr) (cj : Nat) (p : Int), j ≤ k ∧ gk = k - j ∧ s8 = .int .i64 p ∧ s9 = .int .i64 ((j : Int)) ∧ p = pre xs j + gp * ((j - 1 : Nat) : Int) ∧ OwnI wr w.heap.size aj j cj (xs.take j) ∧ Blk wr b7 #[.slice aj j cj] 31 ∧ Blk wr b4 #[.int .u8 gp] 5 ∧ Blk wr b6 #[.int .u8 wy] 5 ∧ Below w.heap.size w wr)
    case atStart => exact ⟨0, none, 0, 0, by omega, by omega, rfl, rfl, by simp [pre], OwnI.nil _ _, t7, t4, t6, hB⟩
    case round =>
      clear t7 t4 t6 hB
      obtain ⟨j, aj, cj, p, hj, rfl, rfl, rfl, ep, ho, t7, t4, t6, hB⟩ := hrel
      have hp := pre_small HU.out j
      have hgj : 0 ≤ gp * ((j - 1 : Nat) : Int) := Int.mul_nonneg hg0 (by omega)
      have hgj2 : gp * ((j - 1 : Nat) : Int) ≤ 255 * ((j - 1 : Nat) : Int) := Int.mul_le_mul_of_nonneg_right hg2 (by omega)
      have hp0 : 0 ≤ p := by omega
      have hp1 : p ≤ 2000000 := by omega
      have EP := Lib.hid ep
      have hxl : xs.length = k := by have := HR.out.1; simpa using this
      have HXL := Lib.hid hxl
      clear hp hgj hgj2 ep hxl
      have hsz := hB.size
      have hsh := ho.shape
      by_cases hjk : j < k
      · have ix : (j : Int) < (n : Int) := by have := EK.out; omega
        have ix2 : (j : Int) < 30 := by omega
        obtain ⟨g, off, rfl, hg, hcx⟩ := HR.out.at hjk
        have hcx := hcx 0 (by omega)
        have hxl := HXL.out
        obtain ⟨x, ex⟩ : ∃ x, xs.getD j 0 = x := ⟨_, rfl⟩
        have hx := HU.out j
        rw [ex] at hx
        have hv : (xs.map fun x => Value.int .u16 x)[j * 1 + 0]? = some (.int .u16 x) := by
          rw [← ex, List.getElem?_map]
          simp [List.getD, show j < xs.length by omega]
        rw [hv, Nat.add_zero, Nat.mul_one] at hcx
        have hcw : ∀ W, Below w.heap.size w W → W.cell? ⟨g, off + j, none⟩ = some (.int .u16 x) := fun W h => (h.cell (p := ⟨g, off + j, none⟩) hg).trans hcx
        have hx0 := hx.1
        have hx1 := hx.2
        have EX := Lib.hid ex
        have hwx : IntKind.i64.wrap x = x := wrap_u16 hx.1 hx.2
        have HWX := Lib.hid hwx
        have HCW := Lib.hid hcw
        have hgl : ∀ g, (Value.slice aj j cj).ownBlock = some g → g < wr.heap.size := fun g h => (ho.ge h).2
        have HGL := Lib.hid hgl
        clear hx hv hxl hcx hcw ex hgl hwx
        obtain ⟨ys, eys⟩ : ∃ ys, xs.take j = ys := ⟨_, rfl⟩
        rw [eys] at ho
        have EYS := Lib.hid eys
        clear eys
        go_wp2_with fail
        go_upto_region 9 with (fail)
        rename_i K1 hK1
        refine wp_region_calm (fun w' => Below w.heap.size w w' ∧ Blk w' b4 #[.int .u8 gp] 5 ∧ Blk w' b6 #[.int .u8 wy] 5 ∧ (∃ u, Blk w' b7 #[u] 31) ∧ wr.heap.size ≤ w'.heap.size) [7, 8] (fun w' => OwnI w' w.heap.size aj j cj ys ∧ Blk w' b7 #[.slice aj j cj] 31) [Is (.slice aj j cj), Is (.slice (some ⟨g, off, none⟩) n cap), Is (.int .i64 ((j : Int))), Is (.pointer (some ⟨g, off + j, none⟩)), Is (.int .u16 x), Is (.int .i64 x), sliC wr.heap.size x, ownC w.heap.size (j + 1) (ys ++ [x]), .at 7 (fun v w => Blk w b7 #[v] 31) (fun _ _ _ h hb => h.below hb)] [] (by kernel_rfl) (by kernel_rfl) (by kernel_rfl) (by kernel_rfl) ⟨hB.drew, t4, t6, ⟨_, t7⟩, Nat.le_refl _⟩ ⟨ho.drew, t7⟩ ?_ ?_ ?_ ?_ ?_
        · rintro W W' ⟨hBB, t4, t6, t7, hl⟩ hb
          exact ⟨hBB.trans (hb.mono hBB.size), t4.below hb, t6.below hb, t7.elim fun u h => ⟨u, h.below hb⟩, Nat.le_trans hl hb.size⟩
        · intro W W' hB h0 hb; exact ⟨h0.1.below hb, h0.2.below hb⟩
        · intro k vs W hk h
          exact absurd hk (by simp)
        · intro Q; clear hK1 hB t4 t6 t7 ho
          refine ⟨?_, ?_, ?_, ?_, ?_, ?_, ?_, ?_, ?_, trivial⟩
          · intro vs W hW hW0 hd hne hold K hK hA hL; clear hne hA hL; have hBB := hW.1; have t4 := hW.2.1; have t6 := hW.2.2.1; have t7 := hW.2.2.2.1; have hl := hW.2.2.2.2; simp only [puts, Act.put, List.setIfInBounds_toArray, List.set_cons_zero, List.set_cons_succ, Nat.zero_add, Nat.reduceAdd] at hK ⊢; have h0 := hW0 (by kernel_rfl); have q1 := h0.2.cell 0 _ rfl; clear hd hold; go_simp; exact hK.out rfl _ _ (Below.refl _ _) rfl
          · intro vs W hW hW0 hd hne hold K hK hA hL; clear hne hA hL; have hBB := hW.1; have t4 := hW.2.1; have t6 := hW.2.2.1; have t7 := hW.2.2.2.1; have hl := hW.2.2.2.2; simp only [puts, Act.put, List.setIfInBounds_toArray, List.set_cons_zero, List.set_cons_succ, Nat.zero_add, Nat.reduceAdd] at hK ⊢; clear hd hold; go_simp; exact hK.out rfl _ _ (Below.refl _ _) rfl
          · intro vs W hW hW0 hd hne hold K hK hA hL; clear hne hA hL; have hBB := hW.1; have t4 := hW.2.1; have t6 := hW.2.2.1; have t7 := hW.2.2.2.1; have hl := hW.2.2.2.2; simp only [puts, Act.put, List.setIfInBounds_toArray, List.set_cons_zero, List.set_cons_succ, Nat.zero_add, Nat.reduceAdd] at hK ⊢; clear hd hold; go_simp; exact hK.out rfl _ _ (Below.refl _ _) rfl
          · intro vs W hW hW0 hd hne hold K hK hA hL; clear hne hA hL; have hBB := hW.1; have t4 := hW.2.1; have t6 := hW.2.2.1; have t7 := hW.2.2.2.1; have hl := hW.2.2.2.2; simp only [puts, Act.put, List.setIfInBounds_toArray, List.set_cons_zero, List.set_cons_succ, Nat.zero_add, Nat.reduceAdd] at hK ⊢; have e1 : vs 1 = _ := hd 1 (by kernel_rfl); have e2 : vs 2 = _ := hd 2 (by kernel_rfl); clear hd hold; simp only [e1, e2] at hK; go_simp; exact hK.out rfl _ _ (Below.refl _ _) rfl
          · intro vs W hW hW0 hd hne hold K hK hA hL; clear hne hA hL; have hBB := hW.1; have t4 := hW.2.1; have t6 := hW.2.2.1; have t7 := hW.2.2.2.1; have hl := hW.2.2.2.2; simp only [puts, Act.put, List.setIfInBounds_toArray, List.set_cons_zero, List.set_cons_succ, Nat.zero_add, Nat.reduceAdd] at hK ⊢; have q := HCW.out W hBB; have eb : vs 3 = _ := hd 3 (by kernel_rfl); clear hd hold; simp only [eb] at hK; go_simp; exact hK.out rfl _ _ (Below.refl _ _) rfl
          · intro vs W hW hW0 hd hne hold K hK hA hL; clear hne hA hL; have hBB := hW.1; have t4 := hW.2.1; have t6 := hW.2.2.1; have t7 := hW.2.2.2.1; have hl := hW.2.2.2.2; simp only [puts, Act.put, List.setIfInBounds_toArray, List.set_cons_zero, List.set_cons_succ, Nat.zero_add, Nat.reduceAdd] at hK ⊢; have eb : vs 4 = _ := hd 4 (by kernel_rfl); clear hd hold; simp only [eb] at hK; go_simp; exact hK.out rfl _ _ (Below.refl _ _) (by show upd vs 5 _ 5 = _; rw [upd_self]; exact congrArg (Value.int .i64) HWX.out)
          · intro vs W hW hW0 hd hne hold K hK hA hL; clear hne hA hL; have hBB := hW.1; have t4 := hW.2.1; have t6 := hW.2.2.1; have t7 := hW.2.2.2.1; have hl := hW.2.2.2.2; simp only [puts, Act.put, List.setIfInBounds_toArray, List.set_cons_zero, List.set_cons_succ, Nat.zero_add, Nat.reduceAdd] at hK ⊢; have eb : vs 5 = _ := hd 5 (by kernel_rfl); clear hd hold; simp only [eb] at hK; go_simp; exact hK.out rfl _ _ ((Below.refl _ _).alloc (Nat.le_refl _) _) ⟨W.heap.size, rfl, hl, Blk.new _ _ _ _ rfl⟩
          · intro vs W hW hW0 hd hne hold K hK hA hL; clear hK hA; have hBB := hW.1; have t4 := hW.2.1; have t6 := hW.2.2.1; have t7 := hW.2.2.2.1; have hl := hW.2.2.2.2; simp only [puts, Act.put, List.setIfInBounds_toArray, List.set_cons_zero, List.set_cons_succ, Nat.zero_add, Nat.reduceAdd] at hL ⊢; have ho := hW0 (by kernel_rfl); have ea : vs 0 = _ := hd 0 (by kernel_rfl); have h14 : SliV wr.heap.size x (vs 6) W := hd 6 (by kernel_rfl); obtain ⟨b, eb, hlb, tb⟩ := h14; clear hd hold; simp only [ea, eb] at hL ⊢; rw [if_pos (show Region.wanted _ _ = true from rfl)]; refine wp_append_own W (.tmp 44) (.tmp 50) 31 rfl w.heap.size 2 i0 (.int .i64 0) 1 8 Try.underlying31 hi hz0 hz1 hz2 rfl (by decide) _ _ _ rfl ho.1.1 ⟨b, 0, none⟩ 1 1 (i64s [x]) rfl rfl (World.news_of_block tb) (i64s_one _) (by unfold maxLen; omega) (by omega) (by have := hBB.size; omega) ?_; intro v' w1 ho1 hg1 _; obtain ⟨a1, c1, rfl, ho2, hbe, hke, hbl, hb2⟩ := ho.1.app (ys := [x]) ho1 hg1 rfl (by have := hBB.size; omega); simp only [Act.put, List.setIfInBounds_toArray, List.set_cons_zero, List.set_cons_succ, Nat.zero_add, Nat.reduceAdd]; refine hL.out rfl _ _ ⟨hbe _ _ (Nat.le_refl _) hBB, hbl _ _ _ t4 (by decide), hbl _ _ _ t6 (by decide), t7.elim fun u h => ⟨u, hbl _ _ _ h (by decide)⟩, Nat.le_trans hl hg1.size⟩ (fun h => absurd h (by decide)) ⟨a1, c1, rfl, ho2⟩ ?_; exact claims_keep_a ⟨.inr (.inr is_keep), .inr (.inr is_keep), .inr (.inr is_keep), .inr (.inr is_keep), .inr (.inr is_keep), .inr (.inr is_keep), .inr (.inr fun h => SliV.app h hb2 HGL.out), .inl rfl, .inr (.inl (by kernel_rfl)), trivial⟩
          · intro vs W hW hW0 hd hne hold K hK hA hL; clear hK hA; have hBB := hW.1; have t4 := hW.2.1; have t6 := hW.2.2.1; have t7 := hW.2.2.2.1; have hl := hW.2.2.2.2; simp only [puts, Act.put, List.setIfInBounds_toArray, List.set_cons_zero, List.set_cons_succ, Nat.zero_add, Nat.reduceAdd] at hL ⊢; have h15 : OwnV w.heap.size (j + 1) (ys ++ [x]) (vs 7) W := hd 7 (by kernel_rfl); obtain ⟨a1, c1, e1, ho⟩ := h15; obtain ⟨u, tu⟩ := t7; have f7 := tu.free 0; have q7 := tu.cell 0 _ rfl; have tb := tu.set 0 (.slice a1 (j + 1) c1); have hbt := But.set (b := b7) W 0 (.slice a1 (j + 1) c1); have hne7 := ho.ne tu (by decide); clear hd hold; simp only [e1] at hL; go_simp; refine hL.out rfl undef _ ⟨hbt.to hBB hl7 hBB.size, t4.but hbt h47, t6.but hbt h67, ⟨_, tb⟩, Nat.le_trans hl hbt.size⟩ (fun h => absurd h (by decide)) (by show Blk _ b7 #[vs 7] _; rw [e1]; exact tb) ?_; exact claims_keep ⟨.inr is_keep, .inr is_keep, .inr is_keep, .inr is_keep, .inr is_keep, .inr is_keep, .inr fun h => by obtain ⟨b, q1, q2, q3⟩ := h; exact ⟨b, q1, q2, q3.but hbt (fun e => by subst e; exact absurd (q3.same tu).2 (by decide))⟩, .inr fun h => by obtain ⟨a2, c2, q1, q2⟩ := h; exact ⟨a2, c2, q1, q2.set _ _ (q2.ne tu (by decide))⟩, .inl rfl, trivial⟩
        · intro va WB hW hV _
          clear hB t4 t6 t7 ho
          obtain ⟨hB, t4, t6, _, _⟩ := hW
          have h7 : OwnV w.heap.size (j + 1) (ys ++ [x]) (va 7) WB := hV 7 (by decide)
          have h8 : Blk WB b7 #[va 7] 31 := hV 8 (by decide)
          obtain ⟨a1, c1, e7, ho⟩ := h7
          rw [e7] at h8
          clear hV
          have hcx := HCW.out WB hB
          simp only [puts, Act.put, List.setIfInBounds_toArray, List.set_cons_zero, List.set_cons_succ, Nat.zero_add, Nat.reduceAdd, e7]
          refine hK1 _ _ ?_
          clear hK1 e7
          have e1 : xs.take (j + 1) = ys ++ [x] := by
            have hjl : j < xs.length := by rw [HXL.out]; exact hjk
            rw [List.take_succ_eq_append_getElem hjl, ← EX.out, ← EYS.out]
            simp [List.getD, hjl]
          have E1 := Lib.hid e1
          clear e1
          have cg := t4.cell 0 _ rfl
          by_cases hj0 : j = 0
          · have EP2 : p = 0 := by have := EP.out; subst hj0; simpa [pre] using this
            have hj0' : ¬ (0 : Int) < (j : Int) := by omega
            have hx' : x = pre xs (j + 1) + gp * ((j + 1 - 1 : Nat) : Int) := by subst hj0; rw [← EX.out]; simp [pre]
            have HXX := Lib.hid hx'
            subst EP2
            clear hj0 hx'
            go_wp2_with fail
            go_roundg (k - (j + 1))
            case measure => omega
            case rel => exact ⟨j + 1, a1, c1, x, by omega, rfl, by go_num, by go_num, HXX.out, by rw [E1.out]; exact ho, h8, t4, t6, hB⟩
          · have hj0' : (0 : Int) < (j : Int) := by omega
            have hx' : p + x + gp = pre xs (j + 1) + gp * ((j + 1 - 1 : Nat) : Int) := by
              rw [EP.out, ← EX.out]
              have e3 : pre xs (j + 1) = pre xs j + xs.getD j 0 := rfl
              have e4 : ((j + 1 - 1 : Nat) : Int) = ((j - 1 : Nat) : Int) + 1 := by omega
              rw [e3, e4, Int.mul_add, Int.mul_one]; omega
            have HXX := Lib.hid hx'
            clear hj0 hx'
            go_wp2_with fail
            go_roundg (k - (j + 1))
            case measure => omega
            case rel => exact ⟨j + 1, a1, c1, p + x + gp, by omega, rfl, by go_num, by go_num, HXX.out, by rw [E1.out]; exact ho, h8, t4, t6, hB⟩
      · obtain rfl : j = k := by omega
        have e1 : xs.take j = xs := List.take_of_length_le (by rw [HXL.out]; exact Nat.le_refl _)
        rw [e1] at ho
        have hcond : ¬ (j : Int) < (n : Int) ∨ ((j : Int) < (n : Int) ∧ ¬ (j : Int) < 30) := by have := EK.out; omega
        have HC := Lib.hid hcond
        clear hcond e1
        go_upto_region 7 with (fail)
        go_cut [41] from 34 to 41 (fun s wx => s = .bool false ∧ wx = wr)
        case first =>
          rcases HC.out with ix | ⟨ix, ix2⟩
          all_goals
            go_wp2_with fail
            go_meet
            case rel => exact ⟨rfl, rfl⟩
        case rest =>
          obtain ⟨rfl, rfl⟩ := hcut
          have cs := t7.cell 0 _ rfl
          have cy := t6.cell 0 _ rfl
          have lt4 := t4.lt
          have lt6 := t6.lt
          have lt7 := t7.lt
          have T4 := Lib.hid t4
          have T6 := Lib.hid t6
          have T7 := Lib.hid t7
          have HO := Lib.hid ho
          clear t4 t6 t7 ho
          by_cases hj0 : j = 0
          · subst hj0
            go_wp2_with fail
            go_ret
            exact ⟨rfl, hB⟩
          · have hj0' : ¬ (j : Int) = 0 := by omega
            have hj0b : ((j : Int) == 0) = false := by simpa using hj0
            clear hj0'
            obtain ⟨wv, ewv⟩ : ∃ wv, 1 + wy % 6 = wv := ⟨_, rfl⟩
            have hwv : 1 ≤ wv ∧ wv ≤ 6 := by omega
            have hj1 : 1 ≤ j := by omega
            obtain ⟨b, eb⟩ : ∃ b, (bits BinOp.and IntKind.u8 wy 1 == 1) = b := ⟨_, rfl⟩
            have EWV := Lib.hid ewv
            have EB := Lib.hid eb
            obtain ⟨av, eav⟩ : ∃ av, p + mr = av := ⟨_, rfl⟩
            have hav0 : 0 ≤ av := by omega
            have hav1 : av ≤ 3000000 := by omega
            have EAV := Lib.hid eav
            have hlim : Lim xs j av gp := ⟨hk30, fun i => by have := HU.out i; omega, by omega, by omega⟩
            have HLIM := Lib.hid hlim
            obtain ⟨W0, eW⟩ : ∃ W0, ((((wc.alloc (.cells #[.int .i64 av] 2)).alloc (.cells #[.int .i64 wv] 3)).alloc (.cells #[.slice none 0 0] 31)).alloc (.cells #[.slice none 0 0] 31)).alloc (.cells #[.slice none 0 0] 62) = W0 := ⟨_, rfl⟩
            have k11 : Blk W0 wc.heap.size #[.int .i64 av] 2 := by rw [← eW]; exact ((((Blk.new wc _ _ _ rfl).alloc _).alloc _).alloc _).alloc _
            have k13 : Blk W0 (wc.heap.size + 1) #[.int .i64 wv] 3 := by rw [← eW]; exact (((Blk.new _ _ _ _ (by simp)).alloc _).alloc _).alloc _
            have k14 : Blk W0 (wc.heap.size + 1 + 1) #[.slice none 0 0] 31 := by rw [← eW]; exact ((Blk.new _ _ _ _ (by simp)).alloc _).alloc _
            have k15 : Blk W0 (wc.heap.size + 1 + 1 + 1) #[.slice none 0 0] 31 := by rw [← eW]; exact (Blk.new _ _ _ _ (by simp)).alloc _
            have k16 : Blk W0 (wc.heap.size + 1 + 1 + 1 + 1) #[.slice none 0 0] 62 := by rw [← eW]; exact Blk.new _ _ _ _ (by simp)
            have hbn : Below wc.heap.size wc W0 := by rw [← eW]; exact (by repeat' (first | (with_reducible exact Below.refl _ _) | (with_reducible assumption) | (with_reducible refine below_alloc ?_ _ ?_) | (with_reducible refine below_set _ ?_ ?_) | (with_reducible refine Below.drew ?_) | (with_reducible refine below_dN ?_ _) | (apply below_thenA; assumption) | omega | (simp; done) | (simp; omega) | (simp [*]; done)))
            have hz0 : W0.heap.size = wc.heap.size + 5 := by rw [← eW]; simp
            have k4 := T4.out.below hbn
            have k6 := T6.out.below hbn
            have k7 := T7.out.below hbn
            have ho0 := HO.out.below hbn
            have hB0 := hB.trans (hbn.mono hB.size)
            have hfo : ∀ g off, aj = some ⟨g, off, none⟩ → g < wc.heap.size := fun g off e => by
              obtain ⟨g', off', e', hlt, _⟩ := HO.out.row.2 (by omega)
              rw [e] at e'
              obtain ⟨rfl, rfl⟩ : g = g' ∧ off = off' := by simpa using e'
              exact hlt
            have TR := try_rel 40 #[.pointer (some ⟨b7, 0, none⟩), .pointer (some ⟨wc.heap.size, 0, none⟩), .pointer (some ⟨b4, 0, none⟩), .pointer (some ⟨wc.heap.size + 1, 0, none⟩), .pointer (some ⟨wc.heap.size + 1 + 1, 0, none⟩), .pointer (some ⟨b6, 0, none⟩), .pointer (some ⟨wc.heap.size + 1 + 1 + 1, 0, none⟩), .pointer (some ⟨wc.heap.size + 1 + 1 + 1 + 1, 0, none⟩)] 0
              [wc.heap.size + 1 + 1, wc.heap.size + 1 + 1 + 1, wc.heap.size + 1 + 1 + 1 + 1] W0 (SpdRel (wc.heap.size + 1 + 1) (wc.heap.size + 1 + 1 + 1) (wc.heap.size + 1 + 1 + 1 + 1) j (mnAt xs [] j av gp wv) (mnAt xs [b, true] j av gp wv) (mnMs xs [b, true] j av gp) W0.heap.size)
              (fun b hb => by simp at hb; omega) (fun W W' h hb => h.but hb (by omega) (by omega) (by omega)) (fun w => enters_of Try.func40 (by kernel_rfl) rfl _ w)
              (fun W hb hlt => (spends1 b7 wc.heap.size b4 (wc.heap.size + 1) (wc.heap.size + 1 + 1) b6 (wc.heap.size + 1 + 1 + 1) (wc.heap.size + 1 + 1 + 1 + 1) aj j cj xs av gp wy wv b HLIM.out hg0 hg2 eb W (ho0.row.below hb) _ _ _
                (k7.below hb) (k11.below hb) (k4.below hb) (k13.below hb) (k6.below hb) (k14.below hb) (k15.below hb) (k16.below hb) W0.heap.size hlt (by omega) (by omega) (by omega) (by omega) (by omega) (by omega) (by omega) (by omega) (by omega) (by omega) (by omega) (fun g off e => by have := hfo g off e; omega)).mono
                fun e W' h => ⟨fun _ => ⟨h.1, h.2.1⟩, fun h => absurd rfl h, h.2.2⟩)
            have hF : roomV xs av gp j = mr := by
              obtain ⟨m, rfl⟩ : ∃ m, j = m + 1 := ⟨j - 1, by omega⟩
              rw [← EAV.out, EP.out, Nat.add_sub_cancel]
              exact spd_room xs m gp mr
            have hLA := spd_at xs j av gp wv mr hF
            rw [hLA] at TR
            have K4 := Lib.hid k4
            have K6 := Lib.hid k6
            have K7 := Lib.hid k7
            have K11 := Lib.hid k11
            have K13 := Lib.hid k13
            have HO0 := Lib.hid ho0
            have HB0 := Lib.hid hB0
            have HF := Lib.hid hF
            have HFO := Lib.hid hfo
            clear k4 k6 k7 k11 k13 k14 k15 k16 ho0 hB0 hF hbn hlim hLA hfo
            go_wp2_with fail
            refine TR.mono ?_
            rintro e w3 ⟨rfl, hr, hbt⟩
            obtain ⟨a1, c1, a2, c2, a3, c3, q14, q15, q16, r1, f1, r2, f2, r3, f3⟩ := hr (by first | trivial | rfl)
            have q4 := K4.out.butl hbt (by simp; omega)
            have q6 := K6.out.butl hbt (by simp; omega)
            have q7 := K7.out.butl hbt (by simp; omega)
            have q11 := K11.out.butl hbt (by simp; omega)
            have q13 := K13.out.butl hbt (by simp)
            have hx3 := HO0.out.row.butl hbt (fun g off e => by have := HFO.out g off e; simp; omega)
            have hB3 : Below w.heap.size w w3 := hbt.to HB0.out (by simp; omega) HB0.out.size
            have h3 := hB3.size
            have d14 := q14.cell 0 _ rfl
            have d15 := q15.cell 0 _ rfl
            have d16 := q16.cell 0 _ rfl
            obtain ⟨ga, oa, ea, hga, hca⟩ := r1.2 (by omega)
            have hca0 := hca 0 (by omega)
            rw [plN_get _ _ _ (show 0 < j by omega), spd_first xs mr j wv gp (by omega), Nat.add_zero] at hca0
            obtain ⟨s0, es0⟩ : ∃ s, spdS mr j wv 0 = s := ⟨_, rfl⟩
            rw [es0] at hca0
            have ES0 := Lib.hid es0
            subst ea
            have HCA := Lib.hid hca
            obtain ⟨b11, e11⟩ : ∃ z, wc.heap.size = z := ⟨_, rfl⟩
            obtain ⟨b13, e13⟩ : ∃ z, wc.heap.size + 1 = z := ⟨_, rfl⟩
            obtain ⟨b14, e14⟩ : ∃ z, wc.heap.size + 1 + 1 = z := ⟨_, rfl⟩
            obtain ⟨b15, e15⟩ : ∃ z, wc.heap.size + 1 + 1 + 1 = z := ⟨_, rfl⟩
            obtain ⟨b16, e16⟩ : ∃ z, wc.heap.size + 1 + 1 + 1 + 1 = z := ⟨_, rfl⟩
            rw [e16] at d16 q16 ⊢
            rw [e15] at d15 q15 ⊢
            rw [e14] at d14 q14 ⊢
            rw [e13] at q13 ⊢
            rw [e11] at q11 ⊢
            have Q4 := Lib.hid q4
            have Q6 := Lib.hid q6
            have Q7 := Lib.hid q7
            have Q11 := Lib.hid q11
            have Q13 := Lib.hid q13
            have Q14 := Lib.hid q14
            have Q15 := Lib.hid q15
            have Q16 := Lib.hid q16
            have HX3 := Lib.hid hx3
            have R2 := Lib.hid r2
            have R3 := Lib.hid r3
            have HB3 := Lib.hid hB3
            have hjn : ((j : Int) != (j : Int)) = false := by simp
            clear TR hr hbt q4 q6 q7 q11 q13 q14 q15 q16 hx3 r1 r2 r3 f1 f2 f3 hB3 hca es0 e11 e13 e14 e15 e16 hz0 eW cs cy lt4 lt6 lt7 hB T4 T6 T7 HO K4 K6 K7 K11 K13 HO0 HB0 HFO
            go_wp2_with fail
            have hob : OwnI (w3.alloc (.cells #[.int .i64 s0] 2)) w3.heap.size (some ⟨w3.heap.size, 0, none⟩) 1 1 (spdL mr j wv 1) := by
              have e : spdL mr j wv 1 = [s0] := by rw [← ES0.out]; rfl
              rw [e]
              exact ⟨World.ownsRow_lit w3 #[.int .i64 s0] 1 (Nat.le_refl _) (by unfold maxLen; omega) rfl, rfl⟩
            have hb4 : Below w3.heap.size w3 (w3.alloc (.cells #[.int .i64 s0] 2)) := (by repeat' (first | (with_reducible exact Below.refl _ _) | (with_reducible assumption) | (with_reducible refine below_alloc ?_ _ ?_) | (with_reducible refine below_set _ ?_ ?_) | (with_reducible refine Below.drew ?_) | (with_reducible refine below_dN ?_ _) | (apply below_thenA; assumption) | omega | (simp; done) | (simp; omega) | (simp [*]; done)))
            clear d14 d15 d16 hca0
            go_loopg [18, 19] (j - 1) (fun gk s18 s19 wr => ∃ (i : Nat) (ah : Option Addr) (cs : Nat), 1 ≤ i ∧ i ≤ j ∧ gk = j - i ∧ s18 = .slice ah i cs ∧ s19 = .int .i64 ((i : Int)) ∧ OwnI wr w3.heap.size ah i cs (spdL mr j wv i) ∧ Below w3.heap.size w3 wr)
            case atStart => exact ⟨1, _, 1, by omega, by omega, rfl, rfl, rfl, hob, hb4⟩
            case round =>
              clear hob hb4
              obtain ⟨i, ah, cs, hi1, hij, rfl, rfl, rfl, ho, hb⟩ := hrel
              have hsr := hb.size
              have hsh := ho.shape
              by_cases hjk : i < j
              · have ix : (i : Int) < (j : Int) := by omega
                obtain ⟨m, em⟩ : ∃ m, i = m + 1 := ⟨i - 1, by omega⟩
                have hA := spd_bound HU.out hm0 hm2 hj1 hk30 wv hg0 hg2 hjk
                have hA' := spd_bound HU.out hm0 hm2 hj1 hk30 wv hg0 hg2 (show m < j by omega)
                have hx := HU.out m
                have hst := spd_step xs mr j wv gp (i := m) (by omega)
                rw [← em] at hst
                have c1' := HCA.out i hjk
                have c2' := HCA.out m (by omega)
                rw [plN_get _ _ _ hjk] at c1'
                rw [plN_get _ _ _ (show m < j by omega)] at c2'
                obtain ⟨gx, ox, rfl, hgx, cx⟩ := HX3.out.at (show m < j by omega)
                obtain ⟨A, eA⟩ : ∃ A, plAt xs (spL mr j wv) gp i = A := ⟨_, rfl⟩
                obtain ⟨A', eA'⟩ : ∃ A, plAt xs (spL mr j wv) gp m = A := ⟨_, rfl⟩
                obtain ⟨x, ex⟩ : ∃ x, xs.getD m 0 = x := ⟨_, rfl⟩
                obtain ⟨s, es⟩ : ∃ s, spdS mr j wv i = s := ⟨_, rfl⟩
                rw [eA] at hA hst c1'
                rw [eA'] at hA' hst c2'
                rw [ex] at hx hst cx
                rw [es] at hst
                have HC1 := Lib.hid (fun W (h : Below w3.heap.size w3 W) => (h.cell (p := ⟨ga, oa + i, none⟩) hga).trans c1')
                have HC2 := Lib.hid (fun W (h : Below w3.heap.size w3 W) => (h.cell (p := ⟨ga, oa + m, none⟩) hga).trans c2')
                have HC3 := Lib.hid (fun W (h : Below w3.heap.size w3 W) => (h.cell (p := ⟨gx, ox + m, none⟩) hgx).trans cx)
                have v1 : IntKind.i64.wrap (A - A') = A - A' := wrap_id (by unfold IFit; omega)
                have v2 : IntKind.i64.wrap (A - A' - x) = A - A' - x := wrap_id (by unfold IFit; omega)
                have v3 : IntKind.i64.wrap (A - A' - x - gp) = s := (wrap_id (by unfold IFit; omega)).trans hst
                have V1 := Lib.hid v1
                have V2 := Lib.hid v2
                have V3 := Lib.hid v3
                have hmi : IntKind.i64.wrap ((i : Int) - 1) = (m : Int) := (wrap_id (by unfold IFit; omega)).trans (by omega)
                have HMI := Lib.hid hmi
                have ES := Lib.hid es
                have EM := Lib.hid em
                have hgl : ∀ g, (Value.slice ah i cs).ownBlock = some g → g < wr.heap.size := fun g h => (ho.ge h).2
                have HGL := Lib.hid hgl
                have es2 := spdL_succ mr j wv i
                rw [es] at es2
                clear hgl eA eA' ex es hA hA' hx hst c1' c2' cx v1 v2 v3 hmi em
                obtain ⟨ys, eys⟩ : ∃ ys, spdL mr j wv i = ys := ⟨_, rfl⟩
                rw [eys] at ho es2
                have ES2 := Lib.hid es2
                clear eys es2
                have im : (m : Int) < (j : Int) := by have := EM.out; omega
                have hi0 : 0 < i := hi1
                go_wp2_with fail
                go_upto_region 27 with (fail)
                rename_i K1 hK1
                refine wp_region_calm (fun w' => Below w3.heap.size w3 w' ∧ wr.heap.size ≤ w'.heap.size) [21] (fun w' => OwnI w' w3.heap.size ah i cs ys) [Is (.slice ah i cs), Is (.slice (some ⟨ga, oa, none⟩) j c1), Is (.int .i64 ((i : Int))), Is (.pointer (some ⟨ga, oa + i, none⟩)), Is (.int .i64 A), Is (.slice (some ⟨ga, oa, none⟩) j c1), Is (.int .i64 ((i : Int))), Is (.int .i64 ((m : Int))), Is (.pointer (some ⟨ga, oa + m, none⟩)), Is (.int .i64 (A')), Is (.int .i64 (A - A')), Is (.slice (some ⟨gx, ox, none⟩) j cj), Is (.int .i64 ((i : Int))), Is (.int .i64 ((m : Int))), Is (.pointer (some ⟨gx, ox + m, none⟩)), Is (.int .i64 x), Is (.int .i64 (A - A' - x)), Is (.int .u8 gp), Is (.int .i64 gp), Is (.int .i64 s), sliC wr.heap.size s, ownC w3.heap.size (i + 1) (ys ++ [s]), ownC w3.heap.size (i + 1) (ys ++ [s])] [] (by kernel_rfl) (by kernel_rfl) (by kernel_rfl) (by kernel_rfl) ⟨hb.drew, Nat.le_refl _⟩ ho.drew ?_ ?_ ?_ ?_ ?_
                · rintro W W' ⟨hBB, hl⟩ hb
                  exact ⟨hBB.trans (hb.mono hBB.size), Nat.le_trans hl hb.size⟩
                · intro W W' hB h0 hb; exact h0.below hb
                · intro k vs W hk h
                  exact absurd hk (by simp)
                · intro Q; clear hK1 hb ho
                  refine ⟨?_, ?_, ?_, ?_, ?_, ?_, ?_, ?_, ?_, ?_, ?_, ?_, ?_, ?_, ?_, ?_, ?_, ?_, ?_, ?_, ?_, ?_, ?_, trivial⟩
                  · intro vs W hW hW0 hd hne hold K hK hA hL; clear hne hA hL; have hBB := hW.1; have hl := hW.2; simp only [puts, Act.put, List.setIfInBounds_toArray, List.set_cons_zero, List.set_cons_succ, Nat.zero_add, Nat.reduceAdd] at hK ⊢; have e22 : vs 22 = _ := hold 22 (by kernel_rfl); clear hd hold; simp only [e22] at hK; go_simp; exact hK.out rfl _ _ (Below.refl _ _) rfl
                  · intro vs W hW hW0 hd hne hold K hK hA hL; clear hne hA hL; have hBB := hW.1; have hl := hW.2; simp only [puts, Act.put, List.setIfInBounds_toArray, List.set_cons_zero, List.set_cons_succ, Nat.zero_add, Nat.reduceAdd] at hK ⊢; have q1 := (Q14.out.below hBB).cell 0 _ rfl; clear hd hold; go_simp; exact hK.out rfl _ _ (Below.refl _ _) rfl
                  · intro vs W hW hW0 hd hne hold K hK hA hL; clear hne hA hL; have hBB := hW.1; have hl := hW.2; simp only [puts, Act.put, List.setIfInBounds_toArray, List.set_cons_zero, List.set_cons_succ, Nat.zero_add, Nat.reduceAdd] at hK ⊢; clear hd hold; go_simp; exact hK.out rfl _ _ (Below.refl _ _) rfl
                  · intro vs W hW hW0 hd hne hold K hK hA hL; clear hne hA hL; have hBB := hW.1; have hl := hW.2; simp only [puts, Act.put, List.setIfInBounds_toArray, List.set_cons_zero, List.set_cons_succ, Nat.zero_add, Nat.reduceAdd] at hK ⊢; have e1 : vs 1 = _ := hd 1 (by kernel_rfl); have e2 : vs 2 = _ := hd 2 (by kernel_rfl); clear hd hold; simp only [e1, e2] at hK; go_simp; exact hK.out rfl _ _ (Below.refl _ _) rfl
                  · intro vs W hW hW0 hd hne hold K hK hA hL; clear hne hA hL; have hBB := hW.1; have hl := hW.2; simp only [puts, Act.put, List.setIfInBounds_toArray, List.set_cons_zero, List.set_cons_succ, Nat.zero_add, Nat.reduceAdd] at hK ⊢; have q := HC1.out W hBB; have eb : vs 3 = _ := hd 3 (by kernel_rfl); clear hd hold; simp only [eb] at hK; go_simp; exact hK.out rfl _ _ (Below.refl _ _) rfl
                  · intro vs W hW hW0 hd hne hold K hK hA hL; clear hne hA hL; have hBB := hW.1; have hl := hW.2; simp only [puts, Act.put, List.setIfInBounds_toArray, List.set_cons_zero, List.set_cons_succ, Nat.zero_add, Nat.reduceAdd] at hK ⊢; have q1 := (Q14.out.below hBB).cell 0 _ rfl; clear hd hold; go_simp; exact hK.out rfl _ _ (Below.refl _ _) rfl
                  · intro vs W hW hW0 hd hne hold K hK hA hL; clear hne hA hL; have hBB := hW.1; have hl := hW.2; simp only [puts, Act.put, List.setIfInBounds_toArray, List.set_cons_zero, List.set_cons_succ, Nat.zero_add, Nat.reduceAdd] at hK ⊢; clear hd hold; go_simp; exact hK.out rfl _ _ (Below.refl _ _) rfl
                  · intro vs W hW hW0 hd hne hold K hK hA hL; clear hne hA hL; have hBB := hW.1; have hl := hW.2; simp only [puts, Act.put, List.setIfInBounds_toArray, List.set_cons_zero, List.set_cons_succ, Nat.zero_add, Nat.reduceAdd] at hK ⊢; have eb : vs 6 = _ := hd 6 (by kernel_rfl); clear hd hold; simp only [eb] at hK; go_simp; exact hK.out rfl _ _ (Below.refl _ _) (by show upd vs _ _ _ = _; rw [upd_self]; exact congrArg (Value.int .i64) HMI.out)
                  · intro vs W hW hW0 hd hne hold K hK hA hL; clear hne hA hL; have hBB := hW.1; have hl := hW.2; simp only [puts, Act.put, List.setIfInBounds_toArray, List.set_cons_zero, List.set_cons_succ, Nat.zero_add, Nat.reduceAdd] at hK ⊢; have e5 : vs 5 = _ := hd 5 (by kernel_rfl); have e7 : vs 7 = _ := hd 7 (by kernel_rfl); clear hd hold; simp only [e5, e7] at hK; go_simp; exact hK.out rfl _ _ (Below.refl _ _) rfl
                  · intro vs W hW hW0 hd hne hold K hK hA hL; clear hne hA hL; have hBB := hW.1; have hl := hW.2; simp only [puts, Act.put, List.setIfInBounds_toArray, List.set_cons_zero, List.set_cons_succ, Nat.zero_add, Nat.reduceAdd] at hK ⊢; have q := HC2.out W hBB; have eb : vs 8 = _ := hd 8 (by kernel_rfl); clear hd hold; simp only [eb] at hK; go_simp; exact hK.out rfl _ _ (Below.refl _ _) rfl
                  · intro vs W hW hW0 hd hne hold K hK hA hL; clear hne hA hL; have hBB := hW.1; have hl := hW.2; simp only [puts, Act.put, List.setIfInBounds_toArray, List.set_cons_zero, List.set_cons_succ, Nat.zero_add, Nat.reduceAdd] at hK ⊢; have eb : vs 4 = _ := hd 4 (by kernel_rfl); have ec : vs 9 = _ := hd 9 (by kernel_rfl); clear hd hold; simp only [eb, ec] at hK; go_simp; exact hK.out rfl _ _ (Below.refl _ _) (by show upd vs _ _ _ = _; rw [upd_self]; exact congrArg (Value.int .i64) V1.out)
                  · intro vs W hW hW0 hd hne hold K hK hA hL; clear hne hA hL; have hBB := hW.1; have hl := hW.2; simp only [puts, Act.put, List.setIfInBounds_toArray, List.set_cons_zero, List.set_cons_succ, Nat.zero_add, Nat.reduceAdd] at hK ⊢; have q1 := (Q7.out.below hBB).cell 0 _ rfl; clear hd hold; go_simp; exact hK.out rfl _ _ (Below.refl _ _) rfl
                  · intro vs W hW hW0 hd hne hold K hK hA hL; clear hne hA hL; have hBB := hW.1; have hl := hW.2; simp only [puts, Act.put, List.setIfInBounds_toArray, List.set_cons_zero, List.set_cons_succ, Nat.zero_add, Nat.reduceAdd] at hK ⊢; clear hd hold; go_simp; exact hK.out rfl _ _ (Below.refl _ _) rfl
                  · intro vs W hW hW0 hd hne hold K hK hA hL; clear hne hA hL; have hBB := hW.1; have hl := hW.2; simp only [puts, Act.put, List.setIfInBounds_toArray, List.set_cons_zero, List.set_cons_succ, Nat.zero_add, Nat.reduceAdd] at hK ⊢; have eb : vs 12 = _ := hd 12 (by kernel_rfl); clear hd hold; simp only [eb] at hK; go_simp; exact hK.out rfl _ _ (Below.refl _ _) (by show upd vs _ _ _ = _; rw [upd_self]; exact congrArg (Value.int .i64) HMI.out)
                  · intro vs W hW hW0 hd hne hold K hK hA hL; clear hne hA hL; have hBB := hW.1; have hl := hW.2; simp only [puts, Act.put, List.setIfInBounds_toArray, List.set_cons_zero, List.set_cons_succ, Nat.zero_add, Nat.reduceAdd] at hK ⊢; have e11 : vs 11 = _ := hd 11 (by kernel_rfl); have e13 : vs 13 = _ := hd 13 (by kernel_rfl); clear hd hold; simp only [e11, e13] at hK; go_simp; exact hK.out rfl _ _ (Below.refl _ _) rfl
                  · intro vs W hW hW0 hd hne hold K hK hA hL; clear hne hA hL; have hBB := hW.1; have hl := hW.2; simp only [puts, Act.put, List.setIfInBounds_toArray, List.set_cons_zero, List.set_cons_succ, Nat.zero_add, Nat.reduceAdd] at hK ⊢; have q := HC3.out W hBB; have eb : vs 14 = _ := hd 14 (by kernel_rfl); clear hd hold; simp only [eb] at hK; go_simp; exact hK.out rfl _ _ (Below.refl _ _) rfl
                  · intro vs W hW hW0 hd hne hold K hK hA hL; clear hne hA hL; have hBB := hW.1; have hl := hW.2; simp only [puts, Act.put, List.setIfInBounds_toArray, List.set_cons_zero, List.set_cons_succ, Nat.zero_add, Nat.reduceAdd] at hK ⊢; have eb : vs 10 = _ := hd 10 (by kernel_rfl); have ec : vs 15 = _ := hd 15 (by kernel_rfl); clear hd hold; simp only [eb, ec] at hK; go_simp; exact hK.out rfl _ _ (Below.refl _ _) (by show upd vs _ _ _ = _; rw [upd_self]; exact congrArg (Value.int .i64) V2.out)
                  · intro vs W hW hW0 hd hne hold K hK hA hL; clear hne hA hL; have hBB := hW.1; have hl := hW.2; simp only [puts, Act.put, List.setIfInBounds_toArray, List.set_cons_zero, List.set_cons_succ, Nat.zero_add, Nat.reduceAdd] at hK ⊢; have q1 := (Q4.out.below hBB).cell 0 _ rfl; clear hd hold; go_simp; exact hK.out rfl _ _ (Below.refl _ _) rfl
                  · intro vs W hW hW0 hd hne hold K hK hA hL; clear hne hA hL; have hBB := hW.1; have hl := hW.2; simp only [puts, Act.put, List.setIfInBounds_toArray, List.set_cons_zero, List.set_cons_succ, Nat.zero_add, Nat.reduceAdd] at hK ⊢; have eb : vs 17 = _ := hd 17 (by kernel_rfl); clear hd hold; simp only [eb] at hK; go_simp; exact hK.out rfl _ _ (Below.refl _ _) (by show upd vs _ _ _ = _; rw [upd_self]; exact congrArg (Value.int .i64) (wrap_u16 hg0 (by omega)))
                  · intro vs W hW hW0 hd hne hold K hK hA hL; clear hne hA hL; have hBB := hW.1; have hl := hW.2; simp only [puts, Act.put, List.setIfInBounds_toArray, List.set_cons_zero, List.set_cons_succ, Nat.zero_add, Nat.reduceAdd] at hK ⊢; have eb : vs 16 = _ := hd 16 (by kernel_rfl); have ec : vs 18 = _ := hd 18 (by kernel_rfl); clear hd hold; simp only [eb, ec] at hK; go_simp; exact hK.out rfl _ _ (Below.refl _ _) (by show upd vs _ _ _ = _; rw [upd_self]; exact congrArg (Value.int .i64) V3.out)
                  · intro vs W hW hW0 hd hne hold K hK hA hL; clear hne hA hL; have hBB := hW.1; have hl := hW.2; simp only [puts, Act.put, List.setIfInBounds_toArray, List.set_cons_zero, List.set_cons_succ, Nat.zero_add, Nat.reduceAdd] at hK ⊢; have eb : vs 19 = _ := hd 19 (by kernel_rfl); clear hd hold; simp only [eb] at hK; go_simp; exact hK.out rfl _ _ ((Below.refl _ _).alloc (Nat.le_refl _) _) ⟨W.heap.size, rfl, hl, Blk.new _ _ _ _ rfl⟩
                  · intro vs W hW hW0 hd hne hold K hK hA hL; clear hK hA; have hBB := hW.1; have hl := hW.2; simp only [puts, Act.put, List.setIfInBounds_toArray, List.set_cons_zero, List.set_cons_succ, Nat.zero_add, Nat.reduceAdd] at hL ⊢; have ho := hW0 (by kernel_rfl); have ea : vs 0 = _ := hd 0 (by kernel_rfl); have h14 : SliV wr.heap.size s (vs 20) W := hd 20 (by kernel_rfl); obtain ⟨b, eb, hlb, tb⟩ := h14; clear hd hold; simp only [ea, eb] at hL ⊢; rw [if_pos (show Region.wanted _ _ = true from rfl)]; refine wp_append_own W (.tmp 110) (.tmp 130) 31 rfl w3.heap.size 2 i0 (.int .i64 0) 1 8 Try.underlying31 hi hz0 hz1 hz2 rfl (by decide) _ _ _ rfl ho.1 ⟨b, 0, none⟩ 1 1 (i64s [s]) rfl rfl (World.news_of_block tb) (i64s_one _) (by unfold maxLen; omega) (by omega) hBB.size ?_; intro v' w1 ho1 hg1 _; obtain ⟨a1, c1, rfl, ho2, hbe, hke, hbl, hb2⟩ := ho.app (ys := [s]) ho1 hg1 rfl hBB.size; simp only [Act.put, List.setIfInBounds_toArray, List.set_cons_zero, List.set_cons_succ, Nat.zero_add, Nat.reduceAdd]; refine hL.out rfl _ _ ⟨hbe _ _ (Nat.le_refl _) hBB, Nat.le_trans hl hg1.size⟩ (fun h => absurd h (by decide)) ⟨a1, c1, rfl, ho2⟩ ?_; exact claims_keep_a ⟨.inr (.inr is_keep), .inr (.inr is_keep), .inr (.inr is_keep), .inr (.inr is_keep), .inr (.inr is_keep), .inr (.inr is_keep), .inr (.inr is_keep), .inr (.inr is_keep), .inr (.inr is_keep), .inr (.inr is_keep), .inr (.inr is_keep), .inr (.inr is_keep), .inr (.inr is_keep), .inr (.inr is_keep), .inr (.inr is_keep), .inr (.inr is_keep), .inr (.inr is_keep), .inr (.inr is_keep), .inr (.inr is_keep), .inr (.inr is_keep), .inr (.inr fun h => SliV.app h hb2 HGL.out), .inl rfl, .inr (.inl (by kernel_rfl)), trivial⟩
                  · intro vs W hW hW0 hd hne hold K hK hA hL; clear hne hA hL; have hBB := hW.1; have hl := hW.2; simp only [puts, Act.put, List.setIfInBounds_toArray, List.set_cons_zero, List.set_cons_succ, Nat.zero_add, Nat.reduceAdd] at hK ⊢; have h15 : OwnV w3.heap.size (i + 1) (ys ++ [s]) (vs 21) W := hd 21 (by kernel_rfl); obtain ⟨a1, c1, e1, ho⟩ := h15; clear hd hold; simp only [e1] at hK; go_simp; exact hK.out rfl _ _ (Below.refl _ _) ⟨a1, c1, rfl, ho⟩
                · intro vb WB hW hV _
                  clear hb ho
                  obtain ⟨hb, _⟩ := hW
                  have h22 : OwnV w3.heap.size (i + 1) (ys ++ [s]) (vb 22) WB := hV 22 (by decide)
                  obtain ⟨a5, c5, e22, ho⟩ := h22
                  clear hV
                  rw [← ES2.out] at ho
                  simp only [puts, Act.put, List.setIfInBounds_toArray, List.set_cons_zero, List.set_cons_succ, Nat.zero_add, Nat.reduceAdd, e22]
                  refine hK1 _ _ ?_
                  clear hK1 e22
                  go_wp2_with fail
                  go_roundg (j - (i + 1))
                  case measure => omega
                  case rel => exact ⟨i + 1, a5, c5, by omega, by omega, rfl, rfl, by go_num, ho, hb⟩
              · obtain rfl : i = j := by omega
                obtain ⟨m, em⟩ : ∃ m, i = m + 1 := ⟨i - 1, by omega⟩
                have hA' := spd_bound HU.out hm0 hm2 hj1 hk30 wv hg0 hg2 (show m < i by omega)
                have hx := HU.out m
                have hst : av - plAt xs (spL mr i wv) gp m - xs.getD m 0 = spdS mr i wv i := by
                  have e2 := EP.out
                  have e3 := EAV.out
                  rw [em, Nat.add_sub_cancel] at e2
                  rw [em]
                  exact spd_last xs mr m wv gp av (by omega)
                have c2' := HCA.out m (by omega)
                rw [plN_get _ _ _ (show m < i by omega)] at c2'
                obtain ⟨gx, ox, rfl, hgx, cx⟩ := HX3.out.at (show m < i by omega)
                obtain ⟨A, eA⟩ : ∃ A, plAt xs (spL mr i wv) gp m = A := ⟨_, rfl⟩
                obtain ⟨x, ex⟩ : ∃ x, xs.getD m 0 = x := ⟨_, rfl⟩
                obtain ⟨s, es⟩ : ∃ s, spdS mr i wv i = s := ⟨_, rfl⟩
                rw [eA] at hA' hst c2'
                rw [ex] at hx hst cx
                rw [es] at hst
                have HC2 := Lib.hid (fun W (h : Below w3.heap.size w3 W) => (h.cell (p := ⟨ga, oa + m, none⟩) hga).trans c2')
                have HC3 := Lib.hid (fun W (h : Below w3.heap.size w3 W) => (h.cell (p := ⟨gx, ox + m, none⟩) hgx).trans cx)
                have v1 : IntKind.i64.wrap (av - A) = av - A := wrap_id (by unfold IFit; omega)
                have v2 : IntKind.i64.wrap (av - A - x) = s := (wrap_id (by unfold IFit; omega)).trans hst
                have V1 := Lib.hid v1
                have V2 := Lib.hid v2
                have hmi : IntKind.i64.wrap ((i : Int) - 1) = (m : Int) := (wrap_id (by unfold IFit; omega)).trans (by omega)
                have HMI := Lib.hid hmi
                have ES := Lib.hid es
                have EM := Lib.hid em
                have hgl : ∀ g, (Value.slice ah i cs).ownBlock = some g → g < wr.heap.size := fun g h => (ho.ge h).2
                have HGL := Lib.hid hgl
                have es2 := spdL_succ mr i wv i
                rw [es] at es2
                have EX := Lib.hid ex
                clear hgl eA ex es hA' hx hst c2' cx v1 v2 hmi em
                obtain ⟨ys, eys⟩ : ∃ ys, spdL mr i wv i = ys := ⟨_, rfl⟩
                rw [eys] at ho es2
                have ES2 := Lib.hid es2
                clear eys es2
                have im : (m : Int) < (i : Int) := by have := EM.out; omega
                have ix : ¬ (i : Int) < (i : Int) := by omega
                go_wp2_with fail
                go_upto_region 28 with (fail)
                rename_i K1 hK1
                refine wp_region_calm (fun w' => Below w3.heap.size w3 w' ∧ wr.heap.size ≤ w'.heap.size) [15] (fun w' => OwnI w' w3.heap.size ah i cs ys) [Is (.slice ah i cs), Is (.int .i64 av), Is (.slice (some ⟨ga, oa, none⟩) i c1), Is (.int .i64 ((i : Int))), Is (.int .i64 ((m : Int))), Is (.pointer (some ⟨ga, oa + m, none⟩)), Is (.int .i64 A), Is (.int .i64 (av - A)), Is (.slice (some ⟨gx, ox, none⟩) i cj), Is (.int .i64 ((i : Int))), Is (.int .i64 ((m : Int))), Is (.pointer (some ⟨gx, ox + m, none⟩)), Is (.int .i64 x), Is (.int .i64 s), sliC wr.heap.size s, ownC w3.heap.size (i + 1) (ys ++ [s]), ownC w3.heap.size (i + 1) (ys ++ [s])] [] (by kernel_rfl) (by kernel_rfl) (by kernel_rfl) (by kernel_rfl) ⟨hb.drew, Nat.le_refl _⟩ ho.drew ?_ ?_ ?_ ?_ ?_
                · rintro W W' ⟨hBB, hl⟩ hb
                  exact ⟨hBB.trans (hb.mono hBB.size), Nat.le_trans hl hb.size⟩
                · intro W W' hB h0 hb; exact h0.below hb
                · intro k vs W hk h
                  exact absurd hk (by simp)
                · intro Q; clear hK1 hb ho
                  refine ⟨?_, ?_, ?_, ?_, ?_, ?_, ?_, ?_, ?_, ?_, ?_, ?_, ?_, ?_, ?_, ?_, ?_, trivial⟩
                  · intro vs W hW hW0 hd hne hold K hK hA hL; clear hne hA hL; have hBB := hW.1; have hl := hW.2; simp only [puts, Act.put, List.setIfInBounds_toArray, List.set_cons_zero, List.set_cons_succ, Nat.zero_add, Nat.reduceAdd] at hK ⊢; have e16 : vs 16 = _ := hold 16 (by kernel_rfl); clear hd hold; simp only [e16] at hK; go_simp; exact hK.out rfl _ _ (Below.refl _ _) rfl
                  · intro vs W hW hW0 hd hne hold K hK hA hL; clear hne hA hL; have hBB := hW.1; have hl := hW.2; simp only [puts, Act.put, List.setIfInBounds_toArray, List.set_cons_zero, List.set_cons_succ, Nat.zero_add, Nat.reduceAdd] at hK ⊢; have q1 := (Q11.out.below hBB).cell 0 _ rfl; clear hd hold; go_simp; exact hK.out rfl _ _ (Below.refl _ _) rfl
                  · intro vs W hW hW0 hd hne hold K hK hA hL; clear hne hA hL; have hBB := hW.1; have hl := hW.2; simp only [puts, Act.put, List.setIfInBounds_toArray, List.set_cons_zero, List.set_cons_succ, Nat.zero_add, Nat.reduceAdd] at hK ⊢; have q1 := (Q14.out.below hBB).cell 0 _ rfl; clear hd hold; go_simp; exact hK.out rfl _ _ (Below.refl _ _) rfl
                  · intro vs W hW hW0 hd hne hold K hK hA hL; clear hne hA hL; have hBB := hW.1; have hl := hW.2; simp only [puts, Act.put, List.setIfInBounds_toArray, List.set_cons_zero, List.set_cons_succ, Nat.zero_add, Nat.reduceAdd] at hK ⊢; clear hd hold; go_simp; exact hK.out rfl _ _ (Below.refl _ _) rfl
                  · intro vs W hW hW0 hd hne hold K hK hA hL; clear hne hA hL; have hBB := hW.1; have hl := hW.2; simp only [puts, Act.put, List.setIfInBounds_toArray, List.set_cons_zero, List.set_cons_succ, Nat.zero_add, Nat.reduceAdd] at hK ⊢; have eb : vs 3 = _ := hd 3 (by kernel_rfl); clear hd hold; simp only [eb] at hK; go_simp; exact hK.out rfl _ _ (Below.refl _ _) (by show upd vs _ _ _ = _; rw [upd_self]; exact congrArg (Value.int .i64) HMI.out)
                  · intro vs W hW hW0 hd hne hold K hK hA hL; clear hne hA hL; have hBB := hW.1; have hl := hW.2; simp only [puts, Act.put, List.setIfInBounds_toArray, List.set_cons_zero, List.set_cons_succ, Nat.zero_add, Nat.reduceAdd] at hK ⊢; have e2 : vs 2 = _ := hd 2 (by kernel_rfl); have e4 : vs 4 = _ := hd 4 (by kernel_rfl); clear hd hold; simp only [e2, e4] at hK; go_simp; exact hK.out rfl _ _ (Below.refl _ _) rfl
                  · intro vs W hW hW0 hd hne hold K hK hA hL; clear hne hA hL; have hBB := hW.1; have hl := hW.2; simp only [puts, Act.put, List.setIfInBounds_toArray, List.set_cons_zero, List.set_cons_succ, Nat.zero_add, Nat.reduceAdd] at hK ⊢; have q := HC2.out W hBB; have eb : vs 5 = _ := hd 5 (by kernel_rfl); clear hd hold; simp only [eb] at hK; go_simp; exact hK.out rfl _ _ (Below.refl _ _) rfl
                  · intro vs W hW hW0 hd hne hold K hK hA hL; clear hne hA hL; have hBB := hW.1; have hl := hW.2; simp only [puts, Act.put, List.setIfInBounds_toArray, List.set_cons_zero, List.set_cons_succ, Nat.zero_add, Nat.reduceAdd] at hK ⊢; have eb : vs 1 = _ := hd 1 (by kernel_rfl); have ec : vs 6 = _ := hd 6 (by kernel_rfl); clear hd hold; simp only [eb, ec] at hK; go_simp; exact hK.out rfl _ _ (Below.refl _ _) (by show upd vs _ _ _ = _; rw [upd_self]; exact congrArg (Value.int .i64) V1.out)
                  · intro vs W hW hW0 hd hne hold K hK hA hL; clear hne hA hL; have hBB := hW.1; have hl := hW.2; simp only [puts, Act.put, List.setIfInBounds_toArray, List.set_cons_zero, List.set_cons_succ, Nat.zero_add, Nat.reduceAdd] at hK ⊢; have q1 := (Q7.out.below hBB).cell 0 _ rfl; clear hd hold; go_simp; exact hK.out rfl _ _ (Below.refl _ _) rfl
                  · intro vs W hW hW0 hd hne hold K hK hA hL; clear hne hA hL; have hBB := hW.1; have hl := hW.2; simp only [puts, Act.put, List.setIfInBounds_toArray, List.set_cons_zero, List.set_cons_succ, Nat.zero_add, Nat.reduceAdd] at hK ⊢; clear hd hold; go_simp; exact hK.out rfl _ _ (Below.refl _ _) rfl
                  · intro vs W hW hW0 hd hne hold K hK hA hL; clear hne hA hL; have hBB := hW.1; have hl := hW.2; simp only [puts, Act.put, List.setIfInBounds_toArray, List.set_cons_zero, List.set_cons_succ, Nat.zero_add, Nat.reduceAdd] at hK ⊢; have eb : vs 9 = _ := hd 9 (by kernel_rfl); clear hd hold; simp only [eb] at hK; go_simp; exact hK.out rfl _ _ (Below.refl _ _) (by show upd vs _ _ _ = _; rw [upd_self]; exact congrArg (Value.int .i64) HMI.out)
                  · intro vs W hW hW0 hd hne hold K hK hA hL; clear hne hA hL; have hBB := hW.1; have hl := hW.2; simp only [puts, Act.put, List.setIfInBounds_toArray, List.set_cons_zero, List.set_cons_succ, Nat.zero_add, Nat.reduceAdd] at hK ⊢; have e8 : vs 8 = _ := hd 8 (by kernel_rfl); have e10 : vs 10 = _ := hd 10 (by kernel_rfl); clear hd hold; simp only [e8, e10] at hK; go_simp; exact hK.out rfl _ _ (Below.refl _ _) rfl
                  · intro vs W hW hW0 hd hne hold K hK hA hL; clear hne hA hL; have hBB := hW.1; have hl := hW.2; simp only [puts, Act.put, List.setIfInBounds_toArray, List.set_cons_zero, List.set_cons_succ, Nat.zero_add, Nat.reduceAdd] at hK ⊢; have q := HC3.out W hBB; have eb : vs 11 = _ := hd 11 (by kernel_rfl); clear hd hold; simp only [eb] at hK; go_simp; exact hK.out rfl _ _ (Below.refl _ _) rfl
                  · intro vs W hW hW0 hd hne hold K hK hA hL; clear hne hA hL; have hBB := hW.1; have hl := hW.2; simp only [puts, Act.put, List.setIfInBounds_toArray, List.set_cons_zero, List.set_cons_succ, Nat.zero_add, Nat.reduceAdd] at hK ⊢; have eb : vs 7 = _ := hd 7 (by kernel_rfl); have ec : vs 12 = _ := hd 12 (by kernel_rfl); clear hd hold; simp only [eb, ec] at hK; go_simp; exact hK.out rfl _ _ (Below.refl _ _) (by show upd vs _ _ _ = _; rw [upd_self]; exact congrArg (Value.int .i64) V2.out)
                  · intro vs W hW hW0 hd hne hold K hK hA hL; clear hne hA hL; have hBB := hW.1; have hl := hW.2; simp only [puts, Act.put, List.setIfInBounds_toArray, List.set_cons_zero, List.set_cons_succ, Nat.zero_add, Nat.reduceAdd] at hK ⊢; have eb : vs 13 = _ := hd 13 (by kernel_rfl); clear hd hold; simp only [eb] at hK; go_simp; exact hK.out rfl _ _ ((Below.refl _ _).alloc (Nat.le_refl _) _) ⟨W.heap.size, rfl, hl, Blk.new _ _ _ _ rfl⟩
                  · intro vs W hW hW0 hd hne hold K hK hA hL; clear hK hA; have hBB := hW.1; have hl := hW.2; simp only [puts, Act.put, List.setIfInBounds_toArray, List.set_cons_zero, List.set_cons_succ, Nat.zero_add, Nat.reduceAdd] at hL ⊢; have ho := hW0 (by kernel_rfl); have ea : vs 0 = _ := hd 0 (by kernel_rfl); have h14 : SliV wr.heap.size s (vs 14) W := hd 14 (by kernel_rfl); obtain ⟨b, eb, hlb, tb⟩ := h14; clear hd hold; simp only [ea, eb] at hL ⊢; rw [if_pos (show Region.wanted _ _ = true from rfl)]; refine wp_append_own W (.tmp 132) (.tmp 146) 31 rfl w3.heap.size 2 i0 (.int .i64 0) 1 8 Try.underlying31 hi hz0 hz1 hz2 rfl (by decide) _ _ _ rfl ho.1 ⟨b, 0, none⟩ 1 1 (i64s [s]) rfl rfl (World.news_of_block tb) (i64s_one _) (by unfold maxLen; omega) (by omega) hBB.size ?_; intro v' w1 ho1 hg1 _; obtain ⟨a1, c1, rfl, ho2, hbe, hke, hbl, hb2⟩ := ho.app (ys := [s]) ho1 hg1 rfl hBB.size; simp only [Act.put, List.setIfInBounds_toArray, List.set_cons_zero, List.set_cons_succ, Nat.zero_add, Nat.reduceAdd]; refine hL.out rfl _ _ ⟨hbe _ _ (Nat.le_refl _) hBB, Nat.le_trans hl hg1.size⟩ (fun h => absurd h (by decide)) ⟨a1, c1, rfl, ho2⟩ ?_; exact claims_keep_a ⟨.inr (.inr is_keep), .inr (.inr is_keep), .inr (.inr is_keep), .inr (.inr is_keep), .inr (.inr is_keep), .inr (.inr is_keep), .inr (.inr is_keep), .inr (.inr is_keep), .inr (.inr is_keep), .inr (.inr is_keep), .inr (.inr is_keep), .inr (.inr is_keep), .inr (.inr is_keep), .inr (.inr is_keep), .inr (.inr fun h => SliV.app h hb2 HGL.out), .inl rfl, .inr (.inl (by kernel_rfl)), trivial⟩
                  · intro vs W hW hW0 hd hne hold K hK hA hL; clear hne hA hL; have hBB := hW.1; have hl := hW.2; simp only [puts, Act.put, List.setIfInBounds_toArray, List.set_cons_zero, List.set_cons_succ, Nat.zero_add, Nat.reduceAdd] at hK ⊢; have h15 : OwnV w3.heap.size (i + 1) (ys ++ [s]) (vs 15) W := hd 15 (by kernel_rfl); obtain ⟨a1, c1, e1, ho⟩ := h15; clear hd hold; simp only [e1] at hK; go_simp; exact hK.out rfl _ _ (Below.refl _ _) ⟨a1, c1, rfl, ho⟩
                · intro vb WB hW hV _
                  clear hb ho
                  obtain ⟨hb, _⟩ := hW
                  have h22 : OwnV w3.heap.size (i + 1) (ys ++ [s]) (vb 16) WB := hV 16 (by decide)
                  obtain ⟨a5, c5, e22, ho⟩ := h22
                  clear hV
                  rw [← ES2.out] at ho
                  simp only [puts, Act.put, List.setIfInBounds_toArray, List.set_cons_zero, List.set_cons_succ, Nat.zero_add, Nat.reduceAdd, e22]
                  refine hK1 _ _ ?_
                  clear hK1 e22
                  clear HC2 HC3 V1 V2 HMI ES HGL ES2 im ix hsh hsr
                  obtain ⟨half, ehf⟩ : ∃ h : Nat, h = i / 2 := ⟨_, rfl⟩
                  have hS := spdL_len mr i wv (i + 1)
                  have hcs : ∀ q, q < i + 1 → ∃ g5 : Nat, a5 = some ⟨g5, 0, none⟩ ∧ g5 < WB.heap.size ∧ WB.cell? ⟨g5, q, none⟩ = some (.int .i64 (spdS mr i wv q)) := fun q hq => by
                    obtain ⟨g5, e5, _⟩ := ho.head (by omega)
                    obtain ⟨g', off', e', hlt, hc⟩ := ho.row.at hq
                    rw [e5] at e'
                    obtain ⟨rfl, rfl⟩ : g5 = g' ∧ 0 = off' := by simpa using e'
                    rw [Nat.zero_add, spdL_get _ _ _ hq] at hc
                    exact ⟨g5, e5, hlt, hc⟩
                  have HCS := Lib.hid hcs
                  obtain ⟨g5, rfl, hg5, ch⟩ := hcs half (by omega)
                  have hcs2 : ∀ W q, Below WB.heap.size WB W → q < i + 1 → W.cell? ⟨g5, q, none⟩ = some (.int .i64 (spdS mr i wv q)) := fun W q hW hq => by
                    obtain ⟨g', e', _, h⟩ := HCS.out q hq
                    obtain rfl : g5 = g' := by simpa using e'
                    exact (hW.cell (p := ⟨g5, q, none⟩) hg5).trans h
                  have HCS2 := Lib.hid hcs2
                  clear hcs2
                  clear HCS hcs hS ho
                  have hh : (i : Int).tdiv 2 = (half : Int) := by rw [Int.tdiv_eq_ediv_of_nonneg (by omega)]; omega
                  have hh2 : (i : Int) / 2 = (half : Int) := by omega
                  obtain ⟨sh, esh⟩ : ∃ s, spdS mr i wv half = s := ⟨_, rfl⟩
                  rw [esh] at ch
                  have hhi : (half : Int) < (i : Int) + 1 := by omega
                  have hhn : half ≤ i := by omega
                  clear ehf
                  go_wp2_with fail
                  go_quiet (fail)
                  go_wp2_with fail
                  have HSH := Lib.hid (show ∃ z, z ≤ i ∧ sh = spdS mr i wv z from ⟨half, hhn, esh.symm⟩)
                  clear ch hh hh2 hhi hhn esh
                  go_loopg [20, 21, 22, 23] (i + 1) (fun gk s20 s21 s22 s23 wr => ∃ (q : Nat) (t l g : Int), q ≤ i + 1 ∧ gk = i + 1 - q ∧ s20 = .int .i64 t ∧ s21 = .int .i64 l ∧ s22 = .int .i64 g ∧ s23 = .int .i64 ((q : Int)) ∧ t = pre (spdL mr i wv (i + 1)) q ∧ (∃ z, z ≤ i ∧ l = spdS mr i wv z) ∧ (∃ z, z ≤ i ∧ g = spdS mr i wv z) ∧ Below WB.heap.size WB wr)
                  case atStart => exact ⟨0, 0, sh, sh, by omega, rfl, rfl, rfl, rfl, rfl, rfl, HSH.out, HSH.out, below_dN (Below.refl _ _) _⟩
                  case round =>
                    obtain ⟨q, t, l, g, hq, rfl, rfl, rfl, rfl, rfl, et, hzl, hzg, hbW⟩ := hrel
                    have hsl := fun z => spdS_nonneg (F := mr) (k := i) wv hm0 hj1 z
                    have hnn : Nonneg (spdL mr i wv (i + 1)) := fun z => by
                      by_cases h : z < i + 1
                      · rw [spdL_get _ _ _ h]; exact (hsl z).1
                      · have : (spdL mr i wv (i + 1)).getD z 0 = 0 := by simp [List.getD, List.getElem?_eq_none (show (spdL mr i wv (i + 1)).length ≤ z by rw [spdL_len]; omega)]
                        omega
                    have ht0 := pre_nonneg hnn q
                    have ht1 := pre_mono hnn hq
                    rw [spdL_all, ← et] at ht1
                    rw [← et] at ht0
                    have ET := Lib.hid et
                    have HZL := Lib.hid hzl
                    have HZG := Lib.hid hzg
                    clear et hzl hzg hnn
                    by_cases hqi : q ≤ i
                    · have ix : (q : Int) ≤ (i : Int) := by omega
                      have cq := HCS2.out wr q hbW (by omega)
                      have hsq := hsl q
                      have et2 : pre (spdL mr i wv (i + 1)) (q + 1) = t + spdS mr i wv q := by
                        show pre (spdL mr i wv (i + 1)) q + (spdL mr i wv (i + 1)).getD q 0 = _
                        rw [spdL_get _ _ _ (show q < i + 1 by omega), ET.out]
                      obtain ⟨s, es⟩ : ∃ s, spdS mr i wv q = s := ⟨_, rfl⟩
                      rw [es] at cq hsq et2
                      have HZS := Lib.hid (show ∃ z, z ≤ i ∧ s = spdS mr i wv z from ⟨q, hqi, es.symm⟩)
                      have ET2 := Lib.hid et2
                      have hsq0 : ¬ s < 0 := by omega
                      have hsq1 := hsq.2
                      have hql : (q : Int) < (i : Int) + 1 := by omega
                      have hqn : q < i + 1 := by omega
                      clear es hsl hsq et2
                      by_cases hq0 : 0 < q
                      · have iq0 : (0 : Int) < (q : Int) := by omega
                        by_cases hqj : q < i
                        · have iqj : (q : Int) < (i : Int) := by omega
                          go_wp2_with fail
                          go_region
                          all_goals
                            go_wp2_with fail
                            go_roundg (i + 1 - (q + 1))
                            case measure => omega
                            case rel =>
                              refine ⟨q + 1, t + s, min l s, max g s, by omega, rfl, by go_num, rfl, rfl, by go_num, ET2.out.symm, ?_, ?_, hbW.drew⟩
                              · rcases Int.le_total l s with h | h
                                · rw [Int.min_eq_left h]; exact HZL.out
                                · rw [Int.min_eq_right h]; exact HZS.out
                              · rcases Int.le_total g s with h | h
                                · rw [Int.max_eq_right h]; exact HZS.out
                                · rw [Int.max_eq_left h]; exact HZG.out
                        · have iqj : ¬ (q : Int) < (i : Int) := by omega
                          go_wp2_with fail
                          go_roundg (i + 1 - (q + 1))
                          case measure => omega
                          case rel => exact ⟨q + 1, t + s, l, g, by omega, rfl, by go_num, rfl, rfl, by go_num, ET2.out.symm, HZL.out, HZG.out, hbW⟩
                      · have iq0 : ¬ (0 : Int) < (q : Int) := by omega
                        go_wp2_with fail
                        go_roundg (i + 1 - (q + 1))
                        case measure => omega
                        case rel => exact ⟨q + 1, t + s, l, g, by omega, rfl, by go_num, rfl, rfl, by go_num, ET2.out.symm, HZL.out, HZG.out, hbW⟩
                    · obtain rfl : q = i + 1 := by omega
                      have ix : ¬ ((i + 1 : Nat) : Int) ≤ (i : Int) := by omega
                      have hti : t = mr := by rw [ET.out, spdL_all]
                      subst hti
                      have c0 := HCS2.out wr 0 hbW (by omega)
                      have ci := HCS2.out wr i hbW (by omega)
                      have hS0 := hsl 0
                      have hSi := hsl i
                      have HSL := Lib.hid hsl
                      clear hsl ht0 ht1 hq
                      obtain ⟨x0, ex0⟩ : ∃ s, spdS t i wv 0 = s := ⟨_, rfl⟩
                      obtain ⟨xi, exi⟩ : ∃ s, spdS t i wv i = s := ⟨_, rfl⟩
                      rw [ex0] at c0 hS0
                      rw [exi] at ci hSi
                      have cw := ((Q13.out.below hb).below hbW).cell 0 _ rfl
                      have hxi := HX3.out.at (show i - 1 < i by omega)
                      obtain ⟨m, em⟩ : ∃ m, i = m + 1 := ⟨i - 1, by omega⟩
                      have hF : roomV xs av gp i = t := HF.out
                      have hav : av = pre xs (m + 1) + gp * (m : Int) + t := by
                        have e2 := EP.out
                        have e3 := EAV.out
                        rw [em, Nat.add_sub_cancel] at e2
                        omega
                      have hfl := spd_full xs b m av gp wv t hm0 hav
                      rw [← em] at hfl
                      have hms := spd_ms xs b i hi1 av gp t hm0 hF
                      obtain ⟨gf, of, rfl, hgf, hcf⟩ := R2.out.2 hi1
                      obtain ⟨gm, om, rfl, hgm, hcm⟩ := R3.out.2 hi1
                      obtain ⟨gx2, ox2, e2x, hgx2, hcx⟩ := HX3.out.2 hi1
                      obtain ⟨rfl, rfl⟩ : gx = gx2 ∧ ox = ox2 := by simpa using e2x
                      have cf0 := hcf 0 (by omega)
                      have cfm := hcf m (by omega)
                      have cm0 := hcm 0 (by omega)
                      have cm1 := hcm 1 (by omega)
                      have cxm := hcx m (by omega)
                      have hlm := mnMs_len xs [b, true] i av gp
                      have e0 : (i64s (mnMs xs [b, true] i av gp))[0]? = some (.int .i64 ((mnMs xs [b, true] i av gp).getD 0 0)) := by simp [i64s, List.getD, show 0 < (mnMs xs [b, true] i av gp).length by omega]
                      have e1 : (i64s (mnMs xs [b, true] i av gp))[1]? = some (.int .i64 ((mnMs xs [b, true] i av gp).getD 1 0)) := by simp [i64s, List.getD, show 1 < (mnMs xs [b, true] i av gp).length by omega]
                      rw [e0, Nat.add_zero] at cm0
                      rw [e1] at cm1
                      rw [hfl.1, Nat.add_zero] at cf0
                      have hfm := hfl.2
                      obtain ⟨u, eu⟩ : ∃ u, (mnMs xs [b, true] i av gp).getD 0 0 = u := ⟨_, rfl⟩
                      obtain ⟨v, ev⟩ : ∃ u, (mnMs xs [b, true] i av gp).getD 1 0 = u := ⟨_, rfl⟩
                      obtain ⟨y, ey⟩ : ∃ u, (mnAt xs [b, true] i av gp wv).getD m 0 = u := ⟨_, rfl⟩
                      obtain ⟨x, ex⟩ : ∃ u, xs.getD m 0 = u := ⟨_, rfl⟩
                      rw [eu, ev] at hms
                      rw [eu] at cm0
                      rw [ev] at cm1
                      rw [ey] at cfm hfm
                      rw [ex] at cxm hfm
                      have hbT : Below w3.heap.size w3 wr := hb.trans (hbW.mono hb.size)
                      have hBf : Below w.heap.size w wr := HB3.out.trans (hbT.mono h3)
                      have hc : ∀ W, Below WB.heap.size WB W → Below w3.heap.size w3 W := fun W h => hb.trans (h.mono hb.size)
                      have x6 : wv = 6 → ∀ z1 z2, z1 ≤ i → z2 ≤ i → spdS t i wv z1 ≤ spdS t i wv z2 + 1 := fun h z1 z2 h1 h2 => by rw [h]; exact spd_six hm0 hi1 h1 h2
                      have x4 : wv = 4 → 1 < i → x0 = 0 ∧ xi = 0 := fun h h1 => by
                        have := spd_four (F := t) (k := i) hm0 h1
                        rw [← ex0, ← exi, h]; exact this
                      obtain ⟨zl, hzl, el⟩ := HZL.out
                      obtain ⟨zg, hzg, eg⟩ := HZG.out
                      have hl0 := HSL.out zl
                      have hg0' := HSL.out zg
                      rw [← el] at hl0
                      rw [← eg] at hg0'
                      have y6 : wv = 6 → max (max g x0) xi - min (min l x0) xi ≤ 1 := fun h => by
                        have q1 := x6 h zg zl hzg hzl
                        have q2 := x6 h zg 0 hzg (by omega)
                        have q3 := x6 h zg i hzg (by omega)
                        have q4 := x6 h 0 zl (by omega) hzl
                        have q5 := x6 h 0 i (by omega) (by omega)
                        have q6 := x6 h i zl (by omega) hzl
                        have q7 := x6 h i 0 (by omega) (by omega)
                        rw [← eg, ← el] at q1
                        rw [← eg, ex0] at q2
                        rw [← eg, exi] at q3
                        rw [ex0, ← el] at q4
                        rw [ex0, exi] at q5
                        rw [exi, ← el] at q6
                        rw [exi, ex0] at q7
                        omega
                      have hMx : 0 ≤ max (max g x0) xi ∧ max (max g x0) xi ≤ 65535 := by omega
                      have hNx : 0 ≤ min (min l x0) xi ∧ min (min l x0) xi ≤ 65535 := by omega
                      have HMS := Lib.hid hms
                      have HFM := Lib.hid hfm
                      have X4 := Lib.hid x4
                      have Y6 := Lib.hid y6
                      have hcw := Lib.hid cw
                      have D11 := Lib.hid (((Q11.out.below hb).below hbW).cell 0 _ rfl)
                      have D15 := Lib.hid (((Q15.out.below hb).below hbW).cell 0 _ rfl)
                      have D16 := Lib.hid (((Q16.out.below hb).below hbW).cell 0 _ rfl)
                      have D6 := Lib.hid (((Q6.out.below hb).below hbW).cell 0 _ rfl)
                      have D7 := Lib.hid (((Q7.out.below hb).below hbW).cell 0 _ rfl)
                      have CF0 := Lib.hid ((hbT.cell (p := ⟨gf, of, none⟩) hgf).trans cf0)
                      have CFM := Lib.hid ((hbT.cell (p := ⟨gf, of + m, none⟩) hgf).trans cfm)
                      have CM0 := Lib.hid ((hbT.cell (p := ⟨gm, om, none⟩) hgm).trans cm0)
                      have CM1 := Lib.hid ((hbT.cell (p := ⟨gm, om + 1, none⟩) hgm).trans cm1)
                      have CXM := Lib.hid ((hbT.cell (p := ⟨gx, ox + m, none⟩) hgx).trans cxm)
                      have HBF := Lib.hid hBf
                      have hmi : (i : Int) - 1 = (m : Int) := by omega
                      have HMI := Lib.hid hmi
                      clear e2x hxi hF hav hfl hms hcf hcm hcx cf0 cfm cm0 cm1 cxm hlm e0 e1 hfm eu ev ey ex hbT hBf hc x6 x4 y6 el eg ex0 exi hzl hzg hl0 hg0' hmi em hbW hb
                      go_upto_region 38 with (fail)
                      go_cut [242] from 193 to 242 (fun s wx => s = .bool false ∧ ∃ nd, wx = wr.drewN nd)
                      case first =>
                        by_cases h6 : wv = 6
                        · have hle := Y6.out h6
                          obtain ⟨M, eM⟩ : ∃ M, max (max g x0) xi = M := ⟨_, rfl⟩
                          obtain ⟨N, eN⟩ : ∃ N, min (min l x0) xi = N := ⟨_, rfl⟩
                          rw [eM] at hle hMx
                          rw [eN] at hle hNx
                          have hM0 := hMx.1
                          have hM1 := hMx.2
                          have hN0 := hNx.1
                          have hN1 := hNx.2
                          have hMN : ¬ 1 < M - N := by omega
                          have hMNb : decide (1 < M - N) = false := by simpa using hMN
                          have hMNw : IntKind.i64.wrap (M - N) = M - N := wrap_id (by unfold IFit; omega)
                          clear hMx hNx hle
                          have h6b : (wv == 6) = true := by simpa using h6
                          have h4b : (wv == 4) = false := by rw [h6]; rfl
                          clear h6
                          as_aux_lemma =>
                            go_wp2_with fail
                            go_quiet (first | (simp only [run_max3, run_min3, eM, eN]; exact ⟨rfl, rfl⟩))
                            go_wp2
                            go_meet
                            case rel => exact ⟨rfl, _, rfl⟩
                        · clear hMx hNx
                          by_cases h4 : wv = 4
                          · by_cases hi2 : 1 < i
                            · obtain ⟨rfl, rfl⟩ := X4.out h4 hi2
                              have hi2' : (1 : Int) < (i : Int) := by omega
                              have h6b : (wv == 6) = false := by simpa using h6
                              have h4b : (wv == 4) = true := by simpa using h4
                              clear h6 h4
                              as_aux_lemma =>
                                go_wp2_with fail
                                go_quiet (fail)
                                go_wp2
                                go_meet
                                case rel => exact ⟨rfl, _, rfl⟩
                            · have hi2' : decide ((1 : Int) < (i : Int)) = false := by simp; omega
                              clear hi2
                              have h6b : (wv == 6) = false := by simpa using h6
                              have h4b : (wv == 4) = true := by simpa using h4
                              clear h6 h4
                              as_aux_lemma =>
                                go_wp2_with fail
                                go_quiet (fail)
                                go_wp2
                                go_meet
                                case rel => exact ⟨rfl, _, rfl⟩
                          · have h6b : (wv == 6) = false := by simpa using h6
                            have h4b : (wv == 4) = false := by simpa using h4
                            clear h6 h4
                            as_aux_lemma =>
                              go_wp2_with fail
                              go_quiet (fail)
                              go_wp2
                              go_meet
                              case rel => exact ⟨rfl, _, rfl⟩
                      case rest =>
                        obtain ⟨rfl, nd, rfl⟩ := hcut
                        obtain ⟨hms1, hu0, hv0, hmb⟩ := HMS.out
                        have hi1' : 1 < i → y + x = av := HFM.out
                        have hw2 : IntKind.i64.wrap (u + v) = t := (wrap_id (by unfold IFit; omega)).trans hms1
                        have hw3 : IntKind.i64.wrap (u + 1) = u + 1 := wrap_id (by unfold IFit; omega)
                        have hwm : IntKind.i64.wrap ((i : Int) - 1) = (m : Int) := (wrap_id (by unfold IFit; omega)).trans HMI.out
                        have im : (m : Int) < (i : Int) := by have := HMI.out; omega
                        have imn : m < i := by omega
                        have hmi := HMI.out
                        have d11 := D11.out
                        have d15 := D15.out
                        have d16 := D16.out
                        have d6 := D6.out
                        have d7 := D7.out
                        have p1 := CF0.out
                        have p2 := CFM.out
                        have p3 := CM0.out
                        have p4 := CM1.out
                        have p5 := CXM.out
                        have hB9 : Below w.heap.size w (wr.drewN nd) := below_dN HBF.out _
                        have HB9 := Lib.hid hB9
                        have hums := hms1
                        clear hMx hNx hB9 hms1 HMS HFM X4 Y6 HCS2 HSH c0 ci hcw cw HSL HZL HZG ET hS0 hSi
                        by_cases hi2 : 1 < i
                        · have hyx : y + x = av := hi1' (by omega)
                          have hw1 : IntKind.i64.wrap (y + x) = av := (wrap_id (by unfold IFit; omega)).trans hyx
                          have hi2' : decide ((1 : Int) < (i : Int)) = true := by simp; omega
                          have hi2b : (1 : Int) < (i : Int) := by omega
                          clear hi1' hi2
                          cases b
                          · clear hmb
                            as_aux_lemma =>
                              go_wp2_with fail
                              go_quiet (fail)
                              go_wp2
                              go_ret
                              exact ⟨rfl, below_dN HB9.out _⟩
                          · obtain ⟨q1, q2⟩ := hmb rfl
                            have q1' : decide (v < u) = false := by simp; omega
                            have q2' : decide (u + 1 < v) = false := by simp; omega
                            clear hmb q1 q2
                            as_aux_lemma =>
                              go_wp2_with fail
                              go_quiet (fail)
                              go_wp2
                              go_ret
                              exact ⟨rfl, below_dN HB9.out _⟩
                        · have hi2' : decide ((1 : Int) < (i : Int)) = false := by simp; omega
                          clear hi1' hi2
                          cases b
                          · clear hmb
                            as_aux_lemma =>
                              go_wp2_with fail
                              go_quiet (fail)
                              go_wp2
                              go_ret
                              exact ⟨rfl, below_dN HB9.out _⟩
                          · obtain ⟨q1, q2⟩ := hmb rfl
                            have q1' : decide (v < u) = false := by simp; omega
                            have q2' : decide (u + 1 < v) = false := by simp; omega
                            clear hmb q1 q2
                            as_aux_lemma =>
                              go_wp2_with fail
                              go_quiet (fail)
                              go_wp2
                              go_ret
                              exact ⟨rfl, below_dN HB9.out _⟩
end Go.Proofs.Ythofammjbicogaa
