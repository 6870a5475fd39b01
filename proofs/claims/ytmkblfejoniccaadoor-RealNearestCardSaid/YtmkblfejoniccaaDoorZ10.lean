/-
  Package real: Exact.
-/
/-
  The reference of layer 3: Exact.
-/
/-
  Layer 3: the nearest float to a ratio, in plain numbers: three words of the quotient; a whole number of 53 bits as a float; one times a float.
-/
/-
  Package real: the order of floats; the reference's.
-/
/-
  Package math: what Ldexp needs; package real: nearest.
-/
import Derived.Test.YtmkblfejoniccaaDoorZ9
import Derived.Test.YtmkblfejoniccaaDoorZ7
import Derived.Test.YtmkblfejoniccaaDoorZ2
import Derived.Test.YtmkblfejoniccaaDoorZ8
import Derived.Test.YtmkblfejoniccaaDoorZ3
namespace Go.Proofs.YtmkblfejoniccaaDoor
open Go.RowKit
set_option linter.unusedSimpArgs false
set_option linter.unusedVariables false

set_option maxRecDepth 100000 in
set_option maxHeartbeats 3200000 in
def heldK (R : World → Prop) (h : ∀ w w', R w → Below w.heap.size w w' → R w') : Cl := .own (fun _ w => R w) (fun _ w w' x hb => h w w' x hb)
set_option maxRecDepth 100000 in
set_option maxHeartbeats 3200000 in
theorem real_exact_out (b : Nat) (hb : b < 18446744073709551616) (h : fKi b = 1 ∨ fKi b = 2) (w : World) : Calls Tryd.prog 15 #[.float .f64 b] w fun e w' => e = .returned (.tuple #[.agg #[.int .i64 (exN b), .int .i64 (exD b)], .int .i64 (exE b)]) ∧ Below w.heap.size w w' := by
  have FI := real_finite b hb
  have e1 : exN b = 0 := by unfold exN; rw [if_pos h]
  have e2 : exD b = 0 := by unfold exD; rw [if_pos h]
  rw [e1, e2]
  have e3 : exE b = if fKi b = 1 then 4 else if fKi b = 2 then 5 else 0 := by
    unfold exE
    rcases h with h | h <;> simp only [h, if_true] <;> rfl
  rw [e3]
  have hk : (if fKi b = 1 then (4 : Int) else if fKi b = 2 then 5 else 0) = 4 ∨ (if fKi b = 1 then (4 : Int) else if fKi b = 2 then 5 else 0) = 5 := by
    rcases h with h | h <;> simp only [h, if_true]
    · decide
    · decide
  obtain ⟨k, ek⟩ : ∃ k, (if fKi b = 1 then (4 : Int) else if fKi b = 2 then 5 else 0) = k := ⟨_, rfl⟩
  rw [ek] at FI hk ⊢
  clear e1 e2 e3 ek h
  rcases hk with rfl | rfl
  · go_enter Tryd.func15, Tryd.ntmps15
    go_wp2_with (go_at_call 44; with_reducible refine (FI _).mono ?_; rintro e w1 ⟨rfl, rfl⟩)
    (go_light; simp [bodyPost, results, Tryd.results15, go_sem, *])
    exact (by repeat' (first | (with_reducible exact Below.refl _ _) | (with_reducible assumption) | (with_reducible refine below_alloc ?_ _ ?_) | (with_reducible refine below_set _ ?_ ?_) | (with_reducible refine Below.drew ?_) | (with_reducible refine below_dN ?_ _) | (apply below_thenA; assumption) | omega | (simp; done) | (simp; omega) | (simp [*]; done)))
  · go_enter Tryd.func15, Tryd.ntmps15
    go_wp2_with (go_at_call 44; with_reducible refine (FI _).mono ?_; rintro e w1 ⟨rfl, rfl⟩)
    (go_light; simp [bodyPost, results, Tryd.results15, go_sem, *])
    exact (by repeat' (first | (with_reducible exact Below.refl _ _) | (with_reducible assumption) | (with_reducible refine below_alloc ?_ _ ?_) | (with_reducible refine below_set _ ?_ ?_) | (with_reducible refine Below.drew ?_) | (with_reducible refine below_dN ?_ _) | (apply below_thenA; assumption) | omega | (simp; done) | (simp; omega) | (simp [*]; done)))
set_option maxRecDepth 100000 in
set_option maxHeartbeats 3200000 in
theorem real_exact_zero (b : Nat) (hb : b < 18446744073709551616) (h : fKi b ≠ 1 ∧ fKi b ≠ 2) (h0 : fWh b = 0) (w : World) : Calls Tryd.prog 15 #[.float .f64 b] w fun e w' => e = .returned (.tuple #[.agg #[.int .i64 (exN b), .int .i64 (exD b)], .int .i64 (exE b)]) ∧ Below w.heap.size w w' := by
  have FI := real_finite b hb
  rw [if_neg h.1, if_neg h.2] at FI
  have WH := real_whole b hb
  obtain ⟨e1, e2, e3⟩ := ex_zero h h0
  rw [e1, e2, e3]
  rw [h0] at WH
  have OF := rat_of_all 0 1 (by unfold IFit; omega) (by unfold IFit; omega)
  rw [show ofN 0 1 = 0 by decide, show ofD 0 1 = 1 by decide, show ofE 0 1 = 0 by decide] at OF
  clear e1 e2 e3
  obtain ⟨p, ep⟩ : ∃ p, fPo b = p := ⟨_, rfl⟩
  rw [ep] at WH
  go_enter Tryd.func15, Tryd.ntmps15
  go_wp2_with (first
    | (go_at_call 44; with_reducible refine (FI _).mono ?_; rintro e w1 ⟨rfl, rfl⟩)
    | (go_at_call 45; with_reducible refine (WH _).mono ?_; rintro e w1 ⟨rfl, rfl⟩)
    | (go_at_call 19; (with_reducible refine (OF _).mono ?_); rintro e w' ⟨rfl, hb'⟩; obtain ⟨hc', hf'⟩ := bcell hb'; have hz' := bz1 (n := w.heap.size) hb' (by (try simp) <;> omega); have hs' := hb'.size; (try simp at hs'); (try (have hs2' := Nat.lt_of_succ_le hs'))))
  (go_light; simp [bodyPost, results, Tryd.results15, go_sem, *])
  exact (by repeat' (first | (with_reducible exact Below.refl _ _) | (with_reducible assumption) | (with_reducible refine below_alloc ?_ _ ?_) | (with_reducible refine below_set _ ?_ ?_) | (with_reducible refine Below.drew ?_) | (with_reducible refine below_dN ?_ _) | (apply below_thenA; assumption) | omega | (simp; done) | (simp; omega) | (simp [*]; done)))
/-- What is known of a float that is a number and not 0. -/
structure ExE (b wv M Z : Nat) (p E : Int) (s : Bool) : Prop where
  hw : wv = M * 2 ^ Z
  odd : M % 2 = 1
  hZ : Z < 64
  hE : p + (Z : Int) = E
  hs : fSg b = s
  hp : fPo b = p
  hW : fWh b = wv
  hsh : (wv : Int) / 2 ^ Z = (M : Int)
  b1 : M ≤ 9007199254740991
  b2 : wv ≤ 9007199254740991
  b3 : -1074 ≤ p
  b4 : p ≤ 972
theorem exE_of (b : Nat) (h0 : fWh b ≠ 0) : ∃ M, ExE b (fWh b) M (Lib.ctz 64 (fWh b)) (fPo b) (fPo b + (Lib.ctz 64 (fWh b) : Int)) (fSg b) := by
  have hl := fWh_lt b
  obtain ⟨m, hm, hz⟩ := ctz_spec (fWh b) (by omega) h0
  obtain ⟨W, eW⟩ : ∃ W, fWh b = W := ⟨_, rfl⟩
  obtain ⟨Z, eZ⟩ : ∃ Z, Lib.ctz 64 (fWh b) = Z := ⟨_, rfl⟩
  rw [eZ] at hm hz ⊢
  rw [eW] at hm hl ⊢
  have hp : 0 < 2 ^ Z := Nat.pow_pos (by decide)
  have hx := fEx_lt b
  refine ⟨2 * m + 1, by rw [hm, Nat.mul_comm], by omega, hz, rfl, rfl, rfl, eW, ?_, ?_, by omega, ?_, ?_⟩
  · have e : ((2 : Int) ^ Z) = ((2 ^ Z : Nat) : Int) := by simp
    rw [e, ← Int.natCast_ediv, hm, Nat.mul_div_cancel_left _ hp]
  · have : 2 * m + 1 ≤ W := by rw [hm]; exact Nat.le_mul_of_pos_left _ hp
    omega
  · unfold fPo; split <;> omega
  · unfold fPo; split <;> omega
set_option maxRecDepth 100000 in
set_option maxHeartbeats 3200000 in
theorem real_exact_low (b wv M Z : Nat) (p E : Int) (s : Bool) (hb : b < 18446744073709551616) (h : fKi b ≠ 1 ∧ fKi b ≠ 2) (H : ExE b wv M Z p E s) (hZ : Lib.ctz 64 wv = Z) (hE : E < -62) (w : World) (hT : TabW w) : Calls Tryd.prog 15 #[.float .f64 b] w fun e w' => e = .returned (.tuple #[.agg #[.int .i64 (exN b), .int .i64 (exD b)], .int .i64 (exE b)]) ∧ Below w.heap.size w w' := by
  have FI := real_finite b hb
  rw [if_neg h.1, if_neg h.2] at FI
  have WH := real_whole b hb
  have SB := math_signbit b hb
  obtain ⟨i1, i2, i3, i4, i5, i6, i7, i8, i9, i10, i11, i12⟩ := H
  obtain ⟨e1, e2, e3⟩ := ex_range h (by rw [i7]; exact i1) i2 (.inl (by rw [i6]; omega))
  rw [e1, e2, e3]
  rw [i7, i6] at WH
  rw [i5] at SB
  have hM0 : 0 < M := by omega
  have hp : 0 < 2 ^ Z := Nat.pow_pos (by decide)
  have hw0 : wv ≠ 0 := by rw [i1]; exact Nat.mul_ne_zero (by omega) (by omega)
  have TZ := fun W hW => bits_tz wv (by omega) hw0 W hW
  rw [hZ] at TZ
  have q0 : ((wv : Int) == 0) = false := by simp; omega
  have HT := Lib.hid hT
  have c1 : decide (E < -62) = true := by simp; omega
  have bE1 : -1074 ≤ E := by omega
  have i8' : (wv : Int) / 2 ^ Z = (M : Int) := i8
  clear e1 e2 e3 i1 i2 i5 i6 i7 h hT hw0 hp i8 hZ
  go_enter Tryd.func15, Tryd.ntmps15
  go_wp2_with (first
    | (go_at_call 44; with_reducible refine (FI _).mono ?_; rintro e w1 ⟨rfl, rfl⟩)
    | (go_at_call 45; with_reducible refine (WH _).mono ?_; rintro e w1 ⟨rfl, rfl⟩)
    | (go_at_call 46; with_reducible refine (TZ _ (by exact HT.out.alloc _)).mono ?_; rintro e w1 ⟨rfl, rfl⟩)
    | (go_at_call 47; with_reducible refine (SB _).mono ?_; rintro e w1 ⟨rfl, rfl⟩)
    | (go_at_call 49; with_reducible refine (LN _).mono ?_; rintro e w1 ⟨rfl, rfl⟩)
    | (go_at_call 19; (with_reducible refine (OF _).mono ?_); rintro e w' ⟨rfl, hb'⟩; obtain ⟨hc', hf'⟩ := bcell hb'; have hz' := bz1 (n := w.heap.size) hb' (by (try simp) <;> omega); have hs' := hb'.size; (try simp at hs'); (try (have hs2' := Nat.lt_of_succ_le hs'))))
  (go_light; simp [bodyPost, results, Tryd.results15, go_sem, *])
  exact (by repeat' (first | (with_reducible exact Below.refl _ _) | (with_reducible assumption) | (with_reducible refine below_alloc ?_ _ ?_) | (with_reducible refine below_set _ ?_ ?_) | (with_reducible refine Below.drew ?_) | (with_reducible refine below_dN ?_ _) | (apply below_thenA; assumption) | omega | (simp; done) | (simp; omega) | (simp [*]; done)))
set_option maxRecDepth 100000 in
set_option maxHeartbeats 3200000 in
theorem real_exact_frac (b wv M Z : Nat) (p E : Int) (s : Bool) (hb : b < 18446744073709551616) (h : fKi b ≠ 1 ∧ fKi b ≠ 2) (H : ExE b wv M Z p E s) (hZ : Lib.ctz 64 wv = Z) (j : Nat) (hE : E = -(j : Int)) (hj1 : 0 < j) (hj2 : j ≤ 62) (w : World) (hT : TabW w) : Calls Tryd.prog 15 #[.float .f64 b] w fun e w' => e = .returned (.tuple #[.agg #[.int .i64 (exN b), .int .i64 (exD b)], .int .i64 (exE b)]) ∧ Below w.heap.size w w' := by
  have FI := real_finite b hb
  rw [if_neg h.1, if_neg h.2] at FI
  have WH := real_whole b hb
  have SB := math_signbit b hb
  obtain ⟨i1, i2, i3, i4, i5, i6, i7, i8, i9, i10, i11, i12⟩ := H
  obtain ⟨e1, e2, e3, e4, e5, e6⟩ := ex_frac h (by rw [i7]; exact i1) i2 (by rw [i6, i4]; exact hE) hj1 hj2
  rw [← e4, ← e5, ← e6]
  rw [i5]
  have SG := real_signed (M : Int) s (by omega) (by omega)
  obtain ⟨V, eV⟩ : ∃ V : Int, (if s then -(M : Int) else (M : Int)) = V := ⟨_, rfl⟩
  obtain ⟨D, eD⟩ : ∃ D : Int, ((2 ^ j : Nat) : Int) = D := ⟨_, rfl⟩
  have hV : -9007199254740991 ≤ V ∧ V ≤ 9007199254740991 := by rw [← eV]; split <;> omega
  have hD : 1 ≤ D ∧ D ≤ 4611686018427387904 := by
    have a1 : 2 ^ j ≤ 2 ^ 62 := Nat.pow_le_pow_right (by decide) hj2
    rw [show (2 : Nat) ^ 62 = 4611686018427387904 by decide] at a1
    have a2 : 0 < 2 ^ j := Nat.pow_pos (by decide)
    omega
  have hsl : IntKind.i64.wrap (1 * 2 ^ j) = D := by
    rw [IntWalk.i64_left, Int.one_mul, show (2 : Int) ^ j = D by rw [← eD]; simp]
    exact IntWalk.wrap64_in _ (by omega)
  have hwM : IntKind.i64.wrap (M : Int) = (M : Int) := by rw [IntWalk.i64_left]; exact IntWalk.wrap64_in _ (by omega)
  have hwj : IntKind.i64.wrap (j : Int) = (j : Int) := by rw [IntWalk.i64_left]; exact IntWalk.wrap64_in _ (by omega)
  have hsl2 : IntKind.i64.wrap (2 ^ j) = D := by rw [← hsl, Int.one_mul]
  rw [eV] at SG
  rw [eV, eD]
  have SGB : ∀ w, Calls Tryd.prog 48 #[.int .i64 ((M : Int)), .bool s] w fun e w' => e = .returned (.int .i64 V) ∧ Below w.heap.size w w' := fun w => (SG w).mono fun _ _ h => ⟨h.1, by rw [h.2]; exact Below.refl _ _⟩
  have OF := rat_of_all V D (by unfold IFit; omega) (by unfold IFit; omega)
  obtain ⟨a1, ea1⟩ : ∃ x, ofN V D = x := ⟨_, rfl⟩
  obtain ⟨a2, ea2⟩ : ∃ x, ofD V D = x := ⟨_, rfl⟩
  obtain ⟨a3, ea3⟩ : ∃ x, ofE V D = x := ⟨_, rfl⟩
  rw [ea1, ea2, ea3] at OF
  rw [ea1, ea2, ea3]
  rw [i7, i6] at WH
  rw [i5] at SB
  have hM0 : 0 < M := by omega
  have hp : 0 < 2 ^ Z := Nat.pow_pos (by decide)
  have hw0 : wv ≠ 0 := by rw [i1]; exact Nat.mul_ne_zero (by omega) (by omega)
  have TZ := fun W hW => bits_tz wv (by omega) hw0 W hW
  rw [hZ] at TZ
  have q0 : ((wv : Int) == 0) = false := by simp; omega
  have HT := Lib.hid hT
  have c1 : decide (E < -62) = false := by simp; omega
  have c2 : decide (E < 0) = true := by simp; omega
  have bE1 : -62 ≤ E := by omega
  have bE2 : E < 0 := by omega
  have i8' : (wv : Int) / 2 ^ Z = (M : Int) := i8
  have hneg : -E = (j : Int) := by omega
  clear e1 e2 e3 e4 e5 e6 i1 i2 i5 i6 i7 h hT hw0 hp i8 hZ ea1 ea2 ea3 eV eD hE
  go_enter Tryd.func15, Tryd.ntmps15
  go_upto_region 13 with (first
    | (go_at_call 44; with_reducible refine (FI _).mono ?_; rintro e w1 ⟨rfl, rfl⟩)
    | (go_at_call 45; with_reducible refine (WH _).mono ?_; rintro e w1 ⟨rfl, rfl⟩)
    | (go_at_call 46; with_reducible refine (TZ _ (by exact HT.out.alloc _)).mono ?_; rintro e w1 ⟨rfl, rfl⟩)
    | (go_at_call 47; with_reducible refine (SB _).mono ?_; rintro e w1 ⟨rfl, rfl⟩)
    | (go_at_call 49; with_reducible refine (LN _).mono ?_; rintro e w1 ⟨rfl, rfl⟩)
    | (go_at_call 48; with_reducible refine (SG _).mono ?_; rintro e w1 ⟨rfl, rfl⟩)
    | (go_at_call 19; (with_reducible refine (OF _).mono ?_); rintro e w' ⟨rfl, hb'⟩; obtain ⟨hc', hf'⟩ := bcell hb'; have hz' := bz1 (n := w.heap.size) hb' (by (try simp) <;> omega); have hs' := hb'.size; (try simp at hs'); (try (have hs2' := Nat.lt_of_succ_le hs'))))
  have t0 := Blk.new w #[.int .i64 0, .int .i64 0] 25 w.heap.size rfl
  have hBi : Below w.heap.size w (w.alloc (.cells #[.int .i64 0, .int .i64 0] 25)) := (Below.refl _ _).alloc (Nat.le_refl _) _
  go_upto_region 13 with (fail)
  rename_i K0 hK0
  refine wp_region_calm (fun w' => Below w.heap.size w w') [10] (fun w' => Blk w' w.heap.size #[.int .i64 0, .int .i64 0] 25) [Is (.int .u64 (M : Int)), Is (.int .i64 ((M : Int))), Is (.bool s), Is (.int .i64 V), Is (.int .i64 E), Is (.int .i64 ((j : Int))), Is (.int .i64 D), Is (.tuple #[.agg #[.int .i64 a1, .int .i64 a2], .int .i64 a3]), Is (.agg #[.int .i64 a1, .int .i64 a2]), Is (.int .i64 a3), heldK (fun W => Blk W w.heap.size #[.int .i64 a1, .int .i64 a2] 25) (fun _ _ h hb => h.below hb), Is (.int .i64 a3)] [] (by kernel_rfl) (by kernel_rfl) (by kernel_rfl) (by kernel_rfl) hBi.drew t0.drew ?_ ?_ ?_ ?_ ?_
  · rintro W W' hB hb
    exact hB.trans (hb.mono hB.size)
  · intro W W' hB h0 hb; exact h0.below hb
  · intro k vs W hk h
    exact absurd hk (by simp)
  · intro Q; clear hK0 hBi t0
    refine ⟨?_, ?_, ?_, ?_, ?_, ?_, ?_, ?_, ?_, ?_, ?_, ?_, trivial⟩
    · intro vs W hW hW0 hd hne hold K hK hA hL; clear hne hA hL; have hB := hW; simp only [puts, Act.put, List.setIfInBounds_toArray, List.set_cons_zero, List.set_cons_succ, Nat.zero_add, Nat.reduceAdd] at hK ⊢; clear hd hold; go_simp; exact hK.out rfl _ _ (Below.refl _ _) rfl
    · intro vs W hW hW0 hd hne hold K hK hA hL; clear hne hA hL; have hB := hW; simp only [puts, Act.put, List.setIfInBounds_toArray, List.set_cons_zero, List.set_cons_succ, Nat.zero_add, Nat.reduceAdd] at hK ⊢; have e0 : vs 0 = _ := hd 0 (by kernel_rfl); clear hd hold; simp only [e0] at hK; go_simp; exact hK.out rfl _ _ (Below.refl _ _) rfl
    · intro vs W hW hW0 hd hne hold K hK hA hL; clear hne hA hL; have hB := hW; simp only [puts, Act.put, List.setIfInBounds_toArray, List.set_cons_zero, List.set_cons_succ, Nat.zero_add, Nat.reduceAdd] at hK ⊢; clear hd hold; go_simp; exact hK.out rfl _ _ (Below.refl _ _) rfl
    · intro vs W hW hW0 hd hne hold K hK hA hL; clear hne hA hL; have hB := hW; simp only [puts, Act.put, List.setIfInBounds_toArray, List.set_cons_zero, List.set_cons_succ, Nat.zero_add, Nat.reduceAdd] at hK ⊢; have eb : vs 1 = _ := hd 1 (by kernel_rfl); have ec : vs 2 = _ := hd 2 (by kernel_rfl); clear hd hold; simp only [eb, ec] at hK; go_simp; refine (SGB _).mono ?_; (rintro e wx ⟨rfl, hbx⟩); go_simp; exact hK.out rfl _ _ hbx rfl
    · intro vs W hW hW0 hd hne hold K hK hA hL; clear hne hA hL; have hB := hW; simp only [puts, Act.put, List.setIfInBounds_toArray, List.set_cons_zero, List.set_cons_succ, Nat.zero_add, Nat.reduceAdd] at hK ⊢; clear hd hold; go_simp; exact hK.out rfl _ _ (Below.refl _ _) rfl
    · intro vs W hW hW0 hd hne hold K hK hA hL; clear hne hA hL; have hB := hW; simp only [puts, Act.put, List.setIfInBounds_toArray, List.set_cons_zero, List.set_cons_succ, Nat.zero_add, Nat.reduceAdd] at hK ⊢; have e4 : vs 4 = _ := hd 4 (by kernel_rfl); clear hd hold; simp only [e4] at hK; go_simp; exact hK.out rfl _ _ (Below.refl _ _) rfl
    · intro vs W hW hW0 hd hne hold K hK hA hL; clear hne hA hL; have hB := hW; simp only [puts, Act.put, List.setIfInBounds_toArray, List.set_cons_zero, List.set_cons_succ, Nat.zero_add, Nat.reduceAdd] at hK ⊢; have e5 : vs 5 = _ := hd 5 (by kernel_rfl); clear hd hold; simp only [e5] at hK; go_simp; exact hK.out rfl _ _ (Below.refl _ _) rfl
    · intro vs W hW hW0 hd hne hold K hK hA hL; clear hne hA hL; have hB := hW; simp only [puts, Act.put, List.setIfInBounds_toArray, List.set_cons_zero, List.set_cons_succ, Nat.zero_add, Nat.reduceAdd] at hK ⊢; have eb : vs 3 = _ := hd 3 (by kernel_rfl); have ec : vs 6 = _ := hd 6 (by kernel_rfl); clear hd hold; simp only [eb, ec] at hK; go_simp; refine (OF _).mono ?_; (rintro e wx ⟨rfl, hbx⟩); go_simp; exact hK.out rfl _ _ hbx rfl
    · intro vs W hW hW0 hd hne hold K hK hA hL; clear hne hA hL; have hB := hW; simp only [puts, Act.put, List.setIfInBounds_toArray, List.set_cons_zero, List.set_cons_succ, Nat.zero_add, Nat.reduceAdd] at hK ⊢; have e7 : vs 7 = _ := hd 7 (by kernel_rfl); clear hd hold; simp only [e7] at hK; go_simp; exact hK.out rfl _ _ (Below.refl _ _) rfl
    · intro vs W hW hW0 hd hne hold K hK hA hL; clear hne hA hL; have hB := hW; simp only [puts, Act.put, List.setIfInBounds_toArray, List.set_cons_zero, List.set_cons_succ, Nat.zero_add, Nat.reduceAdd] at hK ⊢; have e7 : vs 7 = _ := hd 7 (by kernel_rfl); clear hd hold; simp only [e7] at hK; go_simp; exact hK.out rfl _ _ (Below.refl _ _) rfl
    · intro vs W hW hW0 hd hne hold K hK hA hL; clear hK hA; have hB := hW; simp only [puts, Act.put, List.setIfInBounds_toArray, List.set_cons_zero, List.set_cons_succ, Nat.zero_add, Nat.reduceAdd] at hL ⊢; have t0 := hW0 (by kernel_rfl); have q1 := t0.cell 0 _ rfl; have q2 := t0.cell 1 _ rfl; have q3 := t0.free 0; have q4 := t0.free 1; have eb : vs 8 = _ := hd 8 (by kernel_rfl); have hbt := But.set2 (b := w.heap.size) W (.int .i64 a1) (.int .i64 a2); have tb := t0.set2 rfl (.int .i64 a1) (.int .i64 a2); clear hd hold; simp only [eb] at hL; go_simp; refine hL.out rfl undef _ (hbt.to hB (Nat.le_refl _) hB.size) (fun h => absurd h (by decide)) tb ?_; exact claims_keep ⟨.inr is_keep, .inr is_keep, .inr is_keep, .inr is_keep, .inr is_keep, .inr is_keep, .inr is_keep, .inr is_keep, .inr is_keep, .inr is_keep, .inl rfl, .inr is_keep, trivial⟩
    · intro vs W hW hW0 hd hne hold K hK hA hL; clear hne hA hL; have hB := hW; simp only [puts, Act.put, List.setIfInBounds_toArray, List.set_cons_zero, List.set_cons_succ, Nat.zero_add, Nat.reduceAdd] at hK ⊢; have e9 : vs 9 = _ := hd 9 (by kernel_rfl); clear hd hold; simp only [e9] at hK; go_simp; exact hK.out rfl _ _ (Below.refl _ _) rfl
  · intro va WA hB hV _
    have t1 : Blk WA w.heap.size #[.int .i64 a1, .int .i64 a2] 25 := hV 10 (by decide)
    have e11 : va 11 = .int .i64 a3 := hV 11 (by decide)
    clear hV hBi t0
    simp only [puts, Act.put, List.setIfInBounds_toArray, List.set_cons_zero, List.set_cons_succ, Nat.zero_add, Nat.reduceAdd, e11]
    refine hK0 _ _ ?_
    clear hK0 e11
    have q1 := t1.cell 0 _ rfl
    have q2 := t1.cell 1 _ rfl
    go_wp2_with fail
    (go_light; simp [bodyPost, results, Tryd.results15, go_sem, *])
theorem len_big {M j : Nat} (h0 : M ≠ 0) (hl : M < 18446744073709551616) : 63 < Lib.bitLen M + j ↔ 9223372036854775808 ≤ M * 2 ^ j := by
  have a := bitLen_gt M hl
  have b := bitLen_ge M h0 hl
  have c := Lib.bitLen_half M h0 (by omega)
  generalize Lib.bitLen M = L at *
  constructor
  · intro h
    have e2 : 2 ^ (L - 1) * 2 ^ j ≤ M * 2 ^ j := Nat.mul_le_mul_right _ b
    rw [← Nat.pow_add] at e2
    have e3 : 2 ^ 63 ≤ 2 ^ (L - 1 + j) := Nat.pow_le_pow_right (by decide) (by omega)
    rw [show (2 : Nat) ^ 63 = 9223372036854775808 by decide] at e3
    omega
  · intro h
    apply Nat.lt_of_not_le
    intro hle
    have e1 : M * 2 ^ j < 2 ^ L * 2 ^ j := Nat.mul_lt_mul_of_pos_right a (Nat.two_pow_pos _)
    rw [← Nat.pow_add] at e1
    have e3 : 2 ^ (L + j) ≤ 2 ^ 63 := Nat.pow_le_pow_right (by decide) hle
    rw [show (2 : Nat) ^ 63 = 9223372036854775808 by decide] at e3
    omega
theorem odd_top {M j : Nat} (h : M % 2 = 1) (he : M * 2 ^ j = 9223372036854775808) : M = 1 ∧ j = 63 := by
  have e : M * 2 ^ j = 2 ^ 63 := he.trans (by decide)
  have hd : M ∣ 2 ^ 63 := ⟨2 ^ j, e.symm⟩
  have hg : Nat.gcd M (2 ^ 63) = M := Nat.gcd_eq_left hd
  rw [gcd_odd h] at hg
  subst hg
  rw [Nat.one_mul] at e
  refine ⟨rfl, ?_⟩
  have a1 := (Nat.pow_le_pow_iff_right (show 1 < 2 by decide)).1 (Nat.le_of_eq e)
  have a2 := (Nat.pow_le_pow_iff_right (show 1 < 2 by decide)).1 (Nat.le_of_eq e.symm)
  omega
set_option maxRecDepth 100000 in
set_option maxHeartbeats 3200000 in
theorem real_exact_min (b wv M Z : Nat) (p E : Int) (s : Bool) (hb : b < 18446744073709551616) (h : fKi b ≠ 1 ∧ fKi b ≠ 2) (H : ExE b wv M Z p E s) (hZ : Lib.ctz 64 wv = Z) (j : Nat) (hE : E = (j : Int)) (hs : s = true) (hM : M = 1) (hj : j = 63) (w : World) (hT : TabW w) : Calls Tryd.prog 15 #[.float .f64 b] w fun e w' => e = .returned (.tuple #[.agg #[.int .i64 (exN b), .int .i64 (exD b)], .int .i64 (exE b)]) ∧ Below w.heap.size w w' := by
  have FI := real_finite b hb
  rw [if_neg h.1, if_neg h.2] at FI
  have WH := real_whole b hb
  have SB := math_signbit b hb
  obtain ⟨i1, i2, i3, i4, i5, i6, i7, i8, i9, i10, i11, i12⟩ := H
  subst hj hM hs hE
  obtain ⟨e1, e2, e3, e4, e5, e6⟩ := ex_int (j := 63) h (by rw [i7]; exact i1) i2 (by rw [i6, i4]) (by rw [i5]; decide)
  rw [← e4, ← e5, ← e6, i5, if_pos rfl]
  have OF := rat_of_all (-9223372036854775808) 1 (by unfold IFit; omega) (by unfold IFit; omega)
  rw [show (-((1 * 2 ^ 63 : Nat) : Int)) = -9223372036854775808 by decide]
  obtain ⟨a1, ea1⟩ : ∃ x, ofN (-9223372036854775808) 1 = x := ⟨_, rfl⟩
  obtain ⟨a2, ea2⟩ : ∃ x, ofD (-9223372036854775808) 1 = x := ⟨_, rfl⟩
  obtain ⟨a3, ea3⟩ : ∃ x, ofE (-9223372036854775808) 1 = x := ⟨_, rfl⟩
  rw [ea1, ea2, ea3] at OF
  rw [ea1, ea2, ea3]
  rw [i7, i6] at WH
  rw [i5] at SB
  have hp : 0 < 2 ^ Z := Nat.pow_pos (by decide)
  have hw0 : wv ≠ 0 := by rw [i1]; exact Nat.mul_ne_zero (by omega) (by omega)
  have TZ := fun W hW => bits_tz wv (by omega) hw0 W hW
  rw [hZ] at TZ
  have q0 : ((wv : Int) == 0) = false := by simp; omega
  have HT := Lib.hid hT
  clear e1 e2 e3 e4 e5 e6 i1 i2 i5 i6 i7 h hT hw0 hp hZ ea1 ea2 ea3
  have i4' : p + (Z : Int) = 63 := i4
  have i8'' : (wv : Int) / 2 ^ Z = 1 := i8
  clear i4 i8
  go_enter Tryd.func15, Tryd.ntmps15
  go_wp2_with (first
    | (go_at_call 44; with_reducible refine (FI _).mono ?_; rintro e w1 ⟨rfl, rfl⟩)
    | (go_at_call 45; with_reducible refine (WH _).mono ?_; rintro e w1 ⟨rfl, rfl⟩)
    | (go_at_call 46; with_reducible refine (TZ _ (by exact HT.out.alloc _)).mono ?_; rintro e w1 ⟨rfl, rfl⟩)
    | (go_at_call 47; with_reducible refine (SB _).mono ?_; rintro e w1 ⟨rfl, rfl⟩)
    | (go_at_call 49; with_reducible refine (LN _).mono ?_; rintro e w1 ⟨rfl, rfl⟩)
    | (go_at_call 48; with_reducible refine (SG _).mono ?_; rintro e w1 ⟨rfl, rfl⟩)
    | (go_at_call 19; (with_reducible refine (OF _).mono ?_); rintro e w' ⟨rfl, hb'⟩; obtain ⟨hc', hf'⟩ := bcell hb'; have hz' := bz1 (n := w.heap.size) hb' (by (try simp) <;> omega); have hs' := hb'.size; (try simp at hs'); (try (have hs2' := Nat.lt_of_succ_le hs'))))
  (go_light; simp [bodyPost, results, Tryd.results15, go_sem, *])
  exact (by repeat' (first | (with_reducible exact Below.refl _ _) | (with_reducible assumption) | (with_reducible refine below_alloc ?_ _ ?_) | (with_reducible refine below_set _ ?_ ?_) | (with_reducible refine Below.drew ?_) | (with_reducible refine below_dN ?_ _) | (apply below_thenA; assumption) | omega | (simp; done) | (simp; omega) | (simp [*]; done)))
set_option maxRecDepth 100000 in
set_option maxHeartbeats 3200000 in
theorem real_exact_big (b wv M Z : Nat) (p E : Int) (s : Bool) (hb : b < 18446744073709551616) (h : fKi b ≠ 1 ∧ fKi b ≠ 2) (H : ExE b wv M Z p E s) (hZ : Lib.ctz 64 wv = Z) (j : Nat) (hE : E = (j : Int)) (hx : ¬ (s = true ∧ M = 1 ∧ j = 63)) (hg : 63 < Lib.bitLen M + j) (w : World) (hT : TabW w) : Calls Tryd.prog 15 #[.float .f64 b] w fun e w' => e = .returned (.tuple #[.agg #[.int .i64 (exN b), .int .i64 (exD b)], .int .i64 (exE b)]) ∧ Below w.heap.size w w' := by
  have FI := real_finite b hb
  rw [if_neg h.1, if_neg h.2] at FI
  have WH := real_whole b hb
  have SB := math_signbit b hb
  obtain ⟨i1, i2, i3, i4, i5, i6, i7, i8, i9, i10, i11, i12⟩ := H
  have hj63 : 9223372036854775808 ≤ M * 2 ^ j := (len_big (by omega) (by omega)).1 hg
  obtain ⟨e1, e2, e3⟩ := ex_range h (by rw [i7]; exact i1) i2 (.inr ⟨by rw [i6, i4]; omega, by
    rw [i6, i4, hE, Int.toNat_natCast, i5]
    cases s
    · simpa using hj63
    · have : M * 2 ^ j ≠ 9223372036854775808 := fun e => hx ⟨rfl, odd_top i2 e⟩
      simp only [if_true]
      omega⟩)
  rw [e1, e2, e3]
  rw [i7, i6] at WH
  rw [i5] at SB
  have hM0 : 0 < M := by omega
  have hp : 0 < 2 ^ Z := Nat.pow_pos (by decide)
  have hw0 : wv ≠ 0 := by rw [i1]; exact Nat.mul_ne_zero (by omega) (by omega)
  have TZ := fun W hW => bits_tz wv (by omega) hw0 W hW
  rw [hZ] at TZ
  have q0 : ((wv : Int) == 0) = false := by simp; omega
  have HT := Lib.hid hT
  have i8' : (wv : Int) / 2 ^ Z = (M : Int) := i8
  have c1 : decide (E < -62) = false := by simp; omega
  have c2 : decide (E < 0) = false := by simp; omega
  have LN : ∀ w, Calls Tryd.prog 49 #[.int .u64 (M : Int)] w fun e w' => e = .returned (.int .i64 (((Lib.bitLen M : Nat) : Int))) ∧ w' = w := fun w => by
    have q := Tryd.bits_Len64 (M : Int) w (by omega) (by omega)
    rw [Int.toNat_natCast] at q
    exact q
  have hl := Lib.bitLen_le M 64 (by decide) (by omega)
  obtain ⟨L, eL⟩ : ∃ L, Lib.bitLen M = L := ⟨_, rfl⟩
  rw [eL] at LN hg hl
  have hLE : (L : Int) + E = ((L + j : Nat) : Int) := by omega
  obtain ⟨S, eS⟩ : ∃ S, L + j = S := ⟨_, rfl⟩
  rw [eS] at hLE hg
  have c3 : decide (63 < S) = true := by simp; omega
  have bE1 : 0 ≤ E := by omega
  obtain ⟨n1, en1⟩ : ∃ c : Bool, ((M : Int) == 1) = c := ⟨_, rfl⟩
  obtain ⟨n2, en2⟩ : ∃ c : Bool, (E == 63) = c := ⟨_, rfl⟩
  have hx2 : (s && (n1 && n2)) = false := by
    cases s
    · rfl
    · rw [← en1, ← en2]
      by_cases m1 : M = 1
      · have : ¬ E = 63 := fun e => hx ⟨rfl, m1, by omega⟩
        simp [this]
      · have : ((M : Int) == 1) = false := by simp; omega
        rw [this]; rfl
  clear e1 e2 e3 i1 i2 i5 i6 i7 h hT hw0 hp i8 hZ hx hj63 eL hE eS
  cases s
  · go_enter Tryd.func15, Tryd.ntmps15
    go_wp2_with (first
    | (go_at_call 44; with_reducible refine (FI _).mono ?_; rintro e w1 ⟨rfl, rfl⟩)
    | (go_at_call 45; with_reducible refine (WH _).mono ?_; rintro e w1 ⟨rfl, rfl⟩)
    | (go_at_call 46; with_reducible refine (TZ _ (by exact HT.out.alloc _)).mono ?_; rintro e w1 ⟨rfl, rfl⟩)
    | (go_at_call 47; with_reducible refine (SB _).mono ?_; rintro e w1 ⟨rfl, rfl⟩)
    | (go_at_call 49; with_reducible refine (LN _).mono ?_; rintro e w1 ⟨rfl, rfl⟩)
    | (go_at_call 48; with_reducible refine (SG _).mono ?_; rintro e w1 ⟨rfl, rfl⟩)
    | (go_at_call 19; (with_reducible refine (OF _).mono ?_); rintro e w' ⟨rfl, hb'⟩; obtain ⟨hc', hf'⟩ := bcell hb'; have hz' := bz1 (n := w.heap.size) hb' (by (try simp) <;> omega); have hs' := hb'.size; (try simp at hs'); (try (have hs2' := Nat.lt_of_succ_le hs'))))
    (go_light; simp [bodyPost, results, Tryd.results15, go_sem, *])
    exact (by repeat' (first | (with_reducible exact Below.refl _ _) | (with_reducible assumption) | (with_reducible refine below_alloc ?_ _ ?_) | (with_reducible refine below_set _ ?_ ?_) | (with_reducible refine Below.drew ?_) | (with_reducible refine below_dN ?_ _) | (apply below_thenA; assumption) | omega | (simp; done) | (simp; omega) | (simp [*]; done)))
  · cases n1
    · go_enter Tryd.func15, Tryd.ntmps15
      go_wp2_with (first
    | (go_at_call 44; with_reducible refine (FI _).mono ?_; rintro e w1 ⟨rfl, rfl⟩)
    | (go_at_call 45; with_reducible refine (WH _).mono ?_; rintro e w1 ⟨rfl, rfl⟩)
    | (go_at_call 46; with_reducible refine (TZ _ (by exact HT.out.alloc _)).mono ?_; rintro e w1 ⟨rfl, rfl⟩)
    | (go_at_call 47; with_reducible refine (SB _).mono ?_; rintro e w1 ⟨rfl, rfl⟩)
    | (go_at_call 49; with_reducible refine (LN _).mono ?_; rintro e w1 ⟨rfl, rfl⟩)
    | (go_at_call 48; with_reducible refine (SG _).mono ?_; rintro e w1 ⟨rfl, rfl⟩)
    | (go_at_call 19; (with_reducible refine (OF _).mono ?_); rintro e w' ⟨rfl, hb'⟩; obtain ⟨hc', hf'⟩ := bcell hb'; have hz' := bz1 (n := w.heap.size) hb' (by (try simp) <;> omega); have hs' := hb'.size; (try simp at hs'); (try (have hs2' := Nat.lt_of_succ_le hs'))))
      (go_light; simp [bodyPost, results, Tryd.results15, go_sem, *])
      exact (by repeat' (first | (with_reducible exact Below.refl _ _) | (with_reducible assumption) | (with_reducible refine below_alloc ?_ _ ?_) | (with_reducible refine below_set _ ?_ ?_) | (with_reducible refine Below.drew ?_) | (with_reducible refine below_dN ?_ _) | (apply below_thenA; assumption) | omega | (simp; done) | (simp; omega) | (simp [*]; done)))
    · obtain rfl : n2 = false := by simpa using hx2
      go_enter Tryd.func15, Tryd.ntmps15
      go_wp2_with (first
    | (go_at_call 44; with_reducible refine (FI _).mono ?_; rintro e w1 ⟨rfl, rfl⟩)
    | (go_at_call 45; with_reducible refine (WH _).mono ?_; rintro e w1 ⟨rfl, rfl⟩)
    | (go_at_call 46; with_reducible refine (TZ _ (by exact HT.out.alloc _)).mono ?_; rintro e w1 ⟨rfl, rfl⟩)
    | (go_at_call 47; with_reducible refine (SB _).mono ?_; rintro e w1 ⟨rfl, rfl⟩)
    | (go_at_call 49; with_reducible refine (LN _).mono ?_; rintro e w1 ⟨rfl, rfl⟩)
    | (go_at_call 48; with_reducible refine (SG _).mono ?_; rintro e w1 ⟨rfl, rfl⟩)
    | (go_at_call 19; (with_reducible refine (OF _).mono ?_); rintro e w' ⟨rfl, hb'⟩; obtain ⟨hc', hf'⟩ := bcell hb'; have hz' := bz1 (n := w.heap.size) hb' (by (try simp) <;> omega); have hs' := hb'.size; (try simp at hs'); (try (have hs2' := Nat.lt_of_succ_le hs'))))
      (go_light; simp [bodyPost, results, Tryd.results15, go_sem, *])
      exact (by repeat' (first | (with_reducible exact Below.refl _ _) | (with_reducible assumption) | (with_reducible refine below_alloc ?_ _ ?_) | (with_reducible refine below_set _ ?_ ?_) | (with_reducible refine Below.drew ?_) | (with_reducible refine below_dN ?_ _) | (apply below_thenA; assumption) | omega | (simp; done) | (simp; omega) | (simp [*]; done)))
set_option maxRecDepth 100000 in
set_option maxHeartbeats 3200000 in
theorem real_exact_int (b wv M Z : Nat) (p E : Int) (s : Bool) (hb : b < 18446744073709551616) (h : fKi b ≠ 1 ∧ fKi b ≠ 2) (H : ExE b wv M Z p E s) (hZ : Lib.ctz 64 wv = Z) (j : Nat) (hE : E = (j : Int)) (hg : ¬ 63 < Lib.bitLen M + j) (w : World) (hT : TabW w) : Calls Tryd.prog 15 #[.float .f64 b] w fun e w' => e = .returned (.tuple #[.agg #[.int .i64 (exN b), .int .i64 (exD b)], .int .i64 (exE b)]) ∧ Below w.heap.size w w' := by
  have FI := real_finite b hb
  rw [if_neg h.1, if_neg h.2] at FI
  have WH := real_whole b hb
  have SB := math_signbit b hb
  obtain ⟨i1, i2, i3, i4, i5, i6, i7, i8, i9, i10, i11, i12⟩ := H
  have hj63 : M * 2 ^ j < 9223372036854775808 := by
    have := mt (len_big (j := j) (M := M) (by omega) (by omega)).2 hg
    omega
  have hj62 : j ≤ 62 := by
    have : 2 ^ j ≤ M * 2 ^ j := Nat.le_mul_of_pos_left _ (by omega)
    apply Nat.le_of_not_lt
    intro hlt
    have e3 : 2 ^ 63 ≤ 2 ^ j := Nat.pow_le_pow_right (by decide) hlt
    rw [show (2 : Nat) ^ 63 = 9223372036854775808 by decide] at e3
    omega
  obtain ⟨e1, e2, e3, e4, e5, e6⟩ := ex_int (j := j) h (by rw [i7]; exact i1) i2 (by rw [i6, i4]; exact hE) (by
    cases fSg b
    · simpa using hj63
    · simp only [if_true]; omega)
  rw [← e4, ← e5, ← e6, i5]
  obtain ⟨Q, eQ⟩ : ∃ Q, M * 2 ^ j = Q := ⟨_, rfl⟩
  rw [eQ] at hj63 ⊢
  have hsl : IntKind.u64.wrap ((M : Int) * 2 ^ j) = (Q : Int) := by
    rw [show (2 : Int) ^ j = ((2 ^ j : Nat) : Int) by simp, ← Int.natCast_mul, eQ, IntKind.wrap_u64]
    omega
  have hwQ : IntKind.i64.wrap (Q : Int) = (Q : Int) := by rw [IntWalk.i64_left]; exact IntWalk.wrap64_in _ (by omega)
  have SG := real_signed (Q : Int) s (by omega) (by omega)
  obtain ⟨V, eV⟩ : ∃ V : Int, (if s then -(Q : Int) else (Q : Int)) = V := ⟨_, rfl⟩
  have hV : -9223372036854775807 ≤ V ∧ V ≤ 9223372036854775807 := by rw [← eV]; split <;> omega
  rw [eV] at SG ⊢
  have OF := rat_of_all V 1 (by unfold IFit; omega) (by unfold IFit; omega)
  obtain ⟨a1, ea1⟩ : ∃ x, ofN V 1 = x := ⟨_, rfl⟩
  obtain ⟨a2, ea2⟩ : ∃ x, ofD V 1 = x := ⟨_, rfl⟩
  obtain ⟨a3, ea3⟩ : ∃ x, ofE V 1 = x := ⟨_, rfl⟩
  rw [ea1, ea2, ea3] at OF
  rw [ea1, ea2, ea3]
  rw [i7, i6] at WH
  rw [i5] at SB
  have hM0 : 0 < M := by omega
  have hp : 0 < 2 ^ Z := Nat.pow_pos (by decide)
  have hw0 : wv ≠ 0 := by rw [i1]; exact Nat.mul_ne_zero (by omega) (by omega)
  have TZ := fun W hW => bits_tz wv (by omega) hw0 W hW
  rw [hZ] at TZ
  have q0 : ((wv : Int) == 0) = false := by simp; omega
  have HT := Lib.hid hT
  have i8' : (wv : Int) / 2 ^ Z = (M : Int) := i8
  have c1 : decide (E < -62) = false := by simp; omega
  have c2 : decide (E < 0) = false := by simp; omega
  have LN : ∀ w, Calls Tryd.prog 49 #[.int .u64 (M : Int)] w fun e w' => e = .returned (.int .i64 (((Lib.bitLen M : Nat) : Int))) ∧ w' = w := fun w => by
    have q := Tryd.bits_Len64 (M : Int) w (by omega) (by omega)
    rw [Int.toNat_natCast] at q
    exact q
  have hl := Lib.bitLen_le M 64 (by decide) (by omega)
  obtain ⟨L, eL⟩ : ∃ L, Lib.bitLen M = L := ⟨_, rfl⟩
  rw [eL] at LN hg hl
  have hLE : (L : Int) + E = ((L + j : Nat) : Int) := by omega
  obtain ⟨S, eS⟩ : ∃ S, L + j = S := ⟨_, rfl⟩
  rw [eS] at hLE hg
  have c3 : decide (63 < S) = false := by simp; omega
  have bE1 : 0 ≤ E := by omega
  obtain ⟨n1, en1⟩ : ∃ c : Bool, ((M : Int) == 1) = c := ⟨_, rfl⟩
  obtain ⟨n2, en2⟩ : ∃ c : Bool, (E == 63) = c := ⟨_, rfl⟩
  have hx2 : n2 = false := by rw [← en2]; simp; omega
  subst hx2
  clear e1 e2 e3 e4 e5 e6 i1 i2 i5 i6 i7 h hT hw0 hp i8 hZ eL eS ea1 ea2 ea3 eV eQ
  subst hE
  cases s
  · go_enter Tryd.func15, Tryd.ntmps15
    go_wp2_with (first
    | (go_at_call 44; with_reducible refine (FI _).mono ?_; rintro e w1 ⟨rfl, rfl⟩)
    | (go_at_call 45; with_reducible refine (WH _).mono ?_; rintro e w1 ⟨rfl, rfl⟩)
    | (go_at_call 46; with_reducible refine (TZ _ (by exact HT.out.alloc _)).mono ?_; rintro e w1 ⟨rfl, rfl⟩)
    | (go_at_call 47; with_reducible refine (SB _).mono ?_; rintro e w1 ⟨rfl, rfl⟩)
    | (go_at_call 49; with_reducible refine (LN _).mono ?_; rintro e w1 ⟨rfl, rfl⟩)
    | (go_at_call 48; with_reducible refine (SG _).mono ?_; rintro e w1 ⟨rfl, rfl⟩)
    | (go_at_call 19; (with_reducible refine (OF _).mono ?_); rintro e w' ⟨rfl, hb'⟩; obtain ⟨hc', hf'⟩ := bcell hb'; have hz' := bz1 (n := w.heap.size) hb' (by (try simp) <;> omega); have hs' := hb'.size; (try simp at hs'); (try (have hs2' := Nat.lt_of_succ_le hs'))))
    (go_light; simp [bodyPost, results, Tryd.results15, go_sem, *])
    exact (by repeat' (first | (with_reducible exact Below.refl _ _) | (with_reducible assumption) | (with_reducible refine below_alloc ?_ _ ?_) | (with_reducible refine below_set _ ?_ ?_) | (with_reducible refine Below.drew ?_) | (with_reducible refine below_dN ?_ _) | (apply below_thenA; assumption) | omega | (simp; done) | (simp; omega) | (simp [*]; done)))
  · cases n1
    · go_enter Tryd.func15, Tryd.ntmps15
      go_wp2_with (first
    | (go_at_call 44; with_reducible refine (FI _).mono ?_; rintro e w1 ⟨rfl, rfl⟩)
    | (go_at_call 45; with_reducible refine (WH _).mono ?_; rintro e w1 ⟨rfl, rfl⟩)
    | (go_at_call 46; with_reducible refine (TZ _ (by exact HT.out.alloc _)).mono ?_; rintro e w1 ⟨rfl, rfl⟩)
    | (go_at_call 47; with_reducible refine (SB _).mono ?_; rintro e w1 ⟨rfl, rfl⟩)
    | (go_at_call 49; with_reducible refine (LN _).mono ?_; rintro e w1 ⟨rfl, rfl⟩)
    | (go_at_call 48; with_reducible refine (SG _).mono ?_; rintro e w1 ⟨rfl, rfl⟩)
    | (go_at_call 19; (with_reducible refine (OF _).mono ?_); rintro e w' ⟨rfl, hb'⟩; obtain ⟨hc', hf'⟩ := bcell hb'; have hz' := bz1 (n := w.heap.size) hb' (by (try simp) <;> omega); have hs' := hb'.size; (try simp at hs'); (try (have hs2' := Nat.lt_of_succ_le hs'))))
      (go_light; simp [bodyPost, results, Tryd.results15, go_sem, *])
      exact (by repeat' (first | (with_reducible exact Below.refl _ _) | (with_reducible assumption) | (with_reducible refine below_alloc ?_ _ ?_) | (with_reducible refine below_set _ ?_ ?_) | (with_reducible refine Below.drew ?_) | (with_reducible refine below_dN ?_ _) | (apply below_thenA; assumption) | omega | (simp; done) | (simp; omega) | (simp [*]; done)))
    · go_enter Tryd.func15, Tryd.ntmps15
      go_wp2_with (first
    | (go_at_call 44; with_reducible refine (FI _).mono ?_; rintro e w1 ⟨rfl, rfl⟩)
    | (go_at_call 45; with_reducible refine (WH _).mono ?_; rintro e w1 ⟨rfl, rfl⟩)
    | (go_at_call 46; with_reducible refine (TZ _ (by exact HT.out.alloc _)).mono ?_; rintro e w1 ⟨rfl, rfl⟩)
    | (go_at_call 47; with_reducible refine (SB _).mono ?_; rintro e w1 ⟨rfl, rfl⟩)
    | (go_at_call 49; with_reducible refine (LN _).mono ?_; rintro e w1 ⟨rfl, rfl⟩)
    | (go_at_call 48; with_reducible refine (SG _).mono ?_; rintro e w1 ⟨rfl, rfl⟩)
    | (go_at_call 19; (with_reducible refine (OF _).mono ?_); rintro e w' ⟨rfl, hb'⟩; obtain ⟨hc', hf'⟩ := bcell hb'; have hz' := bz1 (n := w.heap.size) hb' (by (try simp) <;> omega); have hs' := hb'.size; (try simp at hs'); (try (have hs2' := Nat.lt_of_succ_le hs'))))
      (go_light; simp [bodyPost, results, Tryd.results15, go_sem, *])
      exact (by repeat' (first | (with_reducible exact Below.refl _ _) | (with_reducible assumption) | (with_reducible refine below_alloc ?_ _ ?_) | (with_reducible refine below_set _ ?_ ?_) | (with_reducible refine Below.drew ?_) | (with_reducible refine below_dN ?_ _) | (apply below_thenA; assumption) | omega | (simp; done) | (simp; omega) | (simp [*]; done)))
theorem real_exact (b : Nat) (hb : b < 18446744073709551616) (w : World) (hT : TabW w) : Calls Tryd.prog 15 #[.float .f64 b] w fun e w' => e = .returned (.tuple #[.agg #[.int .i64 (exN b), .int .i64 (exD b)], .int .i64 (exE b)]) ∧ Below w.heap.size w w' := by
  by_cases h : fKi b = 1 ∨ fKi b = 2
  · exact real_exact_out b hb h w
  · have hk : fKi b ≠ 1 ∧ fKi b ≠ 2 := ⟨fun e => h (.inl e), fun e => h (.inr e)⟩
    by_cases h0 : fWh b = 0
    · exact real_exact_zero b hb hk h0 w
    · obtain ⟨M, H⟩ := exE_of b h0
      obtain ⟨E, eE⟩ : ∃ E, fPo b + (Lib.ctz 64 (fWh b) : Int) = E := ⟨_, rfl⟩
      rw [eE] at H
      by_cases c1 : E < -62
      · exact real_exact_low b _ M _ _ E _ hb hk H rfl c1 w hT
      · by_cases c2 : E < 0
        · exact real_exact_frac b _ M _ _ E _ hb hk H rfl (-E).toNat (by omega) (by omega) (by omega) w hT
        · have hj : E = ((E.toNat : Nat) : Int) := by omega
          by_cases c3 : 63 < Lib.bitLen M + E.toNat
          · by_cases c4 : fSg b = true ∧ M = 1 ∧ E.toNat = 63
            · exact real_exact_min b _ M _ _ E _ hb hk H rfl _ hj c4.1 c4.2.1 c4.2.2 w hT
            · exact real_exact_big b _ M _ _ E _ hb hk H rfl _ hj c4 c3 w hT
          · exact real_exact_int b _ M _ _ E _ hb hk H rfl _ hj c3 w hT
end Go.Proofs.YtmkblfejoniccaaDoor
namespace Go.Proofs.YtmkblfejoniccaaDoor
open Go.RowKit
set_option linter.unusedSimpArgs false
set_option linter.unusedVariables false

theorem ref_lowB (X Y P Q : Int) (na nb : Bool) (xa xb : Option Addr) (ka kb ca cb : Nat) (w : World) (ha : IsBig w na xa ka ca X) (hb : IsBig w nb xb kb cb Y) (hx : BM.Sz X 1100) (hy : BM.Sz Y 1100) (h0 : Y ≠ 0) (eP : numR X Y = P) (eQ : denR X Y = Q) :
    Calls Tryd.prog 51 #[.agg #[.bool na, .slice xa ka ca], .agg #[.bool nb, .slice xb kb cb]] w (BigRet2 P Q w) := by
  have := ref_lowest na nb xa xb ka kb ca cb 1100 X Y w ha hb hx hy (by omega) h0
  subst eP eQ
  rw [ha.sign, hb.sign] at this ⊢
  exact this
theorem numR_sz {n d : Int} {k : Nat} (h : BM.Sz n k) : BM.Sz (numR n d) k := by
  refine BM.Sz.le h ?_
  have := Nat.div_le_self n.natAbs (Nat.gcd n.natAbs d.natAbs)
  unfold numR
  obtain ⟨q, eq⟩ : ∃ q, n.natAbs / Nat.gcd n.natAbs d.natAbs = q := ⟨_, rfl⟩
  rw [eq] at this ⊢
  split <;> omega
theorem denR_sz {n d : Int} {k : Nat} (h : BM.Sz d k) : BM.Sz (denR n d) k := by
  refine BM.Sz.le h ?_
  have := Nat.div_le_self d.natAbs (Nat.gcd n.natAbs d.natAbs)
  unfold denR
  obtain ⟨q, eq⟩ : ∃ q, d.natAbs / Nat.gcd n.natAbs d.natAbs = q := ⟨_, rfl⟩
  rw [eq] at this ⊢
  omega
theorem fP_sz (b : Nat) : BM.Sz (fP b) 1100 := by
  have hpo : -1074 ≤ fPo b ∧ fPo b ≤ 972 := by
    have := fEx_lt b
    unfold fPo; split <;> omega
  have sW : BM.Sz (fNu b) 4 := by have := fNu_bnd b; exact BM.Sz.i64 (by omega) (by omega)
  have sU : BM.Sz (fUp b : Int) 1000 := by unfold fUp; exact (pow_sz _).mono (by omega)
  exact (BM.Sz.mul sW sU).mono (by omega)
theorem fQ_sz (b : Nat) : BM.Sz (fQ b) 1100 := by
  have hpo : -1074 ≤ fPo b ∧ fPo b ≤ 972 := by
    have := fEx_lt b
    unfold fPo; split <;> omega
  unfold fQ fLo; exact (pow_sz _).mono (by omega)
set_option maxRecDepth 100000 in
set_option maxHeartbeats 3200000 in
theorem ref3_exact (b : Nat) (hb : b < 18446744073709551616) (w : World) : Calls Tryd.prog 17 #[.int .u64 (b : Int)] w fun e w' => e = .returned (.tuple #[.int .i64 (exN b), .int .i64 (exD b), .int .i64 (exE b)]) ∧ Below w.heap.size w w' := by
  have KI := ref3_kind b hb
  by_cases k1 : fKi b = 1
  · rw [show exN b = 0 by unfold exN; rw [if_pos (.inl k1)], show exD b = 0 by unfold exD; rw [if_pos (.inl k1)], show exE b = 4 by unfold exE; rw [if_pos k1]]
    rw [k1] at KI
    obtain ⟨d, ed⟩ : ∃ d, fDn b = d := ⟨_, rfl⟩
    rw [ed] at KI
    go_enter Tryd.func17, Tryd.ntmps17
    go_wp2_with (go_at_call 22; with_reducible refine (KI _).mono ?_; rintro e w1 ⟨rfl, rfl⟩)
    (go_light; simp [bodyPost, results, Tryd.results17, go_sem, *])
    try exact Below.refl _ _
  by_cases k2 : fKi b = 2
  · rw [show exN b = 0 by unfold exN; rw [if_pos (.inr k2)], show exD b = 0 by unfold exD; rw [if_pos (.inr k2)], show exE b = 5 by unfold exE; rw [if_neg k1, if_pos k2]]
    rw [k2] at KI
    obtain ⟨d, ed⟩ : ∃ d, fDn b = d := ⟨_, rfl⟩
    rw [ed] at KI
    go_enter Tryd.func17, Tryd.ntmps17
    go_wp2_with (go_at_call 22; with_reducible refine (KI _).mono ?_; rintro e w1 ⟨rfl, rfl⟩)
    (go_light; simp [bodyPost, results, Tryd.results17, go_sem, *])
    try exact Below.refl _ _
  have FR : ∀ w, Calls Tryd.prog 50 #[.int .u64 (b : Int)] w (BigRet2 (fP b) (fQ b) w) := ref3_fraction b hb
  have sP := fP_sz b
  have sQ := fQ_sz b
  have hq := fQ_pos b
  have LW := fun na nb xa xb ka kb ca cb W ha hb => ref_lowB (fP b) (fQ b) _ _ na nb xa xb ka kb ca cb W ha hb sP sQ (by omega) rfl rfl
  have sA := numR_sz (d := fQ b) sP
  have sB := denR_sz (n := fP b) sQ
  have IT := fun na nb xa xb ka kb ca cb W ha hb h1 h2 => ref_ints na nb xa xb ka kb ca cb (numR (fP b) (fQ b)) (denR (fP b) (fQ b)) W ha hb h1 h2
  have hO : (intB (numR (fP b) (fQ b)) && intB (denR (fP b) (fQ b))) = ofB (fP b) (fQ b) := rfl
  rw [hO] at IT
  have hN : exN b = if ofB (fP b) (fQ b) then intV (numR (fP b) (fQ b)) else 0 := by
    unfold exN
    rw [if_neg (fun h => h.elim k1 k2)]
    cases ho : ofB (fP b) (fQ b)
    · rw [if_neg (by decide), if_neg (by decide)]
    · have h1 := (ofB_iff.1 ho).1
      rw [← intB_iff'] at h1
      unfold intV
      rw [if_pos h1]
  have hD : exD b = if ofB (fP b) (fQ b) then intV (denR (fP b) (fQ b)) else 0 := by
    unfold exD
    rw [if_neg (fun h => h.elim k1 k2)]
    cases ho : ofB (fP b) (fQ b)
    · rw [if_neg (by decide), if_neg (by decide)]
    · have h1 := (ofB_iff.1 ho).2
      rw [← intB_iff'] at h1
      unfold intV
      rw [if_pos h1]
  have hE : exE b = if ofB (fP b) (fQ b) then 0 else 2 := by unfold exE; rw [if_neg k1, if_neg k2]
  rw [hN, hD, hE]
  obtain ⟨k, ek⟩ : ∃ k, fKi b = k := ⟨_, rfl⟩
  obtain ⟨d, ed⟩ : ∃ d, fDn b = d := ⟨_, rfl⟩
  rw [ek, ed] at KI
  rw [ek] at k1 k2
  obtain ⟨o, eo⟩ : ∃ d, ofB (fP b) (fQ b) = d := ⟨_, rfl⟩
  obtain ⟨P, eP⟩ : ∃ d, fP b = d := ⟨_, rfl⟩
  obtain ⟨Qn, eQ⟩ : ∃ d, fQ b = d := ⟨_, rfl⟩
  rw [eP, eQ] at FR LW IT sA sB eo ⊢
  obtain ⟨A, eA⟩ : ∃ d, numR P Qn = d := ⟨_, rfl⟩
  obtain ⟨B, eB⟩ : ∃ d, denR P Qn = d := ⟨_, rfl⟩
  rw [eA, eB] at LW IT ⊢
  rw [eA] at sA
  rw [eB] at sB
  rw [eo] at IT ⊢
  obtain ⟨a1, ea1⟩ : ∃ d, intV A = d := ⟨_, rfl⟩
  obtain ⟨a2, ea2⟩ : ∃ d, intV B = d := ⟨_, rfl⟩
  rw [ea1, ea2] at IT ⊢
  have q1 : ((k : Int) == 1) = false := by simp; omega
  have q2 : ((k : Int) == 2) = false := by simp; omega
  clear ek ed k1 k2 hN hD hE hO sP sQ hq eP eQ eo eA eB ea1 ea2
  have HA := Lib.hid sA
  have HB := Lib.hid sB
  clear sA sB
  go_enter Tryd.func17, Tryd.ntmps17
  go_upto_region 7 with (first
    | (go_at_call 22; with_reducible refine (KI _).mono ?_; rintro e w1 ⟨rfl, rfl⟩)
    | (go_at_call 50; with_reducible refine (FR _).mono ?_; rintro e w2 hR2; obtain ⟨n1, x1, y1, c1, n2, x2, y2, c2, rfl, I1, I2, hb2⟩ := BigRet2.out hR2))
  refine wp_worldF (fun W => Blk W w2.heap.size #[.bool n1, .slice x1 y1 c1] 41 ∧ Blk W (w2.heap.size + 1) #[.bool n2, .slice x2 y2 c2] 41 ∧ IsBig W n1 x1 y1 c1 P ∧ IsBig W n2 x2 y2 c2 Qn ∧ Below w1.heap.size w1 W) ?_ ?_
  · have h1 := hb2.size
    exact ⟨(Blk.new w2 _ _ _ rfl).alloc _, Blk.new _ _ _ _ (by simp), I1.keep (by exact (by repeat' (first | (with_reducible exact Below.refl _ _) | (with_reducible assumption) | (with_reducible refine below_alloc ?_ _ ?_) | (with_reducible refine below_set _ ?_ ?_) | (with_reducible refine Below.drew ?_) | (with_reducible refine below_dN ?_ _) | (apply below_thenA; assumption) | omega | (simp; done) | (simp; omega) | (simp [*]; done)))), I2.keep (by exact (by repeat' (first | (with_reducible exact Below.refl _ _) | (with_reducible assumption) | (with_reducible refine below_alloc ?_ _ ?_) | (with_reducible refine below_set _ ?_ ?_) | (with_reducible refine Below.drew ?_) | (with_reducible refine below_dN ?_ _) | (apply below_thenA; assumption) | omega | (simp; done) | (simp; omega) | (simp [*]; done)))), by exact (by repeat' (first | (with_reducible exact Below.refl _ _) | (with_reducible assumption) | (with_reducible refine below_alloc ?_ _ ?_) | (with_reducible refine below_set _ ?_ ?_) | (with_reducible refine Below.drew ?_) | (with_reducible refine below_dN ?_ _) | (apply below_thenA; assumption) | omega | (simp; done) | (simp; omega) | (simp [*]; done)))⟩
  rintro W1 ⟨t1, t2, J1, J2, hB⟩
  clear I1 I2 hb2 hR2 FR KI q1 q2
  have c10 := t1.cell 0 _ rfl
  have c11 := t1.cell 1 _ rfl
  have c20 := t2.cell 0 _ rfl
  have c21 := t2.cell 1 _ rfl
  go_upto_region 8 with (go_at_call 51; with_reducible refine (LW _ _ _ _ _ _ _ _ _ J1 J2).mono ?_; rintro e w3 hR3; obtain ⟨n3, x3, y3, c3, n4, x4, y4, c4, rfl, I3, I4, hb3⟩ := BigRet2.out hR3)
  refine wp_worldF (fun W => Blk W w3.heap.size #[.bool n3, .slice x3 y3 c3] 41 ∧ Blk W (w3.heap.size + 1) #[.bool n4, .slice x4 y4 c4] 41 ∧ IsBig W n3 x3 y3 c3 A ∧ IsBig W n4 x4 y4 c4 B ∧ Below w1.heap.size w1 W) ?_ ?_
  · have h1 := hb3.size
    have h2 := hB.size
    have hB3 := hB.trans (hb3.mono hB.size)
    exact ⟨(Blk.new w3 _ _ _ rfl).alloc _, Blk.new _ _ _ _ (by simp), I3.keep (by exact (by repeat' (first | (with_reducible exact Below.refl _ _) | (with_reducible assumption) | (with_reducible refine below_alloc ?_ _ ?_) | (with_reducible refine below_set _ ?_ ?_) | (with_reducible refine Below.drew ?_) | (with_reducible refine below_dN ?_ _) | (apply below_thenA; assumption) | omega | (simp; done) | (simp; omega) | (simp [*]; done)))), I4.keep (by exact (by repeat' (first | (with_reducible exact Below.refl _ _) | (with_reducible assumption) | (with_reducible refine below_alloc ?_ _ ?_) | (with_reducible refine below_set _ ?_ ?_) | (with_reducible refine Below.drew ?_) | (with_reducible refine below_dN ?_ _) | (apply below_thenA; assumption) | omega | (simp; done) | (simp; omega) | (simp [*]; done)))), by have h3 := hB3.size; exact (by repeat' (first | (with_reducible exact Below.refl _ _) | (with_reducible assumption) | (with_reducible refine below_alloc ?_ _ ?_) | (with_reducible refine below_set _ ?_ ?_) | (with_reducible refine Below.drew ?_) | (with_reducible refine below_dN ?_ _) | (apply below_thenA; assumption) | omega | (simp; done) | (simp; omega) | (simp [*]; done)))⟩
  rintro W3 ⟨t3, t4, J3, J4, hB3⟩
  clear I3 I4 hb3 hR3 LW c10 c11 c20 c21 t1 t2 J1 J2 hB
  have c10 := t3.cell 0 _ rfl
  have c11 := t3.cell 1 _ rfl
  have c20 := t4.cell 0 _ rfl
  have c21 := t4.cell 1 _ rfl
  have z1 := J3.le HA.out
  have z2 := J4.le HB.out
  cases o
  · go_wp2_with (go_at_call 52; with_reducible refine (IT _ _ _ _ _ _ _ _ _ J3 J4 (by omega) (by omega)).mono ?_; rintro e w4 ⟨rfl, hb4⟩)
    (go_light; simp [bodyPost, results, Tryd.results17, go_sem, *])
    exact hB3.trans (hb4.mono hB3.size)
  · go_wp2_with (go_at_call 52; with_reducible refine (IT _ _ _ _ _ _ _ _ _ J3 J4 (by omega) (by omega)).mono ?_; rintro e w4 ⟨rfl, hb4⟩)
    (go_light; simp [bodyPost, results, Tryd.results17, go_sem, *])
    exact hB3.trans (hb4.mono hB3.size)
end Go.Proofs.YtmkblfejoniccaaDoor
namespace Go.Proofs.YtmkblfejoniccaaDoor
open Go.RowKit
set_option linter.unusedSimpArgs false
set_option linter.unusedVariables false

/-- By how many bits a ratio is moved so that its first 64 bits stand before the point. -/
def nrK (a d : Nat) : Nat := if a / d = 0 then 64 + lzN ((a * 18446744073709551616 / d : Nat) : Int) else lzN ((a / d : Nat) : Int)
theorem lz_nat {y : Nat} (h0 : 0 < y) (h1 : y < 18446744073709551616) : lzN (y : Int) ≤ 63 ∧ 9223372036854775808 ≤ y * 2 ^ lzN (y : Int) ∧ y * 2 ^ lzN (y : Int) < 18446744073709551616 := by
  obtain ⟨s, hs⟩ : ∃ s, lzN (y : Int) = s := ⟨_, rfl⟩
  obtain ⟨a, b, c⟩ := lz_spec (y : Int) s (by omega) (by omega) hs
  rw [hs]
  have e : (y : Int) * 2 ^ s = ((y * 2 ^ s : Nat) : Int) := by simp
  rw [e] at b c
  exact ⟨a, by omega, by omega⟩
theorem lz_ratio {a d : Nat} (hd : 0 < d) (h0 : 0 < a / d) (h1 : a / d < 18446744073709551616) : 9223372036854775808 * d ≤ a * 2 ^ lzN ((a / d : Nat) : Int) ∧ a * 2 ^ lzN ((a / d : Nat) : Int) < 18446744073709551616 * d := by
  obtain ⟨l0, l1, l2⟩ := lz_nat h0 h1
  obtain ⟨s, hs⟩ : ∃ s, lzN ((a / d : Nat) : Int) = s := ⟨_, rfl⟩
  rw [hs] at l0 l1 l2 ⊢
  have hdm := Nat.div_add_mod a d
  have hml := Nat.mod_lt a hd
  obtain ⟨q, eq⟩ : ∃ q, a / d = q := ⟨_, rfl⟩
  obtain ⟨r, er⟩ : ∃ r, a % d = r := ⟨_, rfl⟩
  rw [eq, er] at hdm
  rw [er] at hml
  rw [eq] at l1 l2
  have hp : 0 < 2 ^ s := Nat.pow_pos (by decide)
  constructor
  · have h1 := Nat.mul_le_mul_right d l1
    have h2 : q * 2 ^ s * d ≤ a * 2 ^ s := by
      rw [Nat.mul_right_comm, Nat.mul_comm q d]
      exact Nat.mul_le_mul_right _ (by omega)
    exact Nat.le_trans h1 h2
  · have h3 : (q + 1) * 2 ^ s ≤ 18446744073709551616 := by
      have e : 18446744073709551616 = 2 ^ (64 - s) * 2 ^ s := by rw [← Nat.pow_add, show 64 - s + s = 64 by omega]
      rw [e] at l2 ⊢
      exact Nat.mul_le_mul_right _ (Nat.lt_of_mul_lt_mul_right l2)
    have h4 := Nat.mul_le_mul_right d h3
    have h5 : a * 2 ^ s < (q + 1) * 2 ^ s * d := by
      rw [Nat.mul_right_comm]
      refine Nat.mul_lt_mul_of_pos_right ?_ hp
      rw [Nat.add_mul, Nat.mul_comm q d]
      omega
    exact Nat.lt_of_lt_of_le h5 h4
/-- Where a ratio of ints stands so. -/
theorem nrK_spec {a d : Nat} (ha : 0 < a) (ha2 : a ≤ 9223372036854775808) (hd : 0 < d) (hd2 : d ≤ 9223372036854775807) :
    nrK a d ≤ 127 ∧ 9223372036854775808 * d ≤ a * 2 ^ nrK a d ∧ a * 2 ^ nrK a d < 18446744073709551616 * d := by
  unfold nrK
  by_cases h : a / d = 0
  · rw [if_pos h]
    have had : a < d := by
      rcases Nat.lt_or_ge a d with l | l
      · exact l
      · have := Nat.div_pos l hd
        omega
    have h1 : 0 < a * 18446744073709551616 / d := Nat.div_pos (by omega) hd
    have h2 : a * 18446744073709551616 / d < 18446744073709551616 := (Nat.div_lt_iff_lt_mul hd).2 (by
      rw [Nat.mul_comm 18446744073709551616 d]
      exact Nat.mul_lt_mul_of_pos_right had (by decide))
    obtain ⟨l0, -, -⟩ := lz_nat h1 h2
    have hl := lz_ratio hd h1 h2
    rw [show a * 18446744073709551616 = a * 2 ^ 64 by rfl] at hl l0 ⊢
    rw [Nat.mul_assoc, ← Nat.pow_add] at hl
    exact ⟨by omega, hl⟩
  · rw [if_neg h]
    have h1 : 0 < a / d := Nat.pos_of_ne_zero h
    have h2 : a / d < 18446744073709551616 := by
      have := Nat.div_le_self a d
      omega
    obtain ⟨l0, -, -⟩ := lz_nat h1 h2
    exact ⟨by omega, lz_ratio hd h1 h2⟩
/-- Two words of a quotient, moved: the first 64 bits; whether there is more. -/
theorem two_words {a d n : Nat} (hd : 0 < d) (hn : n ≤ 63) :
    (a / d * 18446744073709551616 + a % d * 18446744073709551616 / d) * 2 ^ n / 18446744073709551616 = a * 2 ^ n / d ∧
    ((a % d * 18446744073709551616 / d * 2 ^ n % 18446744073709551616 = 0 ∧ a % d * 18446744073709551616 % d = 0) ↔ a * 2 ^ n % d = 0) := by
  have hdm := Nat.div_add_mod a d
  obtain ⟨q0, e0⟩ : ∃ q, a / d = q := ⟨_, rfl⟩
  obtain ⟨r0, e1⟩ : ∃ q, a % d = q := ⟨_, rfl⟩
  rw [e0, e1] at hdm
  rw [e0, e1]
  have hdm1 := Nat.div_add_mod (r0 * 18446744073709551616) d
  have hm1 := Nat.mod_lt (r0 * 18446744073709551616) hd
  obtain ⟨q1, e2⟩ : ∃ q, r0 * 18446744073709551616 / d = q := ⟨_, rfl⟩
  obtain ⟨r1, e3⟩ : ∃ q, r0 * 18446744073709551616 % d = q := ⟨_, rfl⟩
  rw [e2, e3] at hdm1
  rw [e3] at hm1
  rw [e2, e3]
  obtain ⟨g, hg⟩ : ∃ g, 2 ^ (64 - n) = g := ⟨_, rfl⟩
  obtain ⟨p, hp⟩ : ∃ p, 2 ^ n = p := ⟨_, rfl⟩
  have hgp : g * p = 18446744073709551616 := by rw [← hg, ← hp, ← Nat.pow_add, show 64 - n + n = 64 by omega]
  have hg0 : 0 < g := by rw [← hg]; exact Nat.pow_pos (by decide)
  have hp0 : 0 < p := by rw [← hp]; exact Nat.pow_pos (by decide)
  have hgd : g ∣ 18446744073709551616 := ⟨p, hgp.symm⟩
  rw [hp]
  -- the whole of both words
  obtain ⟨Y, eY⟩ : ∃ Y, q0 * 18446744073709551616 + q1 = Y := ⟨_, rfl⟩
  have hY : a * 18446744073709551616 = Y * d + r1 := by
    rw [Nat.mul_comm d q0] at hdm
    rw [Nat.mul_comm d q1] at hdm1
    rw [← hdm, ← eY, Nat.add_mul, Nat.add_mul, Nat.mul_right_comm q0 d, ← hdm1]
    omega
  have hYg : a * p * g = Y * d + r1 := by rw [Nat.mul_assoc, Nat.mul_comm p, hgp, hY]
  rw [eY]
  have t1 : Y * p / 18446744073709551616 = Y / g := by rw [← hgp, Nat.mul_div_mul_right _ _ hp0]
  have hYdm := Nat.div_add_mod Y g
  have hYm := Nat.mod_lt Y hg0
  obtain ⟨T, eT⟩ : ∃ T, Y / g = T := ⟨_, rfl⟩
  obtain ⟨l, el⟩ : ∃ T, Y % g = T := ⟨_, rfl⟩
  rw [eT, el] at hYdm
  rw [el] at hYm
  -- a p = T d + rho
  have key : a * p * g = T * d * g + (l * d + r1) := by
    rw [hYg, ← hYdm, Nat.add_mul, Nat.mul_comm g T, Nat.mul_right_comm]; omega
  have hlt : l * d + r1 < d * g := by
    have := Nat.mul_le_mul_right d (show l + 1 ≤ g by omega)
    rw [Nat.add_mul, Nat.one_mul, Nat.mul_comm g d] at this
    omega
  have hTd : T * d ≤ a * p := by
    refine Nat.le_of_mul_le_mul_right ?_ hg0
    omega
  obtain ⟨rho, hrho⟩ : ∃ r, a * p = T * d + r := ⟨a * p - T * d, by omega⟩
  have hrg : rho * g = l * d + r1 := by
    rw [hrho, Nat.add_mul] at key; omega
  have hrl : rho < d := by
    rw [← hrg] at hlt
    exact Nat.lt_of_mul_lt_mul_right hlt
  have hq : a * p / d = T := by
    rw [hrho, Nat.mul_comm T d, Nat.mul_add_div hd, Nat.div_eq_of_lt hrl, Nat.add_zero]
  have hr : a * p % d = rho := by
    rw [hrho, Nat.mul_comm T d, Nat.mul_add_mod, Nat.mod_eq_of_lt hrl]
  refine ⟨by rw [t1, eT, hq], ?_⟩
  rw [hr]
  have hl : l = q1 % g := by
    rw [← el, ← eY]
    obtain ⟨c, hc⟩ := hgd
    rw [hc, Nat.mul_left_comm, Nat.mul_add_mod]
  have hb : q1 * p % 18446744073709551616 = l * p := by
    rw [← hgp, Nat.mul_mod_mul_right, hl]
  rw [hb]
  constructor
  · rintro ⟨h1, h2⟩
    have hl0 : l = 0 := by
      rcases Nat.mul_eq_zero.1 h1 with h | h
      · exact h
      · omega
    subst hl0
    rw [h2, Nat.zero_mul, Nat.zero_add] at hrg
    rcases Nat.mul_eq_zero.1 hrg with h | h
    · exact h
    · omega
  · intro h
    rw [h, Nat.zero_mul] at hrg
    have h1 : l * d = 0 := by omega
    have h2 : r1 = 0 := by omega
    refine ⟨?_, h2⟩
    rcases Nat.mul_eq_zero.1 h1 with h | h
    · rw [h, Nat.zero_mul]
    · omega
/-- Finite floats of one sign and one number are one. -/
theorem fin_inj {x y : Nat} (hx : x < 18446744073709551616) (hy : y < 18446744073709551616) (hs : fSg x = fSg y) (h : fV x = fV y) : x = y := by
  have h1 := mt (fV_lt_iff hx hy).2 (by omega)
  have h2 := mt (fV_lt_iff hy hx).2 (by omega)
  have ox := fG_of hx
  have oy := fG_of hy
  unfold fK at h1 h2
  rw [hs] at h1 h2 ox
  cases h3 : fSg y <;> rw [h3] at h1 h2 ox oy <;> simp at h1 h2 ox oy <;> omega
theorem fin_small {b : Nat} (h : fG b < 9218868437227405312) (hb : b < 18446744073709551616) : Fin64 b :=
  ⟨hb, fun e => by rw [nan_iff hb] at e; omega, fun e => by rw [inf_iff hb] at e; omega⟩
theorem fG_self {b : Nat} (h : b < 9223372036854775808) : fG b = b ∧ fSg b = false := by
  refine ⟨Nat.mod_eq_of_lt h, ?_⟩
  unfold fSg
  exact decide_eq_false (by omega)
theorem pow_Znk {n k : Nat} (h : n = k + 1074) (hk : k = 0) : 2 ^ n = Zn := by rw [h, pow_Zn, hk, Nat.pow_zero, Nat.one_mul]
/-- A whole number of 53 bits as a float. -/
theorem fl_m53 (m : Nat) (h1 : 4503599627370496 ≤ m) (h2 : m ≤ 9007199254740992) : Go.floatOfInt .f64 (m : Int) = 1074 * 4503599627370496 + m := by
  have hc : Fin64 (Go.floatOfInt .f64 (m : Int)) ∧ fSg (Go.floatOfInt .f64 (m : Int)) = false ∧ fV (Go.floatOfInt .f64 (m : Int)) = (m : Int) * (Zn : Int) := by
    show Fin64 (Ieee.double.nearest (decide ((m : Int) < 0)) (m : Int).natAbs 0) ∧ fSg (Ieee.double.nearest (decide ((m : Int) < 0)) (m : Int).natAbs 0) = false ∧ fV (Ieee.double.nearest (decide ((m : Int) < 0)) (m : Int).natAbs 0) = _
    rw [Int.natAbs_natCast, decide_eq_false (show ¬ (m : Int) < 0 by omega)]
    by_cases c : m = 9007199254740992
    · subst c
      have h := near_exact false 4503599627370496 1 0 (by decide) (by decide) (by decide) (by decide)
      refine ⟨h.1, h.2.1, h.2.2.trans ?_⟩
      have e : ((2 ^ (0 + ((1 : Nat) : Int) + 1074).toNat : Nat) : Int) = 2 * (Zn : Int) := by
        have q : ((2 ^ (1 + 1074) : Nat) : Int) = ((2 ^ 1 * Zn : Nat) : Int) := congrArg Int.ofNat (pow_Zn 1)
        rw [Int.natCast_mul] at q
        rw [show (0 + ((1 : Nat) : Int) + 1074).toNat = 1 + 1074 by decide, q]
        rfl
      rw [e]
      show (4503599627370496 : Int) * (2 * (Zn : Int)) = 9007199254740992 * (Zn : Int)
      omega
    · have hl : m.log2 ≤ 52 := log2_lt (by omega) (by
        have : (2 : Nat) ^ (52 + 1) = 9007199254740992 := by decide
        omega)
      have h := near_exact false m 0 0 (by omega) (by rw [Nat.pow_zero, Nat.mul_one]; omega) (by rw [Nat.pow_zero, Nat.mul_one]; omega) (by omega)
      rw [Nat.pow_zero, Nat.mul_one] at h
      refine ⟨h.1, h.2.1, h.2.2.trans ?_⟩
      have e : ((2 ^ (0 + ((0 : Nat) : Int) + 1074).toNat : Nat) : Int) = (Zn : Int) := by
        have q := @pow_Znk (0 + ((0 : Nat) : Int) + 1074).toNat 0 (by decide) rfl
        rw [q]
      rw [e]
      rfl
  obtain ⟨f1, f2, f3⟩ := hc
  have hy : 1074 * 4503599627370496 + m < 9223372036854775808 := by omega
  obtain ⟨g1, g2⟩ := fG_self hy
  refine fin_inj f1.1 (by omega) (by rw [f2, g2]) ?_
  rw [f3, fV_mV (by omega), g2, g1]
  clear f3 g1 g2 f1 f2 hy
  obtain ⟨e, he⟩ : ∃ e : Nat, e = 1074 := ⟨_, rfl⟩
  rw [← he, mV_of e m h1 h2, pow_Znk (k := 0) (by rw [he]) rfl]
  rw [Int.natCast_mul]
  simp only [Bool.false_eq_true, if_false]
/-- One times a float. -/
theorem fl_one {b : Nat} (hb : Fin64 b) (hn : 4503599627370496 ≤ fG b) (hp : fPo b ≤ 900) : Go.floatBits .mul .f64 4607182418800017408 b = some b := by
  have h1 : Ieee.double.read 4607182418800017408 = .number false (2 ^ 52) (-52) := by decide
  have e : Go.floatBits .mul .f64 4607182418800017408 b = some (Ieee.double.nearest (fSg b) (fWh b * 2 ^ 52) (-52 + fPo b)) := by
    show Ieee.double.mul 4607182418800017408 b = _
    unfold Ieee.Format.mul
    rw [h1, read_fin hb]
    show some (Ieee.double.nearest (false ^^ fSg b) (2 ^ 52 * fWh b) (-52 + fPo b)) = _
    rw [Bool.false_xor, Nat.mul_comm]
  rw [e]
  obtain ⟨p1, p2⟩ := fG_parts hb.1
  have hx : fEx b ≠ 0 := by omega
  have hw0 : 4503599627370496 ≤ fWh b := by unfold fWh; rw [if_neg hx]; omega
  have hw := fWh_lt b
  have hlog : (fWh b * 2 ^ 52).log2 = (fWh b).log2 + 52 := log2_mul_pow (by omega) 52
  have hl52 : (fWh b).log2 ≤ 52 := log2_lt (by omega) (by
    have : (2 : Nat) ^ (52 + 1) = 9007199254740992 := by decide
    omega)
  have hg := fPo_ge b
  obtain ⟨f1, f2, f3⟩ := near_exact (fSg b) (fWh b) 52 (-52 + fPo b) (by omega) (by rw [hlog]; omega) (by rw [hlog]; omega) (by omega)
  refine congrArg some (fin_inj f1.1 hb.1 f2 (f3.trans ?_))
  rw [show (-52 + fPo b + ((52 : Nat) : Int) + 1074).toNat = (fPo b + 1074).toNat by omega]
  rfl
end Go.Proofs.YtmkblfejoniccaaDoor
namespace Go.Proofs.YtmkblfejoniccaaDoor
open Go.RowKit
set_option linter.unusedSimpArgs false
set_option linter.unusedVariables false

set_option maxRecDepth 100000 in
set_option maxHeartbeats 1600000 in
theorem cmp_isnan (x : Nat) (hx : x < 18446744073709551616) (w : World) : Calls Tryd.prog 109 #[.int .u64 (x : Int)] w fun e w' => e = .returned (.bool false) ∧ w' = w := by
  go_enter Tryd.func109, Tryd.ntmps109
  go_wp2_with fail
  go_ret
  exact ⟨by first | rfl | simp, rfl⟩
set_option maxRecDepth 100000 in
set_option maxHeartbeats 1600000 in
theorem cmp_u64 (x y : Nat) (hx : x < 18446744073709551616) (hy : y < 18446744073709551616) (w : World) : Calls Tryd.prog 89 #[.int .u64 (x : Int), .int .u64 (y : Int)] w fun e w' => e = .returned (.int .i64 (cmU x y)) ∧ w' = w := by
  have NX := cmp_isnan x hx
  have NY := cmp_isnan y hy
  by_cases h1 : x < y
  · have c1 : decide ((x : Int) < (y : Int)) = true := by simp; omega
    have hc : cmU x y = -1 := by unfold cmU; rw [if_pos h1]
    rw [hc]
    clear hc
    go_enter Tryd.func89, Tryd.ntmps89
    go_wp2_with (first
      | (go_at_call 109; with_reducible refine (NX _).mono ?_; rintro e w1 ⟨rfl, rfl⟩)
      | (go_at_call 109; with_reducible refine (NY _).mono ?_; rintro e w1 ⟨rfl, rfl⟩))
    (go_light; simp [bodyPost, results, Tryd.results89, go_sem, *])
  · have c1 : decide ((x : Int) < (y : Int)) = false := by simp; omega
    by_cases h2 : y < x
    · have c2 : decide ((y : Int) < (x : Int)) = true := by simp; omega
      have hc : cmU x y = 1 := by unfold cmU; rw [if_neg h1, if_pos h2]
      rw [hc]
      clear hc
      go_enter Tryd.func89, Tryd.ntmps89
      go_wp2_with (first
        | (go_at_call 109; with_reducible refine (NX _).mono ?_; rintro e w1 ⟨rfl, rfl⟩)
        | (go_at_call 109; with_reducible refine (NY _).mono ?_; rintro e w1 ⟨rfl, rfl⟩))
      (go_light; simp [bodyPost, results, Tryd.results89, go_sem, *])
    · have c2 : decide ((y : Int) < (x : Int)) = false := by simp; omega
      have hc : cmU x y = 0 := by unfold cmU; rw [if_neg h1, if_neg h2]
      rw [hc]
      clear hc
      go_enter Tryd.func89, Tryd.ntmps89
      go_wp2_with (first
        | (go_at_call 109; with_reducible refine (NX _).mono ?_; rintro e w1 ⟨rfl, rfl⟩)
        | (go_at_call 109; with_reducible refine (NY _).mono ?_; rintro e w1 ⟨rfl, rfl⟩))
      (go_light; simp [bodyPost, results, Tryd.results89, go_sem, *])
theorem or_top (b : Nat) (hb : b < 9223372036854775808) : bits .or .u64 (b : Int) 9223372036854775808 = (b : Int) + 9223372036854775808 := by
  have h := bits_or_u64_nat b 9223372036854775808 (by omega) (by omega)
  have e : b ||| 9223372036854775808 = b + 9223372036854775808 := by
    have := Nat.two_pow_add_eq_or_of_lt (i := 63) (b := b) hb 1
    rw [show (2 : Nat) ^ 63 * 1 = 9223372036854775808 by decide] at this
    rw [Nat.or_comm, ← this]
    omega
  rw [e] at h
  exact h
set_option maxRecDepth 100000 in
set_option maxHeartbeats 1600000 in
theorem real_place (b : Nat) (hb : b < 18446744073709551616) (w : World) : Calls Tryd.prog 90 #[.float .f64 b] w fun e w' => e = .returned (.int .u64 (plF b : Int)) ∧ w' = w := by
  have FB := flo_bits
  have e1 := sg_eq b
  have hb1 : (0 : Int) ≤ (b : Int) := by omega
  have hb2 : (b : Int) < 18446744073709551616 := by omega
  have hs := fSg_iff hb
  by_cases n1 : fKi b = 1
  · have m1 : (FloatKind.f64.format.order b b != some .eq) = true := by rw [bne, show FloatKind.f64.format = Ieee.double from rfl, fl_eq_is b b hb hb, n1]; rfl
    have hp : (plF b : Int) = 18446744073709551615 := by unfold plF; rw [if_pos n1]; rfl
    rw [hp]
    clear hp hs
    go_enter Tryd.func90, Tryd.ntmps90
    go_wp2_with fail
    (go_light; simp [bodyPost, results, Tryd.results90, go_sem, *])
  · have m1 : (FloatKind.f64.format.order b b != some .eq) = false := by rw [bne, show FloatKind.f64.format = Ieee.double from rfl, fl_eq_is b b hb hb]; simp [n1]
    by_cases n2 : fSg b = true
    · have hp : (plF b : Int) = 18446744073709551615 - (b : Int) := by unfold plF; rw [if_neg n1, if_pos n2]; omega
      have ho := u64_not (b : Int) hb1 (by omega)
      have hsg : IntKind.u64.signed = false := rfl
      have hmx : IntKind.u64.max = 18446744073709551615 := rfl
      rw [hp]
      obtain ⟨r, er⟩ : ∃ r, 18446744073709551615 - (b : Int) = r := ⟨_, rfl⟩
      rw [er] at ho ⊢
      have r1 : 0 ≤ r := by omega
      have r2 : r ≤ 18446744073709551615 := by omega
      clear er
      rw [n2] at e1
      clear hp hs
      go_enter Tryd.func90, Tryd.ntmps90
      go_wp2_with fail
      (go_light; simp [bodyPost, results, Tryd.results90, go_sem, *])
    · have n3 : fSg b = false := by simpa using n2
      have hp : (plF b : Int) = (b : Int) + 9223372036854775808 := by unfold plF; rw [if_neg n1, if_neg n2]; rfl
      have ho := or_top b (by rw [hs] at n2; omega)
      rw [hp]
      rw [n3] at e1
      clear hp hs
      go_enter Tryd.func90, Tryd.ntmps90
      go_wp2_with fail
      (go_light; simp [bodyPost, results, Tryd.results90, go_sem, *])
set_option maxRecDepth 100000 in
set_option maxHeartbeats 1600000 in
theorem real_cmp (a b : Nat) (ha : a < 18446744073709551616) (hb : b < 18446744073709551616) (w : World) : Calls Tryd.prog 40 #[.float .f64 a, .float .f64 b] w fun e w' => e = .returned (.int .i64 (cmU (plF a) (plF b))) ∧ w' = w := by
  have PA := real_place a ha
  have PB := real_place b hb
  have CM := cmp_u64 (plF a) (plF b) (plF_lt a ha) (plF_lt b hb)
  go_enter Tryd.func40, Tryd.ntmps40
  go_wp2_with (first
    | (go_at_call 90; with_reducible refine (PA _).mono ?_; rintro e w1 ⟨rfl, rfl⟩)
    | (go_at_call 90; with_reducible refine (PB _).mono ?_; rintro e w1 ⟨rfl, rfl⟩)
    | (go_at_call 89; with_reducible refine (CM _).mono ?_; rintro e w1 ⟨rfl, rfl⟩))
  (go_light; simp [bodyPost, results, Tryd.results40, go_sem, *])
set_option maxRecDepth 100000 in
set_option maxHeartbeats 3200000 in
theorem ref3_cmp (a b : Nat) (ha : a < 18446744073709551616) (hb : b < 18446744073709551616) (w : World) : Calls Tryd.prog 41 #[.int .u64 (a : Int), .int .u64 (b : Int)] w fun e w' => e = .returned (.int .i64 (cmU (plF a) (plF b))) ∧ w' = w := by
  have KA := ref3_kind a ha
  have KB := ref3_kind b hb
  rw [← cmpF_is ha hb]
  have hc : cmpF a b = if fKi a = 1 ∨ fKi b = 1 then (if fKi a = fKi b then 0 else if fKi a = 1 then 1 else -1)
    else if fDn a ≠ fDn b then (if fDn a then -1 else 1) else if fDn a then -cmU a b else cmU a b := rfl
  have hn : cmU a b = if a < b then -1 else if b < a then 1 else 0 := rfl
  obtain ⟨c, ec⟩ : ∃ c, cmpF a b = c := ⟨_, rfl⟩
  rw [ec] at hc ⊢
  obtain ⟨k, ek⟩ : ∃ c, fKi a = c := ⟨_, rfl⟩
  obtain ⟨l, el⟩ : ∃ c, fKi b = c := ⟨_, rfl⟩
  obtain ⟨d, ed⟩ : ∃ c, fDn a = c := ⟨_, rfl⟩
  obtain ⟨u, eu⟩ : ∃ c, fDn b = c := ⟨_, rfl⟩
  obtain ⟨n, en⟩ : ∃ c, cmU a b = c := ⟨_, rfl⟩
  rw [ek, el, ed, eu, en] at hc
  rw [ek, ed] at KA
  rw [el, eu] at KB
  rw [en] at hn
  clear ek el ed eu ec en
  have hb1 : (0 : Int) ≤ (b : Int) := by omega
  have ha1 : (0 : Int) ≤ (a : Int) := by omega
  by_cases k1 : k = 1
  · rw [if_pos (.inl k1)] at hc
    have e1 : ((k : Int) == 1) = true := by simp; omega
    by_cases k2 : k = l
    · rw [if_pos k2] at hc
      have e3 : ((k : Int) == (l : Int)) = true := by simp; omega
      clear hn
      subst hc
      go_enter Tryd.func41, Tryd.ntmps41
      go_wp2_with (first
        | (go_at_call 22; with_reducible refine (KA _).mono ?_; rintro e w1 ⟨rfl, rfl⟩)
        | (go_at_call 22; with_reducible refine (KB _).mono ?_; rintro e w1 ⟨rfl, rfl⟩))
      (go_light; simp [bodyPost, results, Tryd.results41, go_sem, *])
    · rw [if_neg k2, if_pos k1] at hc
      have e3 : ((k : Int) == (l : Int)) = false := by simp; omega
      clear hn
      subst hc
      go_enter Tryd.func41, Tryd.ntmps41
      go_wp2_with (first
        | (go_at_call 22; with_reducible refine (KA _).mono ?_; rintro e w1 ⟨rfl, rfl⟩)
        | (go_at_call 22; with_reducible refine (KB _).mono ?_; rintro e w1 ⟨rfl, rfl⟩))
      (go_light; simp [bodyPost, results, Tryd.results41, go_sem, *])
  · have e1 : ((k : Int) == 1) = false := by simp; omega
    by_cases l1 : l = 1
    · rw [if_pos (.inr l1), if_neg (by omega), if_neg k1] at hc
      have e2 : ((l : Int) == 1) = true := by simp; omega
      have e3 : ((k : Int) == (l : Int)) = false := by simp; omega
      clear hn
      subst hc
      go_enter Tryd.func41, Tryd.ntmps41
      go_wp2_with (first
        | (go_at_call 22; with_reducible refine (KA _).mono ?_; rintro e w1 ⟨rfl, rfl⟩)
        | (go_at_call 22; with_reducible refine (KB _).mono ?_; rintro e w1 ⟨rfl, rfl⟩))
      (go_light; simp [bodyPost, results, Tryd.results41, go_sem, *])
    · rw [if_neg (by omega)] at hc
      have e2 : ((l : Int) == 1) = false := by simp; omega
      have key : (n = -1 ∧ a < b) ∨ (n = 1 ∧ ¬ a < b ∧ b < a) ∨ (n = 0 ∧ ¬ a < b ∧ ¬ b < a) := by
        rw [hn]
        by_cases h1 : a < b
        · rw [if_pos h1]; exact .inl ⟨rfl, h1⟩
        · rw [if_neg h1]
          by_cases h2 : b < a
          · rw [if_pos h2]; exact .inr (.inl ⟨rfl, h1, h2⟩)
          · rw [if_neg h2]; exact .inr (.inr ⟨rfl, h1, h2⟩)
      clear hn k1 l1
      rcases key with ⟨rfl, h1⟩ | ⟨rfl, h1, h2⟩ | ⟨rfl, h1, h2⟩
      · have c1 : decide ((a : Int) < (b : Int)) = true := by simp; omega
        have c2 : decide ((b : Int) < (a : Int)) = false := by simp; omega
        have h2 : ¬ b < a := by omega
        cases d <;> cases u <;> (replace hc := hc.trans (show _ = _ from rfl); subst hc)
        all_goals
          go_enter Tryd.func41, Tryd.ntmps41
          go_wp2_with (first
            | (go_at_call 22; with_reducible refine (KA _).mono ?_; rintro e w1 ⟨rfl, rfl⟩)
            | (go_at_call 22; with_reducible refine (KB _).mono ?_; rintro e w1 ⟨rfl, rfl⟩))
          (go_light; simp [bodyPost, results, Tryd.results41, go_sem, *])
      · have c1 : decide ((a : Int) < (b : Int)) = false := by simp; omega
        have c2 : decide ((b : Int) < (a : Int)) = true := by simp; omega
        cases d <;> cases u <;> (replace hc := hc.trans (show _ = _ from rfl); subst hc)
        all_goals
          go_enter Tryd.func41, Tryd.ntmps41
          go_wp2_with (first
            | (go_at_call 22; with_reducible refine (KA _).mono ?_; rintro e w1 ⟨rfl, rfl⟩)
            | (go_at_call 22; with_reducible refine (KB _).mono ?_; rintro e w1 ⟨rfl, rfl⟩))
          (go_light; simp [bodyPost, results, Tryd.results41, go_sem, *])
      · have c1 : decide ((a : Int) < (b : Int)) = false := by simp; omega
        have c2 : decide ((b : Int) < (a : Int)) = false := by simp; omega
        cases d <;> cases u <;> (replace hc := hc.trans (show _ = _ from rfl); subst hc)
        all_goals
          go_enter Tryd.func41, Tryd.ntmps41
          go_wp2_with (first
            | (go_at_call 22; with_reducible refine (KA _).mono ?_; rintro e w1 ⟨rfl, rfl⟩)
            | (go_at_call 22; with_reducible refine (KB _).mono ?_; rintro e w1 ⟨rfl, rfl⟩))
          (go_light; simp [bodyPost, results, Tryd.results41, go_sem, *])
end Go.Proofs.YtmkblfejoniccaaDoor
namespace Go.Proofs.YtmkblfejoniccaaDoor
open Go.RowKit
set_option linter.unusedSimpArgs false
set_option linter.unusedVariables false

def upB (t : Nat) (more : Bool) : Bool := decide (1024 < t % 2048) || (decide (t % 2048 = 1024) && (more || decide (t / 2048 % 2 = 1)))
def nrT (t : Nat) (more : Bool) : Nat := t / 2048 + (upB t more).toNat
theorem nrT_is (A d : Nat) : nrT (A / d) (decide (A % d ≠ 0)) = nrM A d := by
  unfold nrT nrM upB
  by_cases c1 : 1024 < A / d % 2048
  · rw [if_pos (.inl c1), decide_eq_true c1]; rfl
  · rw [decide_eq_false c1, Bool.false_or]
    by_cases c2 : A / d % 2048 = 1024
    · rw [decide_eq_true c2, Bool.true_and]
      by_cases c3 : A % d ≠ 0 ∨ A / d / 2048 % 2 = 1
      · rw [if_pos (.inr ⟨c2, c3⟩)]
        rcases c3 with c3 | c3
        · rw [decide_eq_true c3]; rfl
        · rw [decide_eq_true c3, Bool.or_true]; rfl
      · rw [if_neg (by omega), decide_eq_false (fun h => c3 (.inl h)), decide_eq_false (fun h => c3 (.inr h))]; rfl
    · rw [decide_eq_false c2, if_neg (by omega)]; rfl
set_option maxRecDepth 100000 in
set_option maxHeartbeats 1600000 in
theorem real_nearest (t : Nat) (more : Bool) (ht : t < 18446744073709551616) (w : World) : Calls Tryd.prog 59 #[.int .u64 (t : Int), .bool more] w fun e w' => e = .returned (.int .u64 ((nrT t more : Nat) : Int)) ∧ w' = w := by
  have e1 : (t : Int) / 2048 = ((t / 2048 : Nat) : Int) := by omega
  have e2 : bits .and .u64 (t : Int) 2047 = ((t % 2048 : Nat) : Int) := by
    have h := and_low t 11 2047 ht (by decide) (by decide)
    exact h
  have e3 : bits .and .u64 ((t / 2048 : Nat) : Int) 1 = ((t / 2048 % 2 : Nat) : Int) := by
    have h := and_low (t / 2048) 1 1 (by omega) (by decide) (by decide)
    exact h
  have hn : nrT t more = t / 2048 + (upB t more).toNat := rfl
  have hu : upB t more = (decide (1024 < t % 2048) || (decide (t % 2048 = 1024) && (more || decide (t / 2048 % 2 = 1)))) := rfl
  obtain ⟨m, em⟩ : ∃ m, t / 2048 = m := ⟨_, rfl⟩
  obtain ⟨r, er⟩ : ∃ m, t % 2048 = m := ⟨_, rfl⟩
  obtain ⟨o, eo⟩ : ∃ o, m % 2 = o := ⟨_, rfl⟩
  have bm : m < 9007199254740992 := by omega
  have br : r < 2048 := by omega
  rw [em] at e1 e3 hn hu
  rw [er] at e2 hu
  rw [hn]
  obtain ⟨u, eu⟩ : ∃ u, upB t more = u := ⟨_, rfl⟩
  rw [eu] at hu ⊢
  clear em er eu hn ht
  have key : (1024 < r ∧ u = true) ∨ (r < 1024 ∧ u = false) ∨ (r = 1024 ∧ u = (more || decide (o = 1))) := by
    by_cases c1 : 1024 < r
    · left; refine ⟨c1, ?_⟩; rw [hu, decide_eq_true c1]; rfl
    · by_cases c2 : r = 1024
      · right; right; refine ⟨c2, ?_⟩; rw [hu, decide_eq_false c1, decide_eq_true c2, eo]; rfl
      · right; left; refine ⟨by omega, ?_⟩; rw [hu, decide_eq_false c1, decide_eq_false c2]; rfl
  clear hu
  rcases key with ⟨c, rfl⟩ | ⟨c, rfl⟩ | ⟨c, hu⟩
  · have c1 : decide ((1024 : Int) < (r : Int)) = true := by simp; omega
    go_enter Tryd.func59, Tryd.ntmps59
    go_wp2_with fail
    (go_light; simp [bodyPost, results, Tryd.results59, go_sem, *])
  · have c1 : decide ((1024 : Int) < (r : Int)) = false := by simp; omega
    have c2 : ((r : Int) == 1024) = false := by simp; omega
    go_enter Tryd.func59, Tryd.ntmps59
    go_wp2_with fail
    (go_light; simp [bodyPost, results, Tryd.results59, go_sem, *])
  · subst c
    replace e2 : bits .and .u64 (t : Int) 2047 = 1024 := e2
    rw [eo] at e3
    clear eo
    cases more
    · by_cases c3 : o = 1
      · subst c3
        obtain rfl : u = true := hu
        replace e3 : bits .and .u64 (m : Int) 1 = 1 := e3
        go_enter Tryd.func59, Tryd.ntmps59
        go_wp2_with fail
        go_ret
        exact ⟨rfl, rfl⟩
      · obtain rfl : u = false := by rw [hu, decide_eq_false c3]; rfl
        clear hu
        have c4 : ((o : Int) == 1) = false := by simp; omega
        go_enter Tryd.func59, Tryd.ntmps59
        go_wp2_with fail
        go_ret
        exact ⟨rfl, rfl⟩
    · obtain rfl : u = true := hu
      go_enter Tryd.func59, Tryd.ntmps59
      go_wp2_with fail
      go_ret
      exact ⟨rfl, rfl⟩
end Go.Proofs.YtmkblfejoniccaaDoor
