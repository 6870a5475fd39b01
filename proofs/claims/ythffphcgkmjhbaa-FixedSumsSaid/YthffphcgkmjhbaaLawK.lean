/-
  The statement FixedParts.
-/
import Derived.Test.YthffphcgkmjhbaaFixC
import Derived.Test.YthffphcgkmjhbaaRefF
namespace Go.Proofs.Ythffphcgkmjhbaa
open Go.RowKit
set_option linter.unusedSimpArgs false
set_option linter.unusedVariables false

theorem partN_no {a n d : Int} (h : partE a n d ≠ 0) : partN a n d = 0 := by
  unfold partE at h
  unfold partN
  by_cases h0 : d = 0
  · simp [h0]
  · simp only [if_neg h0] at h ⊢
    cases hl : lenB (fq (a * n) d)
    · rfl
    · rw [hl] at h; exact absurd rfl h
theorem scaleN_no {n p q : Int} (h : scaleE n p q ≠ 0) : scaleN n p q = 0 := by
  unfold scaleE at h
  unfold scaleN
  cases hg : goodB p q
  · rfl
  · rw [hg] at h; exact partN_no h
/-- The number is there, or it was 0 before. -/
theorem try_put (F : Nat) (cap : Array Value) (b off : Nat) (n c : Int) (w : World) (cs : Array Value) (T : TypeId) (hb : Blk w b cs T) (hz : cs[off]? = some (.int .i64 0)) (hn : c ≠ 0 → n = 0) (hen : ∀ w, (callFunc F cap).run Try.prog w = .ok (.enter F cap) w)
    (h : ∀ W, Below w.heap.size w W → Calls Try.prog F cap W (Puts b off n c W)) :
    Calls Try.prog 60 #[.func (.func F) #[] cap] w fun e w' => e = .returned (.int .i64 c) ∧ But b w w' ∧ Blk w' b (cs.setIfInBounds off (.int .i64 n)) T := by
  refine (try_puts F cap b off n c w cs T hb hen h).mono fun e w' x => ⟨x.1, x.2.1, ?_⟩
  by_cases hc : c = 0
  · have := x.2.2; rw [if_pos hc] at this; exact this
  · have h2 := x.2.2
    rw [if_neg hc] at h2
    rw [hn hc]
    have : cs.setIfInBounds off (.int .i64 0) = cs := by
      apply Array.ext_getElem?
      intro i
      rw [Array.getElem?_setIfInBounds]
      split
      · rename_i e; subst e
        rw [hz]
        split
        · rfl
        · rename_i hs; exact absurd (Array.getElem?_eq_some_iff.1 hz).1 hs
      · rfl
    rw [this]; exact h2
theorem eq_arr3 (a b c a' b' c' : Int) (w : World) : (Op.equalIn 10000 83 (.agg #[.int .i64 a, .int .i64 b, .int .i64 c]) (.agg #[.int .i64 (a'), .int .i64 (b'), .int .i64 (c')])).run Try.prog w = .ok (a == a' && b == b' && c == c') w := by
  have u3 := Try.underlying2
  have a3 := Try.isAgg2
  have z3 := Try.sizeOf2
  rw [show (10000 : Nat) = 9999 + 1 from rfl, Op.equalIn]
  simp only [Sem.run_bind, run_underlying Try.underlying83, Result.andThen_ok]
  simp only [Std.Legacy.Range.forIn_eq_forIn_range', Std.Legacy.Range.size, Nat.sub_zero, Nat.add_sub_cancel, Nat.div_one, List.range'_succ, List.range'_zero, List.forIn_cons, List.forIn_nil]
  go_simp
  by_cases h1 : a = a' <;> by_cases h2 : b = b' <;> by_cases h3 : c = c' <;> simp [h1, h2, h3]
section
variable (a n d p q : Int) (b1 b3 : Nat) (cs : Array Value) (W : World)
set_option maxRecDepth 100000 in
set_option maxHeartbeats 1600000 in
theorem parts1 (ha : IFit a) (hn : IFit n) (hd : IFit d) (h1 : Blk W b1 #[.int .i64 a, .int .i64 n, .int .i64 d, .int .i64 p, .int .i64 q] 91) (x y z : Value) (h3 : Blk W b3 #[x, y, z] 83) :
    Calls Try.prog 71 #[.pointer (some ⟨b1, 0, none⟩), .pointer (some ⟨b3, 0, none⟩)] W (Puts b3 0 (partN a n d) (partE a n d) W) := by
  have PT := fun W => fix_part_any a n d ha hn hd W
  obtain ⟨N, eN⟩ : ∃ N, partN a n d = N := ⟨_, rfl⟩
  obtain ⟨E, eE⟩ : ∃ E, partE a n d = E := ⟨_, rfl⟩
  rw [eN, eE] at PT ⊢
  clear eN eE ha hn hd
  have c0 := h1.cell 0 _ rfl
  have c1 := h1.cell 1 _ rfl
  have c2 := h1.cell 2 _ rfl
  have hPt : ∀ e w', ((E = 0 → e = .returned (.tuple #[]) ∧ ∃ w3, Below W.heap.size W w3 ∧ w' = w3.setCell ⟨b3, 0, none⟩ (.int .i64 N)) ∧ (E ≠ 0 → e = .panicked (gave E) ∧ Below W.heap.size W w')) → Puts b3 0 N E W e w' := fun _ _ h => h
  have HP := Lib.hid hPt
  clear hPt
  by_cases hE : E = 0
  · have HE := Lib.hid hE
    have P0 := fun W => (PT W).mono fun e w' h => (⟨h.1 hE, h.2.2⟩ : _ ∧ _)
    clear hE PT
    go_enter Try.func71, Try.ntmps71
    go_wp2_with fail
    refine (P0 _).mono ?_
    rintro e w1 ⟨rfl, hb⟩
    have g1 := (h3.below hb).cell 0 _ rfl
    have g2 := (h3.below hb).free 0
    go_wp2_with fail
    go_end0
    exact HP.out _ _ ⟨fun _ => ⟨rfl, _, hb, rfl⟩, fun h => absurd HE.out h⟩
  · have HE := Lib.hid hE
    have P0 := fun W => (PT W).mono fun e w' h => (⟨h.2.1 hE, h.2.2⟩ : _ ∧ _)
    clear hE PT
    go_enter Try.func71, Try.ntmps71
    go_wp2_with fail
    refine (P0 _).mono ?_
    rintro e w1 ⟨rfl, hb⟩
    go_wp2_with fail
    simp [bodyPost]
    exact HP.out _ _ ⟨fun h => absurd h HE.out, fun _ => ⟨rfl, hb⟩⟩
set_option maxRecDepth 100000 in
set_option maxHeartbeats 1600000 in
theorem parts2 (ha : IFit a) (hp : IFit p) (hq : IFit q) (h1 : Blk W b1 #[.int .i64 a, .int .i64 n, .int .i64 d, .int .i64 p, .int .i64 q] 91) (x y z : Value) (h3 : Blk W b3 #[x, y, z] 83) :
    Calls Try.prog 73 #[.pointer (some ⟨b1, 0, none⟩), .pointer (some ⟨b3, 0, none⟩)] W (Puts b3 1 (scaleN a p q) (scaleE a p q) W) := by
  have PT := fun W => fix_scale a p q ha hp hq W
  obtain ⟨N, eN⟩ : ∃ N, scaleN a p q = N := ⟨_, rfl⟩
  obtain ⟨E, eE⟩ : ∃ E, scaleE a p q = E := ⟨_, rfl⟩
  rw [eN, eE] at PT ⊢
  clear eN eE ha hp hq
  have c0 := h1.cell 0 _ rfl
  have c1 := h1.cell 3 _ rfl
  have c2 := h1.cell 4 _ rfl
  have hPt : ∀ e w', ((E = 0 → e = .returned (.tuple #[]) ∧ ∃ w3, Below W.heap.size W w3 ∧ w' = w3.setCell ⟨b3, 1, none⟩ (.int .i64 N)) ∧ (E ≠ 0 → e = .panicked (gave E) ∧ Below W.heap.size W w')) → Puts b3 1 N E W e w' := fun _ _ h => h
  have HP := Lib.hid hPt
  clear hPt
  by_cases hE : E = 0
  · have HE := Lib.hid hE
    have P0 := fun W => (PT W).mono fun e w' h => (⟨h.1 hE, h.2.2⟩ : _ ∧ _)
    clear hE PT
    go_enter Try.func73, Try.ntmps73
    go_wp2_with fail
    refine (P0 _).mono ?_
    rintro e w1 ⟨rfl, hb⟩
    have g1 := (h3.below hb).cell 1 _ rfl
    have g2 := (h3.below hb).free 1
    go_wp2_with fail
    go_end0
    exact HP.out _ _ ⟨fun _ => ⟨rfl, _, hb, rfl⟩, fun h => absurd HE.out h⟩
  · have HE := Lib.hid hE
    have P0 := fun W => (PT W).mono fun e w' h => (⟨h.2.1 hE, h.2.2⟩ : _ ∧ _)
    clear hE PT
    go_enter Try.func73, Try.ntmps73
    go_wp2_with fail
    refine (P0 _).mono ?_
    rintro e w1 ⟨rfl, hb⟩
    go_wp2_with fail
    simp [bodyPost]
    exact HP.out _ _ ⟨fun h => absurd h HE.out, fun _ => ⟨rfl, hb⟩⟩
set_option maxRecDepth 100000 in
set_option maxHeartbeats 1600000 in
theorem parts3 (ha : IFit a) (h1 : Blk W b1 #[.int .i64 a, .int .i64 n, .int .i64 d, .int .i64 p, .int .i64 q] 91) (x y z : Value) (h3 : Blk W b3 #[x, y, z] 83) :
    Calls Try.prog 75 #[.pointer (some ⟨b1, 0, none⟩), .pointer (some ⟨b3, 0, none⟩)] W (Puts b3 2 (partN a 64 1) (partE a 64 1) W) := by
  have PT := fun W => fix_px_any a ha W
  obtain ⟨N, eN⟩ : ∃ N, partN a 64 1 = N := ⟨_, rfl⟩
  obtain ⟨E, eE⟩ : ∃ E, partE a 64 1 = E := ⟨_, rfl⟩
  rw [eN, eE] at PT ⊢
  clear eN eE ha
  have c0 := h1.cell 0 _ rfl
  have hPt : ∀ e w', ((E = 0 → e = .returned (.tuple #[]) ∧ ∃ w3, Below W.heap.size W w3 ∧ w' = w3.setCell ⟨b3, 2, none⟩ (.int .i64 N)) ∧ (E ≠ 0 → e = .panicked (gave E) ∧ Below W.heap.size W w')) → Puts b3 2 N E W e w' := fun _ _ h => h
  have HP := Lib.hid hPt
  clear hPt
  by_cases hE : E = 0
  · have HE := Lib.hid hE
    have P0 := fun W => (PT W).mono fun e w' h => (⟨h.1 hE, h.2.2⟩ : _ ∧ _)
    clear hE PT
    go_enter Try.func75, Try.ntmps75
    go_wp2_with fail
    refine (P0 _).mono ?_
    rintro e w1 ⟨rfl, hb⟩
    have g1 := (h3.below hb).cell 2 _ rfl
    have g2 := (h3.below hb).free 2
    go_wp2_with fail
    go_end0
    exact HP.out _ _ ⟨fun _ => ⟨rfl, _, hb, rfl⟩, fun h => absurd HE.out h⟩
  · have HE := Lib.hid hE
    have P0 := fun W => (PT W).mono fun e w' h => (⟨h.2.1 hE, h.2.2⟩ : _ ∧ _)
    clear hE PT
    go_enter Try.func75, Try.ntmps75
    go_wp2_with fail
    refine (P0 _).mono ?_
    rintro e w1 ⟨rfl, hb⟩
    go_wp2_with fail
    simp [bodyPost]
    exact HP.out _ _ ⟨fun h => absurd h HE.out, fun _ => ⟨rfl, hb⟩⟩
end
set_option maxRecDepth 100000 in
set_option maxHeartbeats 3200000 in
theorem law_parts (a n d p q : Int) (ha : IFit a) (hn : IFit n) (hd : IFit d) (hp : IFit p) (hq : IFit q) (w : World) :
    Calls Try.prog 15 #[.agg #[.int .i64 a, .int .i64 n, .int .i64 d, .int .i64 p, .int .i64 q]] w fun e w' => e = .returned (.bool true) ∧ Below w.heap.size w w' := by
  have hmf : ∀ (fn : Fn) (first cap : Array Value) (w : World), (Instr.makeFunc fn first cap).run Try.prog w = .ok (.func fn first cap) w := fun _ _ _ _ => rfl
  have eqA := eq_arr3
  have i64 : IFit 64 := by unfold IFit; omega
  have i1 : IFit 1 := by unfold IFit; omega
  have T1 := fun b1 b3 W (h1 : Blk W b1 #[.int .i64 a, .int .i64 n, .int .i64 d, .int .i64 p, .int .i64 q] 91) (h3 : Blk W b3 #[.int .i64 0, .int .i64 0, .int .i64 0] 83) =>
    try_put 71 #[.pointer (some ⟨b1, 0, none⟩), .pointer (some ⟨b3, 0, none⟩)] b3 0 _ _ W _ _ h3 rfl partN_no (fun w => enters_of Try.func71 (by kernel_rfl) rfl _ w) (fun W' hb => parts1 a n d p q b1 b3 W' ha hn hd (h1.below hb) _ _ _ (h3.below hb))
  have T2 := fun N1 b1 b3 W (h1 : Blk W b1 #[.int .i64 a, .int .i64 n, .int .i64 d, .int .i64 p, .int .i64 q] 91) (h3 : Blk W b3 #[.int .i64 N1, .int .i64 0, .int .i64 0] 83) =>
    try_put 73 #[.pointer (some ⟨b1, 0, none⟩), .pointer (some ⟨b3, 0, none⟩)] b3 1 _ _ W _ _ h3 rfl scaleN_no (fun w => enters_of Try.func73 (by kernel_rfl) rfl _ w) (fun W' hb => parts2 a n d p q b1 b3 W' ha hp hq (h1.below hb) _ _ _ (h3.below hb))
  have T3 := fun N1 N2 b1 b3 W (h1 : Blk W b1 #[.int .i64 a, .int .i64 n, .int .i64 d, .int .i64 p, .int .i64 q] 91) (h3 : Blk W b3 #[.int .i64 N1, .int .i64 N2, .int .i64 0] 83) =>
    try_put 75 #[.pointer (some ⟨b1, 0, none⟩), .pointer (some ⟨b3, 0, none⟩)] b3 2 _ _ W _ _ h3 rfl partN_no (fun w => enters_of Try.func75 (by kernel_rfl) rfl _ w) (fun W' hb => parts3 a n d p q b1 b3 W' ha (h1.below hb) _ _ _ (h3.below hb))
  have R1 := fun W => ref4_part a n d ha hn hd W
  have R2 := fun W => ref4_part a p q ha hp hq W
  have R3 := fun W => ref4_part a 64 1 ha i64 i1 W
  have GD := fun W => ref_good p q hp hq W
  have eS1 : scaleN a p q = if goodB p q then partN a p q else 0 := rfl
  have eS2 : scaleE a p q = if goodB p q then partE a p q else 1 := rfl
  obtain ⟨N1, eN1⟩ : ∃ N, partN a n d = N := ⟨_, rfl⟩
  obtain ⟨E1, eE1⟩ : ∃ N, partE a n d = N := ⟨_, rfl⟩
  obtain ⟨N2, eN2⟩ : ∃ N, partN a p q = N := ⟨_, rfl⟩
  obtain ⟨E2, eE2⟩ : ∃ N, partE a p q = N := ⟨_, rfl⟩
  obtain ⟨N3, eN3⟩ : ∃ N, partN a 64 1 = N := ⟨_, rfl⟩
  obtain ⟨E3, eE3⟩ : ∃ N, partE a 64 1 = N := ⟨_, rfl⟩
  obtain ⟨S1, eT1⟩ : ∃ N, scaleN a p q = N := ⟨_, rfl⟩
  obtain ⟨S2, eT2⟩ : ∃ N, scaleE a p q = N := ⟨_, rfl⟩
  obtain ⟨G, eG⟩ : ∃ N, goodB p q = N := ⟨_, rfl⟩
  rw [eN1, eE1] at T1 R1
  rw [eN2, eE2] at R2
  rw [eN3, eE3] at T3 R3
  rw [eT1, eT2] at T2
  rw [eT1, eN2, eG] at eS1
  rw [eT2, eE2, eG] at eS2
  rw [eG] at GD
  have ES1 := Lib.hid eS1
  have ES2 := Lib.hid eS2
  clear eN1 eE1 eN2 eE2 eN3 eE3 eT1 eT2 eG eS1 eS2 ha hn hd hp hq
  have h1 := Blk.new w #[.int .i64 a, .int .i64 n, .int .i64 d, .int .i64 p, .int .i64 q] 91 _ rfl
  have hB : Below w.heap.size w (w.alloc (.cells #[.int .i64 a, .int .i64 n, .int .i64 d, .int .i64 p, .int .i64 q] 91)) := (by repeat' (first | (with_reducible exact Below.refl _ _) | (with_reducible assumption) | (with_reducible refine below_alloc ?_ _ ?_) | (with_reducible refine below_set _ ?_ ?_) | (with_reducible refine Below.drew ?_) | (with_reducible refine below_dN ?_ _) | (apply below_thenA; assumption) | omega | (simp; done) | (simp; omega) | (simp [*]; done)))
  go_enter Try.func15, Try.ntmps15
  go_wp2_with fail
  refine (speaks04 _).mono ?_
  rintro e w1 ⟨rfl, hb1⟩
  replace h1 := (h1.below hb1).alloc (.cells #[.int .i64 0, .int .i64 0, .int .i64 0] 83)
  replace hB := hB.trans (hb1.mono hB.size)
  have hw1 := hB.size
  have hlt : w.heap.size ≠ w1.heap.size := by have := hb1.size; simp at this; omega
  replace hB := hB.alloc hB.size (.cells #[.int .i64 0, .int .i64 0, .int .i64 0] 83)
  have h3 := Blk.new w1 #[.int .i64 0, .int .i64 0, .int .i64 0] 83 _ rfl
  clear hb1
  go_wp2_with fail
  refine (T1 _ _ _ h1 h3).mono ?_
  rintro e w2 ⟨rfl, hbt, h3⟩
  replace h3 : Blk w2 w1.heap.size #[.int .i64 N1, .int .i64 0, .int .i64 0] 83 := h3
  replace h1 := h1.but hbt hlt
  replace hB := hbt.to hB hw1 hB.size
  clear hbt
  go_wp2_with fail
  refine (T2 _ _ _ _ h1 h3).mono ?_
  rintro e w3 ⟨rfl, hbt, h3⟩
  replace h3 : Blk w3 w1.heap.size #[.int .i64 N1, .int .i64 S1, .int .i64 0] 83 := h3
  replace h1 := h1.but hbt hlt
  replace hB := hbt.to hB hw1 hB.size
  clear hbt
  go_wp2_with fail
  refine (T3 _ _ _ _ _ h1 h3).mono ?_
  rintro e w4 ⟨rfl, hbt, h3⟩
  replace h3 : Blk w4 w1.heap.size #[.int .i64 N1, .int .i64 S1, .int .i64 N3] 83 := h3
  replace h1 := h1.but hbt hlt
  replace hB := hbt.to hB hw1 hB.size
  clear hbt
  have c0 := h1.cell 0 _ rfl
  have c1 := h1.cell 1 _ rfl
  have c2 := h1.cell 2 _ rfl
  go_wp2_with fail
  refine (R1 _).mono ?_
  rintro e w5 ⟨rfl, hb5⟩
  replace h1 := h1.below hb5
  replace h3 := h3.below hb5
  replace hB := hB.trans (hb5.mono hB.size)
  clear c0 c1 c2 hb5
  have c0 := h1.cell 0 _ rfl
  have c1 := h1.cell 3 _ rfl
  have c2 := h1.cell 4 _ rfl
  go_wp2_with fail
  refine (GD _).mono ?_
  rintro e w6 ⟨rfl, hb6⟩
  replace h1 := h1.below hb6
  replace h3 := h3.below hb6
  replace hB := hB.trans (hb6.mono hB.size)
  clear c0 c1 c2 hb6 T1 T2 T3 R1 GD
  have c0 := h1.cell 0 _ rfl
  have c1 := h1.cell 3 _ rfl
  have c2 := h1.cell 4 _ rfl
  cases G
  · have e1 : S1 = 0 := ES1.out
    have e2 : S2 = 1 := ES2.out
    subst e1 e2
    go_wp2_with fail
    refine (R3 _).mono ?_
    rintro e w7 ⟨rfl, hb7⟩
    replace h3 := h3.below hb7
    replace hB := hB.trans (hb7.mono hB.size)
    clear c0 c1 c2
    have c0 := h3.cell 0 _ rfl
    have c1 := h3.cell 1 _ rfl
    have c2 := h3.cell 2 _ rfl
    go_wp2_with fail
    go_ret
    exact ⟨rfl, hB⟩
  · have e1 : S1 = N2 := ES1.out
    have e2 : S2 = E2 := ES2.out
    subst e1 e2
    go_wp2_with fail
    refine (R2 _).mono ?_
    rintro e w7 ⟨rfl, hb7⟩
    replace h1 := h1.below hb7
    replace h3 := h3.below hb7
    replace hB := hB.trans (hb7.mono hB.size)
    clear c0 c1 c2 hb7
    have c0 := h1.cell 0 _ rfl
    go_wp2_with fail
    refine (R3 _).mono ?_
    rintro e w8 ⟨rfl, hb8⟩
    replace h3 := h3.below hb8
    replace hB := hB.trans (hb8.mono hB.size)
    clear c0 hb8
    have c0 := h3.cell 0 _ rfl
    have c1 := h3.cell 1 _ rfl
    have c2 := h3.cell 2 _ rfl
    go_wp2_with fail
    go_ret
    exact ⟨rfl, hB⟩
end Go.Proofs.Ythffphcgkmjhbaa
