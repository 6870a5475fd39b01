/-
  The statement FixedSums.
-/
import Derived.Test.YthffphcgkmjhbaaFixD
import Derived.Test.YthffphcgkmjhbaaLawK
import Derived.Test.YthffphcgkmjhbaaLift
namespace Go.Proofs.Ythffphcgkmjhbaa
open Go.RowKit
set_option linter.unusedSimpArgs false
set_option linter.unusedVariables false

/-- A slice of ints, nil or not, that lies in old memory. -/
def SInts (w : World) (ao : Option Addr) (k cap : Nat) (xs : List Int) : Prop :=
  (ao = none ∧ k = 0 ∧ cap = 0 ∧ xs = []) ∨ ∃ g off, ao = some ⟨g, off, none⟩ ∧ IntsAt w g off k xs ∧ g < w.heap.size ∧ k ≤ cap
theorem IntsAt.below {w w' : World} {g off k : Nat} {xs : List Int} (h : IntsAt w g off k xs) (hg : g < w.heap.size) (hb : Below w.heap.size w w') : IntsAt w' g off k xs :=
  ⟨h.1, h.2.1, fun i hi => (hb.cell (p := ⟨g, off + i, none⟩) hg).trans (h.2.2 i hi)⟩
theorem SInts.below {w w' : World} {ao : Option Addr} {k cap : Nat} {xs : List Int} (h : SInts w ao k cap xs) (hb : Below w.heap.size w w') : SInts w' ao k cap xs := by
  rcases h with h | ⟨g, off, e, h, hg, hc⟩
  · exact .inl h
  · exact .inr ⟨g, off, e, h.below hg hb, Nat.lt_of_lt_of_le hg hb.size, hc⟩
theorem SInts.but {w w' : World} {b : Nat} {ao : Option Addr} {k cap : Nat} {xs : List Int} (h : SInts w ao k cap xs) (hne : ∀ g off, ao = some ⟨g, off, none⟩ → g ≠ b) (hb : But b w w') : SInts w' ao k cap xs := by
  rcases h with h | ⟨g, off, e, h, hg, hc⟩
  · exact .inl h
  · exact .inr ⟨g, off, e, ⟨h.1, h.2.1, fun i hi => (World.cell?_of_block (w := w) (a := ⟨g, off + i, none⟩) (hb.block g hg (hne g off e))).trans (h.2.2 i hi)⟩, Nat.lt_of_lt_of_le hg hb.size, hc⟩
theorem fix_add_s (ao : Option Addr) (k cap : Nat) (xs : List Int) (hk : k ≤ 1000000) (w : World) (hx : SInts w ao k cap xs) : Calls Try.prog 64 #[.slice ao k cap] w (Gives (addN xs) (addE xs) w) := by
  rcases hx with ⟨rfl, rfl, rfl, rfl⟩ | ⟨g, off, rfl, h, _⟩
  · exact fix_add_nil w
  · exact fix_add_any g off k cap xs hk w h
set_option maxRecDepth 100000 in
set_option maxHeartbeats 1600000 in
theorem ref4_add_nil (w : World) : Calls Try.prog 69 #[.slice none 0 0] w fun e w' => e = .returned (.tuple #[.int .i64 (addN []), .int .i64 (addE [])]) ∧ Below w.heap.size w w' := by
  have e1 : addN [] = 0 := rfl
  have e2 : addE [] = 0 := rfl
  rw [e1, e2]
  clear e1 e2
  have TL := fun neg ao k cap W h hk => ref_told neg ao k cap 0 W h hk
  rw [show lenB 0 = true from rfl] at TL
  go_enter Try.func69, Try.ntmps69
  go_wp2_with fail
  refine (big_ofu 0 (by omega) _).mono ?_
  rintro e w1 ⟨a1, a2, a3, a4, rfl, I1, hB⟩
  have hk := I1.le (show BM.Sz 0 3 by unfold BM.Sz; decide)
  have t := Two.new w1 (.bool a1) (.slice a2 a3 a4) _ rfl
  replace I1 := I1.keep (w' := w1.alloc (.cells #[.bool a1, .slice a2 a3 a4] 29)) (by repeat' (first | (with_reducible exact Below.refl _ _) | (with_reducible assumption) | (with_reducible refine below_alloc ?_ _ ?_) | (with_reducible refine below_set _ ?_ ?_) | (with_reducible refine Below.drew ?_) | (with_reducible refine below_dN ?_ _) | (apply below_thenA; assumption) | omega | (simp; done) | (simp; omega) | (simp [*]; done)))
  replace hB := hB.alloc hB.size (.cells #[.bool a1, .slice a2 a3 a4] 29)
  obtain ⟨q1, q2, q3, q4⟩ := t.cells
  go_wp2_with fail
  obtain ⟨W1, eW⟩ : ∃ W1, W1 = w1.alloc (.cells #[.bool a1, .slice a2 a3 a4] 29) := ⟨_, rfl⟩
  rw [← eW] at I1 hB q1 q2 q3 q4 ⊢
  clear eW t
  go_loopg [5] 0 (fun gk s5 wr => s5 = .int .i64 0 ∧ W1 = wr)
  case atStart => exact ⟨rfl, rfl⟩
  obtain ⟨rfl, rfl⟩ := hrel
  go_wp2_with fail
  refine (TL a1 a2 a3 a4 _ I1 (by omega)).mono ?_
  rintro e w2 ⟨rfl, hb2⟩
  replace hB := hB.trans (hb2.mono hB.size)
  go_wp2_with fail
  go_ret2
  exact ⟨rfl, hB⟩
theorem ref4_add_s (ao : Option Addr) (k cap : Nat) (xs : List Int) (hk : k ≤ 1000000) (w : World) (hx : SInts w ao k cap xs) :
    Calls Try.prog 69 #[.slice ao k cap] w fun e w' => e = .returned (.tuple #[.int .i64 (addN xs), .int .i64 (addE xs)]) ∧ Below w.heap.size w w' := by
  rcases hx with ⟨rfl, rfl, rfl, rfl⟩ | ⟨g, off, rfl, h, hg, _⟩
  · exact ref4_add_nil w
  · exact ref4_add g off k cap xs hk w h hg
set_option maxRecDepth 100000 in
set_option maxHeartbeats 1600000 in
theorem sums1 (ao : Option Addr) (k cap : Nat) (xs : List Int) (b3 b7 : Nat) (W : World) (hk : k ≤ 1000000) (hx : SInts W ao k cap xs) (h1 : Blk W b3 #[.slice ao k cap] 82) (x y z : Value) (h3 : Blk W b7 #[x, y, z] 83) :
    Calls Try.prog 63 #[.pointer (some ⟨b3, 0, none⟩), .pointer (some ⟨b7, 0, none⟩)] W (Puts b7 0 (addN xs) (addE xs) W) := by
  have PT := fun W' (hb : Below W.heap.size W W') => fix_add_s ao k cap xs hk W' (hx.below hb)
  obtain ⟨N, eN⟩ : ∃ N, addN xs = N := ⟨_, rfl⟩
  obtain ⟨E, eE⟩ : ∃ E, addE xs = E := ⟨_, rfl⟩
  rw [eN, eE] at PT ⊢
  have c0 := h1.cell 0 _ rfl
  clear eN eE hx hk
  have hPt : ∀ e w', ((E = 0 → e = .returned (.tuple #[]) ∧ ∃ w3, Below W.heap.size W w3 ∧ w' = w3.setCell ⟨b7, 0, none⟩ (.int .i64 N)) ∧ (E ≠ 0 → e = .panicked (gave E) ∧ Below W.heap.size W w')) → Puts b7 0 N E W e w' := fun _ _ h => h
  have HP := Lib.hid hPt
  clear hPt
  by_cases hE : E = 0
  · have HE := Lib.hid hE
    have P0 := fun W' hb => (PT W' hb).mono fun e w' h => (⟨h.1 hE, h.2.2⟩ : _ ∧ _)
    clear hE PT
    go_enter Try.func63, Try.ntmps63
    go_wp2_with fail
    refine (P0 _ (Below.refl _ _)).mono ?_
    rintro e w1 ⟨rfl, hb⟩
    have g1 := (h3.below hb).cell 0 _ rfl
    have g2 := (h3.below hb).free 0
    go_wp2_with fail
    go_end0
    exact HP.out _ _ ⟨fun _ => ⟨rfl, _, hb, rfl⟩, fun h => absurd HE.out h⟩
  · have HE := Lib.hid hE
    have P0 := fun W' hb => (PT W' hb).mono fun e w' h => (⟨h.2.1 hE, h.2.2⟩ : _ ∧ _)
    clear hE PT
    go_enter Try.func63, Try.ntmps63
    go_wp2_with fail
    refine (P0 _ (Below.refl _ _)).mono ?_
    rintro e w1 ⟨rfl, hb⟩
    go_wp2_with fail
    simp [bodyPost]
    exact HP.out _ _ ⟨fun h => absurd h HE.out, fun _ => ⟨rfl, hb⟩⟩
set_option maxRecDepth 100000 in
set_option maxHeartbeats 1600000 in
theorem sums2 (a b : Int) (b4 b5 b7 : Nat) (W : World) (ha : IFit a) (hb : IFit b) (h1 : Blk W b4 #[.int .i64 a] 2) (h2 : Blk W b5 #[.int .i64 b] 2) (x y z : Value) (h3 : Blk W b7 #[x, y, z] 83) :
    Calls Try.prog 65 #[.pointer (some ⟨b4, 0, none⟩), .pointer (some ⟨b5, 0, none⟩), .pointer (some ⟨b7, 0, none⟩)] W (Puts b7 1 (lenN (a - b)) (lenE (a - b)) W) := by
  have PT := fun W' (hb : Below W.heap.size W W') => fix_sub a b ha ‹IFit b› W'
  obtain ⟨N, eN⟩ : ∃ N, lenN (a - b) = N := ⟨_, rfl⟩
  obtain ⟨E, eE⟩ : ∃ E, lenE (a - b) = E := ⟨_, rfl⟩
  rw [eN, eE] at PT ⊢
  have c0 := h1.cell 0 _ rfl
  have c1 := h2.cell 0 _ rfl
  clear eN eE ha hb
  have hPt : ∀ e w', ((E = 0 → e = .returned (.tuple #[]) ∧ ∃ w3, Below W.heap.size W w3 ∧ w' = w3.setCell ⟨b7, 1, none⟩ (.int .i64 N)) ∧ (E ≠ 0 → e = .panicked (gave E) ∧ Below W.heap.size W w')) → Puts b7 1 N E W e w' := fun _ _ h => h
  have HP := Lib.hid hPt
  clear hPt
  by_cases hE : E = 0
  · have HE := Lib.hid hE
    have P0 := fun W' hb => (PT W' hb).mono fun e w' h => (⟨h.1 hE, h.2.2⟩ : _ ∧ _)
    clear hE PT
    go_enter Try.func65, Try.ntmps65
    go_wp2_with fail
    refine (P0 _ (Below.refl _ _)).mono ?_
    rintro e w1 ⟨rfl, hb⟩
    have g1 := (h3.below hb).cell 1 _ rfl
    have g2 := (h3.below hb).free 1
    go_wp2_with fail
    go_end0
    exact HP.out _ _ ⟨fun _ => ⟨rfl, _, hb, rfl⟩, fun h => absurd HE.out h⟩
  · have HE := Lib.hid hE
    have P0 := fun W' hb => (PT W' hb).mono fun e w' h => (⟨h.2.1 hE, h.2.2⟩ : _ ∧ _)
    clear hE PT
    go_enter Try.func65, Try.ntmps65
    go_wp2_with fail
    refine (P0 _ (Below.refl _ _)).mono ?_
    rintro e w1 ⟨rfl, hb⟩
    go_wp2_with fail
    simp [bodyPost]
    exact HP.out _ _ ⟨fun h => absurd h HE.out, fun _ => ⟨rfl, hb⟩⟩
set_option maxRecDepth 100000 in
set_option maxHeartbeats 1600000 in
theorem sums3 (a : Int) (b4 b7 : Nat) (W : World) (ha : IFit a) (h1 : Blk W b4 #[.int .i64 a] 2) (x y z : Value) (h3 : Blk W b7 #[x, y, z] 83) :
    Calls Try.prog 67 #[.pointer (some ⟨b4, 0, none⟩), .pointer (some ⟨b7, 0, none⟩)] W (Puts b7 2 (lenN a) (lenE a) W) := by
  have PT := fun W' (hb : Below W.heap.size W W') => fix_of_any a ha W'
  obtain ⟨N, eN⟩ : ∃ N, lenN a = N := ⟨_, rfl⟩
  obtain ⟨E, eE⟩ : ∃ E, lenE a = E := ⟨_, rfl⟩
  rw [eN, eE] at PT ⊢
  have c0 := h1.cell 0 _ rfl
  clear eN eE ha
  have hPt : ∀ e w', ((E = 0 → e = .returned (.tuple #[]) ∧ ∃ w3, Below W.heap.size W w3 ∧ w' = w3.setCell ⟨b7, 2, none⟩ (.int .i64 N)) ∧ (E ≠ 0 → e = .panicked (gave E) ∧ Below W.heap.size W w')) → Puts b7 2 N E W e w' := fun _ _ h => h
  have HP := Lib.hid hPt
  clear hPt
  by_cases hE : E = 0
  · have HE := Lib.hid hE
    have P0 := fun W' hb => (PT W' hb).mono fun e w' h => (⟨h.1 hE, h.2.2⟩ : _ ∧ _)
    clear hE PT
    go_enter Try.func67, Try.ntmps67
    go_wp2_with fail
    refine (P0 _ (Below.refl _ _)).mono ?_
    rintro e w1 ⟨rfl, hb⟩
    have g1 := (h3.below hb).cell 2 _ rfl
    have g2 := (h3.below hb).free 2
    go_wp2_with fail
    go_end0
    exact HP.out _ _ ⟨fun _ => ⟨rfl, _, hb, rfl⟩, fun h => absurd HE.out h⟩
  · have HE := Lib.hid hE
    have P0 := fun W' hb => (PT W' hb).mono fun e w' h => (⟨h.2.1 hE, h.2.2⟩ : _ ∧ _)
    clear hE PT
    go_enter Try.func67, Try.ntmps67
    go_wp2_with fail
    refine (P0 _ (Below.refl _ _)).mono ?_
    rintro e w1 ⟨rfl, hb⟩
    go_wp2_with fail
    simp [bodyPost]
    exact HP.out _ _ ⟨fun h => absurd h HE.out, fun _ => ⟨rfl, hb⟩⟩


set_option maxRecDepth 100000 in
set_option maxHeartbeats 3200000 in
theorem law_sums4_some (g off k cap m : Nat) (xs : List Int) (hm : min (k : Int) 20 = (m : Int) ∧ m ≤ 20 ∧ (m : Int) ≤ (cap : Int) ∧ (k : Int) ≤ (cap : Int) ∧ (cap : Int) ≤ 9223372036854775807) (a b : Int) (ha : IFit a) (hb : IFit b) (w : World) (hx : SInts w (some ⟨g, off, none⟩) m cap (xs.take m)) :
    Calls Try.prog 14 #[.slice (some ⟨g, off, none⟩) k cap, .int .i64 a, .int .i64 b] w fun e w' => e = .returned (.bool true) ∧ Below w.heap.size w w' := by
  have hmf : ∀ (fn : Fn) (first cap : Array Value) (w : World), (Instr.makeFunc fn first cap).run Try.prog w = .ok (.func fn first cap) w := fun _ _ _ _ => rfl
  have eqA := eq_arr3
  have T1 := fun b3 b7 W (hx : SInts W (some (⟨g, off, none⟩ : Addr)) m cap (xs.take m)) (h1 : Blk W b3 #[.slice ((some (⟨g, off, none⟩ : Addr))) m cap] 82) (h3 : Blk W b7 #[.int .i64 0, .int .i64 0, .int .i64 0] 83) =>
    try_put 63 #[.pointer (some ⟨b3, 0, none⟩), .pointer (some ⟨b7, 0, none⟩)] b7 0 _ _ W _ _ h3 rfl addN_no (fun w => enters_of Try.func63 (by kernel_rfl) rfl _ w) (fun W' hb => sums1 ((some (⟨g, off, none⟩ : Addr))) m cap (xs.take m) b3 b7 W' (by omega) (hx.below hb) (h1.below hb) _ _ _ (h3.below hb))
  have T2 := fun N1 b4 b5 b7 W (h1 : Blk W b4 #[.int .i64 a] 2) (h2 : Blk W b5 #[.int .i64 b] 2) (h3 : Blk W b7 #[.int .i64 N1, .int .i64 0, .int .i64 0] 83) =>
    try_put 65 #[.pointer (some ⟨b4, 0, none⟩), .pointer (some ⟨b5, 0, none⟩), .pointer (some ⟨b7, 0, none⟩)] b7 1 _ _ W _ _ h3 rfl lenN_no (fun w => enters_of Try.func65 (by kernel_rfl) rfl _ w) (fun W' hb' => sums2 a b b4 b5 b7 W' ha hb (h1.below hb') (h2.below hb') _ _ _ (h3.below hb'))
  have T3 := fun N1 N2 b4 b7 W (h1 : Blk W b4 #[.int .i64 a] 2) (h3 : Blk W b7 #[.int .i64 N1, .int .i64 N2, .int .i64 0] 83) =>
    try_put 67 #[.pointer (some ⟨b4, 0, none⟩), .pointer (some ⟨b7, 0, none⟩)] b7 2 _ _ W _ _ h3 rfl lenN_no (fun w => enters_of Try.func67 (by kernel_rfl) rfl _ w) (fun W' hb' => sums3 a b4 b7 W' ha (h1.below hb') _ _ _ (h3.below hb'))
  have R1 := fun W (hx : SInts W (some (⟨g, off, none⟩ : Addr)) m cap (xs.take m)) => ref4_add_s ((some (⟨g, off, none⟩ : Addr))) m cap (xs.take m) (by omega) W hx
  have sa := BM.Sz.i64 ha.1 ha.2
  have sb := BM.Sz.i64 hb.1 hb.2
  have sab := BM.Sz.add sa sb.neg
  have R2 := fun neg ao k cap W h => told_n neg ao k cap (a + -b) W h sab (by omega)
  have R3 := fun neg ao k cap W h => told_n neg ao k cap a W h sa (by omega)
  rw [show a + -b = a - b by omega] at R2
  obtain ⟨N1, eN1⟩ : ∃ N, addN (xs.take m) = N := ⟨_, rfl⟩
  obtain ⟨E1, eE1⟩ : ∃ N, addE (xs.take m) = N := ⟨_, rfl⟩
  obtain ⟨N2, eN2⟩ : ∃ N, lenN (a - b) = N := ⟨_, rfl⟩
  obtain ⟨E2, eE2⟩ : ∃ N, lenE (a - b) = N := ⟨_, rfl⟩
  obtain ⟨N3, eN3⟩ : ∃ N, lenN a = N := ⟨_, rfl⟩
  obtain ⟨E3, eE3⟩ : ∃ N, lenE a = N := ⟨_, rfl⟩
  rw [eN1, eE1] at T1 R1
  rw [eN2, eE2] at T2 R2
  rw [eN3, eE3] at T3 R3
  obtain ⟨a1, a2⟩ := ha
  obtain ⟨b1, b2⟩ := hb
  clear eN1 eE1 eN2 eE2 eN3 eE3
  obtain ⟨k1, k2, k3, k4, k5⟩ := hm
  have hne : ∀ g' off', (some (⟨g, off, none⟩ : Addr)) = some (⟨g', off', none⟩ : Addr) → g' < w.heap.size := fun g' off' e => by
    rcases hx with ⟨e2, _⟩ | ⟨g2, off2, e2, _, hg, _⟩
    · cases e2
    · rw [e] at e2; simp at e2; omega
  have h1 := ((Blk.new w #[.slice (some ⟨g, off, none⟩) k cap] 82 _ rfl).alloc (.cells #[.int .i64 a] 2)).alloc (.cells #[.int .i64 b] 2)
  have h4 := (Blk.new (w.alloc (.cells #[.slice (some ⟨g, off, none⟩) k cap] 82)) #[.int .i64 a] 2 (w.heap.size + 1) (by simp)).alloc (.cells #[.int .i64 b] 2)
  have h5 := Blk.new ((w.alloc (.cells #[.slice (some ⟨g, off, none⟩) k cap] 82)).alloc (.cells #[.int .i64 a] 2)) #[.int .i64 b] 2 (w.heap.size + 1 + 1) (by simp)
  have hB : Below w.heap.size w (((w.alloc (.cells #[.slice (some ⟨g, off, none⟩) k cap] 82)).alloc (.cells #[.int .i64 a] 2)).alloc (.cells #[.int .i64 b] 2)) := (by repeat' (first | (with_reducible exact Below.refl _ _) | (with_reducible assumption) | (with_reducible refine below_alloc ?_ _ ?_) | (with_reducible refine below_set _ ?_ ?_) | (with_reducible refine Below.drew ?_) | (with_reducible refine below_dN ?_ _) | (apply below_thenA; assumption) | omega | (simp; done) | (simp; omega) | (simp [*]; done)))
  go_enter Try.func14, Try.ntmps14
  go_wp2_with fail
  refine (speaks04 _).mono ?_
  rintro e w1 ⟨rfl, hb1⟩
  replace h1 := h1.below hb1
  replace h4 := h4.below hb1
  replace h5 := h5.below hb1
  replace hx := (hx.below (w' := ((w.alloc (.cells #[.slice (some ⟨g, off, none⟩) k cap] 82)).alloc (.cells #[.int .i64 a] 2)).alloc (.cells #[.int .i64 b] 2)) (by repeat' (first | (with_reducible exact Below.refl _ _) | (with_reducible assumption) | (with_reducible refine below_alloc ?_ _ ?_) | (with_reducible refine below_set _ ?_ ?_) | (with_reducible refine Below.drew ?_) | (with_reducible refine below_dN ?_ _) | (apply below_thenA; assumption) | omega | (simp; done) | (simp; omega) | (simp [*]; done)))).below hb1
  replace hB := hB.trans (hb1.mono hB.size)
  have hw1 : w.heap.size + 3 ≤ w1.heap.size := by have := hb1.size; simp at this; omega
  clear hb1
  have c0 := h1.cell 0 _ rfl
  have c1 := h1.free 0
  go_wp2_with fail
  have hbs : But w.heap.size w1 (w1.setCell ⟨w.heap.size, 0, none⟩ (.slice (some (⟨g, off, none⟩ : Addr)) m cap)) := But.set _ _ _
  have f0 := h1.free 0
  replace h1 : Blk ((w1.setCell ⟨w.heap.size, 0, none⟩ (.slice (some (⟨g, off, none⟩ : Addr)) m cap)).alloc (.cells #[.int .i64 0, .int .i64 0, .int .i64 0] 83)) w.heap.size #[.slice (some (⟨g, off, none⟩ : Addr)) m cap] 82 := (h1.set 0 _).alloc _
  replace h4 := (h4.but hbs (by omega)).alloc (.cells #[.int .i64 0, .int .i64 0, .int .i64 0] 83)
  replace h5 := (h5.but hbs (by omega)).alloc (.cells #[.int .i64 0, .int .i64 0, .int .i64 0] 83)
  have hs1 : (w1.setCell ⟨w.heap.size, 0, none⟩ (.slice (some (⟨g, off, none⟩ : Addr)) m cap)).heap.size = w1.heap.size := by simp [World.setCell]
  have h7 := Blk.new (w1.setCell ⟨w.heap.size, 0, none⟩ (.slice (some (⟨g, off, none⟩ : Addr)) m cap)) #[.int .i64 0, .int .i64 0, .int .i64 0] 83 w1.heap.size hs1.symm
  replace hx := (hx.but (fun g' off' e => by have := hne g' off' e; omega) hbs).below (w' := (w1.setCell ⟨w.heap.size, 0, none⟩ (.slice (some (⟨g, off, none⟩ : Addr)) m cap)).alloc (.cells #[.int .i64 0, .int .i64 0, .int .i64 0] 83)) (by repeat' (first | (with_reducible exact Below.refl _ _) | (with_reducible assumption) | (with_reducible refine below_alloc ?_ _ ?_) | (with_reducible refine below_set _ ?_ ?_) | (with_reducible refine Below.drew ?_) | (with_reducible refine below_dN ?_ _) | (apply below_thenA; assumption) | omega | (simp; done) | (simp; omega) | (simp [*]; done)))
  replace hB := hbs.to hB (Nat.le_refl _) hB.size
  replace hB := hB.alloc hB.size (.cells #[.int .i64 0, .int .i64 0, .int .i64 0] 83)
  obtain ⟨W2, eW⟩ : ∃ W2, W2 = (w1.setCell ⟨w.heap.size, 0, none⟩ (.slice (some (⟨g, off, none⟩ : Addr)) m cap)).alloc (.cells #[.int .i64 0, .int .i64 0, .int .i64 0] 83) := ⟨_, rfl⟩
  rw [← eW] at h1 h4 h5 h7 hx hB
  have HW := Lib.hid eW
  clear eW hbs hs1
  go_wp2_with fail
  rw [← HW.out]
  clear HW f0 c0
  refine (T1 _ _ _ hx h1 h7).mono ?_
  rintro e w2 ⟨rfl, hbt, h7⟩
  replace h7 : Blk w2 w1.heap.size #[.int .i64 N1, .int .i64 0, .int .i64 0] 83 := h7
  replace h1 := h1.but hbt (by omega)
  replace h4 := h4.but hbt (by omega)
  replace h5 := h5.but hbt (by omega)
  replace hx := hx.but (fun g' off' e => by have := hne g' off' e; omega) hbt
  replace hB := hbt.to hB (by omega) hB.size
  clear hbt
  go_wp2_with fail
  refine (T2 _ _ _ _ _ h4 h5 h7).mono ?_
  rintro e w3 ⟨rfl, hbt, h7⟩
  replace h7 : Blk w3 w1.heap.size #[.int .i64 N1, .int .i64 N2, .int .i64 0] 83 := h7
  replace h1 := h1.but hbt (by omega)
  replace h4 := h4.but hbt (by omega)
  replace h5 := h5.but hbt (by omega)
  replace hx := hx.but (fun g' off' e => by have := hne g' off' e; omega) hbt
  replace hB := hbt.to hB (by omega) hB.size
  clear hbt
  go_wp2_with fail
  refine (T3 _ _ _ _ _ h4 h7).mono ?_
  rintro e w4 ⟨rfl, hbt, h7⟩
  replace h7 : Blk w4 w1.heap.size #[.int .i64 N1, .int .i64 N2, .int .i64 N3] 83 := h7
  replace h1 := h1.but hbt (by omega)
  replace h4 := h4.but hbt (by omega)
  replace h5 := h5.but hbt (by omega)
  replace hx := hx.but (fun g' off' e => by have := hne g' off' e; omega) hbt
  replace hB := hbt.to hB (by omega) hB.size
  clear hbt T1 T2 T3
  have c0 := h1.cell 0 _ rfl
  go_wp2_with fail
  refine (R1 _ hx).mono ?_
  rintro e w5 ⟨rfl, hb5⟩
  replace h4 := h4.below hb5
  replace h5 := h5.below hb5
  replace h7 := h7.below hb5
  replace hB := hB.trans (hb5.mono hB.size)
  clear c0 hb5 h1 hx R1
  go_upto_region 9 with (fail)
  rename_i K0 hK0
  refine wp_region_calm (fun w' => Below w.heap.size w w' ∧ Blk w' (w.heap.size + 1) #[.int .i64 a] 2 ∧ Blk w' (w.heap.size + 1 + 1) #[.int .i64 b] 2 ∧ Blk w' w1.heap.size #[.int .i64 N1, .int .i64 N2, .int .i64 N3] 83) [] (fun w' => True) [Is (.int .i64 a), bigC a, Is (.int .i64 b), bigC b, bigC (-b), bigC (a + -b), Is (.tuple #[.int .i64 N2, .int .i64 E2]), Is (.tuple #[.int .i64 N2, .int .i64 E2]), Is (.int .i64 N2), Is (.int .i64 E2), Is (.int .i64 N2), Is (.int .i64 E2)] [] (by kernel_rfl) (by kernel_rfl) (by kernel_rfl) (by kernel_rfl) ⟨hB.drew, h4, h5, h7⟩ trivial ?_ ?_ ?_ ?_ ?_
  · rintro W W' ⟨hB, h4, h5, h7⟩ hb
    exact ⟨hB.trans (hb.mono hB.size), h4.below hb, h5.below hb, h7.below hb⟩
  · exact fun _ _ _ _ _ => trivial
  · intro k vs W hk h
    exact absurd hk (by simp)
  · intro Q; clear hK0 h4 h5 h7 hB
    refine ⟨?_, ?_, ?_, ?_, ?_, ?_, ?_, ?_, ?_, ?_, ?_, ?_, trivial⟩
    · intro vs W hW hW0 hd hne hold K hK hA hL; clear hne hA hL; have hB := hW.1; have h4 := hW.2.1; have h5 := hW.2.2.1; have h7 := hW.2.2.2; simp only [puts, Act.put, List.setIfInBounds_toArray, List.set_cons_zero, List.set_cons_succ, Nat.zero_add, Nat.reduceAdd] at hK ⊢; have q1 := h4.cell 0 _ rfl; clear hd hold; go_simp; exact hK.out rfl _ _ (Below.refl _ _) rfl
    · intro vs W hW hW0 hd hne hold K hK hA hL; clear hne hA hL; have hB := hW.1; have h4 := hW.2.1; have h5 := hW.2.2.1; have h7 := hW.2.2.2; simp only [puts, Act.put, List.setIfInBounds_toArray, List.set_cons_zero, List.set_cons_succ, Nat.zero_add, Nat.reduceAdd] at hK ⊢; have eb : vs 0 = _ := hd 0 (by kernel_rfl); clear hd hold; simp only [eb] at hK; go_simp; refine (big_of a a1 a2 _).mono ?_; (rintro e wx ⟨f1, f2, f3, f4, rfl, If, hbx⟩); go_simp; exact hK.out rfl _ _ hbx ⟨f1, f2, f3, f4, rfl, If⟩
    · intro vs W hW hW0 hd hne hold K hK hA hL; clear hne hA hL; have hB := hW.1; have h4 := hW.2.1; have h5 := hW.2.2.1; have h7 := hW.2.2.2; simp only [puts, Act.put, List.setIfInBounds_toArray, List.set_cons_zero, List.set_cons_succ, Nat.zero_add, Nat.reduceAdd] at hK ⊢; have q1 := h5.cell 0 _ rfl; clear hd hold; go_simp; exact hK.out rfl _ _ (Below.refl _ _) rfl
    · intro vs W hW hW0 hd hne hold K hK hA hL; clear hne hA hL; have hB := hW.1; have h4 := hW.2.1; have h5 := hW.2.2.1; have h7 := hW.2.2.2; simp only [puts, Act.put, List.setIfInBounds_toArray, List.set_cons_zero, List.set_cons_succ, Nat.zero_add, Nat.reduceAdd] at hK ⊢; have eb : vs 2 = _ := hd 2 (by kernel_rfl); clear hd hold; simp only [eb] at hK; go_simp; refine (big_of b b1 b2 _).mono ?_; (rintro e wx ⟨f1, f2, f3, f4, rfl, If, hbx⟩); go_simp; exact hK.out rfl _ _ hbx ⟨f1, f2, f3, f4, rfl, If⟩
    · intro vs W hW hW0 hd hne hold K hK hA hL; clear hne hA hL; have hB := hW.1; have h4 := hW.2.1; have h5 := hW.2.2.1; have h7 := hW.2.2.2; simp only [puts, Act.put, List.setIfInBounds_toArray, List.set_cons_zero, List.set_cons_succ, Nat.zero_add, Nat.reduceAdd] at hK ⊢; (have hxc : BigV b (vs 3) W := hd 3 (by kernel_rfl)); obtain ⟨c1, c2, c3, c4, ec, Ic⟩ := hxc; have k2 := Ic.le sb; clear hd hold; simp only [ec] at hK; go_simp; refine (big_minus c1 c2 c3 c4 b _ Ic (by omega)).mono ?_; (rintro e wx ⟨f1, f2, f3, f4, rfl, If, hbx⟩); go_simp; exact hK.out rfl _ _ hbx ⟨f1, f2, f3, f4, rfl, If⟩
    · intro vs W hW hW0 hd hne hold K hK hA hL; clear hne hA hL; have hB := hW.1; have h4 := hW.2.1; have h5 := hW.2.2.1; have h7 := hW.2.2.2; simp only [puts, Act.put, List.setIfInBounds_toArray, List.set_cons_zero, List.set_cons_succ, Nat.zero_add, Nat.reduceAdd] at hK ⊢; (have hxc : BigV a (vs 1) W := hd 1 (by kernel_rfl)); obtain ⟨c1, c2, c3, c4, ec, Ic⟩ := hxc; (have hxd : BigV (-b) (vs 4) W := hd 4 (by kernel_rfl)); obtain ⟨d1, d2, d3, d4, ed, Id⟩ := hxd; have k2 := Ic.le sa; have k3 := Id.le sb.neg; clear hd hold; simp only [ec, ed] at hK; go_simp; refine (big_plus c1 d1 c2 d2 c3 d3 c4 d4 a (-b) _ Ic Id (by omega) (by omega)).mono ?_; (rintro e wx ⟨f1, f2, f3, f4, rfl, If, hbx⟩); go_simp; exact hK.out rfl _ _ hbx ⟨f1, f2, f3, f4, rfl, If⟩
    · intro vs W hW hW0 hd hne hold K hK hA hL; clear hne hA hL; have hB := hW.1; have h4 := hW.2.1; have h5 := hW.2.2.1; have h7 := hW.2.2.2; simp only [puts, Act.put, List.setIfInBounds_toArray, List.set_cons_zero, List.set_cons_succ, Nat.zero_add, Nat.reduceAdd] at hK ⊢; (have hxc : BigV (a + -b) (vs 5) W := hd 5 (by kernel_rfl)); obtain ⟨c1, c2, c3, c4, ec, Ic⟩ := hxc; clear hd hold; simp only [ec] at hK; go_simp; refine (R2 c1 c2 c3 c4 _ Ic).mono ?_; (rintro e wx ⟨rfl, hbx⟩); go_simp; exact hK.out rfl _ _ hbx rfl
    · intro vs W hW hW0 hd hne hold K hK hA hL; clear hne hA hL; have hB := hW.1; have h4 := hW.2.1; have h5 := hW.2.2.1; have h7 := hW.2.2.2; simp only [puts, Act.put, List.setIfInBounds_toArray, List.set_cons_zero, List.set_cons_succ, Nat.zero_add, Nat.reduceAdd] at hK ⊢; have e6 : vs 6 = _ := hd 6 (by kernel_rfl); clear hd hold; simp only [e6] at hK; go_simp; exact hK.out rfl _ _ (Below.refl _ _) rfl
    · intro vs W hW hW0 hd hne hold K hK hA hL; clear hne hA hL; have hB := hW.1; have h4 := hW.2.1; have h5 := hW.2.2.1; have h7 := hW.2.2.2; simp only [puts, Act.put, List.setIfInBounds_toArray, List.set_cons_zero, List.set_cons_succ, Nat.zero_add, Nat.reduceAdd] at hK ⊢; have e7 : vs 7 = _ := hd 7 (by kernel_rfl); clear hd hold; simp only [e7] at hK; go_simp; exact hK.out rfl _ _ (Below.refl _ _) rfl
    · intro vs W hW hW0 hd hne hold K hK hA hL; clear hne hA hL; have hB := hW.1; have h4 := hW.2.1; have h5 := hW.2.2.1; have h7 := hW.2.2.2; simp only [puts, Act.put, List.setIfInBounds_toArray, List.set_cons_zero, List.set_cons_succ, Nat.zero_add, Nat.reduceAdd] at hK ⊢; have e7 : vs 7 = _ := hd 7 (by kernel_rfl); clear hd hold; simp only [e7] at hK; go_simp; exact hK.out rfl _ _ (Below.refl _ _) rfl
    · intro vs W hW hW0 hd hne hold K hK hA hL; clear hne hA hL; have hB := hW.1; have h4 := hW.2.1; have h5 := hW.2.2.1; have h7 := hW.2.2.2; simp only [puts, Act.put, List.setIfInBounds_toArray, List.set_cons_zero, List.set_cons_succ, Nat.zero_add, Nat.reduceAdd] at hK ⊢; have e8 : vs 8 = _ := hd 8 (by kernel_rfl); clear hd hold; simp only [e8] at hK; go_simp; exact hK.out rfl _ _ (Below.refl _ _) rfl
    · intro vs W hW hW0 hd hne hold K hK hA hL; clear hne hA hL; have hB := hW.1; have h4 := hW.2.1; have h5 := hW.2.2.1; have h7 := hW.2.2.2; simp only [puts, Act.put, List.setIfInBounds_toArray, List.set_cons_zero, List.set_cons_succ, Nat.zero_add, Nat.reduceAdd] at hK ⊢; have e9 : vs 9 = _ := hd 9 (by kernel_rfl); clear hd hold; simp only [e9] at hK; go_simp; exact hK.out rfl _ _ (Below.refl _ _) rfl
  · intro va WA hW hV _
    obtain ⟨hB, h4, h5, h7⟩ := hW
    have e10 : va 10 = .int .i64 N2 := hV 10 (by decide)
    have e11 : va 11 = .int .i64 E2 := hV 11 (by decide)
    clear hV
    simp only [puts, Act.put, List.setIfInBounds_toArray, List.set_cons_zero, List.set_cons_succ, Nat.zero_add, Nat.reduceAdd, e10, e11]
    refine hK0 _ _ ?_
    clear hK0
    have c4 := h4.cell 0 _ rfl
    go_wp2_with fail
    refine (big_of a a1 a2 _).mono ?_
    rintro e w6 ⟨x1, x2, x3, x4, rfl, I6, hb6⟩
    replace h7 := h7.below hb6
    replace hB := hB.trans (hb6.mono hB.size)
    clear c4 hb6
    go_wp2_with fail
    refine (R3 _ _ _ _ _ I6).mono ?_
    rintro e w7 ⟨rfl, hb7⟩
    replace h7 := h7.below hb7
    replace hB := hB.trans (hb7.mono hB.size)
    clear hb7 I6
    have c0 := h7.cell 0 _ rfl
    have c1 := h7.cell 1 _ rfl
    have c2 := h7.cell 2 _ rfl
    go_wp2_with fail
    go_ret
    exact ⟨rfl, hB⟩

set_option maxRecDepth 100000 in
set_option maxHeartbeats 3200000 in
theorem law_sums4_nil  (a b : Int) (ha : IFit a) (hb : IFit b) (w : World) (hx : SInts w none 0 0 []) :
    Calls Try.prog 14 #[.slice none 0 0, .int .i64 a, .int .i64 b] w fun e w' => e = .returned (.bool true) ∧ Below w.heap.size w w' := by
  have hmf : ∀ (fn : Fn) (first cap : Array Value) (w : World), (Instr.makeFunc fn first cap).run Try.prog w = .ok (.func fn first cap) w := fun _ _ _ _ => rfl
  have eqA := eq_arr3
  have T1 := fun b3 b7 W (hx : SInts W none 0 0 ([] : List Int)) (h1 : Blk W b3 #[.slice (none) 0 0] 82) (h3 : Blk W b7 #[.int .i64 0, .int .i64 0, .int .i64 0] 83) =>
    try_put 63 #[.pointer (some ⟨b3, 0, none⟩), .pointer (some ⟨b7, 0, none⟩)] b7 0 _ _ W _ _ h3 rfl addN_no (fun w => enters_of Try.func63 (by kernel_rfl) rfl _ w) (fun W' hb => sums1 (none) 0 0 ([] : List Int) b3 b7 W' (by omega) (hx.below hb) (h1.below hb) _ _ _ (h3.below hb))
  have T2 := fun N1 b4 b5 b7 W (h1 : Blk W b4 #[.int .i64 a] 2) (h2 : Blk W b5 #[.int .i64 b] 2) (h3 : Blk W b7 #[.int .i64 N1, .int .i64 0, .int .i64 0] 83) =>
    try_put 65 #[.pointer (some ⟨b4, 0, none⟩), .pointer (some ⟨b5, 0, none⟩), .pointer (some ⟨b7, 0, none⟩)] b7 1 _ _ W _ _ h3 rfl lenN_no (fun w => enters_of Try.func65 (by kernel_rfl) rfl _ w) (fun W' hb' => sums2 a b b4 b5 b7 W' ha hb (h1.below hb') (h2.below hb') _ _ _ (h3.below hb'))
  have T3 := fun N1 N2 b4 b7 W (h1 : Blk W b4 #[.int .i64 a] 2) (h3 : Blk W b7 #[.int .i64 N1, .int .i64 N2, .int .i64 0] 83) =>
    try_put 67 #[.pointer (some ⟨b4, 0, none⟩), .pointer (some ⟨b7, 0, none⟩)] b7 2 _ _ W _ _ h3 rfl lenN_no (fun w => enters_of Try.func67 (by kernel_rfl) rfl _ w) (fun W' hb' => sums3 a b4 b7 W' ha (h1.below hb') _ _ _ (h3.below hb'))
  have R1 := fun W (hx : SInts W none 0 0 ([] : List Int)) => ref4_add_s (none) 0 0 ([] : List Int) (by omega) W hx
  have sa := BM.Sz.i64 ha.1 ha.2
  have sb := BM.Sz.i64 hb.1 hb.2
  have sab := BM.Sz.add sa sb.neg
  have R2 := fun neg ao k cap W h => told_n neg ao k cap (a + -b) W h sab (by omega)
  have R3 := fun neg ao k cap W h => told_n neg ao k cap a W h sa (by omega)
  rw [show a + -b = a - b by omega] at R2
  obtain ⟨N1, eN1⟩ : ∃ N, addN ([] : List Int) = N := ⟨_, rfl⟩
  obtain ⟨E1, eE1⟩ : ∃ N, addE ([] : List Int) = N := ⟨_, rfl⟩
  obtain ⟨N2, eN2⟩ : ∃ N, lenN (a - b) = N := ⟨_, rfl⟩
  obtain ⟨E2, eE2⟩ : ∃ N, lenE (a - b) = N := ⟨_, rfl⟩
  obtain ⟨N3, eN3⟩ : ∃ N, lenN a = N := ⟨_, rfl⟩
  obtain ⟨E3, eE3⟩ : ∃ N, lenE a = N := ⟨_, rfl⟩
  rw [eN1, eE1] at T1 R1
  rw [eN2, eE2] at T2 R2
  rw [eN3, eE3] at T3 R3
  obtain ⟨a1, a2⟩ := ha
  obtain ⟨b1, b2⟩ := hb
  clear eN1 eE1 eN2 eE2 eN3 eE3
  have hm0 : min (0 : Int) 20 = 0 := by decide
  have hne : ∀ g' off', none = some (⟨g', off', none⟩ : Addr) → g' < w.heap.size := fun g' off' e => by cases e
  have h1 := ((Blk.new w #[.slice none 0 0] 82 _ rfl).alloc (.cells #[.int .i64 a] 2)).alloc (.cells #[.int .i64 b] 2)
  have h4 := (Blk.new (w.alloc (.cells #[.slice none 0 0] 82)) #[.int .i64 a] 2 (w.heap.size + 1) (by simp)).alloc (.cells #[.int .i64 b] 2)
  have h5 := Blk.new ((w.alloc (.cells #[.slice none 0 0] 82)).alloc (.cells #[.int .i64 a] 2)) #[.int .i64 b] 2 (w.heap.size + 1 + 1) (by simp)
  have hB : Below w.heap.size w (((w.alloc (.cells #[.slice none 0 0] 82)).alloc (.cells #[.int .i64 a] 2)).alloc (.cells #[.int .i64 b] 2)) := (by repeat' (first | (with_reducible exact Below.refl _ _) | (with_reducible assumption) | (with_reducible refine below_alloc ?_ _ ?_) | (with_reducible refine below_set _ ?_ ?_) | (with_reducible refine Below.drew ?_) | (with_reducible refine below_dN ?_ _) | (apply below_thenA; assumption) | omega | (simp; done) | (simp; omega) | (simp [*]; done)))
  go_enter Try.func14, Try.ntmps14
  go_wp2_with fail
  refine (speaks04 _).mono ?_
  rintro e w1 ⟨rfl, hb1⟩
  replace h1 := h1.below hb1
  replace h4 := h4.below hb1
  replace h5 := h5.below hb1
  replace hx := (hx.below (w' := ((w.alloc (.cells #[.slice none 0 0] 82)).alloc (.cells #[.int .i64 a] 2)).alloc (.cells #[.int .i64 b] 2)) (by repeat' (first | (with_reducible exact Below.refl _ _) | (with_reducible assumption) | (with_reducible refine below_alloc ?_ _ ?_) | (with_reducible refine below_set _ ?_ ?_) | (with_reducible refine Below.drew ?_) | (with_reducible refine below_dN ?_ _) | (apply below_thenA; assumption) | omega | (simp; done) | (simp; omega) | (simp [*]; done)))).below hb1
  replace hB := hB.trans (hb1.mono hB.size)
  have hw1 : w.heap.size + 3 ≤ w1.heap.size := by have := hb1.size; simp at this; omega
  clear hb1
  have c0 := h1.cell 0 _ rfl
  have c1 := h1.free 0
  go_wp2_with fail
  have hbs : But w.heap.size w1 (w1.setCell ⟨w.heap.size, 0, none⟩ (.slice none 0 0)) := But.set _ _ _
  have f0 := h1.free 0
  replace h1 : Blk ((w1.setCell ⟨w.heap.size, 0, none⟩ (.slice none 0 0)).alloc (.cells #[.int .i64 0, .int .i64 0, .int .i64 0] 83)) w.heap.size #[.slice none 0 0] 82 := (h1.set 0 _).alloc _
  replace h4 := (h4.but hbs (by omega)).alloc (.cells #[.int .i64 0, .int .i64 0, .int .i64 0] 83)
  replace h5 := (h5.but hbs (by omega)).alloc (.cells #[.int .i64 0, .int .i64 0, .int .i64 0] 83)
  have hs1 : (w1.setCell ⟨w.heap.size, 0, none⟩ (.slice none 0 0)).heap.size = w1.heap.size := by simp [World.setCell]
  have h7 := Blk.new (w1.setCell ⟨w.heap.size, 0, none⟩ (.slice none 0 0)) #[.int .i64 0, .int .i64 0, .int .i64 0] 83 w1.heap.size hs1.symm
  replace hx := (hx.but (fun g' off' e => by have := hne g' off' e; omega) hbs).below (w' := (w1.setCell ⟨w.heap.size, 0, none⟩ (.slice none 0 0)).alloc (.cells #[.int .i64 0, .int .i64 0, .int .i64 0] 83)) (by repeat' (first | (with_reducible exact Below.refl _ _) | (with_reducible assumption) | (with_reducible refine below_alloc ?_ _ ?_) | (with_reducible refine below_set _ ?_ ?_) | (with_reducible refine Below.drew ?_) | (with_reducible refine below_dN ?_ _) | (apply below_thenA; assumption) | omega | (simp; done) | (simp; omega) | (simp [*]; done)))
  replace hB := hbs.to hB (Nat.le_refl _) hB.size
  replace hB := hB.alloc hB.size (.cells #[.int .i64 0, .int .i64 0, .int .i64 0] 83)
  obtain ⟨W2, eW⟩ : ∃ W2, W2 = (w1.setCell ⟨w.heap.size, 0, none⟩ (.slice none 0 0)).alloc (.cells #[.int .i64 0, .int .i64 0, .int .i64 0] 83) := ⟨_, rfl⟩
  rw [← eW] at h1 h4 h5 h7 hx hB
  have HW := Lib.hid eW
  clear eW hbs hs1
  go_wp2_with fail
  rw [← HW.out]
  clear HW f0 c0
  refine (T1 _ _ _ hx h1 h7).mono ?_
  rintro e w2 ⟨rfl, hbt, h7⟩
  replace h7 : Blk w2 w1.heap.size #[.int .i64 N1, .int .i64 0, .int .i64 0] 83 := h7
  replace h1 := h1.but hbt (by omega)
  replace h4 := h4.but hbt (by omega)
  replace h5 := h5.but hbt (by omega)
  replace hx := hx.but (fun g' off' e => by have := hne g' off' e; omega) hbt
  replace hB := hbt.to hB (by omega) hB.size
  clear hbt
  go_wp2_with fail
  refine (T2 _ _ _ _ _ h4 h5 h7).mono ?_
  rintro e w3 ⟨rfl, hbt, h7⟩
  replace h7 : Blk w3 w1.heap.size #[.int .i64 N1, .int .i64 N2, .int .i64 0] 83 := h7
  replace h1 := h1.but hbt (by omega)
  replace h4 := h4.but hbt (by omega)
  replace h5 := h5.but hbt (by omega)
  replace hx := hx.but (fun g' off' e => by have := hne g' off' e; omega) hbt
  replace hB := hbt.to hB (by omega) hB.size
  clear hbt
  go_wp2_with fail
  refine (T3 _ _ _ _ _ h4 h7).mono ?_
  rintro e w4 ⟨rfl, hbt, h7⟩
  replace h7 : Blk w4 w1.heap.size #[.int .i64 N1, .int .i64 N2, .int .i64 N3] 83 := h7
  replace h1 := h1.but hbt (by omega)
  replace h4 := h4.but hbt (by omega)
  replace h5 := h5.but hbt (by omega)
  replace hx := hx.but (fun g' off' e => by have := hne g' off' e; omega) hbt
  replace hB := hbt.to hB (by omega) hB.size
  clear hbt T1 T2 T3
  have c0 := h1.cell 0 _ rfl
  go_wp2_with fail
  refine (R1 _ hx).mono ?_
  rintro e w5 ⟨rfl, hb5⟩
  replace h4 := h4.below hb5
  replace h5 := h5.below hb5
  replace h7 := h7.below hb5
  replace hB := hB.trans (hb5.mono hB.size)
  clear c0 hb5 h1 hx R1
  go_upto_region 9 with (fail)
  rename_i K0 hK0
  refine wp_region_calm (fun w' => Below w.heap.size w w' ∧ Blk w' (w.heap.size + 1) #[.int .i64 a] 2 ∧ Blk w' (w.heap.size + 1 + 1) #[.int .i64 b] 2 ∧ Blk w' w1.heap.size #[.int .i64 N1, .int .i64 N2, .int .i64 N3] 83) [] (fun w' => True) [Is (.int .i64 a), bigC a, Is (.int .i64 b), bigC b, bigC (-b), bigC (a + -b), Is (.tuple #[.int .i64 N2, .int .i64 E2]), Is (.tuple #[.int .i64 N2, .int .i64 E2]), Is (.int .i64 N2), Is (.int .i64 E2), Is (.int .i64 N2), Is (.int .i64 E2)] [] (by kernel_rfl) (by kernel_rfl) (by kernel_rfl) (by kernel_rfl) ⟨hB.drew, h4, h5, h7⟩ trivial ?_ ?_ ?_ ?_ ?_
  · rintro W W' ⟨hB, h4, h5, h7⟩ hb
    exact ⟨hB.trans (hb.mono hB.size), h4.below hb, h5.below hb, h7.below hb⟩
  · exact fun _ _ _ _ _ => trivial
  · intro k vs W hk h
    exact absurd hk (by simp)
  · intro Q; clear hK0 h4 h5 h7 hB
    refine ⟨?_, ?_, ?_, ?_, ?_, ?_, ?_, ?_, ?_, ?_, ?_, ?_, trivial⟩
    · intro vs W hW hW0 hd hne hold K hK hA hL; clear hne hA hL; have hB := hW.1; have h4 := hW.2.1; have h5 := hW.2.2.1; have h7 := hW.2.2.2; simp only [puts, Act.put, List.setIfInBounds_toArray, List.set_cons_zero, List.set_cons_succ, Nat.zero_add, Nat.reduceAdd] at hK ⊢; have q1 := h4.cell 0 _ rfl; clear hd hold; go_simp; exact hK.out rfl _ _ (Below.refl _ _) rfl
    · intro vs W hW hW0 hd hne hold K hK hA hL; clear hne hA hL; have hB := hW.1; have h4 := hW.2.1; have h5 := hW.2.2.1; have h7 := hW.2.2.2; simp only [puts, Act.put, List.setIfInBounds_toArray, List.set_cons_zero, List.set_cons_succ, Nat.zero_add, Nat.reduceAdd] at hK ⊢; have eb : vs 0 = _ := hd 0 (by kernel_rfl); clear hd hold; simp only [eb] at hK; go_simp; refine (big_of a a1 a2 _).mono ?_; (rintro e wx ⟨f1, f2, f3, f4, rfl, If, hbx⟩); go_simp; exact hK.out rfl _ _ hbx ⟨f1, f2, f3, f4, rfl, If⟩
    · intro vs W hW hW0 hd hne hold K hK hA hL; clear hne hA hL; have hB := hW.1; have h4 := hW.2.1; have h5 := hW.2.2.1; have h7 := hW.2.2.2; simp only [puts, Act.put, List.setIfInBounds_toArray, List.set_cons_zero, List.set_cons_succ, Nat.zero_add, Nat.reduceAdd] at hK ⊢; have q1 := h5.cell 0 _ rfl; clear hd hold; go_simp; exact hK.out rfl _ _ (Below.refl _ _) rfl
    · intro vs W hW hW0 hd hne hold K hK hA hL; clear hne hA hL; have hB := hW.1; have h4 := hW.2.1; have h5 := hW.2.2.1; have h7 := hW.2.2.2; simp only [puts, Act.put, List.setIfInBounds_toArray, List.set_cons_zero, List.set_cons_succ, Nat.zero_add, Nat.reduceAdd] at hK ⊢; have eb : vs 2 = _ := hd 2 (by kernel_rfl); clear hd hold; simp only [eb] at hK; go_simp; refine (big_of b b1 b2 _).mono ?_; (rintro e wx ⟨f1, f2, f3, f4, rfl, If, hbx⟩); go_simp; exact hK.out rfl _ _ hbx ⟨f1, f2, f3, f4, rfl, If⟩
    · intro vs W hW hW0 hd hne hold K hK hA hL; clear hne hA hL; have hB := hW.1; have h4 := hW.2.1; have h5 := hW.2.2.1; have h7 := hW.2.2.2; simp only [puts, Act.put, List.setIfInBounds_toArray, List.set_cons_zero, List.set_cons_succ, Nat.zero_add, Nat.reduceAdd] at hK ⊢; (have hxc : BigV b (vs 3) W := hd 3 (by kernel_rfl)); obtain ⟨c1, c2, c3, c4, ec, Ic⟩ := hxc; have k2 := Ic.le sb; clear hd hold; simp only [ec] at hK; go_simp; refine (big_minus c1 c2 c3 c4 b _ Ic (by omega)).mono ?_; (rintro e wx ⟨f1, f2, f3, f4, rfl, If, hbx⟩); go_simp; exact hK.out rfl _ _ hbx ⟨f1, f2, f3, f4, rfl, If⟩
    · intro vs W hW hW0 hd hne hold K hK hA hL; clear hne hA hL; have hB := hW.1; have h4 := hW.2.1; have h5 := hW.2.2.1; have h7 := hW.2.2.2; simp only [puts, Act.put, List.setIfInBounds_toArray, List.set_cons_zero, List.set_cons_succ, Nat.zero_add, Nat.reduceAdd] at hK ⊢; (have hxc : BigV a (vs 1) W := hd 1 (by kernel_rfl)); obtain ⟨c1, c2, c3, c4, ec, Ic⟩ := hxc; (have hxd : BigV (-b) (vs 4) W := hd 4 (by kernel_rfl)); obtain ⟨d1, d2, d3, d4, ed, Id⟩ := hxd; have k2 := Ic.le sa; have k3 := Id.le sb.neg; clear hd hold; simp only [ec, ed] at hK; go_simp; refine (big_plus c1 d1 c2 d2 c3 d3 c4 d4 a (-b) _ Ic Id (by omega) (by omega)).mono ?_; (rintro e wx ⟨f1, f2, f3, f4, rfl, If, hbx⟩); go_simp; exact hK.out rfl _ _ hbx ⟨f1, f2, f3, f4, rfl, If⟩
    · intro vs W hW hW0 hd hne hold K hK hA hL; clear hne hA hL; have hB := hW.1; have h4 := hW.2.1; have h5 := hW.2.2.1; have h7 := hW.2.2.2; simp only [puts, Act.put, List.setIfInBounds_toArray, List.set_cons_zero, List.set_cons_succ, Nat.zero_add, Nat.reduceAdd] at hK ⊢; (have hxc : BigV (a + -b) (vs 5) W := hd 5 (by kernel_rfl)); obtain ⟨c1, c2, c3, c4, ec, Ic⟩ := hxc; clear hd hold; simp only [ec] at hK; go_simp; refine (R2 c1 c2 c3 c4 _ Ic).mono ?_; (rintro e wx ⟨rfl, hbx⟩); go_simp; exact hK.out rfl _ _ hbx rfl
    · intro vs W hW hW0 hd hne hold K hK hA hL; clear hne hA hL; have hB := hW.1; have h4 := hW.2.1; have h5 := hW.2.2.1; have h7 := hW.2.2.2; simp only [puts, Act.put, List.setIfInBounds_toArray, List.set_cons_zero, List.set_cons_succ, Nat.zero_add, Nat.reduceAdd] at hK ⊢; have e6 : vs 6 = _ := hd 6 (by kernel_rfl); clear hd hold; simp only [e6] at hK; go_simp; exact hK.out rfl _ _ (Below.refl _ _) rfl
    · intro vs W hW hW0 hd hne hold K hK hA hL; clear hne hA hL; have hB := hW.1; have h4 := hW.2.1; have h5 := hW.2.2.1; have h7 := hW.2.2.2; simp only [puts, Act.put, List.setIfInBounds_toArray, List.set_cons_zero, List.set_cons_succ, Nat.zero_add, Nat.reduceAdd] at hK ⊢; have e7 : vs 7 = _ := hd 7 (by kernel_rfl); clear hd hold; simp only [e7] at hK; go_simp; exact hK.out rfl _ _ (Below.refl _ _) rfl
    · intro vs W hW hW0 hd hne hold K hK hA hL; clear hne hA hL; have hB := hW.1; have h4 := hW.2.1; have h5 := hW.2.2.1; have h7 := hW.2.2.2; simp only [puts, Act.put, List.setIfInBounds_toArray, List.set_cons_zero, List.set_cons_succ, Nat.zero_add, Nat.reduceAdd] at hK ⊢; have e7 : vs 7 = _ := hd 7 (by kernel_rfl); clear hd hold; simp only [e7] at hK; go_simp; exact hK.out rfl _ _ (Below.refl _ _) rfl
    · intro vs W hW hW0 hd hne hold K hK hA hL; clear hne hA hL; have hB := hW.1; have h4 := hW.2.1; have h5 := hW.2.2.1; have h7 := hW.2.2.2; simp only [puts, Act.put, List.setIfInBounds_toArray, List.set_cons_zero, List.set_cons_succ, Nat.zero_add, Nat.reduceAdd] at hK ⊢; have e8 : vs 8 = _ := hd 8 (by kernel_rfl); clear hd hold; simp only [e8] at hK; go_simp; exact hK.out rfl _ _ (Below.refl _ _) rfl
    · intro vs W hW hW0 hd hne hold K hK hA hL; clear hne hA hL; have hB := hW.1; have h4 := hW.2.1; have h5 := hW.2.2.1; have h7 := hW.2.2.2; simp only [puts, Act.put, List.setIfInBounds_toArray, List.set_cons_zero, List.set_cons_succ, Nat.zero_add, Nat.reduceAdd] at hK ⊢; have e9 : vs 9 = _ := hd 9 (by kernel_rfl); clear hd hold; simp only [e9] at hK; go_simp; exact hK.out rfl _ _ (Below.refl _ _) rfl
  · intro va WA hW hV _
    obtain ⟨hB, h4, h5, h7⟩ := hW
    have e10 : va 10 = .int .i64 N2 := hV 10 (by decide)
    have e11 : va 11 = .int .i64 E2 := hV 11 (by decide)
    clear hV
    simp only [puts, Act.put, List.setIfInBounds_toArray, List.set_cons_zero, List.set_cons_succ, Nat.zero_add, Nat.reduceAdd, e10, e11]
    refine hK0 _ _ ?_
    clear hK0
    have c4 := h4.cell 0 _ rfl
    go_wp2_with fail
    refine (big_of a a1 a2 _).mono ?_
    rintro e w6 ⟨x1, x2, x3, x4, rfl, I6, hb6⟩
    replace h7 := h7.below hb6
    replace hB := hB.trans (hb6.mono hB.size)
    clear c4 hb6
    go_wp2_with fail
    refine (R3 _ _ _ _ _ I6).mono ?_
    rintro e w7 ⟨rfl, hb7⟩
    replace h7 := h7.below hb7
    replace hB := hB.trans (hb7.mono hB.size)
    clear hb7 I6
    have c0 := h7.cell 0 _ rfl
    have c1 := h7.cell 1 _ rfl
    have c2 := h7.cell 2 _ rfl
    go_wp2_with fail
    go_ret
    exact ⟨rfl, hB⟩

theorem law_sums4 (v : Value) (a b : Int) (ha : IFit a) (hb : IFit b) (w : World) (hs : SlV .i64 w v) :
    Calls Try.prog 14 #[v, .int .i64 a, .int .i64 b] w fun e w' => e = .returned (.bool true) ∧ Below w.heap.size w w' := by
  rcases hs with rfl | ⟨g, off, n, cap, xs, rfl, hlen, hn, hm, hg, hc, hw⟩
  · exact law_sums4_nil a b ha hb w (.inl ⟨rfl, rfl, rfl, rfl⟩)
  · have hm' : cap ≤ 9223372036854775807 := hm
    refine law_sums4_some g off n cap (min n 20) xs ⟨by omega, by omega, by omega, by omega, by omega⟩ a b ha hb w (.inr ⟨g, off, rfl, ⟨by rw [List.length_take]; omega, fun i hi => ?_, fun i hi => ?_⟩, hg, by omega⟩)
    · have hi' : i < xs.length := by omega
      have e : (xs.take (min n 20)).getD i 0 = xs[i] := by simp [List.getD, hi', hi]
      rw [e]
      exact fit_of_wf (hw _ (List.getElem_mem hi'))
    · have hi' : i < xs.length := by omega
      have e : (xs.take (min n 20)).getD i 0 = xs.getD i 0 := by simp [List.getD, hi', hi]
      rw [e]
      exact hc i (by omega)
end Go.Proofs.Ythffphcgkmjhbaa
