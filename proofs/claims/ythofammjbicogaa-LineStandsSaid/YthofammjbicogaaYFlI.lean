/-
  Package flexbox: Align; the reference's Align.
-/
import Derived.Test.YthofammjbicogaaZ9
namespace Go.Proofs.Ythofammjbicogaa
open Go.RowKit
set_option linter.unusedSimpArgs false
set_option linter.unusedVariables false

theorem eq_bool2 (a b a' b' : Bool) (w : World) : (Op.equalIn 10000 71 (.agg #[.bool a, .bool b]) (.agg #[.bool a', .bool b'])).run Try.prog w = .ok (a == a' && b == b') w := by
  have u3 := Try.underlying4
  have a3 := Try.isAgg4
  have z3 := Try.sizeOf4
  rw [show (10000 : Nat) = 9999 + 1 from rfl, Op.equalIn]
  simp only [Sem.run_bind, run_underlying Try.underlying71, Result.andThen_ok]
  simp only [Std.Legacy.Range.forIn_eq_forIn_range', Std.Legacy.Range.size, Nat.sub_zero, Nat.add_sub_cancel, Nat.div_one, List.range'_succ, List.range'_zero, List.forIn_cons, List.forIn_nil]
  go_simp
  cases a <;> cases b <;> cases a' <;> cases b' <;> simp
def alN (f : Int) (a b : Bool) (al : Int) : Int := if a || b then 0 else if al = 3 then f else if al = 4 then f / 2 else 0
def alM (f : Int) (a b : Bool) : Int × Int :=
  if a && b then (max f 0 / 2, max f 0 - max f 0 / 2) else if a then (max f 0, 0) else if b then (0, max f 0) else (0, 0)
set_option maxRecDepth 100000 in
set_option maxHeartbeats 3200000 in
theorem flx_align (s r al : Int) (a b : Bool) (hs : IFit s) (hr : IFit r) (w : World) :
    Calls Try.prog 48 #[.int .i64 s, .int .i64 r, .agg #[.bool a, .bool b], .int .i64 al] w fun e w' =>
      (lenE (r - s) = 0 → e = .returned (.tuple #[.int .i64 (alN (r - s) a b al), .agg #[.int .i64 ((alM (r - s) a b).1), .int .i64 ((alM (r - s) a b).2)]])) ∧ (lenE (r - s) ≠ 0 → e = .panicked (gave (lenE (r - s)))) ∧ Below w.heap.size w w' := by
  have SB := fun W => fix_sub r s hr hs W
  have eN : lenE (r - s) = 0 → lenN (r - s) = r - s := fun h => by unfold lenN lenE at *; cases h2 : lenB (r - s) <;> simp [h2] at h ⊢
  have eL : lenE (r - s) = 0 → LenB (r - s) := fun h => by unfold lenE at h; cases h2 : lenB (r - s) <;> simp [h2] at h; exact (lenB_iff _).1 h2
  obtain ⟨f, ef⟩ : ∃ f, r - s = f := ⟨_, rfl⟩
  obtain ⟨E, eE⟩ : ∃ E, lenE f = E := ⟨_, rfl⟩
  obtain ⟨N, eNN⟩ : ∃ E, lenN f = E := ⟨_, rfl⟩
  rw [ef] at SB eN eL ⊢
  rw [eE, eNN] at SB eN
  rw [eE] at eL ⊢
  obtain ⟨Q, eQ⟩ : ∃ Q : Ending → World → Prop, Q = fun e w' => (E = 0 → e = .returned (.tuple #[.int .i64 (alN f a b al), .agg #[.int .i64 ((alM f a b).1), .int .i64 ((alM f a b).2)]])) ∧ (E ≠ 0 → e = .panicked (gave E)) ∧ Below w.heap.size w w' := ⟨_, rfl⟩
  rw [← eQ]
  have EQ := Lib.hid eQ
  clear eQ eE eNN ef hs hr
  have eb2 := eq_bool2
  obtain ⟨W, eW⟩ : ∃ W, (w.alloc (.cells #[.bool a, .bool b] 71)).alloc (.cells #[.int .i64 0, .int .i64 0] 66) = W := ⟨_, rfl⟩
  have b1 : Blk W w.heap.size #[.bool a, .bool b] 71 := by rw [← eW]; exact (Blk.new w _ _ _ rfl).alloc _
  have b2 : Blk W (w.heap.size + 1) #[.int .i64 0, .int .i64 0] 66 := by rw [← eW]; exact Blk.new _ _ _ _ (by simp)
  have hB : Below w.heap.size w W := by rw [← eW]; exact (by repeat' (first | (with_reducible exact Below.refl _ _) | (with_reducible assumption) | (with_reducible refine below_alloc ?_ _ ?_) | (with_reducible refine below_set _ ?_ ?_) | (with_reducible refine Below.drew ?_) | (with_reducible refine below_dN ?_ _) | (apply below_thenA; assumption) | omega | (simp; done) | (simp; omega) | (simp [*]; done)))
  have hW : W.heap.size = w.heap.size + 2 := by rw [← eW]; simp
  have EW := Lib.hid eW
  go_enter Try.func48, Try.ntmps48
  go_wp2_with fail
  refine (SB _).mono ?_
  rintro e w1 ⟨g1, g2, hb⟩
  have hs1 := hb.size
  replace b1 := b1.below hb
  replace b2 := b2.below hb
  replace hB := hB.trans (hb.mono hB.size)
  clear hb SB
  by_cases hE : E = 0
  · obtain rfl := g1 hE
    obtain rfl := eN hE
    have hL := eL hE
    have HE := Lib.hid hE
    clear g1 g2 eN eL hE
    have b3 := Blk.new w1 #[.int .i64 0, .int .i64 0] 66 _ rfl
    have b1 : Blk (w1.alloc (.cells #[.int .i64 0, .int .i64 0] 66)) w.heap.size #[.bool a, .bool b] 71 := b1.alloc _
    have b2 : Blk (w1.alloc (.cells #[.int .i64 0, .int .i64 0] 66)) (w.heap.size + 1) #[.int .i64 0, .int .i64 0] 66 := b2.alloc _
    have hB : Below w.heap.size w (w1.alloc (.cells #[.int .i64 0, .int .i64 0] 66)) := (by repeat' (first | (with_reducible exact Below.refl _ _) | (with_reducible assumption) | (with_reducible refine below_alloc ?_ _ ?_) | (with_reducible refine below_set _ ?_ ?_) | (with_reducible refine Below.drew ?_) | (with_reducible refine below_dN ?_ _) | (apply below_thenA; assumption) | omega | (simp; done) | (simp; omega) | (simp [*]; done)))
    obtain ⟨W1, eW1⟩ : ∃ W, w1.alloc (.cells #[.int .i64 0, .int .i64 0] 66) = W := ⟨_, rfl⟩
    rw [eW1] at b1 b2 b3 hB
    have c1 := b1.cell 0 _ rfl
    have c2 := b1.cell 1 _ rfl
    have c3 := b2.cell 0 _ rfl
    have c4 := b2.cell 1 _ rfl
    have c5 := b3.cell 0 _ rfl
    have c6 := b3.cell 1 _ rfl
    have f3 := b2.free 0
    have f4 := b2.free 1
    have f5 := b3.free 0
    have f6 := b3.free 1
    have n1 : w1.heap.size ≠ w.heap.size + 1 := by omega
    have n2 : w.heap.size + 1 ≠ w1.heap.size := by omega
    have hB2 : ∀ x y, Below w.heap.size w ((W1.setCell ⟨w.heap.size + 1, 0, none⟩ x).setCell ⟨w.heap.size + 1, 1, none⟩ y) := fun x y => (hB.setCell (p := ⟨w.heap.size + 1, 0, none⟩) (Nat.le_succ _) _).setCell (p := ⟨w.heap.size + 1, 1, none⟩) (Nat.le_succ _) _
    clear b1
    have c7 : ∀ X x y, Blk X (w.heap.size + 1) #[.int .i64 0, .int .i64 0] 66 → ((X.setCell ⟨w.heap.size + 1, 0, none⟩ x).setCell ⟨w.heap.size + 1, 1, none⟩ y).cell? ⟨w.heap.size + 1, 0, none⟩ = some x := fun X x y b => ((b.set 0 x).set 1 y).cell 0 _ rfl
    have c8 : ∀ X x y, Blk X (w.heap.size + 1) #[.int .i64 0, .int .i64 0] 66 → ((X.setCell ⟨w.heap.size + 1, 0, none⟩ x).setCell ⟨w.heap.size + 1, 1, none⟩ y).cell? ⟨w.heap.size + 1, 1, none⟩ = some y := fun X x y b => ((b.set 0 x).set 1 y).cell 1 _ rfl
    have hB3 : ∀ i z x y, Below w.heap.size w (((W1.setCell ⟨w1.heap.size, i, none⟩ z).setCell ⟨w.heap.size + 1, 0, none⟩ x).setCell ⟨w.heap.size + 1, 1, none⟩ y) := fun i z x y => ((hB.setCell (p := ⟨w1.heap.size, i, none⟩) (show w.heap.size ≤ w1.heap.size by omega) _).setCell (p := ⟨w.heap.size + 1, 0, none⟩) (Nat.le_succ _) _).setCell (p := ⟨w.heap.size + 1, 1, none⟩) (Nat.le_succ _) _
    have b3 : ∀ i z, Blk (W1.setCell ⟨w1.heap.size, i, none⟩ z) (w.heap.size + 1) #[.int .i64 0, .int .i64 0] 66 := fun i z => b2.other n2 _ _
    have C7 := Lib.hid c7
    have C8 := Lib.hid c8
    have HB2 := Lib.hid hB2
    have HB3 := Lib.hid hB3
    have B2 := Lib.hid b2
    have B3 := Lib.hid b3
    clear c7 c8 b2 b3 hB2 hB3
    cases a <;> cases b
    · have c7 := C7.out W1 (.int .i64 0) (.int .i64 0) B2.out
      have c8 := C8.out W1 (.int .i64 0) (.int .i64 0) B2.out
      by_cases h3 : al = 3
      · subst h3
        go_wp2_with fail
        go_region
        all_goals
          go_wp2_with fail
          go_light
          simp [bodyPost, results, Try.results48, go_sem, c7, c8]
          rw [EQ.out]
          refine ⟨fun _ => by simp [alN, alM], fun h => absurd HE.out h, ?_⟩
          exact (HB2.out _ _).drew
      · by_cases h4 : al = 4
        · subst h4
          go_wp2_with fail
          go_region
          all_goals
            go_wp2_with fail
            go_light
            simp [bodyPost, results, Try.results48, go_sem, c7, c8]
            rw [EQ.out]
            refine ⟨fun _ => by simp [alN, alM], fun h => absurd HE.out h, ?_⟩
            exact (HB2.out _ _).drew
        · go_wp2_with fail
          go_region
          all_goals
            go_wp2_with fail
            go_light
            simp [bodyPost, results, Try.results48, go_sem, c7, c8]
            rw [EQ.out]
            refine ⟨fun _ => by simp [alN, alM, h3, h4], fun h => absurd HE.out h, ?_⟩
            exact (HB2.out _ _).drew
    · have c7 := C7.out _ (.int .i64 0) (.int .i64 (max N 0)) (B3.out 1 (.int .i64 (max N 0)))
      have c8 := C8.out _ (.int .i64 0) (.int .i64 (max N 0)) (B3.out 1 (.int .i64 (max N 0)))
      go_wp2_with fail
      go_region
      all_goals
        go_wp2_with fail
        go_light
        simp [bodyPost, results, Try.results48, go_sem, c7, c8]
        rw [EQ.out]
        refine ⟨fun _ => by simp [alN, alM], fun h => absurd HE.out h, ?_⟩
        exact (HB3.out _ _ _ _).drew
    · have c7 := C7.out _ (.int .i64 (max N 0)) (.int .i64 0) (B3.out 0 (.int .i64 (max N 0)))
      have c8 := C8.out _ (.int .i64 (max N 0)) (.int .i64 0) (B3.out 0 (.int .i64 (max N 0)))
      go_wp2_with fail
      go_region
      all_goals
        go_wp2_with fail
        go_light
        simp [bodyPost, results, Try.results48, go_sem, c7, c8]
        rw [EQ.out]
        refine ⟨fun _ => by simp [alN, alM], fun h => absurd HE.out h, ?_⟩
        exact (HB3.out _ _ _ _).drew
    · have hwr : wrap64 (max N 0 - max N 0 / 2) = max N 0 - max N 0 / 2 := by unfold LenB at hL; simp only [wrap64]; omega
      have EWR := Lib.hid hwr
      clear hwr
      have c7 := C7.out W1 (.int .i64 (max N 0 / 2)) (.int .i64 (max N 0 - max N 0 / 2)) B2.out
      have c8 := C8.out W1 (.int .i64 (max N 0 / 2)) (.int .i64 (max N 0 - max N 0 / 2)) B2.out
      go_wp2_with fail
      rw [EWR.out]
      go_light
      simp [bodyPost, results, Try.results48, go_sem, c7, c8]
      rw [EQ.out]
      refine ⟨fun _ => by simp [alN, alM], fun h => absurd HE.out h, ?_⟩
      exact HB2.out _ _
  · obtain rfl := g2 hE
    clear g1 g2 eN eL
    go_wp2_with fail
    rw [EQ.out]
    exact ⟨rfl, fun h => absurd h hE, fun _ => rfl, hB⟩
end Go.Proofs.Ythofammjbicogaa
