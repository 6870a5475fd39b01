/-
  Package sizing: Between; the reference's Within.
-/
import Derived.Test.YthffphcgkmjhbaaLawN
namespace Go.Proofs.Ythffphcgkmjhbaa
open Go.RowKit
set_option linter.unusedSimpArgs false
set_option linter.unusedVariables false

set_option maxRecDepth 100000 in
set_option maxHeartbeats 1600000 in
theorem ref14_within (n least most : Int) (bound : Bool) (w : World) :
    Calls Try.prog 93 #[.int .i64 n, .int .i64 least, .int .i64 most, .bool bound] w fun e w' => e = .returned (.int .i64 (limN least most bound n)) ∧ w' = w := by
  unfold limN
  cases bound
  · rw [if_neg (by decide)]
    by_cases h : n < least
    · have HM := Lib.hid (show max n least = least by omega)
      have h' : decide (n < least) = true := by simp [h]
      clear h
      go_enter Try.func93, Try.ntmps93
      go_wp2_with fail
      go_ret
      exact ⟨by rw [HM.out]; rfl, rfl⟩
    · have HM := Lib.hid (show max n least = n by omega)
      have h' : decide (n < least) = false := by simp; omega
      clear h
      go_enter Try.func93, Try.ntmps93
      go_wp2_with fail
      go_ret
      exact ⟨by rw [HM.out]; rfl, rfl⟩
  · rw [if_pos rfl]
    by_cases hm : most < n
    · have hm' : decide (most < n) = true := by simp [hm]
      by_cases h : most < least
      · have HM := Lib.hid (show max (min n most) least = least by omega)
        have h' : decide (most < least) = true := by simp [h]
        clear h hm
        go_enter Try.func93, Try.ntmps93
        go_wp2_with fail
        go_ret
        exact ⟨by rw [HM.out]; rfl, rfl⟩
      · have HM := Lib.hid (show max (min n most) least = most by omega)
        have h' : decide (most < least) = false := by simp; omega
        clear h hm
        go_enter Try.func93, Try.ntmps93
        go_wp2_with fail
        go_ret
        exact ⟨by rw [HM.out]; rfl, rfl⟩
    · have hm' : decide (most < n) = false := by simp; omega
      by_cases h : n < least
      · have HM := Lib.hid (show max (min n most) least = least by omega)
        have h' : decide (n < least) = true := by simp [h]
        clear h hm
        go_enter Try.func93, Try.ntmps93
        go_wp2_with fail
        go_ret
        exact ⟨by rw [HM.out]; rfl, rfl⟩
      · have HM := Lib.hid (show max (min n most) least = n by omega)
        have h' : decide (n < least) = false := by simp; omega
        clear h hm
        go_enter Try.func93, Try.ntmps93
        go_wp2_with fail
        go_ret
        exact ⟨by rw [HM.out]; rfl, rfl⟩
section
variable (k0 N0 k1 N1 base : Int) (known : Bool) (p q siz edges : Int) (w : World)
/-- What two values tell: three cells, or the first error. -/
def BetAns (n1 n2 : Int) (ok2 : Bool) (c1 c2 : Int) (w : World) (e : Ending) (w' : World) : Prop :=
  (c1 = 0 ∧ c2 = 0 → e = .returned (.agg #[.int .i64 n1, .int .i64 n2, .bool ok2])) ∧ (¬ (c1 = 0 ∧ c2 = 0) → e = .panicked (gave (if c1 = 0 then c2 else c1))) ∧ Below w.heap.size w w'
set_option maxRecDepth 100000 in
set_option maxHeartbeats 1600000 in
theorem siz_between (n1 n2 : Int) (ok1 ok2 : Bool) (c1 c2 : Int)
    (S1 : ∀ W, Calls Try.prog 81 #[.agg #[.int .i64 k0, .int .i64 N0], .agg #[.int .i64 base, .bool known, .int .i64 p, .int .i64 q, .int .i64 siz, .int .i64 edges]] W (Gives2 n1 ok1 c1 W))
    (S2 : ∀ W, Calls Try.prog 81 #[.agg #[.int .i64 k1, .int .i64 N1], .agg #[.int .i64 base, .bool known, .int .i64 p, .int .i64 q, .int .i64 siz, .int .i64 edges]] W (Gives2 n2 ok2 c2 W)) :
    Calls Try.prog 91 #[.agg #[.int .i64 k0, .int .i64 N0], .agg #[.int .i64 k1, .int .i64 N1], .agg #[.int .i64 base, .bool known, .int .i64 p, .int .i64 q, .int .i64 siz, .int .i64 edges]] w (BetAns n1 n2 ok2 c1 c2 w) := by
  obtain ⟨Q, eQ⟩ : ∃ Q, Q = BetAns n1 n2 ok2 c1 c2 w := ⟨_, rfl⟩
  rw [← eQ]
  have EQ := Lib.hid eQ
  clear eQ
  have t1 := (((Blk.new (w.alloc (.cells #[.int .i64 k0, .int .i64 N0] 107)) #[.int .i64 k1, .int .i64 N1] 107 (w.heap.size + 1) (by simp)).alloc (.cells #[.int .i64 base, .bool known, .int .i64 p, .int .i64 q, .int .i64 siz, .int .i64 edges] 101)).alloc (.cells #[.int .i64 0, .int .i64 0, .bool false] 131)).alloc (.cells #[.int .i64 0, .int .i64 0, .bool false] 131)
  have t2 := ((Blk.new ((w.alloc (.cells #[.int .i64 k0, .int .i64 N0] 107)).alloc (.cells #[.int .i64 k1, .int .i64 N1] 107)) #[.int .i64 base, .bool known, .int .i64 p, .int .i64 q, .int .i64 siz, .int .i64 edges] 101 (w.heap.size + 1 + 1) (by simp)).alloc (.cells #[.int .i64 0, .int .i64 0, .bool false] 131)).alloc (.cells #[.int .i64 0, .int .i64 0, .bool false] 131)
  have t3 := (Blk.new (((w.alloc (.cells #[.int .i64 k0, .int .i64 N0] 107)).alloc (.cells #[.int .i64 k1, .int .i64 N1] 107)).alloc (.cells #[.int .i64 base, .bool known, .int .i64 p, .int .i64 q, .int .i64 siz, .int .i64 edges] 101)) #[.int .i64 0, .int .i64 0, .bool false] 131 (w.heap.size + 1 + 1 + 1) (by simp)).alloc (.cells #[.int .i64 0, .int .i64 0, .bool false] 131)
  have t4 := Blk.new ((((w.alloc (.cells #[.int .i64 k0, .int .i64 N0] 107)).alloc (.cells #[.int .i64 k1, .int .i64 N1] 107)).alloc (.cells #[.int .i64 base, .bool known, .int .i64 p, .int .i64 q, .int .i64 siz, .int .i64 edges] 101)).alloc (.cells #[.int .i64 0, .int .i64 0, .bool false] 131)) #[.int .i64 0, .int .i64 0, .bool false] 131 (w.heap.size + 1 + 1 + 1 + 1) (by simp)
  have hB : Below w.heap.size w (((((w.alloc (.cells #[.int .i64 k0, .int .i64 N0] 107)).alloc (.cells #[.int .i64 k1, .int .i64 N1] 107)).alloc (.cells #[.int .i64 base, .bool known, .int .i64 p, .int .i64 q, .int .i64 siz, .int .i64 edges] 101)).alloc (.cells #[.int .i64 0, .int .i64 0, .bool false] 131)).alloc (.cells #[.int .i64 0, .int .i64 0, .bool false] 131)) := (by repeat' (first | (with_reducible exact Below.refl _ _) | (with_reducible assumption) | (with_reducible refine below_alloc ?_ _ ?_) | (with_reducible refine below_set _ ?_ ?_) | (with_reducible refine Below.drew ?_) | (with_reducible refine below_dN ?_ _) | (apply below_thenA; assumption) | omega | (simp; done) | (simp; omega) | (simp [*]; done)))
  go_enter Try.func91, Try.ntmps91
  go_wp2_with fail
  refine (S1 _).mono ?_
  rintro e w1 ⟨h1, h2, hb1⟩
  replace hB := hB.trans (hb1.mono hB.size)
  replace t1 := t1.below hb1
  replace t2 := t2.below hb1
  replace t3 := t3.below hb1
  replace t4 := t4.below hb1
  by_cases hc1 : c1 = 0
  · obtain rfl := h1 hc1
    have HC1 := Lib.hid hc1
    clear h1 h2 hc1 hb1
    have a0 := t1.cell 0 _ rfl
    have a1 := t1.cell 1 _ rfl
    have b0 := t2.cell 0 _ rfl
    have b1 := t2.cell 1 _ rfl
    have b2 := t2.cell 2 _ rfl
    have b3 := t2.cell 3 _ rfl
    have b4 := t2.cell 4 _ rfl
    have b5 := t2.cell 5 _ rfl
    have l0 := t4.cell 0 _ rfl
    have f0 := t4.free 0
    have hsz := hB.size
    have u3 := t3.other (c := w.heap.size + 1 + 1 + 1 + 1) (by omega) 0 (.int .i64 n1)
    have u4 := t4.set 0 (.int .i64 n1)
    have hB2 := hB.setCell (p := ⟨w.heap.size + 1 + 1 + 1 + 1, 0, none⟩) (show w.heap.size ≤ w.heap.size + 1 + 1 + 1 + 1 by omega) (.int .i64 n1)
    go_wp2_with fail
    refine (S2 _).mono ?_
    rintro e w2 ⟨h1, h2, hb2⟩
    replace hB2 := hB2.trans (hb2.mono hB2.size)
    replace u3 := u3.below hb2
    replace u4 : Blk w2 (w.heap.size + 1 + 1 + 1 + 1) #[.int .i64 n1, .int .i64 0, .bool false] 131 := u4.below hb2
    by_cases hc2 : c2 = 0
    · obtain rfl := h1 hc2
      have HC2 := Lib.hid hc2
      clear h1 h2 hc2 hb2 a0 a1 b0 b1 b2 b3 b4 b5 l0 f0 t1 t2 t3 t4 hB
      have l0 := u4.cell 0 _ rfl
      have l1 := u4.cell 1 _ rfl
      have l2 := u4.cell 2 _ rfl
      have f0 := u4.free 0
      have f1 := u4.free 1
      have f2 := u4.free 2
      have r0 := u3.cell 0 _ rfl
      have r1 := u3.cell 1 _ rfl
      have r2 := u3.cell 2 _ rfl
      have g0 := u3.free 0
      have g1 := u3.free 1
      have g2 := u3.free 2
      go_wp2_with fail
      (go_light; simp [bodyPost, results, Try.results91, go_sem, *])
      rw [EQ.out]
      exact ⟨fun _ => rfl, fun h => absurd ⟨HC1.out, HC2.out⟩ h, (by repeat' (first | (with_reducible exact Below.refl _ _) | (with_reducible assumption) | (with_reducible refine below_alloc ?_ _ ?_) | (with_reducible refine below_set _ ?_ ?_) | (with_reducible refine Below.drew ?_) | (with_reducible refine below_dN ?_ _) | (apply below_thenA; assumption) | omega | (simp; done) | (simp; omega) | (simp [*]; done)))⟩
    · obtain rfl := h2 hc2
      have HC2 := Lib.hid hc2
      clear h1 h2 hc2
      go_wp2_with fail
      simp only [bodyPost]
      rw [EQ.out]
      exact ⟨trivial, fun h => absurd h.2 HC2.out, fun _ => by rw [if_pos HC1.out], hB2⟩
  · obtain rfl := h2 hc1
    have HC1 := Lib.hid hc1
    clear h1 h2 hc1
    go_wp2_with fail
    simp only [bodyPost]
    rw [EQ.out]
    exact ⟨trivial, fun h => absurd h.1 HC1.out, fun _ => by rw [if_neg HC1.out], hB⟩
end
end Go.Proofs.Ythffphcgkmjhbaa
