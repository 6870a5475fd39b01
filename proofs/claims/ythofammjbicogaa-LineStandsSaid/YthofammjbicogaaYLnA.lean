/-
  Package line: width, segment, high.
-/
import Derived.Test.YthofammjbicogaaYLnM
namespace Go.Proofs.Ythofammjbicogaa
open Go.RowKit
set_option linter.unusedSimpArgs false
set_option linter.unusedVariables false

theorem fix_add2 (g : Nat) (a b : Int) (ha : LenB a) (hb : IFit b) (w : World) (h : Blk w g #[.int .i64 a, .int .i64 b] 2) :
    Calls Try.prog 57 #[.slice (some ⟨g, 0, none⟩) 2 2] w (Gives (lenN (a + b)) (lenE (a + b)) w) := by
  have ep : addP 0 [a, b] = if lenB (a + b) then some (a + b) else none := by
    show (if lenB (0 + a) then (if lenB (0 + a + b) then some (0 + a + b) else none) else none) = _
    rw [Int.zero_add, (lenB_iff _).2 ha]; rfl
  have e1 : addN [a, b] = lenN (a + b) := by unfold addN lenN; rw [ep]; split <;> rfl
  have e2 : addE [a, b] = lenE (a + b) := by unfold addE lenE; rw [ep]; split <;> rfl
  have := fix_add_any g 0 2 2 [a, b] (by omega) w (ints_blk [a, b] rfl h rfl (by intro x hx; simp at hx; rcases hx with rfl | rfl; exact ha.fit; exact hb))
  rw [e1, e2] at this
  exact this
theorem pts_none {l : List It} {a b : Nat} {j : Nat} (h : addP 0 (pts l a b j) = none) : ∀ d, addP 0 (pts l a b (j + d)) = none
  | 0 => h
  | d + 1 => by
    show addP 0 (pts l a b (j + d) ++ ptAt l b (a + (j + d))) = none
    rw [addP_app, pts_none h d]
    rfl
theorem pts_step (l : List It) (a b j : Nat) {s : Int} (h : addP 0 (pts l a b j) = some s) : addP 0 (pts l a b (j + 1)) = addP s (ptAt l b (a + j)) := by
  show addP 0 (pts l a b j ++ ptAt l b (a + j)) = _
  rw [addP_app, h]
  rfl
def WdAns (r : Option Int) (w : World) (e : Ending) (w' : World) : Prop := Gives (oN r) (oE r) w e w'
theorem WdAns.yes {r : Option Int} {s : Int} {w w' : World} (h : r = some s) (hb : Below w.heap.size w w') : WdAns r w (.returned (.int .i64 s)) w' := by
  subst h
  exact ⟨fun _ => rfl, fun h => absurd rfl h, hb⟩
theorem WdAns.no {r : Option Int} {w w' : World} (h : r = none) (hb : Below w.heap.size w w') : WdAns r w (.panicked (gave 2)) w' := by
  subst h
  exact ⟨fun h => by simp [oE] at h, fun _ => rfl, hb⟩
set_option maxRecDepth 100000 in
set_option maxHeartbeats 3200000 in
theorem ln_width (ao : Option Addr) (k cap : Nat) (l : List It) (hk : k ≤ 1000) (hl : l.length = k) (hf : ItFit l) (w : World) (hr : RowV w ao k 4 (itV l)) :
    Calls Try.prog 61 #[.slice ao k cap] w (WdAns (wd l 0 k) w) := by
  obtain ⟨Q, eQ⟩ : ∃ Q : Ending → World → Prop, Q = WdAns (wd l 0 k) w := ⟨_, rfl⟩
  rw [← eQ]
  have EQ := Lib.hid eQ
  have HR := Lib.hid hr
  have HF := Lib.hid hf
  have HL := Lib.hid hl
  clear eQ hr hf hl
  go_enter Try.func61, Try.ntmps61
  go_wp2_with fail
  go_loopg [3, 8] k (fun gk s3 s8 wr => ∃ (j : Nat) (s : Int), j ≤ k ∧ gk = k - j ∧ s3 = .int .i64 s ∧ s8 = .int .i64 ((j : Int)) ∧ addP 0 (pts l 0 k j) = some s ∧ Below w.heap.size w wr)
  case atStart => exact ⟨0, 0, by omega, by omega, rfl, rfl, rfl, Below.refl _ _⟩
  case round =>
    obtain ⟨j, s, hj, rfl, rfl, rfl, es, hB⟩ := hrel
    have hsB := hB.size
    by_cases hjk : j < k
    · have ix : (j : Int) < (k : Int) := by omega
      obtain ⟨g, off, rfl, _, hcx⟩ := (HR.out.below hB).at hjk
      have hg := itV_get l j (by rw [HL.out]; exact hjk)
      have c0 := hcx 0 (by omega)
      have c1 := hcx 1 (by omega)
      have c2 := hcx 2 (by omega)
      have c3 := hcx 3 (by omega)
      rw [hg.1, Nat.add_zero] at c0
      rw [hg.2.1] at c1
      rw [hg.2.2.1] at c2
      rw [hg.2.2.2] at c3
      have hfj := HF.out j
      have est := pts_step l 0 k j es
      have hsL : LenB s := (lenB_iff s).1 (addP_lenB (by decide) es)
      rw [Nat.zero_add] at est
      unfold ptAt at est
      obtain ⟨x, ex⟩ : ∃ x, (l.getD j it0).w = x := ⟨_, rfl⟩
      obtain ⟨y, ey⟩ : ∃ x, (l.getD j it0).s = x := ⟨_, rfl⟩
      obtain ⟨z, ez⟩ : ∃ x, (l.getD j it0).h = x := ⟨_, rfl⟩
      obtain ⟨b, eb⟩ : ∃ x, (l.getD j it0).b = x := ⟨_, rfl⟩
      rw [ex] at c0 hfj est
      rw [ey] at c1 hfj est
      rw [ez] at c2 hfj
      rw [eb] at c3
      obtain ⟨W1, eW1⟩ : ∃ W, wr.alloc (.cells #[.int .i64 x, .int .i64 y, .int .i64 z, .bool b] 47) = W := ⟨_, rfl⟩
      have t5 : Blk W1 wr.heap.size #[.int .i64 x, .int .i64 y, .int .i64 z, .bool b] 47 := by rw [← eW1]; exact Blk.new wr _ _ _ rfl
      have hb1 : Below wr.heap.size wr W1 := by rw [← eW1]; exact (by repeat' (first | (with_reducible exact Below.refl _ _) | (with_reducible assumption) | (with_reducible refine below_alloc ?_ _ ?_) | (with_reducible refine below_set _ ?_ ?_) | (with_reducible refine Below.drew ?_) | (with_reducible refine below_dN ?_ _) | (apply below_thenA; assumption) | omega | (simp; done) | (simp; omega) | (simp [*]; done)))
      have hz1 : W1.heap.size = wr.heap.size + 1 := by rw [← eW1]; simp
      have hb2 : Below W1.heap.size W1 (W1.alloc (.cells #[.int .i64 s, .int .i64 x] 2)) := (by repeat' (first | (with_reducible exact Below.refl _ _) | (with_reducible assumption) | (with_reducible refine below_alloc ?_ _ ?_) | (with_reducible refine below_set _ ?_ ?_) | (with_reducible refine Below.drew ?_) | (with_reducible refine below_dN ?_ _) | (apply below_thenA; assumption) | omega | (simp; done) | (simp; omega) | (simp [*]; done)))
      have A1 := fix_add2 W1.heap.size s x hsL hfj.1 _ (Blk.new W1 #[.int .i64 s, .int .i64 x] 2 _ rfl)
      have hB1 := hB.trans (hb1.mono hsB)
      have hB2 := hB1.trans (hb2.mono hB1.size)
      have q0 := t5.cell 0 _ rfl
      have hsx := (fix_add2 W1.heap.size s x hsL hfj.1 _ (Blk.new W1 #[.int .i64 s, .int .i64 x] 2 _ rfl))
      have HFY := Lib.hid hfj.2.1
      have ES := Lib.hid es
      clear hcx hg hfj es ex ey ez eb hsx
      cases hL1 : lenB (s + x) with
      | false =>
        have hno : wd l 0 k = none := by
          have h1 : addP 0 (pts l 0 k (j + 1)) = none := by
            rw [est]
            split
            · show (if lenB (s + x) then _ else none) = none
              rw [hL1]; rfl
            · show (if lenB (s + x) then _ else none) = none
              rw [hL1]; rfl
          have := pts_none h1 (k - (j + 1))
          rw [show j + 1 + (k - (j + 1)) = k by omega] at this
          exact this
        have HNO := Lib.hid hno
        rw [show lenE (s + x) = 2 by unfold lenE; rw [hL1]; rfl] at A1
        have A2 := A1.mono fun e w' h => (⟨h.2.1 (by decide), h.2.2⟩ : _ ∧ _)
        clear A1 est hno hL1 hz1 hsL
        go_wp2_with fail
        refine A2.mono ?_
        rintro e w2 ⟨rfl, hb⟩
        have hB3 := hB2.trans (hb.mono hB2.size)
        clear A2 hb hB hB1 hB2 hb1 hb2
        go_wp2_with fail
        simp only [bodyPost]
        exact ⟨trivial, by rw [EQ.out]; exact WdAns.no HNO.out hB3⟩
      | true =>
        have A2 := A1.mono fun e w' h => (⟨h.1 (by unfold lenE; rw [hL1]; rfl), h.2.2⟩ : _ ∧ _)
        have e1 : lenN (s + x) = s + x := by unfold lenN; rw [hL1]; rfl
        rw [e1] at A2
        have HL1 := Lib.hid hL1
        have HZ1 := Lib.hid hz1
        clear A1 e1 hz1 hL1
        go_wp2_with fail
        refine A2.mono ?_
        rintro e w2 ⟨rfl, hb⟩
        have hB3 := hB2.trans (hb.mono hB2.size)
        have t5b := (t5.below hb2).below hb
        have q1 := t5b.cell 1 _ rfl
        have hs3 := hB3.size
        clear A2 hb hB hB1 hB2 hb1 hb2 q0 t5
        by_cases hj1 : j + 1 < k
        · have ix1 : (j : Int) + 1 < (k : Int) := by omega
          have hb4 : Below w2.heap.size w2 (w2.alloc (.cells #[.int .i64 (s + x), .int .i64 y] 2)) := (by repeat' (first | (with_reducible exact Below.refl _ _) | (with_reducible assumption) | (with_reducible refine below_alloc ?_ _ ?_) | (with_reducible refine below_set _ ?_ ?_) | (with_reducible refine Below.drew ?_) | (with_reducible refine below_dN ?_ _) | (apply below_thenA; assumption) | omega | (simp; done) | (simp; omega) | (simp [*]; done)))
          have A3 := fix_add2 w2.heap.size (s + x) y ((lenB_iff _).1 HL1.out) HFY.out _ (Blk.new w2 #[.int .i64 (s + x), .int .i64 y] 2 _ rfl)
          have hB4 := hB3.trans (hb4.mono hs3)
          rw [if_pos hj1] at est
          cases hL2 : lenB (s + x + y) with
          | false =>
            have hno : wd l 0 k = none := by
              have h1 : addP 0 (pts l 0 k (j + 1)) = none := by
                rw [est]
                show (if lenB (s + x) then (if lenB (s + x + y) then _ else none) else none) = none
                rw [HL1.out, hL2]; rfl
              have := pts_none h1 (k - (j + 1))
              rw [show j + 1 + (k - (j + 1)) = k by omega] at this
              exact this
            have HNO := Lib.hid hno
            rw [show lenE (s + x + y) = 2 by unfold lenE; rw [hL2]; rfl] at A3
            have A4 := A3.mono fun e w' h => (⟨h.2.1 (by decide), h.2.2⟩ : _ ∧ _)
            clear A3 est hno hL2 hsL
            go_wp2_with fail
            refine A4.mono ?_
            rintro e w3 ⟨rfl, hb⟩
            have hB5 := hB4.trans (hb.mono hB4.size)
            clear A4 hb hB3 hB4 hb4
            go_wp2_with fail
            simp only [bodyPost]
            exact ⟨trivial, by rw [EQ.out]; exact WdAns.no HNO.out hB5⟩
          | true =>
            have hyes : addP 0 (pts l 0 k (j + 1)) = some (s + x + y) := by
              rw [est]
              show (if lenB (s + x) then (if lenB (s + x + y) then some _ else none) else none) = _
              rw [HL1.out, hL2]; rfl
            have HYES := Lib.hid hyes
            have A4 := A3.mono fun e w' h => (⟨h.1 (by unfold lenE; rw [hL2]; rfl), h.2.2⟩ : _ ∧ _)
            have e1 : lenN (s + x + y) = s + x + y := by unfold lenN; rw [hL2]; rfl
            rw [e1] at A4
            clear A3 e1 est hyes hL2 hsL
            go_wp2_with fail
            refine A4.mono ?_
            rintro e w3 ⟨rfl, hb⟩
            have hB5 := hB4.trans (hb.mono hB4.size)
            clear A4 hb hB3 hB4 hb4
            go_wp2_with fail
            go_roundg (k - (j + 1))
            case measure => omega
            case rel => exact ⟨j + 1, s + x + y, by omega, rfl, rfl, by go_num, HYES.out, hB5⟩
        · have ix1 : ¬ (j : Int) + 1 < (k : Int) := by omega
          rw [if_neg hj1] at est
          have hyes : addP 0 (pts l 0 k (j + 1)) = some (s + x) := by
            rw [est]
            show (if lenB (s + x) then some _ else none) = _
            rw [HL1.out]; rfl
          have HYES := Lib.hid hyes
          clear est hyes hsL hj1
          go_wp2_with fail
          go_roundg (k - (j + 1))
          case measure => omega
          case rel => exact ⟨j + 1, s + x, by omega, rfl, rfl, by go_num, HYES.out, hB3⟩
    · obtain rfl : j = k := by omega
      have ix : ¬ (j : Int) < (j : Int) := by omega
      have ES := Lib.hid es
      clear es
      go_wp2_with fail
      rw [EQ.out]
      exact WdAns.yes ES.out hB
set_option maxRecDepth 100000 in
set_option maxHeartbeats 1600000 in
theorem ln_segment (ao : Option Addr) (k cap f : Nat) (l : List It) (hk : k ≤ 1000) (hl : l.length = k) (hfk : f ≤ k) (w : World) (hr : RowV w ao k 4 (itV l)) :
    Calls Try.prog 60 #[.slice ao k cap, .int .i64 ((f : Int))] w fun e w' => e = .returned (.int .i64 ((seg l f : Int))) ∧ w' = w := by
  have HR := Lib.hid hr
  have HL := Lib.hid hl
  obtain ⟨E, eE⟩ : ∃ E, seg l f = E := ⟨_, rfl⟩
  rw [eE]
  have EE := Lib.hid eE
  clear hr hl eE
  go_enter Try.func60, Try.ntmps60
  go_wp2_with fail
  go_loopg [5] (k - f) (fun gk s5 wr => ∃ (i : Nat), i ≤ k ∧ gk = k - i ∧ s5 = .int .i64 ((i : Int)) ∧ seg l i = E ∧ w = wr)
  case atStart => exact ⟨f, hfk, by omega, rfl, EE.out, rfl⟩
  case round =>
    obtain ⟨i, hik, rfl, rfl, es, rfl⟩ := hrel
    by_cases hi : i < k
    · have ix : (i : Int) < (k : Int) := by omega
      obtain ⟨g, off, rfl, _, hcx⟩ := HR.out.at hi
      have hg := itV_get l i (by rw [HL.out]; exact hi)
      have c3 := hcx 3 (by omega)
      rw [hg.2.2.2] at c3
      have hil : i < l.length := by rw [HL.out]; exact hi
      cases hb : (l.getD i it0).b with
      | true =>
        rw [hb] at c3
        have e1 := seg_brk hil hb
        rw [es] at e1
        clear hcx hg hb es hil
        subst e1
        go_wp2_with fail
        go_ret
        exact ⟨by go_num, rfl⟩
      | false =>
        rw [hb] at c3
        have e1 := seg_next hil hb
        rw [es] at e1
        have E1 := Lib.hid e1
        clear hcx hg hb es hil e1
        go_wp2_with fail
        go_roundg (k - (i + 1))
        case measure => omega
        case rel => exact ⟨i + 1, by omega, rfl, by go_num, E1.out.symm, rfl⟩
    · obtain rfl : i = k := by omega
      have ix : ¬ (i : Int) < (i : Int) := by omega
      have e1 := seg_end (l := l) (i := i) (by rw [HL.out]; exact Nat.le_refl _)
      rw [es, HL.out] at e1
      clear es
      subst e1
      go_wp2_with fail
      go_ret
      exact ⟨rfl, rfl⟩
set_option maxRecDepth 100000 in
set_option maxHeartbeats 1600000 in
theorem ln_high (ao : Option Addr) (k cap : Nat) (low : Int) (l : List It) (hk : k ≤ 1000) (hl : l.length = k) (w : World) (hr : RowV w ao k 4 (itV l)) :
    Calls Try.prog 62 #[.slice ao k cap, .int .i64 low] w fun e w' => e = .returned (.int .i64 (hiF l low 0 k)) ∧ Below w.heap.size w w' := by
  have HR := Lib.hid hr
  have HL := Lib.hid hl
  clear hr hl
  go_enter Try.func62, Try.ntmps62
  go_wp2_with fail
  go_loopg [1, 9] k (fun gk s1 s9 wr => ∃ (j : Nat) (s : Int), j ≤ k ∧ gk = k - j ∧ s1 = .int .i64 s ∧ s9 = .int .i64 ((j : Int)) ∧ s = hiF l low 0 j ∧ Below w.heap.size w wr)
  case atStart => exact ⟨0, low, by omega, by omega, rfl, rfl, rfl, Below.refl _ _⟩
  case round =>
    obtain ⟨j, s, hj, rfl, rfl, rfl, es, hB⟩ := hrel
    have hsB := hB.size
    have ES := Lib.hid es
    clear es
    by_cases hjk : j < k
    · have ix : (j : Int) < (k : Int) := by omega
      obtain ⟨g, off, rfl, _, hcx⟩ := (HR.out.below hB).at hjk
      have hg := itV_get l j (by rw [HL.out]; exact hjk)
      have c0 := hcx 0 (by omega)
      have c1 := hcx 1 (by omega)
      have c2 := hcx 2 (by omega)
      have c3 := hcx 3 (by omega)
      rw [hg.1, Nat.add_zero] at c0
      rw [hg.2.1] at c1
      rw [hg.2.2.1] at c2
      rw [hg.2.2.2] at c3
      have est : hiF l low 0 (j + 1) = max s (l.getD j it0).h := by
        rw [ES.out]
        show max (hiF l low 0 j) (l.getD (0 + j) it0).h = _
        rw [Nat.zero_add]
      obtain ⟨x, ex⟩ : ∃ x, (l.getD j it0).w = x := ⟨_, rfl⟩
      obtain ⟨y, ey⟩ : ∃ x, (l.getD j it0).s = x := ⟨_, rfl⟩
      obtain ⟨z, ez⟩ : ∃ x, (l.getD j it0).h = x := ⟨_, rfl⟩
      obtain ⟨b, eb⟩ : ∃ x, (l.getD j it0).b = x := ⟨_, rfl⟩
      rw [ex] at c0
      rw [ey] at c1
      rw [ez] at c2 est
      rw [eb] at c3
      have EST := Lib.hid est
      have hB2 : Below w.heap.size w (wr.alloc (.cells #[.int .i64 x, .int .i64 y, .int .i64 z, .bool b] 47)) := hB.alloc hsB _
      clear hcx hg ex ey ez eb est hB
      go_wp2_with fail
      go_roundg (k - (j + 1))
      case measure => omega
      case rel => exact ⟨j + 1, max s z, by omega, rfl, rfl, by go_num, EST.out.symm, hB2⟩
    · obtain rfl : j = k := by omega
      have ix : ¬ (j : Int) < (j : Int) := by omega
      go_wp2_with fail
      go_ret
      exact ⟨by rw [ES.out]; rfl, hB⟩
end Go.Proofs.Ythofammjbicogaa
