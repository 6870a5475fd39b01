/-
  Package share: Even; the laws' 'same' and 'speaks'.
-/
import Derived.Test.YthffphcgkmjhbaaShB
import Derived.Deep.QuietTactic
namespace Go.Proofs.Ythffphcgkmjhbaa
open Go.RowKit
set_option linter.unusedSimpArgs false
set_option linter.unusedVariables false

set_option maxRecDepth 100000 in
set_option maxHeartbeats 1600000 in
theorem sh_same (ao bo : Option Addr) (k ca cb : Nat) (xs : List Int) (hk2 : k ≤ 1000000) (w : World) (hx : RowI w ao k xs) (hy : RowI w bo k xs) :
    Calls Try.prog 87 #[.slice ao k ca, .slice bo k cb] w fun e w' => e = .returned (.bool true) ∧ Below w.heap.size w w' := by
  have HX := Lib.hid hx
  have HY := Lib.hid hy
  clear hx hy
  go_enter Try.func87, Try.ntmps87
  go_wp2_with fail
  go_loopg [5] k (fun gk s5 wr => ∃ (j : Nat), j ≤ k ∧ gk = k - j ∧ s5 = .int .i64 ((j : Int)) ∧ Below w.heap.size w wr)
  case atStart => exact ⟨0, by omega, by omega, rfl, Below.refl _ _⟩
  case round =>
    obtain ⟨j, hj, rfl, rfl, hB⟩ := hrel
    by_cases hjk : j < k
    · have ix : (j : Int) < (k : Int) := by omega
      obtain ⟨g, off, rfl, _, hcx⟩ := (HX.out.below hB).at hjk
      obtain ⟨g2, off2, rfl, _, hcy⟩ := (HY.out.below hB).at hjk
      obtain ⟨x, ex⟩ : ∃ x, xs.getD j 0 = x := ⟨_, rfl⟩
      rw [ex] at hcx hcy
      clear ex
      go_wp2_with fail
      go_quiet (fail)
      go_wp2_with fail
      go_roundg (k - (j + 1))
      case measure => omega
      case rel => exact ⟨j + 1, by omega, rfl, by go_num, below_dN hB _⟩
    · obtain rfl : j = k := by omega
      have ix : ¬ (j : Int) < (j : Int) := by omega
      go_wp2_with fail
      go_ret
      exact ⟨rfl, hB⟩
def ones (n : Nat) : List Int := List.replicate n 1
/-- A new block of n cells, of which the first j are 1. -/
def OnesAt (w : World) (g n j : Nat) : Prop := ∃ cs, Blk w g cs 2 ∧ cs.size = n ∧ ∀ i, i < j → cs[i]? = some (.int .i64 1)
theorem OnesAt.step {w : World} {g n j : Nat} (h : OnesAt w g n j) (hj : j < n) : OnesAt (w.setCell ⟨g, j, none⟩ (.int .i64 1)) g n (j + 1) := by
  obtain ⟨cs, h1, h2, h3⟩ := h
  refine ⟨cs.setIfInBounds j (.int .i64 1), h1.set j _, by simp [h2], fun i hi => ?_⟩
  rw [Array.getElem?_setIfInBounds]
  by_cases e : j = i
  · rw [if_pos e, if_pos (by omega)]
  · rw [if_neg e]
    exact h3 i (by omega)
theorem OnesAt.row {w : World} {g n : Nat} (h : OnesAt w g n n) : RowI w (some ⟨g, 0, none⟩) n (ones n) := by
  obtain ⟨cs, h1, h2, h3⟩ := h
  refine ⟨by simp [ones], fun _ => ⟨g, 0, rfl, h1.lt, fun i hi => ?_⟩⟩
  rw [Nat.zero_add]
  have e : (ones n).getD i 0 = 1 := by simp [ones, List.getD, hi]
  rw [e]
  exact h1.cell i _ (h3 i hi)
theorem fits_ones (n : Nat) : Fits (ones n) := by
  intro i
  by_cases hi : i < n
  · have e : (ones n).getD i 0 = 1 := by simp [ones, List.getD, hi]
    rw [e]; omega
  · have e : (ones n).getD i 0 = 0 := by simp [ones, List.getD, hi]
    rw [e]; omega
set_option maxRecDepth 100000 in
set_option maxHeartbeats 3200000 in
theorem sh_even (t : Int) (n : Nat) (hn : n ≤ 1024) (ht : IFit t) (w : World) :
    Calls Try.prog 88 #[.int .i64 t, .int .i64 ((n : Int))] w (SplitAns t (ones n) n w) := by
  obtain ⟨i0, hi, hz0, hz1, hz2⟩ := info_parts (show (Try.prog.info? 2).map (fun i => (i.zero, i.size, i.bytes)) = some (some (.int .i64 0), 1, 8) by kernel_rfl)
  obtain ⟨Q, eQ⟩ : ∃ Q, Q = SplitAns t (ones n) n w := ⟨_, rfl⟩
  rw [← eQ]
  have EQ := Lib.hid eQ
  have SP := fun W' hx => sh_split t (some ⟨w.heap.size, 0, none⟩) n n (ones n) (by omega) ht (fits_ones n) W' hx
  have ix1 : ¬ (n : Int) < 0 := by omega
  have ix2 : ¬ (1024 : Int) < (n : Int) := by omega
  clear eQ
  go_enter Try.func88, Try.ntmps88
  go_wp2_with (at_make; refine wpList_make_row _ rfl _ _ 82 rfl 2 i0 (.int .i64 0) Try.underlying82 hi hz0 hz1 rfl _ _ n rfl rfl ?b2 ?b3 ?_)
  case b2 => omega
  case b3 => omega
  have h0 : OnesAt (w.alloc (.cells (madeCells #[.int .i64 0] n) 2)) w.heap.size n 0 := ⟨_, Blk.new w _ _ _ rfl, size_madeCells _ _, fun i hi => by omega⟩
  have hB : Below w.heap.size w (w.alloc (.cells (madeCells #[.int .i64 0] n) 2)) := (by repeat' (first | (with_reducible exact Below.refl _ _) | (with_reducible assumption) | (with_reducible refine below_alloc ?_ _ ?_) | (with_reducible refine below_set _ ?_ ?_) | (with_reducible refine Below.drew ?_) | (with_reducible refine below_dN ?_ _) | (apply below_thenA; assumption) | omega | (simp; done) | (simp; omega) | (simp [*]; done)))
  go_wp2_with fail
  go_loopg [18] n (fun gk s18 wr => ∃ (j : Nat), j ≤ n ∧ gk = n - j ∧ s18 = .int .i64 ((j : Int)) ∧ OnesAt wr w.heap.size n j ∧ Below w.heap.size w wr)
  case atStart => exact ⟨0, by omega, by omega, rfl, h0, hB⟩
  case round =>
    clear h0 hB
    obtain ⟨j, hj, rfl, rfl, h0, hB⟩ := hrel
    by_cases hjk : j < n
    · have ix : (j : Int) < (n : Int) := by omega
      have hst := h0.step hjk
      obtain ⟨cs, h1, h2, h3⟩ := h0
      obtain ⟨y, c0⟩ := h1.cellx j (by omega)
      have f0 := h1.free j
      clear h3 h1 h2
      go_wp2_with fail
      go_roundg (n - (j + 1))
      case measure => omega
      case rel => exact ⟨j + 1, by omega, rfl, by go_num, hst, hB.setCell (p := ⟨w.heap.size, j, none⟩) (Nat.le_refl _) _⟩
    · obtain rfl : j = n := by omega
      have ix : ¬ (j : Int) < (j : Int) := by omega
      go_wp2_with fail
      refine (SP _ h0.row).mono ?_
      rintro e w2 ⟨ao, m, cap, ys, rfl, a1, a2, a3, a4, a5, hb⟩
      go_wp2_with fail
      rw [EQ.out]
      exact ⟨ao, m, cap, ys, rfl, a1, a2, a3, a4, a5, hB.trans (hb.mono hB.size)⟩
theorem row_of_blk {w : World} {g : Nat} {cs : Array Value} (xs : List Int) (n : Nat) (hn : xs.length = n) (h : Blk w g cs 2) (e : cs.toList = i64s xs) : RowI w (some ⟨g, 0, none⟩) n xs := by
  refine ⟨hn, fun _ => ⟨g, 0, rfl, h.lt, fun i hi => ?_⟩⟩
  rw [Nat.zero_add]
  refine h.cell i _ ?_
  rw [← Array.getElem?_toList, e]
  unfold i64s
  rw [List.getElem?_map]
  have hx : i < xs.length := by omega
  simp [List.getD, hx]
theorem fits_list {xs : List Int} (h : ∀ x ∈ xs, -9223372036854775808 ≤ x ∧ x ≤ 9223372036854775807) : Fits xs := by
  intro i
  simp only [List.getD]
  cases e : xs[i]? with
  | none => simp
  | some x => exact h x (List.mem_of_getElem? e)
set_option maxRecDepth 100000 in
set_option maxHeartbeats 3200000 in
theorem speaks05 (w : World) : Calls Try.prog 84 #[] w fun e w' => e = .returned (.bool true) ∧ Below w.heap.size w w' := by
  have f1 : Fits [1, 1, 1] := fits_list (by intro x hx; simp at hx; omega)
  have f2 : Fits [-1] := fits_list (by intro x hx; simp at hx; omega)
  have e1 : shE 10 [1, 1, 1] 3 = 0 := by decide
  have e2 : shE (-10) (ones 3) 3 = 0 := by decide
  have e3 : shE 1 [-1] 1 = 1 := by decide
  have p1 : partsN 10 (pre [1, 1, 1] 3) [1, 1, 1] 3 = [3, 3, 4] := by decide
  have p2 : partsN (-10) (pre (ones 3) 3) (ones 3) 3 = [-4, -3, -3] := by decide
  have S1 := fun g W (h : Blk W g #[.int .i64 1, .int .i64 1, .int .i64 1] 2) => sh_split 10 (some ⟨g, 0, none⟩) 3 3 [1, 1, 1] (by omega) (by unfold IFit; omega) f1 W (row_of_blk [1, 1, 1] 3 rfl h rfl)
  have S2 := fun W => sh_even (-10) 3 (by omega) (by unfold IFit; omega) W
  have S3 := fun g W (h : Blk W g #[.int .i64 (-1)] 2) => sh_split 1 (some ⟨g, 0, none⟩) 1 1 [-1] (by omega) (by unfold IFit; omega) f2 W (row_of_blk [-1] 1 rfl h rfl)
  have SA := fun ao ca g W (hx : RowI W ao 3 [3, 3, 4]) (h : Blk W g #[.int .i64 3, .int .i64 3, .int .i64 4] 2) => sh_same ao (some ⟨g, 0, none⟩) 3 ca 3 [3, 3, 4] (by omega) W hx (row_of_blk [3, 3, 4] 3 rfl h rfl)
  have SB := fun ao ca g W (hx : RowI W ao 3 [-4, -3, -3]) (h : Blk W g #[.int .i64 (-4), .int .i64 (-3), .int .i64 (-3)] 2) => sh_same ao (some ⟨g, 0, none⟩) 3 ca 3 [-4, -3, -3] (by omega) W hx (row_of_blk [-4, -3, -3] 3 rfl h rfl)
  unfold SplitAns at S1 S2 S3
  rw [e1, p1] at S1
  rw [e2, p2] at S2
  rw [e3] at S3
  clear e1 e2 e3 p1 p2 f1 f2
  have hB : Below w.heap.size w (w.alloc (.cells #[.int .i64 1, .int .i64 1, .int .i64 1] 2)) := (by repeat' (first | (with_reducible exact Below.refl _ _) | (with_reducible assumption) | (with_reducible refine below_alloc ?_ _ ?_) | (with_reducible refine below_set _ ?_ ?_) | (with_reducible refine Below.drew ?_) | (with_reducible refine below_dN ?_ _) | (apply below_thenA; assumption) | omega | (simp; done) | (simp; omega) | (simp [*]; done)))
  go_enter Try.func84, Try.ntmps84
  go_wp2_with fail
  refine (S1 w.heap.size _ (Blk.new w _ _ _ rfl)).mono ?_
  rintro e w1 ⟨a1, m1, c1, y1, rfl, r1, -, -, h1, -, hb⟩
  obtain ⟨rfl, rfl⟩ := h1 (by first | trivial | rfl)
  replace hB := hB.trans (hb.mono hB.size)
  clear hb h1
  go_wp2_with fail
  refine (S2 _).mono ?_
  rintro e w2 ⟨a2, m2, c2, y2, rfl, r2, -, -, h1, -, hb⟩
  obtain ⟨rfl, rfl⟩ := h1 (by first | trivial | rfl)
  replace hB := hB.trans (hb.mono hB.size)
  replace r1 := r1.below hb
  clear hb h1
  have hb4 : Below w2.heap.size w2 (w2.alloc (.cells #[.int .i64 (-1)] 2)) := (by repeat' (first | (with_reducible exact Below.refl _ _) | (with_reducible assumption) | (with_reducible refine below_alloc ?_ _ ?_) | (with_reducible refine below_set _ ?_ ?_) | (with_reducible refine Below.drew ?_) | (with_reducible refine below_dN ?_ _) | (apply below_thenA; assumption) | omega | (simp; done) | (simp; omega) | (simp [*]; done)))
  go_wp2_with fail
  refine (S3 w2.heap.size _ (Blk.new w2 _ _ _ rfl)).mono ?_
  rintro e w3 ⟨a3, m3, c3, y3, rfl, -, -, -, -, h1, hb⟩
  obtain ⟨rfl, -⟩ := h1 (by decide)
  have hb5 := hb4.trans (hb.mono hb4.size)
  replace hB := hB.trans (hb5.mono hB.size)
  replace r1 := r1.below hb5
  replace r2 := r2.below hb5
  clear hb hb4 hb5 h1 S1 S2 S3
  have hb4 : Below w3.heap.size w3 (w3.alloc (.cells #[.int .i64 3, .int .i64 3, .int .i64 4] 2)) := (by repeat' (first | (with_reducible exact Below.refl _ _) | (with_reducible assumption) | (with_reducible refine below_alloc ?_ _ ?_) | (with_reducible refine below_set _ ?_ ?_) | (with_reducible refine Below.drew ?_) | (with_reducible refine below_dN ?_ _) | (apply below_thenA; assumption) | omega | (simp; done) | (simp; omega) | (simp [*]; done)))
  replace r1 := r1.below hb4
  replace r2 := r2.below hb4
  replace hB := hB.trans (hb4.mono hB.size)
  clear hb4
  go_wp2_with fail
  refine (SA a1 c1 w3.heap.size _ r1 (Blk.new w3 _ _ _ rfl)).mono ?_
  rintro e w4 ⟨rfl, hb⟩
  have hb4 : Below w4.heap.size w4 (w4.alloc (.cells #[.int .i64 (-4), .int .i64 (-3), .int .i64 (-3)] 2)) := (by repeat' (first | (with_reducible exact Below.refl _ _) | (with_reducible assumption) | (with_reducible refine below_alloc ?_ _ ?_) | (with_reducible refine below_set _ ?_ ?_) | (with_reducible refine Below.drew ?_) | (with_reducible refine below_dN ?_ _) | (apply below_thenA; assumption) | omega | (simp; done) | (simp; omega) | (simp [*]; done)))
  replace r2 := (r2.below hb).below hb4
  replace hB := hB.trans (hb.mono hB.size)
  replace hB := hB.trans (hb4.mono hB.size)
  clear hb4 hb
  go_wp2_with fail
  refine (SB a2 c2 w4.heap.size _ r2 (Blk.new w4 _ _ _ rfl)).mono ?_
  rintro e w5 ⟨rfl, hb⟩
  replace hB := hB.trans (hb.mono hB.size)
  go_wp2_with fail
  go_ret
  exact ⟨rfl, hB⟩
end Go.Proofs.Ythffphcgkmjhbaa
