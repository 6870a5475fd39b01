/-
  The reference of layer 20: Spaces.
-/
import Derived.Test.YthofammjbicogaaYFlL
namespace Go.Proofs.Ythofammjbicogaa
open Go.RowKit
set_option linter.unusedSimpArgs false
set_option linter.unusedVariables false

theorem made1 (n : Nat) : (madeCells #[.int .i64 0] n).toList = i64s (List.replicate n 0) := by
  rw [toList_madeCells_one]
  simp [i64s]
theorem BlkI.made {w : World} {B g n : Nat} (h : w.ownsRow B 2 1 (.slice (some ⟨g, 0, none⟩) n n) n (madeCells #[.int .i64 0] n).toList) : BlkI w g (List.replicate n 0) := by
  rcases h.2 with ⟨e, _⟩ | ⟨g', c, cur, e, _, hg, hl, hm, hs, ht⟩
  · simp at e
  · obtain ⟨rfl, rfl⟩ : g = g' ∧ n = c := by simpa using e
    rw [List.take_of_length_le (by rw [Array.length_toList]; omega), made1] at ht
    unfold BlkI Blk
    rw [hg, ← ht]
theorem BlkI.lt {w : World} {g : Nat} {xs : List Int} (h : BlkI w g xs) : g < w.heap.size := Blk.lt h
/-- The parts laid from the second place on. -/
def midL (l : List Int) (n : Nat) : Nat → List Int
  | 0 => zerL n
  | j + 1 => (midL l n j).set (j + 1) (l.getD j 0)
theorem midL_len (l : List Int) (n : Nat) : ∀ j, (midL l n j).length = n + 1
  | 0 => by simp [midL, zerL]
  | j + 1 => by unfold midL; rw [List.length_set]; exact midL_len l n j
theorem midL_get (l : List Int) (n : Nat) : ∀ j, j < n → ∀ i, (midL l n j).getD i 0 = if 1 ≤ i ∧ i ≤ j then l.getD (i - 1) 0 else 0
  | 0, _, i => by
    rw [if_neg (by omega)]
    exact getD_rep _ _
  | j + 1, h, i => by
    show ((midL l n j).set (j + 1) (l.getD j 0)).getD i 0 = _
    rw [getD_set, midL_len, midL_get l n j (by omega) i]
    by_cases e : j + 1 = i
    · subst e
      rw [if_pos ⟨rfl, by omega⟩, if_pos (by omega)]
      rfl
    · rw [if_neg (fun x => e x.1)]
      by_cases h1 : 1 ≤ i ∧ i ≤ j
      · rw [if_pos h1, if_pos (by omega)]
      · rw [if_neg h1, if_neg (by omega)]
theorem between_get (l : List Int) (i : Nat) : (0 :: l ++ [0]).getD i 0 = if 1 ≤ i ∧ i ≤ l.length then l.getD (i - 1) 0 else 0 := by
  match i with
  | 0 => simp [List.getD]
  | i + 1 =>
    have e : (0 :: l ++ [0]).getD (i + 1) 0 = (l ++ [0]).getD i 0 := by simp [List.getD]
    rw [e]
    by_cases hi : i < l.length
    · rw [if_pos (by omega)]; simp [List.getD, List.getElem?_append_left hi]
    · rw [if_neg (by omega)]
      simp only [List.getD]
      rw [List.getElem?_append_right (by omega)]
      cases h2 : (i - l.length) with
      | zero => rfl
      | succ m => rfl
/-- What the reference's Spaces leaves: the same, but for the last. -/
def SpRef (f : Int) (n : Nat) (way : Int) (w : World) (e : Ending) (w' : World) : Prop :=
  ∃ ao cap L, e = .returned (.slice ao (n + 1) cap) ∧ RowI w' ao (n + 1) L ∧ (∀ i, i < n → L.getD i 0 = (spL f n way).getD i 0) ∧ Below w.heap.size w w'
theorem zset (n i : Nat) (y : Int) {j : Nat} (h : j ≠ i) : ((zerL n).set i y).getD j 0 = 0 := by
  rw [getD_set, if_neg (fun x => h x.1.symm)]
  exact getD_rep _ _
set_option maxRecDepth 100000 in
set_option maxHeartbeats 3200000 in
theorem ref20_plain (f way : Int) (n : Nat) (hn : 1 ≤ n) (hn2 : n ≤ 400) (hf : lenB f = true) (w : World)
    (h : way = 2 ∨ (way = 3 ∨ f ≤ 0 ∧ (way = 5 ∨ way = 6)) ∨ (way < 1 ∨ 6 < way ∨ way = 1 ∨ way = 4 ∧ f ≤ 0 ∨ way = 4 ∧ 0 < f ∧ n = 1)) :
    Calls Try.prog 73 #[.int .i64 f, .int .i64 ((n : Int)), .int .i64 way] w (SpRef f n way w) := by
  obtain ⟨i0, hi, hz0, hz1, hz2⟩ := info_parts (show (Try.prog.info? 2).map (fun i => (i.zero, i.size, i.bytes)) = some (some (.int .i64 0), 1, 8) by kernel_rfl)
  have hfin : ∀ W L, BlkI W w.heap.size L → L.length = n + 1 → (∀ i, i < n → L.getD i 0 = (spL f n way).getD i 0) → Below w.heap.size w W → SpRef f n way w (.returned (.slice (some ⟨w.heap.size, 0, none⟩) (n + 1) (n + 1))) W := fun W L h1 h2 h3 h4 => ⟨_, _, L, rfl, h1.row h2, h3, h4⟩
  have hsp : ∀ i, i < n → (spL f n way).getD i 0 = if i = 0 ∧ way = 2 then f else if i = 0 ∧ (way = 3 ∨ f ≤ 0 ∧ (way = 5 ∨ way = 6)) then f / 2 else 0 := by
    intro i hi
    unfold spL
    rcases h with h | h | h
    · rw [if_pos h, getD_set]
      by_cases e : i = 0
      · subst e; rw [if_pos ⟨rfl, by simp [zerL]⟩, if_pos ⟨rfl, h⟩]
      · rw [if_neg (fun x => e x.1.symm), if_neg (fun x => e x.1), if_neg (fun x => e x.1)]; exact getD_rep _ _
    · have h2 : way ≠ 2 := by omega
      rw [if_neg h2, if_pos h, getD_set]
      by_cases e : i = 0
      · subst e; rw [if_pos ⟨rfl, by simp [zerL]⟩, if_neg (fun x => h2 x.2), if_pos ⟨rfl, h⟩]
      · rw [if_neg (fun x => e x.1.symm), if_neg (fun x => e x.1), if_neg (fun x => e x.1)]; exact getD_rep _ _
    · rw [if_neg (by omega), if_neg (by omega), if_neg (by omega), if_neg (by omega), if_neg (by omega), if_neg (by omega), if_neg (by omega)]
      exact getD_rep _ _
  have HH := fun W => ref20_half f ((lenB_iff f).1 hf) W
  have hfl := (lenB_iff f).1 hf
  unfold LenB at hfl
  have wr : wrap64 (f - f / 2) = f - f / 2 := by simp only [wrap64]; omega
  have wr2 : IntKind.i64.wrap (f - f / 2) = f - f / 2 := by simp [IntKind.wrap, IntKind.bits, IntKind.signed]; omega
  obtain ⟨Q, eQ⟩ : ∃ Q : Ending → World → Prop, Q = SpRef f n way w := ⟨_, rfl⟩
  rw [← eQ] at hfin ⊢
  have HFIN := Lib.hid hfin
  have HSP := Lib.hid hsp
  clear eQ hfin hsp hf hfl
  by_cases hn1 : n = 1
  · subst hn1
    rcases h with rfl | h | h
    · by_cases hf0 : f ≤ 0
      all_goals
        go_enter Try.func73, Try.ntmps73
        go_wp2_with (at_make; refine wpList_make_full _ rfl _ _ 31 rfl w.heap.size 2 i0 (.int .i64 0) 1 Try.underlying31 hi hz0 hz1 _ _ _ _ 2 rfl rfl rfl rfl (by rw [hz2]; omega) (by unfold maxLen; omega) (Nat.le_refl _) ?_)
        intro w1 hown hgr
        have hB : Below w.heap.size w w1 := (Below.refl _ w).grown hgr (Nat.le_refl _) (fun _ h => by cases h)
        have t7 : BlkI w1 w.heap.size (zerL 1) := BlkI.made hown
        have c0 := t7.cell (i := 0) (by simp [zerL])
        have c0 : w1.cell? ⟨w.heap.size, 0, none⟩ = some (.int .i64 0) := by rw [c0, zerL, getD_rep]
        have f0 := t7.free 0
        have T := Lib.hid (t7.put 0 f)
        clear hown hgr t7
        go_wp2_with fail
        refine HFIN.out _ _ T.out (by simp [zerL]) (fun i hi => ?_) (hB.setCell (p := ⟨w.heap.size, 0, none⟩) (Nat.le_refl _) _)
        rw [HSP.out i hi, getD_set]
        by_cases e : i = 0
        · subst e; simp [zerL]
        · rw [if_neg (fun x => e x.1.symm), if_neg (fun x => e x.1), if_neg (fun x => e x.1)]; exact getD_rep _ _
    · have hcase : (way = 3 ∧ f ≤ 0) ∨ (way = 3 ∧ ¬ f ≤ 0) ∨ (way = 5 ∧ f ≤ 0) ∨ (way = 6 ∧ f ≤ 0) := by omega
      have HW := Lib.hid h
      clear h
      rcases hcase with ⟨rfl, hf0⟩ | ⟨rfl, hf0⟩ | ⟨rfl, hf0⟩ | ⟨rfl, hf0⟩
      all_goals
        go_enter Try.func73, Try.ntmps73
        go_wp2_with (at_make; refine wpList_make_full _ rfl _ _ 31 rfl w.heap.size 2 i0 (.int .i64 0) 1 Try.underlying31 hi hz0 hz1 _ _ _ _ 2 rfl rfl rfl rfl (by rw [hz2]; omega) (by unfold maxLen; omega) (Nat.le_refl _) ?_)
        intro w1 hown hgr
        have hB : Below w.heap.size w w1 := (Below.refl _ w).grown hgr (Nat.le_refl _) (fun _ h => by cases h)
        have t7 : BlkI w1 w.heap.size (zerL 1) := BlkI.made hown
        have c0 := t7.cell (i := 0) (by simp [zerL])
        have c0 : w1.cell? ⟨w.heap.size, 0, none⟩ = some (.int .i64 0) := by rw [c0, zerL, getD_rep]
        have f0 := t7.free 0
        have t8 := t7.put 0 (f / 2)
        have cn := t8.cell (i := 1) (by simp [zerL])
        rw [zset 1 0 _ (by omega)] at cn
        have fn := t8.free 1
        have T := Lib.hid (t8.put 1 (f - f / 2))
        clear hown hgr t7 t8
        go_wp2_with fail
        refine (HH _).mono ?_
        rintro e w2 ⟨rfl, rfl⟩
        go_wp2_with fail
        refine (HH _).mono ?_
        rintro e w2 ⟨rfl, rfl⟩
        go_wp2_with fail
        refine HFIN.out _ _ T.out (by simp [zerL]) (fun i hi => ?_) ((hB.setCell (p := ⟨w.heap.size, 0, none⟩) (Nat.le_refl _) _).setCell (p := ⟨w.heap.size, 1, none⟩) (Nat.le_refl _) _)
        rw [HSP.out i hi, getD_set, if_neg (fun x => absurd x.1 (by omega)), getD_set]
        by_cases e : i = 0
        · subst e; rw [if_pos ⟨rfl, by simp [zerL]⟩, if_neg (by omega), if_pos ⟨rfl, HW.out⟩]
        · rw [if_neg (fun x => e x.1.symm), if_neg (fun x => e x.1), if_neg (fun x => e x.1)]; exact getD_rep _ _
    · have hcase : (way < 1 ∧ f ≤ 0 ∧ way ≠ 4) ∨ (way < 1 ∧ ¬ f ≤ 0 ∧ way ≠ 4) ∨ (6 < way ∧ f ≤ 0 ∧ way ≠ 4) ∨ (6 < way ∧ ¬ f ≤ 0 ∧ way ≠ 4) ∨ (way = 1 ∧ f ≤ 0) ∨ (way = 1 ∧ ¬ f ≤ 0) ∨ (way = 4 ∧ f ≤ 0) ∨ (way = 4 ∧ ¬ f ≤ 0) := by omega
      have hns : ∀ i, i < 1 → (spL f 1 way).getD i 0 = 0 := fun i hi => by rw [HSP.out i hi, if_neg (by omega), if_neg (by omega)]
      have HNS := Lib.hid hns
      clear h hns
      rcases hcase with ⟨h1, hf0, h4⟩ | ⟨h1, hf0, h4⟩ | ⟨h1, hf0, h4⟩ | ⟨h1, hf0, h4⟩ | ⟨rfl, hf0⟩ | ⟨rfl, hf0⟩ | ⟨rfl, hf0⟩ | ⟨rfl, hf0⟩
      all_goals
        try (have h16 : ¬ way < 1 := by omega)
        go_enter Try.func73, Try.ntmps73
        go_wp2_with (at_make; refine wpList_make_full _ rfl _ _ 31 rfl w.heap.size 2 i0 (.int .i64 0) 1 Try.underlying31 hi hz0 hz1 _ _ _ _ 2 rfl rfl rfl rfl (by rw [hz2]; omega) (by unfold maxLen; omega) (Nat.le_refl _) ?_)
        intro w1 hown hgr
        have hB : Below w.heap.size w w1 := (Below.refl _ w).grown hgr (Nat.le_refl _) (fun _ h => by cases h)
        have t7 : BlkI w1 w.heap.size (zerL 1) := BlkI.made hown
        have cn := t7.cell (i := 1) (by simp [zerL])
        have cn : w1.cell? ⟨w.heap.size, 1, none⟩ = some (.int .i64 0) := by rw [cn, zerL, getD_rep]
        have fn := t7.free 1
        have T := Lib.hid (t7.put 1 f)
        clear hown hgr t7
        go_wp2_with fail
        refine HFIN.out _ _ T.out (by simp [zerL]) (fun i hi => ?_) (hB.setCell (p := ⟨w.heap.size, 1, none⟩) (Nat.le_refl _) _)
        rw [HNS.out i hi]
        exact zset 1 1 _ (by omega)
  · have hn1' : ¬ (n : Int) = 1 := by omega
    have hnn : (n : Int) < (n : Int) + 1 := by omega
    have hnp : (0 : Int) < (n : Int) := by omega
    have hnq : (0 : Int) < (n : Int) + 1 := by omega
    rcases h with rfl | h | h
    · by_cases hf0 : f ≤ 0
      all_goals
        go_enter Try.func73, Try.ntmps73
        go_wp2_with (at_make; refine wpList_make_full _ rfl _ _ 31 rfl w.heap.size 2 i0 (.int .i64 0) 1 Try.underlying31 hi hz0 hz1 _ _ _ _ (n + 1) rfl rfl rfl rfl (by rw [hz2]; omega) (by unfold maxLen; omega) (Nat.le_refl _) ?_)
        intro w1 hown hgr
        have hB : Below w.heap.size w w1 := (Below.refl _ w).grown hgr (Nat.le_refl _) (fun _ h => by cases h)
        have t7 : BlkI w1 w.heap.size (zerL n) := BlkI.made hown
        have c0 := t7.cell (i := 0) (by simp [zerL])
        have c0 : w1.cell? ⟨w.heap.size, 0, none⟩ = some (.int .i64 0) := by rw [c0, zerL, getD_rep]
        have f0 := t7.free 0
        have T := Lib.hid (t7.put 0 f)
        clear hown hgr t7
        go_wp2_with fail
        refine HFIN.out _ _ T.out (by simp [zerL]) (fun i hi => ?_) (hB.setCell (p := ⟨w.heap.size, 0, none⟩) (Nat.le_refl _) _)
        rw [HSP.out i hi, getD_set]
        by_cases e : i = 0
        · subst e; simp [zerL]
        · rw [if_neg (fun x => e x.1.symm), if_neg (fun x => e x.1), if_neg (fun x => e x.1)]; exact getD_rep _ _
    · have hcase : (way = 3 ∧ f ≤ 0) ∨ (way = 3 ∧ ¬ f ≤ 0) ∨ (way = 5 ∧ f ≤ 0) ∨ (way = 6 ∧ f ≤ 0) := by omega
      have HW := Lib.hid h
      clear h
      rcases hcase with ⟨rfl, hf0⟩ | ⟨rfl, hf0⟩ | ⟨rfl, hf0⟩ | ⟨rfl, hf0⟩
      all_goals
        go_enter Try.func73, Try.ntmps73
        go_wp2_with (at_make; refine wpList_make_full _ rfl _ _ 31 rfl w.heap.size 2 i0 (.int .i64 0) 1 Try.underlying31 hi hz0 hz1 _ _ _ _ (n + 1) rfl rfl rfl rfl (by rw [hz2]; omega) (by unfold maxLen; omega) (Nat.le_refl _) ?_)
        intro w1 hown hgr
        have hB : Below w.heap.size w w1 := (Below.refl _ w).grown hgr (Nat.le_refl _) (fun _ h => by cases h)
        have t7 : BlkI w1 w.heap.size (zerL n) := BlkI.made hown
        have c0 := t7.cell (i := 0) (by simp [zerL])
        have c0 : w1.cell? ⟨w.heap.size, 0, none⟩ = some (.int .i64 0) := by rw [c0, zerL, getD_rep]
        have f0 := t7.free 0
        have t8 := t7.put 0 (f / 2)
        have cn := t8.cell (i := n) (by simp [zerL])
        rw [zset n 0 _ (by omega)] at cn
        have fn := t8.free n
        have T := Lib.hid (t8.put n (f - f / 2))
        clear hown hgr t7 t8
        go_wp2_with fail
        refine (HH _).mono ?_
        rintro e w2 ⟨rfl, rfl⟩
        go_wp2_with fail
        refine (HH _).mono ?_
        rintro e w2 ⟨rfl, rfl⟩
        go_wp2_with fail
        refine HFIN.out _ _ T.out (by simp [zerL]) (fun i hi => ?_) ((hB.setCell (p := ⟨w.heap.size, 0, none⟩) (Nat.le_refl _) _).setCell (p := ⟨w.heap.size, n, none⟩) (Nat.le_refl _) _)
        rw [HSP.out i hi, getD_set, if_neg (fun x => absurd x.1 (by omega)), getD_set]
        by_cases e : i = 0
        · subst e; rw [if_pos ⟨rfl, by simp [zerL]⟩, if_neg (by omega), if_pos ⟨rfl, HW.out⟩]
        · rw [if_neg (fun x => e x.1.symm), if_neg (fun x => e x.1), if_neg (fun x => e x.1)]; exact getD_rep _ _
    · have hcase : (way < 1 ∧ f ≤ 0 ∧ way ≠ 4) ∨ (way < 1 ∧ ¬ f ≤ 0 ∧ way ≠ 4) ∨ (6 < way ∧ f ≤ 0 ∧ way ≠ 4) ∨ (6 < way ∧ ¬ f ≤ 0 ∧ way ≠ 4) ∨ (way = 1 ∧ f ≤ 0) ∨ (way = 1 ∧ ¬ f ≤ 0) ∨ (way = 4 ∧ f ≤ 0) := by omega
      have hns : ∀ i, i < n → (spL f n way).getD i 0 = 0 := fun i hi => by rw [HSP.out i hi, if_neg (by omega), if_neg (by omega)]
      have HNS := Lib.hid hns
      clear h hns
      rcases hcase with ⟨h1, hf0, h4⟩ | ⟨h1, hf0, h4⟩ | ⟨h1, hf0, h4⟩ | ⟨h1, hf0, h4⟩ | ⟨rfl, hf0⟩ | ⟨rfl, hf0⟩ | ⟨rfl, hf0⟩
      all_goals
        try (have h16 : ¬ way < 1 := by omega)
        go_enter Try.func73, Try.ntmps73
        go_wp2_with (at_make; refine wpList_make_full _ rfl _ _ 31 rfl w.heap.size 2 i0 (.int .i64 0) 1 Try.underlying31 hi hz0 hz1 _ _ _ _ (n + 1) rfl rfl rfl rfl (by rw [hz2]; omega) (by unfold maxLen; omega) (Nat.le_refl _) ?_)
        intro w1 hown hgr
        have hB : Below w.heap.size w w1 := (Below.refl _ w).grown hgr (Nat.le_refl _) (fun _ h => by cases h)
        have t7 : BlkI w1 w.heap.size (zerL n) := BlkI.made hown
        have cn := t7.cell (i := n) (by simp [zerL])
        have cn : w1.cell? ⟨w.heap.size, n, none⟩ = some (.int .i64 0) := by rw [cn, zerL, getD_rep]
        have fn := t7.free n
        have T := Lib.hid (t7.put n f)
        clear hown hgr t7
        go_wp2_with fail
        refine HFIN.out _ _ T.out (by simp [zerL]) (fun i hi => ?_) (hB.setCell (p := ⟨w.heap.size, n, none⟩) (Nat.le_refl _) _)
        rw [HNS.out i hi]
        exact zset n n _ (by omega)
end Go.Proofs.Ythofammjbicogaa
