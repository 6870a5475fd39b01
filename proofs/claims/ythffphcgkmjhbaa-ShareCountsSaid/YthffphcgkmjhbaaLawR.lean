/-
  The statement ShareCounts.
-/
import Derived.Test.YthffphcgkmjhbaaLawQ
namespace Go.Proofs.Ythffphcgkmjhbaa
open Go.RowKit
set_option linter.unusedSimpArgs false
set_option linter.unusedVariables false

theorem ones_get {n i : Nat} (h : i < n) : (ones n).getD i 0 = 1 := by simp [ones, List.getD, h]
theorem pre_ones (n : Nat) : ∀ k, k ≤ n → pre (ones n) k = (k : Int)
  | 0, _ => rfl
  | k + 1, h => by
    show pre (ones n) k + (ones n).getD k 0 = _
    rw [pre_ones n k (by omega), ones_get (by omega)]
    push_cast
    rfl
theorem nonneg_ones (n : Nat) : Nonneg (ones n) := fun i => by
  by_cases h : i < n
  · rw [ones_get h]; decide
  · have e : (ones n).getD i 0 = 0 := by simp [ones, List.getD, h]
    rw [e]; decide
set_option maxRecDepth 100000 in
set_option maxHeartbeats 1600000 in
theorem sh_even_neg (t n : Int) (hn : n < 0) (w : World) :
    Calls Try.prog 88 #[.int .i64 t, .int .i64 n] w fun e w' => e = .returned (.tuple #[.slice none 0 0, .int .i64 1]) ∧ w' = w := by
  go_enter Try.func88, Try.ntmps88
  go_wp2_with fail
  go_ret2
  exact ⟨rfl, rfl⟩
set_option maxRecDepth 100000 in
set_option maxHeartbeats 1600000 in
theorem sh_even_big (t n : Int) (hn : 1024 < n) (w : World) :
    Calls Try.prog 88 #[.int .i64 t, .int .i64 n] w fun e w' => e = .returned (.tuple #[.slice none 0 0, .int .i64 8]) ∧ w' = w := by
  have h0 : ¬ n < 0 := by omega
  go_enter Try.func88, Try.ntmps88
  go_wp2_with fail
  go_ret2
  exact ⟨rfl, rfl⟩
theorem zeros_row {w : World} {g n : Nat} (h : Blk w g (madeCells #[.int .i64 0] n) 2) : RowI w (some ⟨g, 0, none⟩) n (List.replicate n 0) :=
  row_of_blk _ n (by simp) h (by rw [toList_madeCells_one]; simp [i64s])
set_option maxRecDepth 100000 in
set_option maxHeartbeats 3200000 in
theorem law_counts (t n : Int) (ht1 : -2147483648 ≤ t) (ht2 : t ≤ 2147483647) (hn : IFit n) (w : World) :
    Calls Try.prog 19 #[.int .i32 t, .int .i64 n] w fun e w' => e = .returned (.bool true) ∧ Below w.heap.size w w' := by
  by_cases hn0 : n < 0
  · go_enter Try.func19, Try.ntmps19
    go_wp2_with fail
    refine (speaks05 _).mono ?_
    rintro e w1 ⟨rfl, hB⟩
    go_wp2_with fail
    refine (sh_even_neg t n hn0 _).mono ?_
    rintro e w2 ⟨rfl, rfl⟩
    go_wp2_with fail
    go_ret
    exact ⟨rfl, hB⟩
  · by_cases hn1 : 1024 < n
    · obtain ⟨i0, hi, hz0, hz1, hz2⟩ := info_parts (show (Try.prog.info? 2).map (fun i => (i.zero, i.size, i.bytes)) = some (some (.int .i64 0), 1, 8) by kernel_rfl)
      have hf : Fits (List.replicate 1025 0) := fits_list (by intro x hx; rw [List.mem_replicate] at hx; omega)
      have SP := fun g W (h : Blk W g (madeCells #[.int .i64 0] 1025) 2) => sh_split 1 (some ⟨g, 0, none⟩) 1025 1025 (List.replicate 1025 0) (by omega) (by unfold IFit; omega) hf W (zeros_row h)
      have hE : shE 1 (List.replicate 1025 0) 1025 = 8 := by unfold shE; rw [if_pos (by omega)]
      unfold SplitAns at SP
      rw [hE] at SP
      clear hE hf
      go_enter Try.func19, Try.ntmps19
      go_wp2_with fail
      refine (speaks05 _).mono ?_
      rintro e w1 ⟨rfl, hB⟩
      go_wp2_with fail
      refine (sh_even_big t n hn1 _).mono ?_
      rintro e w2 ⟨rfl, rfl⟩
      have hb0 : Below w2.heap.size w2 (w2.alloc (.cells (madeCells #[.int .i64 0] 1025) 2)) := (by repeat' (first | (with_reducible exact Below.refl _ _) | (with_reducible assumption) | (with_reducible refine below_alloc ?_ _ ?_) | (with_reducible refine below_set _ ?_ ?_) | (with_reducible refine Below.drew ?_) | (with_reducible refine below_dN ?_ _) | (apply below_thenA; assumption) | omega | (simp; done) | (simp; omega) | (simp [*]; done)))
      go_wp2_with (at_make; refine wpList_make_row _ rfl _ _ 82 rfl 2 i0 (.int .i64 0) Try.underlying82 hi hz0 hz1 rfl _ _ 1025 rfl rfl ?b2 ?b3 ?_)
      case b2 => omega
      case b3 => omega
      go_wp2_with fail
      refine (SP w2.heap.size _ (Blk.new w2 _ _ _ rfl)).mono ?_
      rintro e w3 ⟨ao2, m', cap2, zs, rfl, -, -, -, -, -, hb⟩
      replace hB := hB.trans (hb0.mono hB.size)
      replace hB := hB.trans (hb.mono hB.size)
      go_wp2_with fail
      go_ret
      exact ⟨rfl, hB⟩
    · obtain ⟨m, rfl⟩ := Int.eq_ofNat_of_zero_le (show 0 ≤ n by omega)
      have hm : m ≤ 1024 := by omega
      have hE := shE_ok hm (nonneg_ones m) (lenB_of ht1 ht2) (by rw [pre_ones m m (Nat.le_refl _)]; omega)
      have SP := fun W => sh_even t m hm (by unfold IFit; omega) W
      unfold SplitAns at SP
      rw [hE, pre_ones m m (Nat.le_refl _)] at SP
      clear hE hn hn1
      go_enter Try.func19, Try.ntmps19
      go_wp2_with fail
      refine (speaks05 _).mono ?_
      rintro e w1 ⟨rfl, hB⟩
      go_wp2_with fail
      refine (SP _).mono ?_
      rintro e w3 ⟨ao2, m', cap2, zs, rfl, hp, -, -, h1, -, hb⟩
      obtain ⟨e2, rfl⟩ := h1 (by first | trivial | rfl)
      obtain rfl := e2.symm
      replace hB := hB.trans (hb.mono hB.size)
      have HP := Lib.hid hp
      have im0 : ¬ (m : Int) < 0 := by omega
      have im1 : ¬ (1024 : Int) < (m : Int) := by omega
      clear hb h1 SP hp e2
      go_wp2_with fail
      go_loopg [9, 10] m (fun gk s9 s10 wr => ∃ (j : Nat) (s : Int), j ≤ m ∧ gk = m - j ∧ s9 = .int .i64 s ∧ s10 = .int .i64 ((j : Int)) ∧ s = t * pre (ones m) j / (m : Int) ∧ Below w3.heap.size w3 wr)
      case atStart => exact ⟨0, 0, by omega, by omega, rfl, rfl, by show (0 : Int) = t * 0 / (m : Int); rw [Int.mul_zero, Int.zero_ediv], Below.refl _ _⟩
      case round =>
        obtain ⟨j, s, hj, rfl, rfl, rfl, es, hb⟩ := hrel
        have hsb := bound_i32 (S := (m : Int)) ht1 ht2 (pre_nonneg (nonneg_ones m) j) (by rw [pre_ones m j hj]; omega)
        rw [← es] at hsb
        have hs1 := hsb.1
        have hs2 := hsb.2
        have ESJ := Lib.hid es
        clear es hsb
        by_cases hjk : j < m
        · have ix : (j : Int) < (m : Int) := by omega
          have ix0 : (0 : Int) < (m : Int) := by omega
          have ix00 : 0 < m := by omega
          obtain ⟨g2, off2, rfl, hg2, hcp⟩ := HP.out.at hjk
          obtain ⟨g3, off3, e3, _, hc0⟩ := HP.out.at (show 0 < m by omega)
          obtain ⟨rfl, rfl⟩ : g2 = g3 ∧ off2 = off3 := by simpa using e3
          rw [partsN_get _ _ _ _ _ hjk] at hcp
          rw [partsN_get _ _ _ _ _ (by omega), Nat.add_zero] at hc0
          have v1 := share_even t (m : Int) (ones m) j 0 ix0 (ones_get hjk) (ones_get (by omega))
          have v2 := share_even t (m : Int) (ones m) 0 j ix0 (ones_get (by omega)) (ones_get hjk)
          have hsum : t * pre (ones m) (j + 1) / (m : Int) = s + shareAt t (m : Int) (ones m) j := by rw [ESJ.out]; unfold shareAt; omega
          have hsb2 := bound_i32 (S := (m : Int)) ht1 ht2 (pre_nonneg (nonneg_ones m) (j + 1)) (by rw [pre_ones m (j + 1) hjk]; omega)
          rw [hsum] at hsb2
          obtain ⟨p, ep⟩ : ∃ p, shareAt t (m : Int) (ones m) j = p := ⟨_, rfl⟩
          obtain ⟨p0, ep0⟩ : ∃ p, shareAt t (m : Int) (ones m) 0 = p := ⟨_, rfl⟩
          rw [ep] at hcp hsum hsb2 v1 v2
          rw [ep0] at hc0 v1 v2
          have hp1 : -4294967295 ≤ p := by omega
          have hp2 : p ≤ 4294967295 := by omega
          have hq1 := hsb2.1
          have hq2 := hsb2.2
          have t1 : decide (p < p0 - 1) = false := by simp; omega
          have t2 : decide (p0 + 1 < p) = false := by simp; omega
          have hw1 : -4294967296 ≤ p0 := by omega
          have hw2 : p0 ≤ 4294967296 := by omega
          have wr1 : IntKind.i64.wrap (p0 - 1) = p0 - 1 := by simp [IntKind.wrap, IntKind.bits, IntKind.signed]; omega
          have wr2 : IntKind.i64.wrap (p0 + 1) = p0 + 1 := by simp [IntKind.wrap, IntKind.bits, IntKind.signed]; omega
          have HSUM := Lib.hid hsum
          clear ep ep0 hsum hsb2 e3 v1 v2
          have hcw := (hb.cell (p := ⟨g2, off2 + j, none⟩) hg2).trans hcp
          have HC := Lib.hid hcp
          have HC0 := Lib.hid hc0
          have HG := Lib.hid hg2
          clear hcp hc0 hg2
          go_wp2_with fail
          clear hcw
          go_upto_region 14 with (fail)
          rename_i K0 hK0
          refine wp_region_calm (fun w' => Below w3.heap.size w3 w') [] (fun w' => True) [Is (.slice (some ⟨g2, off2, none⟩) m cap2), Is (.int .i64 ((j : Int))), Is (.pointer (some ⟨g2, off2 + j, none⟩)), Is (.int .i64 p), Is (.slice (some ⟨g2, off2, none⟩) m cap2), Is (.pointer (some ⟨g2, off2, none⟩)), Is (.int .i64 p0), Is (.int .i64 (p0 - 1)), Is (.bool false), Is (.bool false), Is (.slice (some ⟨g2, off2, none⟩) m cap2), Is (.int .i64 ((j : Int))), Is (.pointer (some ⟨g2, off2 + j, none⟩)), Is (.int .i64 p), Is (.slice (some ⟨g2, off2, none⟩) m cap2), Is (.pointer (some ⟨g2, off2, none⟩)), Is (.int .i64 p0), Is (.int .i64 (p0 + 1)), Is (.bool false), Is (.bool false)] [] (by kernel_rfl) (by kernel_rfl) (by kernel_rfl) (by kernel_rfl) hb.drew trivial ?_ ?_ ?_ ?_ ?_
          · rintro W W' hbb hb
            exact hbb.trans (hb.mono hbb.size)
          · exact fun _ _ _ _ _ => trivial
          · intro k vs W hk h
            exact absurd hk (by simp)
          · intro Q; clear hK0 hb hB HP HSUM ESJ
            refine ⟨?_, ?_, ?_, ?_, ?_, ?_, ?_, ?_, ?_, ?_, ?_, ?_, ?_, ?_, ?_, ?_, ?_, ?_, ?_, ?_, trivial⟩
            · intro vs W hW hW0 hd hne hold K hK hA hL; clear hne hA hL; have hbb := hW; simp only [puts, Act.put, List.setIfInBounds_toArray, List.set_cons_zero, List.set_cons_succ, Nat.zero_add, Nat.reduceAdd] at hK ⊢; clear hd hold; go_simp; exact hK.out rfl _ _ (Below.refl _ _) rfl
            · intro vs W hW hW0 hd hne hold K hK hA hL; clear hne hA hL; have hbb := hW; simp only [puts, Act.put, List.setIfInBounds_toArray, List.set_cons_zero, List.set_cons_succ, Nat.zero_add, Nat.reduceAdd] at hK ⊢; clear hd hold; go_simp; exact hK.out rfl _ _ (Below.refl _ _) rfl
            · intro vs W hW hW0 hd hne hold K hK hA hL; clear hne hA hL; have hbb := hW; simp only [puts, Act.put, List.setIfInBounds_toArray, List.set_cons_zero, List.set_cons_succ, Nat.zero_add, Nat.reduceAdd] at hK ⊢; have e0 : vs 0 = _ := hd 0 (by kernel_rfl); have e1 : vs 1 = _ := hd 1 (by kernel_rfl); clear hd hold; simp only [e0, e1] at hK; go_simp; exact hK.out rfl _ _ (Below.refl _ _) rfl
            · intro vs W hW hW0 hd hne hold K hK hA hL; clear hne hA hL; have hbb := hW; simp only [puts, Act.put, List.setIfInBounds_toArray, List.set_cons_zero, List.set_cons_succ, Nat.zero_add, Nat.reduceAdd] at hK ⊢; have eb : vs 2 = _ := hd 2 (by kernel_rfl); have q1 := (hbb.cell (p := ⟨g2, off2 + j, none⟩) HG.out).trans HC.out; clear hd hold; simp only [eb] at hK; go_simp; exact hK.out rfl _ _ (Below.refl _ _) rfl
            · intro vs W hW hW0 hd hne hold K hK hA hL; clear hne hA hL; have hbb := hW; simp only [puts, Act.put, List.setIfInBounds_toArray, List.set_cons_zero, List.set_cons_succ, Nat.zero_add, Nat.reduceAdd] at hK ⊢; clear hd hold; go_simp; exact hK.out rfl _ _ (Below.refl _ _) rfl
            · intro vs W hW hW0 hd hne hold K hK hA hL; clear hne hA hL; have hbb := hW; simp only [puts, Act.put, List.setIfInBounds_toArray, List.set_cons_zero, List.set_cons_succ, Nat.zero_add, Nat.reduceAdd] at hK ⊢; have e4 : vs 4 = _ := hd 4 (by kernel_rfl); clear hd hold; simp only [e4] at hK; go_simp; exact hK.out rfl _ _ (Below.refl _ _) rfl
            · intro vs W hW hW0 hd hne hold K hK hA hL; clear hne hA hL; have hbb := hW; simp only [puts, Act.put, List.setIfInBounds_toArray, List.set_cons_zero, List.set_cons_succ, Nat.zero_add, Nat.reduceAdd] at hK ⊢; have eb : vs 5 = _ := hd 5 (by kernel_rfl); have q1 := (hbb.cell (p := ⟨g2, off2, none⟩) HG.out).trans HC0.out; clear hd hold; simp only [eb] at hK; go_simp; exact hK.out rfl _ _ (Below.refl _ _) rfl
            · intro vs W hW hW0 hd hne hold K hK hA hL; clear hne hA hL; have hbb := hW; simp only [puts, Act.put, List.setIfInBounds_toArray, List.set_cons_zero, List.set_cons_succ, Nat.zero_add, Nat.reduceAdd] at hK ⊢; have e6 : vs 6 = _ := hd 6 (by kernel_rfl); clear hd hold; simp only [e6] at hK; go_simp; exact hK.out rfl _ _ (Below.refl _ _) rfl
            · intro vs W hW hW0 hd hne hold K hK hA hL; clear hne hA hL; have hbb := hW; simp only [puts, Act.put, List.setIfInBounds_toArray, List.set_cons_zero, List.set_cons_succ, Nat.zero_add, Nat.reduceAdd] at hK ⊢; have e3 : vs 3 = _ := hd 3 (by kernel_rfl); have e7 : vs 7 = _ := hd 7 (by kernel_rfl); clear hd hold; simp only [e3, e7] at hK; go_simp; exact hK.out rfl _ _ (Below.refl _ _) rfl
            · intro vs W hW hW0 hd hne hold K hK hA hL; clear hne hA hL; have hbb := hW; simp only [puts, Act.put, List.setIfInBounds_toArray, List.set_cons_zero, List.set_cons_succ, Nat.zero_add, Nat.reduceAdd] at hK ⊢; have e8 : vs 8 = _ := hd 8 (by kernel_rfl); clear hd hold; simp only [e8] at hK; go_simp; exact hK.out rfl _ _ (Below.refl _ _) rfl
            · intro vs W hW hW0 hd hne hold K hK hA hL; clear hne hA hL; have hbb := hW; simp only [puts, Act.put, List.setIfInBounds_toArray, List.set_cons_zero, List.set_cons_succ, Nat.zero_add, Nat.reduceAdd] at hK ⊢; have e9 : vs 9 = _ := hd 9 (by kernel_rfl); clear hd hold; simp only [e9] at hK; go_simp; exact hK.out rfl _ _ (Below.refl _ _) rfl
            · intro vs W hW hW0 hd hne hold K hK hA hL; clear hne hA hL; have hbb := hW; simp only [puts, Act.put, List.setIfInBounds_toArray, List.set_cons_zero, List.set_cons_succ, Nat.zero_add, Nat.reduceAdd] at hK ⊢; have e9 : vs 9 = _ := hd 9 (by kernel_rfl); clear hd hold; simp only [e9] at hK; go_simp; exact hK.out rfl _ _ (Below.refl _ _) rfl
            · intro vs W hW hW0 hd hne hold K hK hA hL; clear hne hA hL; have hbb := hW; simp only [puts, Act.put, List.setIfInBounds_toArray, List.set_cons_zero, List.set_cons_succ, Nat.zero_add, Nat.reduceAdd] at hK ⊢; have e9 : vs 9 = _ := hd 9 (by kernel_rfl); have e10 : vs 10 = _ := hd 10 (by kernel_rfl); have e11 : vs 11 = _ := hd 11 (by kernel_rfl); clear hd hold; simp only [e9, e10, e11] at hK; go_simp; exact hK.out rfl _ _ (Below.refl _ _) rfl
            · intro vs W hW hW0 hd hne hold K hK hA hL; clear hne hA hL; have hbb := hW; simp only [puts, Act.put, List.setIfInBounds_toArray, List.set_cons_zero, List.set_cons_succ, Nat.zero_add, Nat.reduceAdd] at hK ⊢; have ea : vs 9 = _ := hd 9 (by kernel_rfl); have eb : vs 12 = _ := hd 12 (by kernel_rfl); have q1 := (hbb.cell (p := ⟨g2, off2 + j, none⟩) HG.out).trans HC.out; clear hd hold; simp only [ea, eb] at hK; go_simp; exact hK.out rfl _ _ (Below.refl _ _) rfl
            · intro vs W hW hW0 hd hne hold K hK hA hL; clear hne hA hL; have hbb := hW; simp only [puts, Act.put, List.setIfInBounds_toArray, List.set_cons_zero, List.set_cons_succ, Nat.zero_add, Nat.reduceAdd] at hK ⊢; have e9 : vs 9 = _ := hd 9 (by kernel_rfl); clear hd hold; simp only [e9] at hK; go_simp; exact hK.out rfl _ _ (Below.refl _ _) rfl
            · intro vs W hW hW0 hd hne hold K hK hA hL; clear hne hA hL; have hbb := hW; simp only [puts, Act.put, List.setIfInBounds_toArray, List.set_cons_zero, List.set_cons_succ, Nat.zero_add, Nat.reduceAdd] at hK ⊢; have e9 : vs 9 = _ := hd 9 (by kernel_rfl); have e14 : vs 14 = _ := hd 14 (by kernel_rfl); clear hd hold; simp only [e9, e14] at hK; go_simp; exact hK.out rfl _ _ (Below.refl _ _) rfl
            · intro vs W hW hW0 hd hne hold K hK hA hL; clear hne hA hL; have hbb := hW; simp only [puts, Act.put, List.setIfInBounds_toArray, List.set_cons_zero, List.set_cons_succ, Nat.zero_add, Nat.reduceAdd] at hK ⊢; have ea : vs 9 = _ := hd 9 (by kernel_rfl); have eb : vs 15 = _ := hd 15 (by kernel_rfl); have q1 := (hbb.cell (p := ⟨g2, off2, none⟩) HG.out).trans HC0.out; clear hd hold; simp only [ea, eb] at hK; go_simp; exact hK.out rfl _ _ (Below.refl _ _) rfl
            · intro vs W hW hW0 hd hne hold K hK hA hL; clear hne hA hL; have hbb := hW; simp only [puts, Act.put, List.setIfInBounds_toArray, List.set_cons_zero, List.set_cons_succ, Nat.zero_add, Nat.reduceAdd] at hK ⊢; have e9 : vs 9 = _ := hd 9 (by kernel_rfl); have e16 : vs 16 = _ := hd 16 (by kernel_rfl); clear hd hold; simp only [e9, e16] at hK; go_simp; exact hK.out rfl _ _ (Below.refl _ _) rfl
            · intro vs W hW hW0 hd hne hold K hK hA hL; clear hne hA hL; have hbb := hW; simp only [puts, Act.put, List.setIfInBounds_toArray, List.set_cons_zero, List.set_cons_succ, Nat.zero_add, Nat.reduceAdd] at hK ⊢; have e9 : vs 9 = _ := hd 9 (by kernel_rfl); have e13 : vs 13 = _ := hd 13 (by kernel_rfl); have e17 : vs 17 = _ := hd 17 (by kernel_rfl); clear hd hold; simp only [e9, e13, e17] at hK; go_simp; exact hK.out rfl _ _ (Below.refl _ _) rfl
            · intro vs W hW hW0 hd hne hold K hK hA hL; clear hne hA hL; have hbb := hW; simp only [puts, Act.put, List.setIfInBounds_toArray, List.set_cons_zero, List.set_cons_succ, Nat.zero_add, Nat.reduceAdd] at hK ⊢; have e9 : vs 9 = _ := hd 9 (by kernel_rfl); have e18 : vs 18 = _ := hd 18 (by kernel_rfl); clear hd hold; simp only [e9, e18] at hK; go_simp; exact hK.out rfl _ _ (Below.refl _ _) rfl
          · intro va WA hW hV _
            have e19 : va 19 = .bool false := hV 19 (by decide)
            clear hV
            simp only [puts, Act.put, List.setIfInBounds_toArray, List.set_cons_zero, List.set_cons_succ, Nat.zero_add, Nat.reduceAdd, e19]
            refine hK0 _ _ ?_
            clear hK0
            go_wp2_with fail
            go_roundg (m - (j + 1))
            case measure => omega
            case rel => exact ⟨j + 1, _, by omega, rfl, rfl, by go_num, HSUM.out.symm, hW⟩
        · obtain rfl : j = m := by omega
          have ix : ¬ (j : Int) < (j : Int) := by omega
          have es := ESJ.out
          rw [pre_ones j j (Nat.le_refl _)] at es
          by_cases hm0 : j = 0
          · subst hm0
            clear ESJ es
            go_wp2_with fail
            go_ret
            exact ⟨rfl, hB.trans (hb.mono hB.size)⟩
          · have hj0 : ((j : Int) == 0) = false := by simp; omega
            rw [Int.mul_ediv_cancel _ (by omega)] at es
            subst es
            clear ESJ
            go_wp2_with fail
            go_ret
            exact ⟨rfl, hB.trans (hb.mono hB.size)⟩
end Go.Proofs.Ythffphcgkmjhbaa
