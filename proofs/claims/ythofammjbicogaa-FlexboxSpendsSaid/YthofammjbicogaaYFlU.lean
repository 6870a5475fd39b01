/-
  The law FlexboxSpends: what the spaces are worth.
-/
import Derived.Test.YthofammjbicogaaYFlQ
import Derived.Test.YthofammjbicogaaYShD
namespace Go.Proofs.Ythofammjbicogaa
open Go.RowKit
set_option linter.unusedSimpArgs false
set_option linter.unusedVariables false

def spdS (F : Int) (k : Nat) (w : Int) (i : Nat) : Int := if i < k then (spL F k w).getD i 0 else F - pre (spL F k w) k
def spdL (F : Int) (k : Nat) (w : Int) (n : Nat) : List Int := (List.range n).map (spdS F k w)
theorem spdL_succ (F : Int) (k : Nat) (w : Int) (n : Nat) : spdL F k w (n + 1) = spdL F k w n ++ [spdS F k w n] := by
  unfold spdL
  rw [List.range_succ, List.map_append]
  rfl
theorem spdL_len (F : Int) (k : Nat) (w : Int) (n : Nat) : (spdL F k w n).length = n := by simp [spdL]
theorem spdL_get (F : Int) (k : Nat) (w : Int) {n i : Nat} (h : i < n) : (spdL F k w n).getD i 0 = spdS F k w i := by simp [spdL, List.getD, h]
theorem spdL_pre (F : Int) (k : Nat) (w : Int) : ∀ j, j ≤ k → pre (spdL F k w (k + 1)) j = pre (spL F k w) j
  | 0, _ => rfl
  | j + 1, h => by
    show pre (spdL F k w (k + 1)) j + (spdL F k w (k + 1)).getD j 0 = pre (spL F k w) j + (spL F k w).getD j 0
    rw [spdL_pre F k w j (by omega), spdL_get F k w (show j < k + 1 by omega)]
    unfold spdS
    rw [if_pos (by omega)]
theorem spdL_all (F : Int) (k : Nat) (w : Int) : pre (spdL F k w (k + 1)) (k + 1) = F := by
  show pre (spdL F k w (k + 1)) k + (spdL F k w (k + 1)).getD k 0 = F
  rw [spdL_pre F k w k (Nat.le_refl _), spdL_get F k w (show k < k + 1 by omega)]
  unfold spdS
  rw [if_neg (by omega)]
  omega
theorem spL_nonneg {F : Int} {k : Nat} (w : Int) (hF : 0 ≤ F) (hk : 1 ≤ k) (i : Nat) : 0 ≤ (spL F k w).getD i 0 := by
  unfold spL
  split
  · rw [getD_set]; split
    · exact hF
    · unfold zerL; rw [getD_rep]; omega
  split
  · rw [getD_set]; split
    · omega
    · unfold zerL; rw [getD_rep]; omega
  split
  · exact mid_nonneg (by omega) i
  split
  · exact arL_nonneg (evL_nonneg (by omega)) k _ i
  split
  · exact evL_nonneg (by omega) i
  · unfold zerL; rw [getD_rep]; omega
theorem spdS_nonneg {F : Int} {k : Nat} (w : Int) (hF : 0 ≤ F) (hk : 1 ≤ k) (i : Nat) : 0 ≤ spdS F k w i ∧ spdS F k w i ≤ F := by
  have h1 := spL_nonneg w hF hk
  have h2 := spL_pre F w k hk (show k ≤ k + 1 by omega)
  unfold spdS
  split
  · rename_i h
    have := get_le_pre (m := k) h1 h
    have := h1 i
    omega
  · omega
theorem evL_get (t : Int) {p i : Nat} (h : i < p) : (evL t p).getD i 0 = t * ((i + 1 : Nat) : Int) / (p : Int) - t * (i : Int) / (p : Int) := by
  unfold evL
  rw [partsN_get _ _ _ _ _ h]
  unfold shareAt
  rw [one_pre p (i + 1) (by omega), one_pre p i (by omega)]
theorem spd_six {F : Int} {k : Nat} (hF : 0 ≤ F) (hk : 1 ≤ k) {i j : Nat} (hi : i ≤ k) (hj : j ≤ k) : spdS F k 6 i ≤ spdS F k 6 j + 1 := by
  by_cases h0 : F = 0
  · have h1 := spdS_nonneg (F := F) (k := k) 6 hF hk i
    have h2 := spdS_nonneg (F := F) (k := k) 6 hF hk j
    omega
  · have hsp : spL F k 6 = evL F (k + 1) := by
      unfold spL
      rw [if_neg (by decide), if_neg (by omega), if_neg (by omega), if_neg (by decide), if_pos rfl]
    have hs : ∀ i, i ≤ k → spdS F k 6 i = shareAt F ((k + 1 : Nat) : Int) (ones (k + 1)) i := fun i hi => by
      have e : spdS F k 6 i = (evL F (k + 1)).getD i 0 := by
        unfold spdS
        rw [hsp]
        split
        · rfl
        · obtain rfl : i = k := by omega
          have := evL_sum (t := F) (p := i + 1) (by omega)
          have e2 : pre (evL F (i + 1)) (i + 1) = pre (evL F (i + 1)) i + (evL F (i + 1)).getD i 0 := rfl
          omega
      rw [e]
      exact partsN_get _ _ _ _ _ (by omega)
    rw [hs i hi, hs j hj]
    exact share_even F _ (ones (k + 1)) i j (by omega) (one_get (by omega)) (one_get (by omega))
theorem spd_four {F : Int} {k : Nat} (hF : 0 ≤ F) (hk : 1 < k) : spdS F k 4 0 = 0 ∧ spdS F k 4 k = 0 := by
  unfold spdS
  rw [if_pos (by omega), if_neg (by omega)]
  by_cases h0 : F = 0
  · subst h0
    have hsp : spL 0 k 4 = zerL k := by
      unfold spL
      rw [if_neg (by decide), if_neg (by omega), if_neg (by omega), if_neg (by decide), if_neg (by decide)]
    rw [hsp]
    unfold zerL
    rw [getD_rep, pre_rep]
    omega
  · have hsp : spL F k 4 = 0 :: evL F (k - 1) ++ [0] := by
      unfold spL
      rw [if_neg (by decide), if_neg (by omega), if_pos ⟨rfl, by omega, hk⟩]
    have hp := mid_pre F hk
    have e : pre (0 :: evL F (k - 1) ++ [0]) (k + 1) = pre (0 :: evL F (k - 1) ++ [0]) k + (0 :: evL F (k - 1) ++ [0]).getD k 0 := rfl
    have e2 : (0 :: evL F (k - 1) ++ [0]).getD k 0 = 0 := by
      rw [between_get, evL_len, if_neg (by omega)]
    rw [hsp]
    refine ⟨by rw [between_get]; simp, ?_⟩
    omega
/-- Where things stand: what the law works out of it. -/
theorem plN_get (xs sp : List Int) (gap : Int) {n i : Nat} (h : i < n) : (plN xs sp gap n).getD i 0 = plAt xs sp gap i := by simp [plN, List.getD, h]
theorem spd_step (xs : List Int) (F : Int) (k : Nat) (w gap : Int) {i : Nat} (h : i + 1 < k) : plAt xs (spL F k w) gap (i + 1) - plAt xs (spL F k w) gap i - xs.getD i 0 - gap = spdS F k w (i + 1) := by
  unfold plAt spdS
  rw [if_pos h]
  have e1 : pre (spL F k w) (i + 1 + 1) = pre (spL F k w) (i + 1) + (spL F k w).getD (i + 1) 0 := rfl
  have e2 : pre xs (i + 1) = pre xs i + xs.getD i 0 := rfl
  have e3 : gap * ((i + 1 : Nat) : Int) = gap * (i : Int) + gap := by push_cast; rw [Int.mul_add, Int.mul_one]
  omega
theorem spd_first (xs : List Int) (F : Int) (k : Nat) (w gap : Int) (h : 0 < k) : plAt xs (spL F k w) gap 0 = spdS F k w 0 := by
  unfold plAt spdS
  rw [if_pos h]
  simp [pre]
theorem spd_last (xs : List Int) (F : Int) (k : Nat) (w gap av : Int) (hav : av = pre xs (k + 1) + gap * (k : Int) + F) : av - plAt xs (spL F (k + 1) w) gap k - xs.getD k 0 = spdS F (k + 1) w (k + 1) := by
  unfold plAt spdS
  rw [if_neg (by omega)]
  have e2 : pre xs (k + 1) = pre xs k + xs.getD k 0 := rfl
  omega
theorem spd_bound {xs : List Int} (hu : U16s xs) {F : Int} (hF : 0 ≤ F) (hF2 : F ≤ 65535) {k : Nat} (hk : 1 ≤ k) (hk30 : k ≤ 30) (w : Int) {gap : Int} (hg : 0 ≤ gap) (hg2 : gap ≤ 255) {i : Nat} (hi : i < k) : 0 ≤ plAt xs (spL F k w) gap i ∧ plAt xs (spL F k w) gap i ≤ 4000000 := by
  have h1 := spL_nonneg w hF hk
  have h2 := spL_pre F w k hk (show i + 1 ≤ k + 1 by omega)
  have h3 := pre_small hu i
  have h4 : 0 ≤ gap * (i : Int) := Int.mul_nonneg hg (by omega)
  have h5 : gap * (i : Int) ≤ 255 * (i : Int) := Int.mul_le_mul_of_nonneg_right hg2 (by omega)
  unfold plAt
  omega
theorem spd_room (xs : List Int) (k : Nat) (gap F : Int) : roomV xs (pre xs (k + 1) + gap * (k : Int) + F) gap (k + 1) = F := by
  unfold roomV
  rw [Nat.add_sub_cancel]
  omega
theorem spd_at (xs : List Int) (k : Nat) (av gap w F : Int) (hr : roomV xs av gap k = F) : mnAt xs [] k av gap w = plN xs (spL F k w) gap k := by
  have hm : (mkL [] (2 * k)).length = 0 := by rw [mkL_end [] (m := 0) (by simp) (2 * k) (by omega)]; rfl
  have hs : someB (mgF [] k F) (k * 2) = false := by
    rw [mgF_some, hm]
    simp
  unfold mnAt mnMs
  rw [hr, if_neg (by rw [hs]; decide)]
def spdM (b : Bool) : List Nat := if b then [0, 1] else [1]
theorem spd_mk (b : Bool) {k : Nat} (hk : 1 ≤ k) : mkL [b, true] (2 * k) = spdM b := by
  rw [mkL_end [b, true] (m := 2) (by simp) (2 * k) (by omega)]
  cases b <;> rfl
theorem spd_ms (xs : List Int) (b : Bool) (k : Nat) (hk : 1 ≤ k) (av gap F : Int) (hF : 0 ≤ F) (hr : roomV xs av gap k = F) :
    (mnMs xs [b, true] k av gap).getD 0 0 + (mnMs xs [b, true] k av gap).getD 1 0 = F ∧ 0 ≤ (mnMs xs [b, true] k av gap).getD 0 0 ∧ 0 ≤ (mnMs xs [b, true] k av gap).getD 1 0 ∧ (b = true → (mnMs xs [b, true] k av gap).getD 0 0 ≤ (mnMs xs [b, true] k av gap).getD 1 0 ∧ (mnMs xs [b, true] k av gap).getD 1 0 ≤ (mnMs xs [b, true] k av gap).getD 0 0 + 1) := by
  unfold mnMs
  rw [hr]
  have hn := mgF_nonneg [b, true] k F
  refine ⟨?_, hn 0, hn 1, ?_⟩
  all_goals
    clear hn
    unfold mgF
    by_cases h0 : F ≤ 0
    · rw [if_pos h0, getD_rep, getD_rep]; omega
    · rw [if_neg h0, spd_mk b hk]
      cases b
      · show _
        simp only [spdM, Bool.false_eq_true, if_false, List.length_cons, List.length_nil, Nat.zero_add]
        have e1 : (evL F 1).getD 0 0 = F := by rw [evL_get F (by omega)]; simp
        show _
        unfold mgL mgL
        rw [getD_set, getD_set, getD_rep, getD_rep, List.length_replicate, e1]
        have h2 : 1 < (k : Nat) * 2 := by omega
        simp [h2]
      · simp only [spdM, if_true, List.length_cons, List.length_nil, Nat.zero_add, Nat.reduceAdd]
        have e1 : (evL F 2).getD 0 0 = F / 2 := by rw [evL_get F (by omega)]; simp
        have e2 : (evL F 2).getD 1 0 = F - F / 2 := by rw [evL_get F (by omega)]; simp
        unfold mgL mgL mgL
        rw [getD_set, getD_set, getD_set, getD_set, getD_rep, getD_rep, List.length_set, List.length_replicate, e1, e2]
        have h2 : 1 < (k : Nat) * 2 := by omega
        have h3 : 0 < (k : Nat) := by omega
        simp [h2, h3]
        try omega
theorem spd_full (xs : List Int) (b : Bool) (k : Nat) (av gap w F : Int) (hF : 0 ≤ F) (hav : av = pre xs (k + 1) + gap * (k : Int) + F) :
    (mnAt xs [b, true] (k + 1) av gap w).getD 0 0 = 0 ∧ (1 < k + 1 → (mnAt xs [b, true] (k + 1) av gap w).getD k 0 + xs.getD k 0 = av) := by
  have hr : roomV xs av gap (k + 1) = F := by rw [hav]; exact spd_room xs k gap F
  have hk1 : pre xs (k + 1) = pre xs k + xs.getD k 0 := rfl
  have hm := mgF_some [b, true] (k + 1) F
  rw [spd_mk b (by omega)] at hm
  have hc : (spdM b).length ≠ 0 := by cases b <;> decide
  unfold mnAt mnMs
  rw [hr, hm]
  by_cases h0 : 0 < F
  · rw [if_pos (by rw [decide_eq_true_iff]; exact ⟨h0, hc⟩)]
    rw [plN_get _ _ _ (show 0 < k + 1 by omega), plN_get _ _ _ (show k < k + 1 by omega)]
    unfold plAt zerL
    rw [pre_rep, pre_rep]
    refine ⟨by simp [pre], fun hk => ?_⟩
    rw [whL_pre xs _ (k + 1) k (by omega)]
    have hp := mgF_pre [b, true] (k + 1) F
    rw [spd_mk b (by omega), if_neg (by omega)] at hp
    have hz : ∀ q, 2 ≤ q → (mgF [b, true] (k + 1) F).getD q 0 = 0 := fun q hq => by
      unfold mgF
      rw [if_neg (by omega), spd_mk b (by omega)]
      refine mgL_zero _ fun i hi => ?_
      cases b
      · simp only [spdM, Bool.false_eq_true, if_false] at hi ⊢
        match i, hi with
        | 0, _ => simp; omega
      · simp only [spdM, if_true] at hi ⊢
        match i, hi with
        | 0, _ => simp; omega
        | 1, _ => simp; omega
    have hc2 : ∀ j, 2 ≤ j → pre (mgF [b, true] (k + 1) F) j = pre (mgF [b, true] (k + 1) F) 2 := fun j => by
      induction j with
      | zero => intro h; omega
      | succ j ih =>
        intro h
        by_cases e : j = 1
        · subst e; rfl
        · show pre _ j + _ = _
          rw [ih (by omega), hz j (by omega)]; omega
    have h2 := hc2 ((k + 1) * 2) (by omega)
    have h3 := hc2 (k * 2) (by omega)
    omega
  · obtain rfl : F = 0 := by omega
    rw [if_neg (by simp)]
    rw [plN_get _ _ _ (show 0 < k + 1 by omega), plN_get _ _ _ (show k < k + 1 by omega)]
    have hp := fun j (hj : j ≤ k + 1 + 1) => spL_pre 0 w (k + 1) (by omega) hj
    unfold plAt
    refine ⟨?_, fun hk => ?_⟩
    · have := hp (0 + 1) (by omega)
      have e : pre xs 0 = 0 := rfl
      have e2 : gap * ((0 : Nat) : Int) = 0 := by simp
      omega
    · have := hp (k + 1) (by omega)
      omega
end Go.Proofs.Ythofammjbicogaa
