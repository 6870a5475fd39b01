/-
  Package flexbox: what margins and spaces are worth.
-/
import Derived.Test.YtgmnboacehopfaaYFlF
namespace Go.Proofs.Ytgmnboacehopfaa
set_option linter.unusedSimpArgs false
set_option linter.unusedVariables false

theorem getD_rep (n i : Nat) : (List.replicate n (0 : Int)).getD i 0 = 0 := by
  by_cases h : i < n
  · simp [List.getD, h]
  · simp [List.getD, h]
theorem getD_set (xs : List Int) (i j : Nat) (y : Int) : (xs.set i y).getD j 0 = if i = j ∧ j < xs.length then y else xs.getD j 0 := by
  by_cases e : i = j
  · subst e
    by_cases h : i < xs.length
    · rw [if_pos ⟨rfl, h⟩]; simp [List.getD, h]
    · rw [if_neg (fun x => h x.2), List.set_eq_of_length_le (by omega)]
  · rw [if_neg (fun x => e x.1)]; simp [List.getD, List.getElem?_set_ne e]
theorem pre_rep (n : Nat) : ∀ j, pre (List.replicate n (0 : Int)) j = 0
  | 0 => rfl
  | j + 1 => by
    show pre _ j + _ = _
    rw [pre_rep n j, getD_rep]
    rfl
theorem mkL_sorted (bs : List Bool) : ∀ p, (mkL bs p).Pairwise (· < ·)
  | 0 => by simp [mkL]
  | p + 1 => by
    unfold mkL
    rw [List.pairwise_append]
    refine ⟨mkL_sorted bs p, ?_, ?_⟩
    · split <;> simp
    · intro a ha b hb
      have := mkL_lt ha
      split at hb <;> simp at hb
      omega
theorem mkL_inj (bs : List Bool) (p : Nat) {i j : Nat} (hi : i < j) (hj : j < (mkL bs p).length) : (mkL bs p).getD i 0 < (mkL bs p).getD j 0 := by
  have := List.pairwise_iff_getElem.1 (mkL_sorted bs p) i j (by omega) hj hi
  simpa [List.getD, hj, show i < (mkL bs p).length by omega] using this
theorem mgL_zero {ms : List Nat} {ps : List Int} {N q : Nat} : ∀ j, (∀ i, i < j → ms.getD i 0 ≠ q) → (mgL ms ps N j).getD q 0 = 0
  | 0, _ => getD_rep _ _
  | j + 1, h => by
    show ((mgL ms ps N j).set _ _).getD q 0 = 0
    rw [getD_set, if_neg (fun x => h j (by omega) x.1)]
    exact mgL_zero j (fun i hi => h i (by omega))
theorem mgL_pre (bs : List Bool) (ps : List Int) (P : Nat) : ∀ j, j ≤ (mkL bs P).length → pre (mgL (mkL bs P) ps P j) P = pre ps j
  | 0, _ => pre_rep _ _
  | j + 1, h => by
    have hz : (mgL (mkL bs P) ps P j).getD ((mkL bs P).getD j 0) 0 = 0 := mgL_zero j (fun i hi => by have := mkL_inj bs P hi (show j < _ by omega); omega)
    have hlt : (mkL bs P).getD j 0 < P := mkL_lt (bs := bs) (by simp [List.getD, show j < (mkL bs P).length by omega])
    have e : mgL (mkL bs P) ps P (j + 1) = (mgL (mkL bs P) ps P j).set ((mkL bs P).getD j 0) ((mgL (mkL bs P) ps P j).getD ((mkL bs P).getD j 0) 0 + ps.getD j 0) := by
      rw [hz, Int.zero_add]; rfl
    rw [e, pre_set _ _ _ (by rw [mgL_len]; exact hlt), mgL_pre bs ps P j (by omega), if_pos hlt]
    rfl
theorem mgL_nonneg {ms : List Nat} {ps : List Int} {N : Nat} (h : Nonneg ps) : ∀ j, Nonneg (mgL ms ps N j)
  | 0 => fun i => by show 0 ≤ (List.replicate N (0 : Int)).getD i 0; rw [getD_rep]; decide
  | j + 1 => fun i => by
    show 0 ≤ ((mgL ms ps N j).set _ _).getD i 0
    rw [getD_set]
    split
    · exact h _
    · exact mgL_nonneg h j i
theorem mgF_len (bs : List Bool) (k : Nat) (f : Int) : (mgF bs k f).length = k * 2 := by
  unfold mgF
  split
  · simp
  · exact mgL_len _ _ _ _
theorem mgF_nonneg (bs : List Bool) (k : Nat) (f : Int) : Nonneg (mgF bs k f) := by
  unfold mgF
  split
  · exact fun i => by rw [getD_rep]; decide
  · exact mgL_nonneg (evL_nonneg (by omega)) _
theorem mgF_pre (bs : List Bool) (k : Nat) (f : Int) : pre (mgF bs k f) (k * 2) = if f ≤ 0 ∨ (mkL bs (2 * k)).length = 0 then 0 else f := by
  unfold mgF
  by_cases hf : f ≤ 0
  · rw [if_pos hf, if_pos (.inl hf), pre_rep]
  · rw [if_neg hf, Nat.mul_comm k 2, mgL_pre bs _ (2 * k) _ (Nat.le_refl _)]
    by_cases hc : (mkL bs (2 * k)).length = 0
    · rw [if_pos (.inr hc), hc]; rfl
    · rw [if_neg (by intro x; rcases x with x | x; exact hf x; exact hc x)]
      exact evL_sum (by omega)
theorem mgF_le (bs : List Bool) (k : Nat) (f : Int) {q : Nat} (hq : q ≤ k * 2) : 0 ≤ pre (mgF bs k f) q ∧ (pre (mgF bs k f) q = 0 ∨ 0 < f ∧ pre (mgF bs k f) q ≤ f) := by
  have h1 := mgF_pre bs k f
  have h2 := pre_mono (mgF_nonneg bs k f) hq
  have h3 := pre_nonneg (mgF_nonneg bs k f) q
  refine ⟨h3, ?_⟩
  split at h1
  · left; omega
  · right; omega
theorem mgF_some (bs : List Bool) (k : Nat) (f : Int) : someB (mgF bs k f) (k * 2) = decide (0 < f ∧ (mkL bs (2 * k)).length ≠ 0) := by
  have h1 := mgF_pre bs k f
  by_cases h : f ≤ 0 ∨ (mkL bs (2 * k)).length = 0
  · rw [if_pos h] at h1
    have e : decide (0 < f ∧ (mkL bs (2 * k)).length ≠ 0) = false := by
      rw [decide_eq_false_iff_not]; omega
    rw [e]
    unfold someB
    rw [decide_eq_false_iff_not]
    rintro ⟨i, hi, h2⟩
    exact h2 (pre_zero (mgF_nonneg bs k f) h1 hi)
  · rw [if_neg h] at h1
    have e : decide (0 < f ∧ (mkL bs (2 * k)).length ≠ 0) = true := by
      rw [decide_eq_true_iff]; omega
    rw [e]
    unfold someB
    rw [decide_eq_true_iff]
    by_cases hx : ∃ i, i < k * 2 ∧ (mgF bs k f).getD i 0 ≠ 0
    · exact hx
    · exfalso
      have hz : ∀ q, q ≤ k * 2 → pre (mgF bs k f) q = 0 := by
        intro q
        induction q with
        | zero => intro _; rfl
        | succ q ih =>
          intro hq
          show pre _ q + _ = 0
          rw [ih (by omega)]
          by_cases h2 : (mgF bs k f).getD q 0 = 0
          · rw [h2]; rfl
          · exact absurd ⟨q, by omega, h2⟩ hx
      have := hz (k * 2) (Nat.le_refl _)
      omega
/-- Sizes with their margins. -/
def whAt (xs ms : List Int) (i : Nat) : Int := xs.getD i 0 + ms.getD (i * 2) 0 + ms.getD (i * 2 + 1) 0
def whL (xs ms : List Int) (n : Nat) : List Int := (List.range n).map (whAt xs ms)
theorem whL_succ (xs ms : List Int) (n : Nat) : whL xs ms (n + 1) = whL xs ms n ++ [whAt xs ms n] := by
  unfold whL
  rw [List.range_succ, List.map_append]
  rfl
theorem whL_len (xs ms : List Int) (n : Nat) : (whL xs ms n).length = n := by simp [whL]
theorem whL_get (xs ms : List Int) {n i : Nat} (h : i < n) : (whL xs ms n).getD i 0 = whAt xs ms i := by simp [whL, List.getD, h]
theorem whL_pre (xs ms : List Int) (n : Nat) : ∀ j, j ≤ n → pre (whL xs ms n) j = pre xs j + pre ms (j * 2)
  | 0, _ => rfl
  | j + 1, h => by
    have e1 : pre (whL xs ms n) (j + 1) = pre (whL xs ms n) j + (whL xs ms n).getD j 0 := rfl
    have e2 : pre xs (j + 1) = pre xs j + xs.getD j 0 := rfl
    have e3 : pre ms ((j + 1) * 2) = pre ms (j * 2) + ms.getD (j * 2) 0 + ms.getD (j * 2 + 1) 0 := by rw [show (j + 1) * 2 = j * 2 + 1 + 1 by omega]; rfl
    rw [e1, e2, e3, whL_pre xs ms n j (by omega), whL_get xs ms (by omega)]
    unfold whAt
    omega
theorem pre_set0 (n : Nat) (y : Int) (j : Nat) : pre ((List.replicate (n + 1) (0 : Int)).set 0 y) j = if 0 < j then y else 0 := by
  have := pre_set (List.replicate (n + 1) (0 : Int)) 0 y (by simp) j
  rw [getD_rep, Int.zero_add, pre_rep, Int.zero_add] at this
  exact this
theorem pre_cons (x : Int) (l : List Int) : ∀ j, pre (x :: l) (j + 1) = x + pre l j
  | 0 => by show pre (x :: l) 0 + (x :: l).getD 0 0 = x + pre l 0; simp [pre]
  | j + 1 => by
    show pre (x :: l) (j + 1) + (x :: l).getD (j + 1) 0 = x + (pre l j + l.getD j 0)
    rw [pre_cons x l j]
    have : (x :: l).getD (j + 1) 0 = l.getD j 0 := by simp [List.getD]
    rw [this]
    omega
theorem nonneg_app {l : List Int} (h : Nonneg l) : Nonneg (0 :: l ++ [0]) := by
  intro i
  match i with
  | 0 => simp [List.getD]
  | i + 1 =>
    have e : (0 :: l ++ [0]).getD (i + 1) 0 = (l ++ [0]).getD i 0 := by simp [List.getD]
    rw [e]
    by_cases hi : i < l.length
    · have : (l ++ [0]).getD i 0 = l.getD i 0 := by simp [List.getD, List.getElem?_append_left hi]
      rw [this]; exact h i
    · have : (l ++ [0]).getD i 0 = 0 := by
        simp only [List.getD]
        rw [List.getElem?_append_right (by omega)]
        cases h2 : (i - l.length) with
        | zero => rfl
        | succ m => rfl
      rw [this]; decide
theorem pre_app0 (l : List Int) : ∀ j, pre (l ++ [0]) j = pre l j
  | 0 => rfl
  | j + 1 => by
    show pre _ j + (l ++ [0]).getD j 0 = pre l j + l.getD j 0
    rw [pre_app0 l j]
    by_cases hi : j < l.length
    · have : (l ++ [0]).getD j 0 = l.getD j 0 := by simp [List.getD, List.getElem?_append_left hi]
      rw [this]
    · have : (l ++ [0]).getD j 0 = 0 := by
        simp only [List.getD]
        rw [List.getElem?_append_right (by omega)]
        cases h2 : (j - l.length) with
        | zero => rfl
        | succ m => rfl
      have h3 : l.getD j 0 = 0 := by simp only [List.getD]; rw [List.getElem?_eq_none (by omega)]; rfl
      rw [this, h3]
theorem mid_nonneg {f : Int} {n : Nat} (hf : 0 < f) : Nonneg (0 :: evL f (n - 1) ++ [0]) := nonneg_app (evL_nonneg (by omega))
theorem mid_pre (f : Int) {n : Nat} (hn : 1 < n) : pre (0 :: evL f (n - 1) ++ [0]) (n + 1) = f := by
  show pre (0 :: (evL f (n - 1) ++ [0])) (n + 1) = f
  rw [pre_cons, pre_app0, Int.zero_add]
  obtain ⟨m, rfl⟩ : ∃ m, n = m + 1 := ⟨n - 1, by omega⟩
  show pre (evL f m) m + (evL f m).getD m 0 = f
  have : (evL f m).getD m 0 = 0 := by
    simp only [List.getD]; rw [List.getElem?_eq_none (by rw [evL_len]; omega)]; rfl
  rw [this, evL_sum (by omega)]
  omega
/-- Spaces never sum to more than the room. -/
theorem spL_pre (f way : Int) (n : Nat) (hn : 1 ≤ n) {j : Nat} (hj : j ≤ n + 1) : (0 ≤ pre (spL f n way) j ∧ pre (spL f n way) j ≤ f) ∨ (f ≤ pre (spL f n way) j ∧ pre (spL f n way) j ≤ 0) := by
  have key : ∀ l : List Int, 0 < f → Nonneg l → pre l (n + 1) = f → (0 ≤ pre l j ∧ pre l j ≤ f) ∨ (f ≤ pre l j ∧ pre l j ≤ 0) := fun l hf hl h => by
    have h1 := pre_nonneg hl j
    have h2 := pre_mono hl hj
    left; omega
  unfold spL
  split
  · show (0 ≤ pre ((List.replicate (n + 1) (0 : Int)).set 0 f) j ∧ _) ∨ _
    unfold zerL
    rw [pre_set0]
    split <;> omega
  split
  · unfold zerL
    rw [pre_set0]
    split <;> omega
  split
  · rename_i h
    exact key _ h.2.1 (mid_nonneg h.2.1) (mid_pre f h.2.2)
  split
  · rename_i h1 h2 h3 h4
    have hf : 0 < f := by omega
    refine key _ hf (arL_nonneg (evL_nonneg (by omega)) n _) ?_
    rw [arL_pre _ _ _ (Nat.le_refl _)]
    exact evL_sum (by omega)
  split
  · rename_i h1 h2 h3 h4 h5
    have hf : 0 < f := by omega
    exact key _ hf (evL_nonneg (by omega)) (evL_sum (by omega))
  · unfold zerL
    rw [pre_rep]
    omega
theorem spL_len (f way : Int) (n : Nat) (hn : 1 ≤ n) : (spL f n way).length = n + 1 := by
  unfold spL zerL
  split
  · simp
  split
  · simp
  split
  · simp [evL_len]; omega
  split
  · exact arL_len _ _ _
  split
  · exact evL_len _ _
  · simp
end Go.Proofs.Ytgmnboacehopfaa
