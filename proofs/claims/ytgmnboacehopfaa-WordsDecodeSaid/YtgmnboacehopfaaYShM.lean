/-
  A total shared out by weights: the plain law. Prefix sums, bounds, parts.
-/

namespace Go.Proofs.Ytgmnboacehopfaa

/-- The first k weights together. -/
def pre (ws : List Int) : Nat → Int
  | 0 => 0
  | k + 1 => pre ws k + ws.getD k 0
/-- The share of the i-th weight of all S. -/
def shareAt (t S : Int) (ws : List Int) (i : Nat) : Int := t * pre ws (i + 1) / S - t * pre ws i / S
/-- The first n parts. -/
def partsN (t S : Int) (ws : List Int) (n : Nat) : List Int := (List.range n).map (shareAt t S ws)
theorem partsN_succ (t S : Int) (ws : List Int) (n : Nat) : partsN t S ws (n + 1) = partsN t S ws n ++ [shareAt t S ws n] := by
  unfold partsN
  rw [List.range_succ, List.map_append]
  rfl
theorem partsN_len (t S : Int) (ws : List Int) (n : Nat) : (partsN t S ws n).length = n := by unfold partsN; simp
theorem partsN_get (t S : Int) (ws : List Int) (n i : Nat) (h : i < n) : (partsN t S ws n).getD i 0 = shareAt t S ws i := by
  unfold partsN
  simp [List.getD, h]
def Nonneg (ws : List Int) : Prop := ∀ i, 0 ≤ ws.getD i 0
theorem pre_nonneg {ws : List Int} (h : Nonneg ws) : ∀ k, 0 ≤ pre ws k
  | 0 => Int.le_refl 0
  | k + 1 => Int.add_nonneg (pre_nonneg h k) (h k)
theorem pre_mono {ws : List Int} (h : Nonneg ws) {j : Nat} : ∀ {k : Nat}, j ≤ k → pre ws j ≤ pre ws k
  | 0, hj => by
    obtain rfl : j = 0 := by omega
    exact Int.le_refl _
  | k + 1, hj => by
    by_cases e : j = k + 1
    · subst e; exact Int.le_refl _
    · have := pre_mono h (show j ≤ k by omega)
      have := h k
      show pre ws j ≤ pre ws k + ws.getD k 0
      omega
/-- A bound lies between 0 and the total. -/
theorem bound_abs {t p S : Int} (hp : 0 ≤ p) (hS : p ≤ S) : (0 ≤ t → 0 ≤ t * p / S ∧ t * p / S ≤ t) ∧ (t ≤ 0 → t ≤ t * p / S ∧ t * p / S ≤ 0) := by
  by_cases h0 : S = 0
  · subst h0
    rw [Int.ediv_zero]
    exact ⟨fun h => ⟨Int.le_refl _, h⟩, fun h => ⟨h, Int.le_refl _⟩⟩
  · have hS0 : 0 < S := by omega
    refine ⟨fun ht => ⟨Int.ediv_nonneg (Int.mul_nonneg ht hp) (by omega), ?_⟩, fun ht => ⟨?_, ?_⟩⟩
    · refine Int.le_trans (Int.ediv_le_ediv hS0 (Int.mul_le_mul_of_nonneg_left hS ht)) ?_
      rw [Int.mul_ediv_cancel _ h0]; exact Int.le_refl _
    · refine Int.le_trans ?_ (Int.ediv_le_ediv hS0 (Int.mul_le_mul_of_nonpos_left ht hS))
      rw [Int.mul_ediv_cancel _ h0]; exact Int.le_refl _
    · have := Int.ediv_le_ediv hS0 (Int.mul_nonpos_of_nonpos_of_nonneg ht hp)
      rwa [Int.zero_ediv] at this
/-- The sum of the first parts. -/
theorem parts_sum (t S : Int) (ws : List Int) : ∀ n, pre (partsN t S ws n) n = t * pre ws n / S
  | 0 => by show (0 : Int) = t * 0 / S; rw [Int.mul_zero, Int.zero_ediv]
  | n + 1 => by
    have h : ∀ k, k ≤ n → pre (partsN t S ws (n + 1)) k = t * pre ws k / S := by
      intro k
      induction k with
      | zero => intro _; show (0 : Int) = t * 0 / S; rw [Int.mul_zero, Int.zero_ediv]
      | succ k ih =>
        intro hk
        show pre (partsN t S ws (n + 1)) k + (partsN t S ws (n + 1)).getD k 0 = _
        rw [ih (by omega), partsN_get _ _ _ _ _ (by omega)]
        unfold shareAt
        omega
    show pre (partsN t S ws (n + 1)) n + (partsN t S ws (n + 1)).getD n 0 = _
    rw [h n (Nat.le_refl _), partsN_get _ _ _ _ _ (by omega)]
    unfold shareAt
    omega
theorem parts_pre (t S : Int) (ws : List Int) (n k : Nat) (hk : k ≤ n) : pre (partsN t S ws n) k = t * pre ws k / S := by
  induction k with
  | zero => show (0 : Int) = t * 0 / S; rw [Int.mul_zero, Int.zero_ediv]
  | succ k ih =>
    show pre (partsN t S ws n) k + (partsN t S ws n).getD k 0 = _
    rw [ih (by omega), partsN_get _ _ _ _ _ (by omega)]
    unfold shareAt
    omega
/-- Each part is less than one off its exact share. -/
theorem share_off (t S : Int) (ws : List Int) (i : Nat) (hS : 0 < S) : shareAt t S ws i * S - t * ws.getD i 0 < S ∧ -S < shareAt t S ws i * S - t * ws.getD i 0 := by
  have e : t * pre ws (i + 1) = t * pre ws i + t * ws.getD i 0 := by
    show t * (pre ws i + ws.getD i 0) = _
    rw [Int.mul_add]
  unfold shareAt
  have h1 := Int.mul_ediv_add_emod (t * pre ws (i + 1)) S
  have h2 := Int.mul_ediv_add_emod (t * pre ws i) S
  have a1 := Int.emod_nonneg (t * pre ws (i + 1)) (show S ≠ 0 by omega)
  have a2 := Int.emod_lt_of_pos (t * pre ws (i + 1)) hS
  have b1 := Int.emod_nonneg (t * pre ws i) (show S ≠ 0 by omega)
  have b2 := Int.emod_lt_of_pos (t * pre ws i) hS
  rw [Int.sub_mul, Int.mul_comm _ S, Int.mul_comm _ S]
  omega
theorem share_none (t S : Int) (ws : List Int) (i : Nat) (h : ws.getD i 0 = 0) : shareAt t S ws i = 0 := by
  unfold shareAt
  show t * (pre ws i + ws.getD i 0) / S - _ = 0
  rw [h, Int.add_zero]
  omega
/-- Whole rounds are shared exactly. -/
theorem share_whole (n S : Int) (ws : List Int) (i : Nat) (hS : 0 < S) : shareAt (n * S) S ws i = n * ws.getD i 0 := by
  unfold shareAt
  have e : ∀ p : Int, n * S * p / S = n * p := fun p => by
    rw [Int.mul_assoc, Int.mul_comm S p, ← Int.mul_assoc, Int.mul_ediv_cancel _ (show S ≠ 0 by omega)]
  rw [e, e]
  show n * (pre ws i + ws.getD i 0) - _ = _
  rw [Int.mul_add]
  omega
/-- Parts of one weight differ by at most one. -/
theorem share_even (t n : Int) (ws : List Int) (i j : Nat) (hn : 0 < n) (hi : ws.getD i 0 = 1) (hj : ws.getD j 0 = 1) : shareAt t n ws i ≤ shareAt t n ws j + 1 := by
  have h1 := share_off t n ws i hn
  have h2 := share_off t n ws j hn
  rw [hi] at h1
  rw [hj] at h2
  have h : (shareAt t n ws i - shareAt t n ws j) * n < 2 * n := by rw [Int.sub_mul]; omega
  have : shareAt t n ws i - shareAt t n ws j < 2 := Int.lt_of_mul_lt_mul_right h (by omega)
  omega
/-- Two neighbours put together. -/
def merge (ws : List Int) (k : Nat) : List Int := ws.take k ++ (ws.getD k 0 + ws.getD (k + 1) 0) :: ws.drop (k + 2)
theorem merge_len (ws : List Int) (k : Nat) (h : k + 1 < ws.length) : (merge ws k).length + 1 = ws.length := by
  unfold merge
  simp
  omega
theorem merge_lo (ws : List Int) (k i : Nat) (h : k + 1 < ws.length) (hi : i < k) : (merge ws k).getD i 0 = ws.getD i 0 := by
  unfold merge
  simp only [List.getD]
  rw [List.getElem?_append_left (by simp; omega), List.getElem?_take_of_lt hi]
theorem merge_at (ws : List Int) (k : Nat) (h : k + 1 < ws.length) : (merge ws k).getD k 0 = ws.getD k 0 + ws.getD (k + 1) 0 := by
  unfold merge
  simp only [List.getD]
  rw [List.getElem?_append_right (by simp; omega)]
  have : k - (ws.take k).length = 0 := by simp; omega
  rw [this]
  rfl
theorem merge_hi (ws : List Int) (k i : Nat) (h : k + 1 < ws.length) (hi : k < i) : (merge ws k).getD i 0 = ws.getD (i + 1) 0 := by
  unfold merge
  simp only [List.getD]
  rw [List.getElem?_append_right (by simp; omega)]
  have : i - (ws.take k).length = (i - k - 1) + 1 := by simp; omega
  rw [this, List.getElem?_cons_succ, List.getElem?_drop]
  congr 2
  omega
theorem merge_pre_lo (ws : List Int) (k : Nat) (h : k + 1 < ws.length) : ∀ j, j ≤ k → pre (merge ws k) j = pre ws j
  | 0, _ => rfl
  | j + 1, hj => by
    show pre (merge ws k) j + (merge ws k).getD j 0 = pre ws j + ws.getD j 0
    rw [merge_pre_lo ws k h j (by omega), merge_lo ws k j h (by omega)]
theorem merge_pre_hi (ws : List Int) (k : Nat) (h : k + 1 < ws.length) : ∀ j, pre (merge ws k) (k + 1 + j) = pre ws (k + 2 + j)
  | 0 => by
    show pre (merge ws k) k + (merge ws k).getD k 0 = pre ws k + ws.getD k 0 + ws.getD (k + 1) 0
    rw [merge_pre_lo ws k h k (Nat.le_refl _), merge_at ws k h]
    omega
  | j + 1 => by
    show pre (merge ws k) (k + 1 + j) + (merge ws k).getD (k + 1 + j) 0 = pre ws (k + 2 + j) + ws.getD (k + 2 + j) 0
    rw [merge_pre_hi ws k h j, merge_hi ws k _ h (by omega)]
    congr 2
    omega
/-- Neighbours that are put together get what they got together. -/
theorem merge_share (t S : Int) (ws : List Int) (k n : Nat) (hn : ws.length = n) (h : k + 1 < n) : partsN t S (merge ws k) (n - 1) = merge (partsN t S ws n) k := by
  have hl := partsN_len t S ws n
  have hk : k + 1 < ws.length := by omega
  have hk' : k + 1 < (partsN t S ws n).length := by omega
  have hm := merge_len (partsN t S ws n) k hk'
  apply List.ext_getElem
  · rw [partsN_len]; omega
  · intro i h1 h2
    rw [partsN_len] at h1
    have e1 : (partsN t S (merge ws k) (n - 1))[i] = (partsN t S (merge ws k) (n - 1)).getD i 0 := by simp [List.getD, partsN_len, h1]
    have e2 : (merge (partsN t S ws n) k)[i] = (merge (partsN t S ws n) k).getD i 0 := by simp [List.getD, h2]
    rw [e1, e2, partsN_get _ _ _ _ _ h1]
    unfold shareAt
    by_cases c1 : i < k
    · rw [merge_lo _ _ _ hk' c1, partsN_get _ _ _ _ _ (by omega), merge_pre_lo ws k hk i (by omega), merge_pre_lo ws k hk (i + 1) (by omega)]
      rfl
    · by_cases c2 : i = k
      · subst c2
        rw [merge_at _ _ hk', partsN_get _ _ _ _ _ (by omega), partsN_get _ _ _ _ _ (by omega), merge_pre_lo ws i hk i (by omega)]
        have := merge_pre_hi ws i hk 0
        rw [show i + 1 + 0 = i + 1 by omega, show i + 2 + 0 = i + 2 by omega] at this
        rw [this]
        unfold shareAt
        show _ = t * pre ws (i + 1) / S - _ + (t * pre ws (i + 2) / S - _)
        omega
      · rw [merge_hi _ _ _ hk' (by omega), partsN_get _ _ _ _ _ (by omega)]
        have e3 := merge_pre_hi ws k hk (i - k - 1)
        have e4 := merge_pre_hi ws k hk (i - k)
        rw [show k + 1 + (i - k - 1) = i by omega, show k + 2 + (i - k - 1) = i + 1 by omega] at e3
        rw [show k + 1 + (i - k) = i + 1 by omega, show k + 2 + (i - k) = i + 1 + 1 by omega] at e4
        rw [e3, e4]
        rfl
/-- All the weights are 0, where their sum is. -/
theorem pre_zero {ws : List Int} (h : Nonneg ws) {n : Nat} (h0 : pre ws n = 0) {i : Nat} (hi : i < n) : ws.getD i 0 = 0 := by
  have h1 := pre_mono h (show i + 1 ≤ n by omega)
  have h2 := pre_nonneg h i
  have h3 := h i
  have h4 : pre ws (i + 1) = pre ws i + ws.getD i 0 := rfl
  omega
end Go.Proofs.Ytgmnboacehopfaa
