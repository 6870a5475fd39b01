/-
  A total shared out by weights: the plain law. Prefix sums, bounds, parts.
-/
/-
  Small facts for the walks of this seat: worlds, Add64, wide numbers.
-/
/-
  Blocks of cells by their whole contents; worlds in which one old block alone may have turned.
-/
/-
  Slices of ints: what one holds; one of the call's own, that grows.
-/
/-
  The functions of package wide, each by its contract: what it returns for whatever it is given.
-/
/-
  The functions of package wide, each by its contract: what it returns for whatever it is given. Second part.
-/
/-
  The functions of package wide, each by its contract: what it returns for whatever it is given. Third part.
-/
/-
  Plain facts on the division of a number of two words by one of one word, by digits of half a word.
-/
/-
  math/bits.Div64 where the upper word isn't 0: by digits of half a word.
-/
import Derived.Test.YthofammjbicogaaRows
import Derived.WalkKit
import Derived.WalkSpells
import Derived.Lib.Hide
import Derived.Laws.Externs
import Derived.Deep.RegionHeld3
import Derived.Deep.QuietTactic
import Derived.BigQuiet
import Derived.Deep.Light
import Derived.Handy
import Derived.Shelf.Bits.Mul64
import Derived.OwnWalk
import Derived.Test.YthofammjbicogaaShelf
import Derived.Deep.DeepCutAuto
import Derived.Deep.CutBlock
import Derived.Deep.CutRange
namespace Go.Proofs.Ythofammjbicogaa

/-- The first k weights together. -/
def pre (ws : List Int) : Nat → Int
  | 0 => 0
  | k + 1 => pre ws k + ws.getD k 0
/-- The share of the i-th weight of all S. -/
def shareAt (t S : Int) (ws : List Int) (i : Nat) : Int := t * pre ws (i + 1) / S - t * pre ws i / S
/-- The first n parts. -/
def partsN (t S : Int) (ws : List Int) (n : Nat) : List Int := (List.range n).map (shareAt t S ws)
theorem partsN_succ (t S : Int) (ws : List Int) (n : Nat) : partsN t S ws (n + 1) = partsN t S ws n ++ [shareAt t S ws n] := by
  unfold partsN
  rw [List.range_succ, List.map_append]
  rfl
theorem partsN_len (t S : Int) (ws : List Int) (n : Nat) : (partsN t S ws n).length = n := by unfold partsN; simp
theorem partsN_get (t S : Int) (ws : List Int) (n i : Nat) (h : i < n) : (partsN t S ws n).getD i 0 = shareAt t S ws i := by
  unfold partsN
  simp [List.getD, h]
def Nonneg (ws : List Int) : Prop := ∀ i, 0 ≤ ws.getD i 0
theorem pre_nonneg {ws : List Int} (h : Nonneg ws) : ∀ k, 0 ≤ pre ws k
  | 0 => Int.le_refl 0
  | k + 1 => Int.add_nonneg (pre_nonneg h k) (h k)
theorem pre_mono {ws : List Int} (h : Nonneg ws) {j : Nat} : ∀ {k : Nat}, j ≤ k → pre ws j ≤ pre ws k
  | 0, hj => by
    obtain rfl : j = 0 := by omega
    exact Int.le_refl _
  | k + 1, hj => by
    by_cases e : j = k + 1
    · subst e; exact Int.le_refl _
    · have := pre_mono h (show j ≤ k by omega)
      have := h k
      show pre ws j ≤ pre ws k + ws.getD k 0
      omega
/-- A bound lies between 0 and the total. -/
theorem bound_abs {t p S : Int} (hp : 0 ≤ p) (hS : p ≤ S) : (0 ≤ t → 0 ≤ t * p / S ∧ t * p / S ≤ t) ∧ (t ≤ 0 → t ≤ t * p / S ∧ t * p / S ≤ 0) := by
  by_cases h0 : S = 0
  · subst h0
    rw [Int.ediv_zero]
    exact ⟨fun h => ⟨Int.le_refl _, h⟩, fun h => ⟨h, Int.le_refl _⟩⟩
  · have hS0 : 0 < S := by omega
    refine ⟨fun ht => ⟨Int.ediv_nonneg (Int.mul_nonneg ht hp) (by omega), ?_⟩, fun ht => ⟨?_, ?_⟩⟩
    · refine Int.le_trans (Int.ediv_le_ediv hS0 (Int.mul_le_mul_of_nonneg_left hS ht)) ?_
      rw [Int.mul_ediv_cancel _ h0]; exact Int.le_refl _
    · refine Int.le_trans ?_ (Int.ediv_le_ediv hS0 (Int.mul_le_mul_of_nonpos_left ht hS))
      rw [Int.mul_ediv_cancel _ h0]; exact Int.le_refl _
    · have := Int.ediv_le_ediv hS0 (Int.mul_nonpos_of_nonpos_of_nonneg ht hp)
      rwa [Int.zero_ediv] at this
/-- The sum of the first parts. -/
theorem parts_sum (t S : Int) (ws : List Int) : ∀ n, pre (partsN t S ws n) n = t * pre ws n / S
  | 0 => by show (0 : Int) = t * 0 / S; rw [Int.mul_zero, Int.zero_ediv]
  | n + 1 => by
    have h : ∀ k, k ≤ n → pre (partsN t S ws (n + 1)) k = t * pre ws k / S := by
      intro k
      induction k with
      | zero => intro _; show (0 : Int) = t * 0 / S; rw [Int.mul_zero, Int.zero_ediv]
      | succ k ih =>
        intro hk
        show pre (partsN t S ws (n + 1)) k + (partsN t S ws (n + 1)).getD k 0 = _
        rw [ih (by omega), partsN_get _ _ _ _ _ (by omega)]
        unfold shareAt
        omega
    show pre (partsN t S ws (n + 1)) n + (partsN t S ws (n + 1)).getD n 0 = _
    rw [h n (Nat.le_refl _), partsN_get _ _ _ _ _ (by omega)]
    unfold shareAt
    omega
theorem parts_pre (t S : Int) (ws : List Int) (n k : Nat) (hk : k ≤ n) : pre (partsN t S ws n) k = t * pre ws k / S := by
  induction k with
  | zero => show (0 : Int) = t * 0 / S; rw [Int.mul_zero, Int.zero_ediv]
  | succ k ih =>
    show pre (partsN t S ws n) k + (partsN t S ws n).getD k 0 = _
    rw [ih (by omega), partsN_get _ _ _ _ _ (by omega)]
    unfold shareAt
    omega
/-- Each part is less than one off its exact share. -/
theorem share_off (t S : Int) (ws : List Int) (i : Nat) (hS : 0 < S) : shareAt t S ws i * S - t * ws.getD i 0 < S ∧ -S < shareAt t S ws i * S - t * ws.getD i 0 := by
  have e : t * pre ws (i + 1) = t * pre ws i + t * ws.getD i 0 := by
    show t * (pre ws i + ws.getD i 0) = _
    rw [Int.mul_add]
  unfold shareAt
  have h1 := Int.mul_ediv_add_emod (t * pre ws (i + 1)) S
  have h2 := Int.mul_ediv_add_emod (t * pre ws i) S
  have a1 := Int.emod_nonneg (t * pre ws (i + 1)) (show S ≠ 0 by omega)
  have a2 := Int.emod_lt_of_pos (t * pre ws (i + 1)) hS
  have b1 := Int.emod_nonneg (t * pre ws i) (show S ≠ 0 by omega)
  have b2 := Int.emod_lt_of_pos (t * pre ws i) hS
  rw [Int.sub_mul, Int.mul_comm _ S, Int.mul_comm _ S]
  omega
theorem share_none (t S : Int) (ws : List Int) (i : Nat) (h : ws.getD i 0 = 0) : shareAt t S ws i = 0 := by
  unfold shareAt
  show t * (pre ws i + ws.getD i 0) / S - _ = 0
  rw [h, Int.add_zero]
  omega
/-- Whole rounds are shared exactly. -/
theorem share_whole (n S : Int) (ws : List Int) (i : Nat) (hS : 0 < S) : shareAt (n * S) S ws i = n * ws.getD i 0 := by
  unfold shareAt
  have e : ∀ p : Int, n * S * p / S = n * p := fun p => by
    rw [Int.mul_assoc, Int.mul_comm S p, ← Int.mul_assoc, Int.mul_ediv_cancel _ (show S ≠ 0 by omega)]
  rw [e, e]
  show n * (pre ws i + ws.getD i 0) - _ = _
  rw [Int.mul_add]
  omega
/-- Parts of one weight differ by at most one. -/
theorem share_even (t n : Int) (ws : List Int) (i j : Nat) (hn : 0 < n) (hi : ws.getD i 0 = 1) (hj : ws.getD j 0 = 1) : shareAt t n ws i ≤ shareAt t n ws j + 1 := by
  have h1 := share_off t n ws i hn
  have h2 := share_off t n ws j hn
  rw [hi] at h1
  rw [hj] at h2
  have h : (shareAt t n ws i - shareAt t n ws j) * n < 2 * n := by rw [Int.sub_mul]; omega
  have : shareAt t n ws i - shareAt t n ws j < 2 := Int.lt_of_mul_lt_mul_right h (by omega)
  omega
/-- Two neighbours put together. -/
def merge (ws : List Int) (k : Nat) : List Int := ws.take k ++ (ws.getD k 0 + ws.getD (k + 1) 0) :: ws.drop (k + 2)
theorem merge_len (ws : List Int) (k : Nat) (h : k + 1 < ws.length) : (merge ws k).length + 1 = ws.length := by
  unfold merge
  simp
  omega
theorem merge_lo (ws : List Int) (k i : Nat) (h : k + 1 < ws.length) (hi : i < k) : (merge ws k).getD i 0 = ws.getD i 0 := by
  unfold merge
  simp only [List.getD]
  rw [List.getElem?_append_left (by simp; omega), List.getElem?_take_of_lt hi]
theorem merge_at (ws : List Int) (k : Nat) (h : k + 1 < ws.length) : (merge ws k).getD k 0 = ws.getD k 0 + ws.getD (k + 1) 0 := by
  unfold merge
  simp only [List.getD]
  rw [List.getElem?_append_right (by simp; omega)]
  have : k - (ws.take k).length = 0 := by simp; omega
  rw [this]
  rfl
theorem merge_hi (ws : List Int) (k i : Nat) (h : k + 1 < ws.length) (hi : k < i) : (merge ws k).getD i 0 = ws.getD (i + 1) 0 := by
  unfold merge
  simp only [List.getD]
  rw [List.getElem?_append_right (by simp; omega)]
  have : i - (ws.take k).length = (i - k - 1) + 1 := by simp; omega
  rw [this, List.getElem?_cons_succ, List.getElem?_drop]
  congr 2
  omega
theorem merge_pre_lo (ws : List Int) (k : Nat) (h : k + 1 < ws.length) : ∀ j, j ≤ k → pre (merge ws k) j = pre ws j
  | 0, _ => rfl
  | j + 1, hj => by
    show pre (merge ws k) j + (merge ws k).getD j 0 = pre ws j + ws.getD j 0
    rw [merge_pre_lo ws k h j (by omega), merge_lo ws k j h (by omega)]
theorem merge_pre_hi (ws : List Int) (k : Nat) (h : k + 1 < ws.length) : ∀ j, pre (merge ws k) (k + 1 + j) = pre ws (k + 2 + j)
  | 0 => by
    show pre (merge ws k) k + (merge ws k).getD k 0 = pre ws k + ws.getD k 0 + ws.getD (k + 1) 0
    rw [merge_pre_lo ws k h k (Nat.le_refl _), merge_at ws k h]
    omega
  | j + 1 => by
    show pre (merge ws k) (k + 1 + j) + (merge ws k).getD (k + 1 + j) 0 = pre ws (k + 2 + j) + ws.getD (k + 2 + j) 0
    rw [merge_pre_hi ws k h j, merge_hi ws k _ h (by omega)]
    congr 2
    omega
/-- Neighbours that are put together get what they got together. -/
theorem merge_share (t S : Int) (ws : List Int) (k n : Nat) (hn : ws.length = n) (h : k + 1 < n) : partsN t S (merge ws k) (n - 1) = merge (partsN t S ws n) k := by
  have hl := partsN_len t S ws n
  have hk : k + 1 < ws.length := by omega
  have hk' : k + 1 < (partsN t S ws n).length := by omega
  have hm := merge_len (partsN t S ws n) k hk'
  apply List.ext_getElem
  · rw [partsN_len]; omega
  · intro i h1 h2
    rw [partsN_len] at h1
    have e1 : (partsN t S (merge ws k) (n - 1))[i] = (partsN t S (merge ws k) (n - 1)).getD i 0 := by simp [List.getD, partsN_len, h1]
    have e2 : (merge (partsN t S ws n) k)[i] = (merge (partsN t S ws n) k).getD i 0 := by simp [List.getD, h2]
    rw [e1, e2, partsN_get _ _ _ _ _ h1]
    unfold shareAt
    by_cases c1 : i < k
    · rw [merge_lo _ _ _ hk' c1, partsN_get _ _ _ _ _ (by omega), merge_pre_lo ws k hk i (by omega), merge_pre_lo ws k hk (i + 1) (by omega)]
      rfl
    · by_cases c2 : i = k
      · subst c2
        rw [merge_at _ _ hk', partsN_get _ _ _ _ _ (by omega), partsN_get _ _ _ _ _ (by omega), merge_pre_lo ws i hk i (by omega)]
        have := merge_pre_hi ws i hk 0
        rw [show i + 1 + 0 = i + 1 by omega, show i + 2 + 0 = i + 2 by omega] at this
        rw [this]
        unfold shareAt
        show _ = t * pre ws (i + 1) / S - _ + (t * pre ws (i + 2) / S - _)
        omega
      · rw [merge_hi _ _ _ hk' (by omega), partsN_get _ _ _ _ _ (by omega)]
        have e3 := merge_pre_hi ws k hk (i - k - 1)
        have e4 := merge_pre_hi ws k hk (i - k)
        rw [show k + 1 + (i - k - 1) = i by omega, show k + 2 + (i - k - 1) = i + 1 by omega] at e3
        rw [show k + 1 + (i - k) = i + 1 by omega, show k + 2 + (i - k) = i + 1 + 1 by omega] at e4
        rw [e3, e4]
        rfl
/-- All the weights are 0, where their sum is. -/
theorem pre_zero {ws : List Int} (h : Nonneg ws) {n : Nat} (h0 : pre ws n = 0) {i : Nat} (hi : i < n) : ws.getD i 0 = 0 := by
  have h1 := pre_mono h (show i + 1 ≤ n by omega)
  have h2 := pre_nonneg h i
  have h3 := h i
  have h4 : pre ws (i + 1) = pre ws i + ws.getD i 0 := rfl
  omega
end Go.Proofs.Ythofammjbicogaa
namespace Go.Proofs.Ythofammjbicogaa
open Go.RowKit

theorem bcell {W w1 : World} (hb : Below W.heap.size W w1) : (∀ b o, b < W.heap.size → w1.cell? ⟨b, o, none⟩ = W.cell? ⟨b, o, none⟩) ∧ (∀ b o, b < W.heap.size → w1.frozen? ⟨b, o, none⟩ = W.frozen? ⟨b, o, none⟩) :=
  ⟨fun b o h => hb.cell (p := ⟨b, o, none⟩) h, fun b o h => hb.frozen (p := ⟨b, o, none⟩) h⟩
theorem bz0 {n : Nat} {W w1 : World} (hb : Below W.heap.size W w1) (h : n + 0 ≤ W.heap.size) :
    n ≤ w1.heap.size ∧ n ≤ w1.heap.size + 1 ∧ n ≤ w1.heap.size + 1 + 1 ∧ n ≤ w1.heap.size + 1 + 1 + 1 ∧ n ≤ w1.heap.size + 1 + 1 + 1 + 1 ∧ n ≤ w1.heap.size + 1 + 1 + 1 + 1 + 1 ∧ n < w1.heap.size + 1 ∧ n < w1.heap.size + 1 + 1 ∧ n < w1.heap.size + 1 + 1 + 1 ∧ n < w1.heap.size + 1 + 1 + 1 + 1 ∧ n < w1.heap.size + 1 + 1 + 1 + 1 + 1 := by
  have := hb.size
  omega
theorem bz1 {n : Nat} {W w1 : World} (hb : Below W.heap.size W w1) (h : n + 1 ≤ W.heap.size) :
    n < w1.heap.size ∧ n ≤ w1.heap.size ∧ n ≤ w1.heap.size + 1 ∧ n ≤ w1.heap.size + 1 + 1 ∧ n ≤ w1.heap.size + 1 + 1 + 1 ∧ n ≤ w1.heap.size + 1 + 1 + 1 + 1 ∧ n ≤ w1.heap.size + 1 + 1 + 1 + 1 + 1 ∧ n < w1.heap.size + 1 ∧ n < w1.heap.size + 1 + 1 ∧ n < w1.heap.size + 1 + 1 + 1 ∧ n < w1.heap.size + 1 + 1 + 1 + 1 ∧ n < w1.heap.size + 1 + 1 + 1 + 1 + 1 := by
  have := hb.size
  omega
theorem bz2 {n : Nat} {W w1 : World} (hb : Below W.heap.size W w1) (h : n + 2 ≤ W.heap.size) :
    n < w1.heap.size ∧ n + 1 < w1.heap.size ∧ n ≤ w1.heap.size ∧ n + 1 ≤ w1.heap.size ∧ n ≤ w1.heap.size + 1 ∧ n ≤ w1.heap.size + 1 + 1 ∧ n ≤ w1.heap.size + 1 + 1 + 1 ∧ n ≤ w1.heap.size + 1 + 1 + 1 + 1 ∧ n ≤ w1.heap.size + 1 + 1 + 1 + 1 + 1 ∧ n < w1.heap.size + 1 ∧ n < w1.heap.size + 1 + 1 ∧ n < w1.heap.size + 1 + 1 + 1 ∧ n < w1.heap.size + 1 + 1 + 1 + 1 ∧ n < w1.heap.size + 1 + 1 + 1 + 1 + 1 := by
  have := hb.size
  omega
theorem bz3 {n : Nat} {W w1 : World} (hb : Below W.heap.size W w1) (h : n + 3 ≤ W.heap.size) :
    n < w1.heap.size ∧ n + 1 < w1.heap.size ∧ n + 1 + 1 < w1.heap.size ∧ n ≤ w1.heap.size ∧ n + 1 ≤ w1.heap.size ∧ n + 1 + 1 ≤ w1.heap.size ∧ n ≤ w1.heap.size + 1 ∧ n ≤ w1.heap.size + 1 + 1 ∧ n ≤ w1.heap.size + 1 + 1 + 1 ∧ n ≤ w1.heap.size + 1 + 1 + 1 + 1 ∧ n ≤ w1.heap.size + 1 + 1 + 1 + 1 + 1 ∧ n < w1.heap.size + 1 ∧ n < w1.heap.size + 1 + 1 ∧ n < w1.heap.size + 1 + 1 + 1 ∧ n < w1.heap.size + 1 + 1 + 1 + 1 ∧ n < w1.heap.size + 1 + 1 + 1 + 1 + 1 := by
  have := hb.size
  omega
theorem bz4 {n : Nat} {W w1 : World} (hb : Below W.heap.size W w1) (h : n + 4 ≤ W.heap.size) :
    n < w1.heap.size ∧ n + 1 < w1.heap.size ∧ n + 1 + 1 < w1.heap.size ∧ n + 1 + 1 + 1 < w1.heap.size ∧ n ≤ w1.heap.size ∧ n + 1 ≤ w1.heap.size ∧ n + 1 + 1 ≤ w1.heap.size ∧ n + 1 + 1 + 1 ≤ w1.heap.size ∧ n ≤ w1.heap.size + 1 ∧ n ≤ w1.heap.size + 1 + 1 ∧ n ≤ w1.heap.size + 1 + 1 + 1 ∧ n ≤ w1.heap.size + 1 + 1 + 1 + 1 ∧ n ≤ w1.heap.size + 1 + 1 + 1 + 1 + 1 ∧ n < w1.heap.size + 1 ∧ n < w1.heap.size + 1 + 1 ∧ n < w1.heap.size + 1 + 1 + 1 ∧ n < w1.heap.size + 1 + 1 + 1 + 1 ∧ n < w1.heap.size + 1 + 1 + 1 + 1 + 1 := by
  have := hb.size
  omega
theorem bz5 {n : Nat} {W w1 : World} (hb : Below W.heap.size W w1) (h : n + 5 ≤ W.heap.size) :
    n < w1.heap.size ∧ n + 1 < w1.heap.size ∧ n + 1 + 1 < w1.heap.size ∧ n + 1 + 1 + 1 < w1.heap.size ∧ n + 1 + 1 + 1 + 1 < w1.heap.size ∧ n ≤ w1.heap.size ∧ n + 1 ≤ w1.heap.size ∧ n + 1 + 1 ≤ w1.heap.size ∧ n + 1 + 1 + 1 ≤ w1.heap.size ∧ n + 1 + 1 + 1 + 1 ≤ w1.heap.size ∧ n ≤ w1.heap.size + 1 ∧ n ≤ w1.heap.size + 1 + 1 ∧ n ≤ w1.heap.size + 1 + 1 + 1 ∧ n ≤ w1.heap.size + 1 + 1 + 1 + 1 ∧ n ≤ w1.heap.size + 1 + 1 + 1 + 1 + 1 ∧ n < w1.heap.size + 1 ∧ n < w1.heap.size + 1 + 1 ∧ n < w1.heap.size + 1 + 1 + 1 ∧ n < w1.heap.size + 1 + 1 + 1 + 1 ∧ n < w1.heap.size + 1 + 1 + 1 + 1 + 1 := by
  have := hb.size
  omega
theorem bz6 {n : Nat} {W w1 : World} (hb : Below W.heap.size W w1) (h : n + 6 ≤ W.heap.size) :
    n < w1.heap.size ∧ n + 1 < w1.heap.size ∧ n + 1 + 1 < w1.heap.size ∧ n + 1 + 1 + 1 < w1.heap.size ∧ n + 1 + 1 + 1 + 1 < w1.heap.size ∧ n + 1 + 1 + 1 + 1 + 1 < w1.heap.size ∧ n ≤ w1.heap.size ∧ n + 1 ≤ w1.heap.size ∧ n + 1 + 1 ≤ w1.heap.size ∧ n + 1 + 1 + 1 ≤ w1.heap.size ∧ n + 1 + 1 + 1 + 1 ≤ w1.heap.size ∧ n + 1 + 1 + 1 + 1 + 1 ≤ w1.heap.size ∧ n ≤ w1.heap.size + 1 ∧ n ≤ w1.heap.size + 1 + 1 ∧ n ≤ w1.heap.size + 1 + 1 + 1 ∧ n ≤ w1.heap.size + 1 + 1 + 1 + 1 ∧ n ≤ w1.heap.size + 1 + 1 + 1 + 1 + 1 ∧ n < w1.heap.size + 1 ∧ n < w1.heap.size + 1 + 1 ∧ n < w1.heap.size + 1 + 1 + 1 ∧ n < w1.heap.size + 1 + 1 + 1 + 1 ∧ n < w1.heap.size + 1 + 1 + 1 + 1 + 1 := by
  have := hb.size
  omega
theorem bz7 {n : Nat} {W w1 : World} (hb : Below W.heap.size W w1) (h : n + 7 ≤ W.heap.size) :
    n < w1.heap.size ∧ n + 1 < w1.heap.size ∧ n + 1 + 1 < w1.heap.size ∧ n + 1 + 1 + 1 < w1.heap.size ∧ n + 1 + 1 + 1 + 1 < w1.heap.size ∧ n + 1 + 1 + 1 + 1 + 1 < w1.heap.size ∧ n + 1 + 1 + 1 + 1 + 1 + 1 < w1.heap.size ∧ n ≤ w1.heap.size ∧ n + 1 ≤ w1.heap.size ∧ n + 1 + 1 ≤ w1.heap.size ∧ n + 1 + 1 + 1 ≤ w1.heap.size ∧ n + 1 + 1 + 1 + 1 ≤ w1.heap.size ∧ n + 1 + 1 + 1 + 1 + 1 ≤ w1.heap.size ∧ n + 1 + 1 + 1 + 1 + 1 + 1 ≤ w1.heap.size ∧ n ≤ w1.heap.size + 1 ∧ n ≤ w1.heap.size + 1 + 1 ∧ n ≤ w1.heap.size + 1 + 1 + 1 ∧ n ≤ w1.heap.size + 1 + 1 + 1 + 1 ∧ n ≤ w1.heap.size + 1 + 1 + 1 + 1 + 1 ∧ n < w1.heap.size + 1 ∧ n < w1.heap.size + 1 + 1 ∧ n < w1.heap.size + 1 + 1 + 1 ∧ n < w1.heap.size + 1 + 1 + 1 + 1 ∧ n < w1.heap.size + 1 + 1 + 1 + 1 + 1 := by
  have := hb.size
  omega
theorem bz8 {n : Nat} {W w1 : World} (hb : Below W.heap.size W w1) (h : n + 8 ≤ W.heap.size) :
    n < w1.heap.size ∧ n + 1 < w1.heap.size ∧ n + 1 + 1 < w1.heap.size ∧ n + 1 + 1 + 1 < w1.heap.size ∧ n + 1 + 1 + 1 + 1 < w1.heap.size ∧ n + 1 + 1 + 1 + 1 + 1 < w1.heap.size ∧ n + 1 + 1 + 1 + 1 + 1 + 1 < w1.heap.size ∧ n + 1 + 1 + 1 + 1 + 1 + 1 + 1 < w1.heap.size ∧ n ≤ w1.heap.size ∧ n + 1 ≤ w1.heap.size ∧ n + 1 + 1 ≤ w1.heap.size ∧ n + 1 + 1 + 1 ≤ w1.heap.size ∧ n + 1 + 1 + 1 + 1 ≤ w1.heap.size ∧ n + 1 + 1 + 1 + 1 + 1 ≤ w1.heap.size ∧ n + 1 + 1 + 1 + 1 + 1 + 1 ≤ w1.heap.size ∧ n + 1 + 1 + 1 + 1 + 1 + 1 + 1 ≤ w1.heap.size ∧ n ≤ w1.heap.size + 1 ∧ n ≤ w1.heap.size + 1 + 1 ∧ n ≤ w1.heap.size + 1 + 1 + 1 ∧ n ≤ w1.heap.size + 1 + 1 + 1 + 1 ∧ n ≤ w1.heap.size + 1 + 1 + 1 + 1 + 1 ∧ n < w1.heap.size + 1 ∧ n < w1.heap.size + 1 + 1 ∧ n < w1.heap.size + 1 + 1 + 1 ∧ n < w1.heap.size + 1 + 1 + 1 + 1 ∧ n < w1.heap.size + 1 + 1 + 1 + 1 + 1 := by
  have := hb.size
  omega
theorem bz9 {n : Nat} {W w1 : World} (hb : Below W.heap.size W w1) (h : n + 9 ≤ W.heap.size) :
    n < w1.heap.size ∧ n + 1 < w1.heap.size ∧ n + 1 + 1 < w1.heap.size ∧ n + 1 + 1 + 1 < w1.heap.size ∧ n + 1 + 1 + 1 + 1 < w1.heap.size ∧ n + 1 + 1 + 1 + 1 + 1 < w1.heap.size ∧ n + 1 + 1 + 1 + 1 + 1 + 1 < w1.heap.size ∧ n + 1 + 1 + 1 + 1 + 1 + 1 + 1 < w1.heap.size ∧ n + 1 + 1 + 1 + 1 + 1 + 1 + 1 + 1 < w1.heap.size ∧ n ≤ w1.heap.size ∧ n + 1 ≤ w1.heap.size ∧ n + 1 + 1 ≤ w1.heap.size ∧ n + 1 + 1 + 1 ≤ w1.heap.size ∧ n + 1 + 1 + 1 + 1 ≤ w1.heap.size ∧ n + 1 + 1 + 1 + 1 + 1 ≤ w1.heap.size ∧ n + 1 + 1 + 1 + 1 + 1 + 1 ≤ w1.heap.size ∧ n + 1 + 1 + 1 + 1 + 1 + 1 + 1 ≤ w1.heap.size ∧ n + 1 + 1 + 1 + 1 + 1 + 1 + 1 + 1 ≤ w1.heap.size ∧ n ≤ w1.heap.size + 1 ∧ n ≤ w1.heap.size + 1 + 1 ∧ n ≤ w1.heap.size + 1 + 1 + 1 ∧ n ≤ w1.heap.size + 1 + 1 + 1 + 1 ∧ n ≤ w1.heap.size + 1 + 1 + 1 + 1 + 1 ∧ n < w1.heap.size + 1 ∧ n < w1.heap.size + 1 + 1 ∧ n < w1.heap.size + 1 + 1 + 1 ∧ n < w1.heap.size + 1 + 1 + 1 + 1 ∧ n < w1.heap.size + 1 + 1 + 1 + 1 + 1 := by
  have := hb.size
  omega
theorem bz10 {n : Nat} {W w1 : World} (hb : Below W.heap.size W w1) (h : n + 10 ≤ W.heap.size) :
    n < w1.heap.size ∧ n + 1 < w1.heap.size ∧ n + 1 + 1 < w1.heap.size ∧ n + 1 + 1 + 1 < w1.heap.size ∧ n + 1 + 1 + 1 + 1 < w1.heap.size ∧ n + 1 + 1 + 1 + 1 + 1 < w1.heap.size ∧ n + 1 + 1 + 1 + 1 + 1 + 1 < w1.heap.size ∧ n + 1 + 1 + 1 + 1 + 1 + 1 + 1 < w1.heap.size ∧ n + 1 + 1 + 1 + 1 + 1 + 1 + 1 + 1 < w1.heap.size ∧ n + 1 + 1 + 1 + 1 + 1 + 1 + 1 + 1 + 1 < w1.heap.size ∧ n ≤ w1.heap.size ∧ n + 1 ≤ w1.heap.size ∧ n + 1 + 1 ≤ w1.heap.size ∧ n + 1 + 1 + 1 ≤ w1.heap.size ∧ n + 1 + 1 + 1 + 1 ≤ w1.heap.size ∧ n + 1 + 1 + 1 + 1 + 1 ≤ w1.heap.size ∧ n + 1 + 1 + 1 + 1 + 1 + 1 ≤ w1.heap.size ∧ n + 1 + 1 + 1 + 1 + 1 + 1 + 1 ≤ w1.heap.size ∧ n + 1 + 1 + 1 + 1 + 1 + 1 + 1 + 1 ≤ w1.heap.size ∧ n + 1 + 1 + 1 + 1 + 1 + 1 + 1 + 1 + 1 ≤ w1.heap.size ∧ n ≤ w1.heap.size + 1 ∧ n ≤ w1.heap.size + 1 + 1 ∧ n ≤ w1.heap.size + 1 + 1 + 1 ∧ n ≤ w1.heap.size + 1 + 1 + 1 + 1 ∧ n ≤ w1.heap.size + 1 + 1 + 1 + 1 + 1 ∧ n < w1.heap.size + 1 ∧ n < w1.heap.size + 1 + 1 ∧ n < w1.heap.size + 1 + 1 + 1 ∧ n < w1.heap.size + 1 + 1 + 1 + 1 ∧ n < w1.heap.size + 1 + 1 + 1 + 1 + 1 := by
  have := hb.size
  omega
theorem bz11 {n : Nat} {W w1 : World} (hb : Below W.heap.size W w1) (h : n + 11 ≤ W.heap.size) :
    n < w1.heap.size ∧ n + 1 < w1.heap.size ∧ n + 1 + 1 < w1.heap.size ∧ n + 1 + 1 + 1 < w1.heap.size ∧ n + 1 + 1 + 1 + 1 < w1.heap.size ∧ n + 1 + 1 + 1 + 1 + 1 < w1.heap.size ∧ n + 1 + 1 + 1 + 1 + 1 + 1 < w1.heap.size ∧ n + 1 + 1 + 1 + 1 + 1 + 1 + 1 < w1.heap.size ∧ n + 1 + 1 + 1 + 1 + 1 + 1 + 1 + 1 < w1.heap.size ∧ n + 1 + 1 + 1 + 1 + 1 + 1 + 1 + 1 + 1 < w1.heap.size ∧ n + 1 + 1 + 1 + 1 + 1 + 1 + 1 + 1 + 1 + 1 < w1.heap.size ∧ n ≤ w1.heap.size ∧ n + 1 ≤ w1.heap.size ∧ n + 1 + 1 ≤ w1.heap.size ∧ n + 1 + 1 + 1 ≤ w1.heap.size ∧ n + 1 + 1 + 1 + 1 ≤ w1.heap.size ∧ n + 1 + 1 + 1 + 1 + 1 ≤ w1.heap.size ∧ n + 1 + 1 + 1 + 1 + 1 + 1 ≤ w1.heap.size ∧ n + 1 + 1 + 1 + 1 + 1 + 1 + 1 ≤ w1.heap.size ∧ n + 1 + 1 + 1 + 1 + 1 + 1 + 1 + 1 ≤ w1.heap.size ∧ n + 1 + 1 + 1 + 1 + 1 + 1 + 1 + 1 + 1 ≤ w1.heap.size ∧ n + 1 + 1 + 1 + 1 + 1 + 1 + 1 + 1 + 1 + 1 ≤ w1.heap.size ∧ n ≤ w1.heap.size + 1 ∧ n ≤ w1.heap.size + 1 + 1 ∧ n ≤ w1.heap.size + 1 + 1 + 1 ∧ n ≤ w1.heap.size + 1 + 1 + 1 + 1 ∧ n ≤ w1.heap.size + 1 + 1 + 1 + 1 + 1 ∧ n < w1.heap.size + 1 ∧ n < w1.heap.size + 1 + 1 ∧ n < w1.heap.size + 1 + 1 + 1 ∧ n < w1.heap.size + 1 + 1 + 1 + 1 ∧ n < w1.heap.size + 1 + 1 + 1 + 1 + 1 := by
  have := hb.size
  omega
theorem bz12 {n : Nat} {W w1 : World} (hb : Below W.heap.size W w1) (h : n + 12 ≤ W.heap.size) :
    n < w1.heap.size ∧ n + 1 < w1.heap.size ∧ n + 1 + 1 < w1.heap.size ∧ n + 1 + 1 + 1 < w1.heap.size ∧ n + 1 + 1 + 1 + 1 < w1.heap.size ∧ n + 1 + 1 + 1 + 1 + 1 < w1.heap.size ∧ n + 1 + 1 + 1 + 1 + 1 + 1 < w1.heap.size ∧ n + 1 + 1 + 1 + 1 + 1 + 1 + 1 < w1.heap.size ∧ n + 1 + 1 + 1 + 1 + 1 + 1 + 1 + 1 < w1.heap.size ∧ n + 1 + 1 + 1 + 1 + 1 + 1 + 1 + 1 + 1 < w1.heap.size ∧ n + 1 + 1 + 1 + 1 + 1 + 1 + 1 + 1 + 1 + 1 < w1.heap.size ∧ n + 1 + 1 + 1 + 1 + 1 + 1 + 1 + 1 + 1 + 1 + 1 < w1.heap.size ∧ n ≤ w1.heap.size ∧ n + 1 ≤ w1.heap.size ∧ n + 1 + 1 ≤ w1.heap.size ∧ n + 1 + 1 + 1 ≤ w1.heap.size ∧ n + 1 + 1 + 1 + 1 ≤ w1.heap.size ∧ n + 1 + 1 + 1 + 1 + 1 ≤ w1.heap.size ∧ n + 1 + 1 + 1 + 1 + 1 + 1 ≤ w1.heap.size ∧ n + 1 + 1 + 1 + 1 + 1 + 1 + 1 ≤ w1.heap.size ∧ n + 1 + 1 + 1 + 1 + 1 + 1 + 1 + 1 ≤ w1.heap.size ∧ n + 1 + 1 + 1 + 1 + 1 + 1 + 1 + 1 + 1 ≤ w1.heap.size ∧ n + 1 + 1 + 1 + 1 + 1 + 1 + 1 + 1 + 1 + 1 ≤ w1.heap.size ∧ n + 1 + 1 + 1 + 1 + 1 + 1 + 1 + 1 + 1 + 1 + 1 ≤ w1.heap.size ∧ n ≤ w1.heap.size + 1 ∧ n ≤ w1.heap.size + 1 + 1 ∧ n ≤ w1.heap.size + 1 + 1 + 1 ∧ n ≤ w1.heap.size + 1 + 1 + 1 + 1 ∧ n ≤ w1.heap.size + 1 + 1 + 1 + 1 + 1 ∧ n < w1.heap.size + 1 ∧ n < w1.heap.size + 1 + 1 ∧ n < w1.heap.size + 1 + 1 + 1 ∧ n < w1.heap.size + 1 + 1 + 1 + 1 ∧ n < w1.heap.size + 1 + 1 + 1 + 1 + 1 := by
  have := hb.size
  omega

theorem bzz {W w1 : World} (hb : Below W.heap.size W w1) :
    ((∀ b, b < W.heap.size → b < w1.heap.size) ∧ (∀ b, b ≤ W.heap.size → b ≤ w1.heap.size) ∧ (∀ b, b ≤ W.heap.size → b ≤ w1.heap.size + 1) ∧ (∀ b, b ≤ W.heap.size → b ≤ w1.heap.size + 1 + 1) ∧ (∀ b, b ≤ W.heap.size → b ≤ w1.heap.size + 1 + 1 + 1) ∧ (∀ b, b ≤ W.heap.size → b ≤ w1.heap.size + 1 + 1 + 1 + 1)) ∧ W.heap.size ≤ w1.heap.size := by
  have := hb.size
  refine ⟨⟨?_, ?_, ?_, ?_, ?_, ?_⟩, this⟩ <;> intro b h <;> omega
theorem below_alloc {B : Nat} {a w : World} (h : Below B a w) (o : Obj) (hB : B ≤ w.heap.size) : Below B a (w.alloc o) := h.alloc hB o
theorem below_dN {B : Nat} {a w : World} (h : Below B a w) (n : Nat) : Below B a (w.drewN n) := ⟨h.os, h.tape, h.output, h.size, h.block⟩
theorem below_set {B : Nat} {a w : World} {p : Addr} (u : Value) (h : Below B a w) (hp : B ≤ p.block) : Below B a (w.setCell p u) := h.setCell hp u
theorem below_thenA {B : Nat} {a w w' : World} (h' : Below w.heap.size w w') (h : Below B a w) (hB : B ≤ w.heap.size) : Below B a w' := h.trans (h'.mono hB)
theorem below_then {B : Nat} {a w w' : World} (h : Below B a w) (h' : Below w.heap.size w w') (hB : B ≤ w.heap.size) : Below B a w' := h.trans (h'.mono hB)
theorem ret_int {k : IntKind} {a b : Int} (h : a = b) : Ending.returned (.int k a) = .returned (.int k b) := by rw [h]
theorem u64n (n : Int) : 0 ≤ IntKind.u64.wrap n := wrap_u64_nonneg n

theorem add64 (x y c : Int) (hx : 0 ≤ x) (hy : 0 ≤ y) (hc0 : 0 ≤ c) (hc : c ≤ 1) (w : World) : (callFunc 128 #[.int .u64 x, .int .u64 y, .int .u64 c]).run Try.prog w =
    .ok (.value (.tuple #[.int .u64 ((x + y + c) % 18446744073709551616), .int .u64 ((x + y + c) / 18446744073709551616)])) w := by
  rw [run_callFunc_extern Try.func128 (by kernel_rfl) (by kernel_rfl) (by kernel_rfl) (e := add64Entry) (by kernel_rfl), run_add64 x y c hx hy hc0 hc]
  rfl
theorem add64_0 (x y : Int) (hx : 0 ≤ x) (hy : 0 ≤ y) (w : World) : (callFunc 128 #[.int .u64 x, .int .u64 y, .int .u64 0]).run Try.prog w =
    .ok (.value (.tuple #[.int .u64 ((x + y) % 18446744073709551616), .int .u64 ((x + y) / 18446744073709551616)])) w := by
  simpa using add64 x y 0 hx hy (Int.le_refl 0) (by decide) w
theorem add64_x0 (x c : Int) (hx : 0 ≤ x) (hc0 : 0 ≤ c) (hc : c ≤ 1) (w : World) : (callFunc 128 #[.int .u64 x, .int .u64 0, .int .u64 c]).run Try.prog w =
    .ok (.value (.tuple #[.int .u64 ((x + c) % 18446744073709551616), .int .u64 ((x + c) / 18446744073709551616)])) w := by
  simpa using add64 x 0 c hx (Int.le_refl 0) hc0 hc w

theorem u64_not (l : Int) (h0 : 0 ≤ l) (h1 : l ≤ 18446744073709551615) : bits .xor .u64 18446744073709551615 l = 18446744073709551615 - l := by
  obtain ⟨a, rfl⟩ := Int.eq_ofNat_of_zero_le h0
  show IntKind.u64.wrap ((BitVec.ofInt 64 18446744073709551615 ^^^ BitVec.ofInt 64 (a : Int)).toNat : Int) = _
  have h1 : BitVec.ofInt 64 18446744073709551615 = BitVec.allOnes 64 := by decide
  rw [h1, BitVec.allOnes_xor, BitVec.toNat_not, ofInt_u64 a (by omega)]
  simp [IntKind.wrap, IntKind.bits, IntKind.signed]
  omega
theorem u64le (n : Int) : IntKind.u64.wrap n ≤ 18446744073709551615 := by rw [IntKind.wrap_u64]; omega
/-- The two parts of a wide number. -/
def Wd (hi lo n : Int) : Prop := -9223372036854775808 ≤ hi ∧ hi ≤ 9223372036854775807 ∧ 0 ≤ lo ∧ lo ≤ 18446744073709551615 ∧ n = hi * 18446744073709551616 + lo
/-- Is it a wide number? -/
def WFit (n : Int) : Prop := -170141183460469231731687303715884105728 ≤ n ∧ n < 170141183460469231731687303715884105728
theorem Wd.fit {hi lo n : Int} (h : Wd hi lo n) : WFit n := by unfold Wd at h; unfold WFit; omega
theorem Wd.of {n : Int} (h : WFit n) : Wd (n / 18446744073709551616) (n % 18446744073709551616) n := by unfold WFit at h; unfold Wd; omega
theorem Wd.eq {hi lo n : Int} (h : Wd hi lo n) : hi = n / 18446744073709551616 ∧ lo = n % 18446744073709551616 := by unfold Wd at h; omega
def wv (n : Int) : Value := .agg #[.int .i64 (n / 18446744073709551616), .int .u64 (n % 18446744073709551616)]
theorem wv_eq {h l n : Int} (e1 : h = n / 18446744073709551616) (e2 : l = n % 18446744073709551616) : Value.agg #[.int .i64 h, .int .u64 l] = wv n := by rw [e1, e2]; rfl
end Go.Proofs.Ythofammjbicogaa
namespace Go.Proofs.Ythofammjbicogaa
open Go.RowKit
set_option linter.unusedSimpArgs false
set_option linter.unusedVariables false

/-- The block holds these cells. -/
def Blk (w : World) (b : Nat) (cs : Array Value) (T : TypeId) : Prop := w.heap[b]? = some (Obj.cells cs T (0, 0))
theorem Blk.cell {w : World} {b : Nat} {cs : Array Value} {T : TypeId} (h : Blk w b cs T) (i : Nat) (v : Value) (hv : cs[i]? = some v) : w.cell? ⟨b, i, none⟩ = some v := by rw [cell_of_row w b i _ _ _ h]; exact hv
theorem Blk.free {w : World} {b : Nat} {cs : Array Value} {T : TypeId} (h : Blk w b cs T) (i : Nat) : w.frozen? ⟨b, i, none⟩ = false := by simp [World.frozen?, show w.heap[b]? = _ from h]
theorem Blk.lt {w : World} {b : Nat} {cs : Array Value} {T : TypeId} (h : Blk w b cs T) : b < w.heap.size := (Array.getElem?_eq_some_iff.1 h).1
theorem Blk.new (w : World) (cs : Array Value) (T : TypeId) (b : Nat) (hb : b = w.heap.size) : Blk (w.alloc (.cells cs T)) b cs T := by subst hb; exact heap_alloc_new w _
theorem Blk.alloc {w : World} {b : Nat} {cs : Array Value} {T : TypeId} (h : Blk w b cs T) (o : Obj) : Blk (w.alloc o) b cs T := (Below.heap_alloc w o _ h.lt).trans h
theorem Blk.drew {w : World} {b : Nat} {cs : Array Value} {T : TypeId} (h : Blk w b cs T) : Blk w.drew b cs T := h
theorem Blk.drewN {w : World} {b : Nat} {cs : Array Value} {T : TypeId} (h : Blk w b cs T) (n : Nat) : Blk (w.drewN n) b cs T := h
theorem Blk.below {w w' : World} {b : Nat} {cs : Array Value} {T : TypeId} (h : Blk w b cs T) (hb : Below w.heap.size w w') : Blk w' b cs T := (hb.block b h.lt).trans h
theorem Blk.set {w : World} {b : Nat} {cs : Array Value} {T : TypeId} (h : Blk w b cs T) (i : Nat) (u : Value) : Blk (w.setCell ⟨b, i, none⟩ u) b (cs.setIfInBounds i u) T := by
  unfold Blk at *
  simp only [World.setCell, Array.getElem?_modify, if_true, h]
  rfl
theorem Blk.other {w : World} {b c : Nat} {cs : Array Value} {T : TypeId} (h : Blk w b cs T) (hc : b ≠ c) (i : Nat) (u : Value) : Blk (w.setCell ⟨c, i, none⟩ u) b cs T := by
  unfold Blk at *
  rw [Below.heap_setCell _ _ _ _ hc]; exact h
/-- Of what stood, block b alone may have turned. -/
structure But (b : Nat) (w w' : World) : Prop where
  os : w'.os = w.os
  tape : w'.tape = w.tape
  output : w'.output = w.output
  size : w.heap.size ≤ w'.heap.size
  block : ∀ k, k < w.heap.size → k ≠ b → w'.heap[k]? = w.heap[k]?
theorem But.of {b : Nat} {w w' : World} (h : Below w.heap.size w w') : But b w w' := ⟨h.os, h.tape, h.output, h.size, fun k hk _ => h.block k hk⟩
theorem But.trans {b : Nat} {u v w : World} (h : But b u v) (k : But b v w) : But b u w :=
  ⟨k.os.trans h.os, k.tape.trans h.tape, k.output.trans h.output, Nat.le_trans h.size k.size, fun i hi hne => (k.block i (Nat.lt_of_lt_of_le hi h.size) hne).trans (h.block i hi hne)⟩
theorem But.set {b : Nat} (w : World) (i : Nat) (u : Value) : But b w (w.setCell ⟨b, i, none⟩ u) :=
  ⟨rfl, rfl, rfl, by simp [World.setCell], fun k hk hne => Below.heap_setCell _ _ _ _ hne⟩
theorem But.to {b B : Nat} {w0 w w' : World} (h : But b w w') (h0 : Below B w0 w) (hb : B ≤ b) (hB : B ≤ w.heap.size) : Below B w0 w' :=
  h0.trans ⟨h.os, h.tape, h.output, h.size, fun k hk => h.block k (by omega) (by omega)⟩
theorem Blk.but {w w' : World} {b c : Nat} {cs : Array Value} {T : TypeId} (h : Blk w b cs T) (hb : But c w w') (hc : b ≠ c) : Blk w' b cs T := (hb.block b h.lt hc).trans h
/-- What is set behind a But is a But, where the block is new. -/
theorem But.setNew {b g : Nat} {w w' : World} (h : But b w w') (hg : w.heap.size ≤ g) (i : Nat) (u : Value) : But b w (w'.setCell ⟨g, i, none⟩ u) :=
  ⟨h.os, h.tape, h.output, by simp [World.setCell]; exact h.size, fun k hk hne => (Below.heap_setCell _ _ _ _ (show k ≠ g by omega)).trans (h.block k hk hne)⟩
/-- A slice of ints that came in. -/
def SliceI (k : IntKind) (w : World) (g off n cap : Nat) (xs : List Int) : Prop :=
  xs.length = cap ∧ n ≤ cap ∧ cap ≤ maxLen ∧ g < w.heap.size ∧ (∀ i, i < cap → w.cell? ⟨g, off + i, none⟩ = some (.int k (xs.getD i 0))) ∧ ∀ x, x ∈ xs → (Lit.int k x).wf = true
def SlV (k : IntKind) (w : World) (v : Value) : Prop := v = .slice none 0 0 ∨ ∃ (g off n cap : Nat) (xs : List Int), v = .slice (some ⟨g, off, none⟩) n cap ∧ SliceI k w g off n cap xs
/-- Blocks by a list; worlds in which of what stood those of a list alone may have turned. -/
def BlkL (w : World) (L : List (Nat × Array Value × TypeId)) : Prop := ∀ e, e ∈ L → Blk w e.1 e.2.1 e.2.2
structure ButL (l : List Nat) (w w' : World) : Prop where
  os : w'.os = w.os
  tape : w'.tape = w.tape
  output : w'.output = w.output
  size : w.heap.size ≤ w'.heap.size
  block : ∀ k, k < w.heap.size → k ∉ l → w'.heap[k]? = w.heap[k]?
theorem ButL.of {l : List Nat} {w w' : World} (h : Below w.heap.size w w') : ButL l w w' := ⟨h.os, h.tape, h.output, h.size, fun k hk _ => h.block k hk⟩
theorem ButL.trans {l : List Nat} {u v w : World} (h : ButL l u v) (k : ButL l v w) : ButL l u w :=
  ⟨k.os.trans h.os, k.tape.trans h.tape, k.output.trans h.output, Nat.le_trans h.size k.size, fun i hi hne => (k.block i (Nat.lt_of_lt_of_le hi h.size) hne).trans (h.block i hi hne)⟩
theorem ButL.set {l : List Nat} {b : Nat} (w : World) (i : Nat) (u : Value) (hb : b ∈ l) : ButL l w (w.setCell ⟨b, i, none⟩ u) :=
  ⟨rfl, rfl, rfl, by simp [World.setCell], fun k hk hne => Below.heap_setCell _ _ _ _ (fun e => hne (by rw [e]; exact hb))⟩
theorem ButL.to {l : List Nat} {B : Nat} {w0 w w' : World} (h : ButL l w w') (h0 : Below B w0 w) (hb : ∀ b, b ∈ l → B ≤ b) (hB : B ≤ w.heap.size) : Below B w0 w' :=
  h0.trans ⟨h.os, h.tape, h.output, h.size, fun k hk => h.block k (by omega) (fun hm => by have := hb k hm; omega)⟩
theorem Blk.butl {w w' : World} {l : List Nat} {b : Nat} {cs : Array Value} {T : TypeId} (h : Blk w b cs T) (hb : ButL l w w') (hc : b ∉ l) : Blk w' b cs T := (hb.block b h.lt hc).trans h
theorem ButL.setNew {l : List Nat} {g : Nat} {w w' : World} (h : ButL l w w') (hg : w.heap.size ≤ g) (i : Nat) (u : Value) : ButL l w (w'.setCell ⟨g, i, none⟩ u) :=
  ⟨h.os, h.tape, h.output, by simp [World.setCell]; exact h.size, fun k hk hne => (Below.heap_setCell _ _ _ _ (show k ≠ g by omega)).trans (h.block k hk hne)⟩
end Go.Proofs.Ythofammjbicogaa
namespace Go.Proofs.Ythofammjbicogaa
open Go.RowKit
set_option linter.unusedSimpArgs false
set_option linter.unusedVariables false

/-- The slice of k elements at ao holds these numbers. -/
def RowI (w : World) (ao : Option Addr) (k : Nat) (xs : List Int) : Prop :=
  xs.length = k ∧ (0 < k → ∃ g off, ao = some ⟨g, off, none⟩ ∧ g < w.heap.size ∧ ∀ i, i < k → w.cell? ⟨g, off + i, none⟩ = some (.int .i64 (xs.getD i 0)))
theorem RowI.nil (w : World) (ao : Option Addr) : RowI w ao 0 [] := ⟨rfl, fun h => absurd h (by omega)⟩
theorem RowI.below {w w' : World} {ao : Option Addr} {k : Nat} {xs : List Int} (h : RowI w ao k xs) (hb : Below w.heap.size w w') : RowI w' ao k xs := by
  refine ⟨h.1, fun hk => ?_⟩
  obtain ⟨g, off, e, hg, hc⟩ := h.2 hk
  exact ⟨g, off, e, Nat.lt_of_lt_of_le hg hb.size, fun i hi => (hb.cell (p := ⟨g, off + i, none⟩) hg).trans (hc i hi)⟩
theorem RowI.at {w : World} {ao : Option Addr} {k : Nat} {xs : List Int} (h : RowI w ao k xs) {i : Nat} (hi : i < k) : ∃ g off, ao = some ⟨g, off, none⟩ ∧ g < w.heap.size ∧ w.cell? ⟨g, off + i, none⟩ = some (.int .i64 (xs.getD i 0)) := by
  obtain ⟨g, off, e, hg, hc⟩ := h.2 (by omega)
  exact ⟨g, off, e, hg, hc i hi⟩
def Fits (xs : List Int) : Prop := ∀ i, -9223372036854775808 ≤ xs.getD i 0 ∧ xs.getD i 0 ≤ 9223372036854775807
def i64s (xs : List Int) : List Value := xs.map fun x => .int .i64 x
/-- The numbers of a slice of the call's own. -/
def OwnI (w : World) (B : Nat) (ao : Option Addr) (k cap : Nat) (xs : List Int) : Prop := w.ownsRow B 2 1 (.slice ao k cap) k (i64s xs) ∧ xs.length = k
theorem OwnI.row {w : World} {B : Nat} {ao : Option Addr} {k cap : Nat} {xs : List Int} (h : OwnI w B ao k cap xs) : RowI w ao k xs := by
  obtain ⟨h1, h2⟩ := h
  refine ⟨h2, fun hk => ?_⟩
  rcases h1.2 with ⟨e, e2⟩ | ⟨g, c, cur, e, _, hg, hl, hm, hs, ht⟩
  · omega
  · obtain ⟨rfl, -, rfl⟩ : ao = some ⟨g, 0, none⟩ ∧ True ∧ cap = c := by simpa using e
    refine ⟨g, 0, rfl, (Array.getElem?_eq_some_iff.1 hg).1, fun i hi => ?_⟩
    rw [cell_of_row w g _ _ _ _ hg, Nat.zero_add, ← Array.getElem?_toList]
    have : (cur.toList.take (k * 1))[i]? = some (.int .i64 (xs.getD i 0)) := by
      rw [ht]
      unfold i64s
      rw [List.getElem?_map]
      have hx : i < xs.length := by omega
      simp [List.getD, hx]
    rwa [List.getElem?_take_of_lt (by omega)] at this
theorem OwnI.shape {w : World} {B : Nat} {ao : Option Addr} {k cap : Nat} {xs : List Int} (h : OwnI w B ao k cap xs) : k ≤ cap ∧ cap ≤ maxLen := by
  rcases h.1.2 with ⟨e, e2⟩ | ⟨g, c, cur, e, _, hg, hl, hm, hs, ht⟩
  · simp at e; omega
  · simp at e; omega
theorem OwnI.nil (w : World) (B : Nat) : OwnI w B none 0 0 [] := ⟨World.ownsRow_nil _ _ _ _, rfl⟩
theorem OwnI.below {w w' : World} {B : Nat} {ao : Option Addr} {k cap : Nat} {xs : List Int} (h : OwnI w B ao k cap xs) (hb : Below w.heap.size w w') : OwnI w' B ao k cap xs := by
  refine ⟨⟨h.1.1, ?_⟩, h.2⟩
  rcases h.1.2 with h | ⟨g, c, cur, hv, hg, hh, r⟩
  · exact .inl h
  · exact .inr ⟨g, c, cur, hv, hg, (hb.block g (Array.getElem?_eq_some_iff.1 hh).1).trans hh, r⟩
theorem OwnI.alloc {w : World} {B : Nat} {ao : Option Addr} {k cap : Nat} {xs : List Int} (h : OwnI w B ao k cap xs) (o : Obj) : OwnI (w.alloc o) B ao k cap xs := ⟨h.1.alloc _, h.2⟩
theorem OwnI.drew {w : World} {B : Nat} {ao : Option Addr} {k cap : Nat} {xs : List Int} (h : OwnI w B ao k cap xs) : OwnI w.drew B ao k cap xs := ⟨h.1.drew, h.2⟩
theorem OwnI.ge {w : World} {B : Nat} {ao : Option Addr} {k cap : Nat} {xs : List Int} (h : OwnI w B ao k cap xs) {g : Nat} (hg : (Value.slice ao k cap).ownBlock = some g) : B ≤ g ∧ g < w.heap.size := h.1.lt g hg
/-- A store into a block that isn't the row's. -/
theorem OwnI.set {w : World} {B : Nat} {ao : Option Addr} {k cap : Nat} {xs : List Int} (h : OwnI w B ao k cap xs) (a : Addr) (u : Value) (ha : (Value.slice ao k cap).ownBlock ≠ some a.block) : OwnI (w.setCell a u) B ao k cap xs := by
  refine ⟨⟨h.1.1, ?_⟩, h.2⟩
  rcases h.1.2 with h | ⟨g, c, cur, hv, hg, hh, r⟩
  · exact .inl h
  · refine .inr ⟨g, c, cur, hv, hg, ?_, r⟩
    rw [Below.heap_setCell _ _ _ _ (fun e => ha (by rw [hv]; simp [Value.ownBlock, e]))]; exact hh
/-- A block of another type isn't the row's. -/
theorem OwnI.ne {w : World} {B : Nat} {ao : Option Addr} {k cap : Nat} {xs : List Int} (h : OwnI w B ao k cap xs) {b : Nat} {cs : Array Value} {T : TypeId} (hb : Blk w b cs T) (hT : T ≠ 2) : (Value.slice ao k cap).ownBlock ≠ some b := by
  intro e
  rcases h.1.2 with ⟨hv, _⟩ | ⟨g, c, cur, hv, _, hh, _⟩
  · rw [hv] at e; simp [Value.ownBlock] at e
  · rw [hv] at e
    simp [Value.ownBlock] at e
    subst e
    unfold Blk at hb
    rw [hh] at hb
    simp at hb
    exact hT hb.2.symm
/-- Behind an append of one number. -/
theorem OwnI.grown {w w1 : World} {B : Nat} {ao : Option Addr} {k cap : Nat} {xs : List Int} {x : Int} {v' : Value} {o : Obj} (h : OwnI w B ao k cap xs)
    (ho : w1.ownsRow B 2 1 v' (k + 1) (i64s xs ++ [.int .i64 x])) (hg : (w.alloc o).grownBy w1 (Value.slice ao k cap).ownBlock) (hB : B ≤ w.heap.size) :
    ∃ ao' cap', v' = .slice ao' (k + 1) cap' ∧ OwnI w1 B ao' (k + 1) cap' (xs ++ [x]) ∧ (∀ b cs T, Blk w b cs T → (Value.slice ao k cap).ownBlock ≠ some b → Blk w1 b cs T) ∧ (∀ C a, C ≤ B → Below C a w → Below C a w1) := by
  have hs : ∃ ao' cap', v' = .slice ao' (k + 1) cap' := by
    rcases ho.2 with ⟨_, e⟩ | ⟨g, c, cur, e, _⟩
    · omega
    · exact ⟨_, _, e⟩
  obtain ⟨ao', cap', rfl⟩ := hs
  refine ⟨ao', cap', rfl, ⟨by simpa [i64s] using ho, by simp [h.2]⟩, fun b cs T h2 hne => ?_, fun C a hC hb => ?_⟩
  · exact (hg.block b (h2.alloc o).lt (fun e => hne e.symm)).trans (h2.alloc o)
  · refine (hb.alloc (Nat.le_trans hC hB) o).grown hg (by simp; omega) ?_
    intro j hj
    have := (h.1.lt j hj).1
    omega
/-- What came in stays, behind whatever leaves old memory as it was. -/
theorem RowI.kept {w0 w : World} {ao : Option Addr} {k : Nat} {xs : List Int} (h : RowI w0 ao k xs) (hb : Below w0.heap.size w0 w) : RowI w ao k xs := h.below hb
end Go.Proofs.Ythofammjbicogaa
namespace Go.Proofs.Ythofammjbicogaa
open Go.RowKit

set_option maxHeartbeats 400000 in
theorem mul64_any (x y : Nat) (hx : x < 18446744073709551616) (hy : y < 18446744073709551616) (w : World) :
    Calls Try.prog 124 #[.int .u64 x, .int .u64 y] w fun e w' => e = .returned (.tuple #[.int .u64 ((x * y / 18446744073709551616 : Nat) : Int), .int .u64 ((x * y % 18446744073709551616 : Nat) : Int)]) ∧ w = w' := by
  obtain ⟨bd, bt, bw, hhi⟩ := Lib.mul64_hi x y hx hy
  have ba := Lib.half_mul_le (a := x / 4294967296) (b := y / 4294967296) (by omega) (by omega)
  have bb := Lib.half_mul_le (a := x / 4294967296) (b := y % 4294967296) (by omega) (by omega)
  have bc := Lib.half_mul_le (a := x % 4294967296) (b := y / 4294967296) (by omega) (by omega)
  have ba' : x / 4294967296 * (y / 4294967296) < 18446744073709551616 := by omega
  have bb' : x / 4294967296 * (y % 4294967296) < 18446744073709551616 := by omega
  have bc' : x % 4294967296 * (y / 4294967296) < 18446744073709551616 := by omega
  have bh1 : x / 4294967296 * (y / 4294967296) + (x / 4294967296 * (y % 4294967296) + x % 4294967296 * (y % 4294967296) / 4294967296) / 4294967296 < 18446744073709551616 := by omega
  have bh : x / 4294967296 * (y / 4294967296) + (x / 4294967296 * (y % 4294967296) + x % 4294967296 * (y % 4294967296) / 4294967296) / 4294967296 + ((x / 4294967296 * (y % 4294967296) + x % 4294967296 * (y % 4294967296) / 4294967296) % 4294967296 + x % 4294967296 * (y / 4294967296)) / 4294967296 < 18446744073709551616 := by omega
  go_enter Try.func124, Try.ntmps124
  go_wp2
  simp only [Mul64.maskN x hx, Mul64.maskN y hy, Mul64.divN, Mul64.mulN, Mul64.addN, Mul64.wrapN _ bd, Mul64.wrapN _ bb', Mul64.wrapN _ bt, Mul64.maskN _ bt, Mul64.wrapN _ bc', Mul64.wrapN _ bw, Mul64.wrapN _ ba', Mul64.wrapN _ bh1, Mul64.wrapN _ bh, Mul64.wrapM (x * y)]
  rw [hhi]
  go_ret2
  exact ⟨rfl, rfl⟩

theorem wide_of (n : Int) (h1 : -9223372036854775808 ≤ n) (h2 : n ≤ 9223372036854775807) (w : World) :
    Calls Try.prog 126 #[.int .i64 n] w fun e w' => e = .returned (.agg #[.int .i64 (n / 18446744073709551616), .int .u64 (n % 18446744073709551616)]) ∧ Below w.heap.size w w' := by
  go_enter Try.func126, Try.ntmps126
  go_wp2
  simp [bodyPost, results, Try.results126, go_sem]
  exact ⟨⟨by omega, by rw [IntKind.wrap_u64]⟩, (by repeat' (first | (with_reducible exact Below.refl _ _) | (with_reducible assumption) | (with_reducible refine below_alloc ?_ _ ?_) | (with_reducible refine below_set _ ?_ ?_) | (with_reducible refine Below.drew ?_) | (with_reducible refine below_dN ?_ _) | (apply below_thenA; assumption) | omega | (simp; done) | (simp; omega) | (simp [*]; done)))⟩

/-- What Add and Neg answer. -/
def WAns (n : Int) (B : Nat) (w : World) (e : Ending) (w' : World) : Prop :=
  (WFit n → e = .returned (.tuple #[.agg #[.int .i64 (n / 18446744073709551616), .int .u64 (n % 18446744073709551616)], .bool true])) ∧ (¬ WFit n → e = .returned (.tuple #[.agg #[.int .i64 0, .int .u64 0], .bool false])) ∧ Below B w w'
def cmp3 (a b : Int) : Int := if a < b then -1 else if b < a then 1 else 0
theorem ret_wb {h l h' l' : Int} {b : Bool} (e1 : h = h') (e2 : l = l') : Ending.returned (.tuple #[.agg #[.int .i64 h, .int .u64 l], .bool b]) = .returned (.tuple #[.agg #[.int .i64 (h'), .int .u64 (l')], .bool b]) := by rw [e1, e2]
theorem not_dec {p q : Prop} [Decidable p] [Decidable q] : ((!decide p == decide q) = true) ↔ (¬ p ↔ q) := by
  by_cases p <;> by_cases q <;> simp [*]
theorem not_dec' {p q : Prop} [Decidable p] [Decidable q] : ((!decide p == decide q) = false) ↔ ¬ (¬ p ↔ q) := by
  by_cases p <;> by_cases q <;> simp [*]

theorem mul64_int (x y : Int) (hx0 : 0 ≤ x) (hx : x < 18446744073709551616) (hy0 : 0 ≤ y) (hy : y < 18446744073709551616) (w : World) :
    Calls Try.prog 124 #[.int .u64 x, .int .u64 y] w fun e w' => e = .returned (.tuple #[.int .u64 (x * y / 18446744073709551616), .int .u64 (x * y % 18446744073709551616)]) ∧ w = w' := by
  obtain ⟨x, rfl⟩ := Int.eq_ofNat_of_zero_le hx0
  obtain ⟨y, rfl⟩ := Int.eq_ofNat_of_zero_le hy0
  simpa using mul64_any x y (by omega) (by omega) w
theorem mul_bound (a b : Int) (a1 : -9223372036854775808 ≤ a) (a2 : a ≤ 9223372036854775807) (b1 : -9223372036854775808 ≤ b) (b2 : b ≤ 9223372036854775807) :
    -85070591730234615865843651857942052864 ≤ a * b ∧ a * b ≤ 85070591730234615865843651857942052864 := by
  have h := Nat.mul_le_mul (show a.natAbs ≤ 9223372036854775808 by omega) (show b.natAbs ≤ 9223372036854775808 by omega)
  rw [← Int.natAbs_mul] at h
  omega
theorem wrap_pos {n : Int} (h : 0 ≤ n) (h2 : n ≤ 9223372036854775807) : IntKind.u64.wrap n = n := by rw [IntKind.wrap_u64]; omega
theorem wrap_neg {n : Int} (h : n < 0) (h2 : -9223372036854775808 ≤ n) : IntKind.u64.wrap n = n + 18446744073709551616 := by rw [IntKind.wrap_u64]; omega
theorem u64lt (n : Int) : IntKind.u64.wrap n < 18446744073709551616 := by rw [IntKind.wrap_u64]; omega

set_option maxRecDepth 100000 in
set_option maxHeartbeats 400000 in
theorem wide_mul (a b : Int) (a1 : -9223372036854775808 ≤ a) (a2 : a ≤ 9223372036854775807) (b1 : -9223372036854775808 ≤ b) (b2 : b ≤ 9223372036854775807) (w : World) :
    Calls Try.prog 121 #[.int .i64 a, .int .i64 b] w fun e w' => e = .returned (.agg #[.int .i64 ((a * b) / 18446744073709551616), .int .u64 ((a * b) % 18446744073709551616)]) ∧ Below w.heap.size w w' := by
  by_cases ha : a < 0 <;> by_cases hb : b < 0
  all_goals
    go_enter Try.func121, Try.ntmps121
    go_wp2_with (go_at_call 124; refine (mul64_int _ _ (by first | omega | exact u64n _) (by first | omega | exact u64lt _) (by first | omega | exact u64n _) (by first | omega | exact u64lt _) _).mono ?_; rintro e w' ⟨rfl, rfl⟩)
    simp [bodyPost, results, Try.results121, go_sem]
    go_light
    have hm := mul_bound a b a1 a2 b1 b2
    refine ⟨?_, (by repeat' (first | (with_reducible exact Below.refl _ _) | (with_reducible assumption) | (with_reducible refine below_alloc ?_ _ ?_) | (with_reducible refine below_set _ ?_ ?_) | (with_reducible refine Below.drew ?_) | (with_reducible refine below_dN ?_ _) | (apply below_thenA; assumption) | omega | (simp; done) | (simp; omega) | (simp [*]; done)))⟩
    try rw [wrap_neg ha a1]
    try rw [wrap_neg hb b1]
    simp only [IntKind.wrap_u64, wrap64, Int.add_mul, Int.mul_add]
    generalize a * b = p at *
    omega
end Go.Proofs.Ythofammjbicogaa
namespace Go.Proofs.Ythofammjbicogaa
open Go.RowKit
set_option linter.unusedSimpArgs false
set_option linter.unusedVariables false

/-- What turned answers. -/
def WTurn (n : Int) (B : Nat) (w : World) (e : Ending) (w' : World) : Prop :=
  (WFit (-n) → e = .returned (.agg #[.int .i64 ((-n) / 18446744073709551616), .int .u64 ((-n) % 18446744073709551616)])) ∧ (¬ WFit (-n) → e = .returned (.agg #[.int .i64 (-9223372036854775808), .int .u64 0])) ∧ Below B w w'
theorem ret_w {h l h' l' : Int} (e1 : h = h') (e2 : l = l') : Ending.returned (.agg #[.int .i64 h, .int .u64 l]) = .returned (.agg #[.int .i64 (h'), .int .u64 (l')]) := by rw [e1, e2]
set_option maxRecDepth 100000 in
set_option maxHeartbeats 400000 in
theorem wide_turned (a hi lo : Int) (ha : Wd hi lo a) (w : World) :
    Calls Try.prog 129 #[.agg #[.int .i64 hi, .int .u64 lo]] w (WTurn a w.heap.size w) := by
  obtain ⟨a1, a2, a3, a4, a5⟩ := ha
  have A5 := Lib.hid a5
  clear a5
  have hs : IntKind.u64.signed = false := rfl
  have hm : IntKind.u64.max = 18446744073709551615 := rfl
  have N1 := u64_not lo a3 a4
  have N2 := u64_not (IntKind.u64.wrap hi) (u64n _) (u64le _)
  have A1 := add64_x0 (18446744073709551615 - lo) 1 (by omega) (by decide) (by decide)
  have A2 := add64_x0 (18446744073709551615 - IntKind.u64.wrap hi) ((18446744073709551615 - lo + 1) / 18446744073709551616) (by have := u64le hi; omega) (by omega) (by omega)
  go_enter Try.func129, Try.ntmps129
  go_wp2
  simp [bodyPost, results, Try.results129, go_sem]
  go_light
  clear N1 N2 A1 A2 hs hm
  have a5 := A5.out
  simp only [IntKind.wrap_u64, wrap64] at *
  refine ⟨fun h => ?_, fun h => ?_, (by repeat' (first | (with_reducible exact Below.refl _ _) | (with_reducible assumption) | (with_reducible refine below_alloc ?_ _ ?_) | (with_reducible refine below_set _ ?_ ?_) | (with_reducible refine Below.drew ?_) | (with_reducible refine below_dN ?_ _) | (apply below_thenA; assumption) | omega | (simp; done) | (simp; omega) | (simp [*]; done)))⟩
  all_goals unfold WFit at h
  all_goals (refine ret_w ?_ ?_ <;> omega)

theorem wide_turned_fit (a hi lo : Int) (ha : Wd hi lo a) (hf : WFit (-a)) (w : World) :
    Calls Try.prog 129 #[.agg #[.int .i64 hi, .int .u64 lo]] w fun e w' => e = .returned (.agg #[.int .i64 ((-a) / 18446744073709551616), .int .u64 ((-a) % 18446744073709551616)]) ∧ Below w.heap.size w w' :=
  (wide_turned a hi lo ha w).mono fun _ _ h => ⟨h.1 hf, h.2.2⟩
theorem wide_turned_min (a hi lo : Int) (ha : Wd hi lo a) (hf : ¬ WFit (-a)) (w : World) :
    Calls Try.prog 129 #[.agg #[.int .i64 hi, .int .u64 lo]] w fun e w' => e = .returned (.agg #[.int .i64 (-9223372036854775808), .int .u64 0]) ∧ Below w.heap.size w w' :=
  (wide_turned a hi lo ha w).mono fun _ _ h => ⟨h.2.1 hf, h.2.2⟩

def orI (x y : Int) : Int := if x = 0 then y else x
theorem cmp3_or {a b h1 l1 h2 l2 : Int} (ha : Wd h1 l1 a) (hb : Wd h2 l2 b) : orI (cmp3 h1 h2) (cmp3 l1 l2) = cmp3 a b := by
  unfold orI
  obtain ⟨a1, a2, a3, a4, a5⟩ := ha
  obtain ⟨b1, b2, b3, b4, b5⟩ := hb
  unfold cmp3
  by_cases x1 : h1 < h2
  · rw [if_pos x1, if_neg (by decide), if_pos (by omega)]
  · by_cases x2 : h2 < h1
    · rw [if_neg x1, if_pos x2, if_neg (by decide), if_neg (by omega), if_pos (by omega)]
    · rw [if_neg x1, if_neg x2, if_pos rfl]
      by_cases x3 : l1 < l2
      · rw [if_pos x3, if_pos (by omega)]
      · by_cases x4 : l2 < l1
        · rw [if_neg x3, if_pos x4, if_neg (by omega), if_pos (by omega)]
        · rw [if_neg x3, if_neg x4, if_neg (by omega), if_neg (by omega)]

end Go.Proofs.Ythofammjbicogaa
namespace Go.Proofs.Ythofammjbicogaa
open Go.RowKit
set_option linter.unusedSimpArgs false
set_option linter.unusedVariables false

/-- Is it an int? -/
def IFit (n : Int) : Prop := -9223372036854775808 ≤ n ∧ n ≤ 9223372036854775807
def IAns (n : Int) (B : Nat) (w : World) (e : Ending) (w' : World) : Prop :=
  (IFit n → e = .returned (.tuple #[.int .i64 n, .bool true])) ∧ (¬ IFit n → e = .returned (.tuple #[.int .i64 0, .bool false])) ∧ Below B w w'
theorem ret_ib {h h' : Int} {b : Bool} (e1 : h = h') : Ending.returned (.tuple #[.int .i64 h, .bool b]) = .returned (.tuple #[.int .i64 (h'), .bool b]) := by rw [e1]
theorem bne_t {a b : Int} : ((a != b) = true) ↔ ¬ a = b := by simp
theorem bne_f {a b : Int} : ((a != b) = false) ↔ a = b := by simp

set_option maxRecDepth 100000 in
set_option maxHeartbeats 400000 in
theorem wide_int (a hi lo : Int) (ha : Wd hi lo a) (w : World) :
    Calls Try.prog 122 #[.agg #[.int .i64 hi, .int .u64 lo]] w (IAns a w.heap.size w) := by
  obtain ⟨a1, a2, a3, a4, a5⟩ := ha
  have A5 := Lib.hid a5
  clear a5
  go_enter Try.func122, Try.ntmps122
  go_wp2
  all_goals
    simp [bodyPost, results, Try.results122, go_sem]
    go_light
    have a5 := A5.out
    simp only [wrap64, bne_t, bne_f] at *
    refine ⟨fun h => ?_, fun h => ?_, (by repeat' (first | (with_reducible exact Below.refl _ _) | (with_reducible assumption) | (with_reducible refine below_alloc ?_ _ ?_) | (with_reducible refine below_set _ ?_ ?_) | (with_reducible refine Below.drew ?_) | (with_reducible refine below_dN ?_ _) | (apply below_thenA; assumption) | omega | (simp; done) | (simp; omega) | (simp [*]; done)))⟩
    all_goals unfold IFit at *
    all_goals first
      | (exfalso; omega)
      | (refine ret_ib ?_; omega)
theorem wide_int_fit (a hi lo : Int) (ha : Wd hi lo a) (hf : IFit a) (w : World) :
    Calls Try.prog 122 #[.agg #[.int .i64 hi, .int .u64 lo]] w fun e w' => e = .returned (.tuple #[.int .i64 a, .bool true]) ∧ Below w.heap.size w w' :=
  (wide_int a hi lo ha w).mono fun _ _ h => ⟨h.1 hf, h.2.2⟩
theorem wide_int_no (a hi lo : Int) (ha : Wd hi lo a) (hf : ¬ IFit a) (w : World) :
    Calls Try.prog 122 #[.agg #[.int .i64 hi, .int .u64 lo]] w fun e w' => e = .returned (.tuple #[.int .i64 0, .bool false]) ∧ Below w.heap.size w w' :=
  (wide_int a hi lo ha w).mono fun _ _ h => ⟨h.2.1 hf, h.2.2⟩

def absI (n : Int) : Int := n.natAbs
theorem ret_uu {h l h' l' : Int} (e1 : h = h') (e2 : l = l') : Ending.returned (.tuple #[.int .u64 h, .int .u64 l]) = .returned (.tuple #[.int .u64 (h'), .int .u64 (l')]) := by rw [e1, e2]
set_option maxRecDepth 100000 in
set_option maxHeartbeats 400000 in
theorem wide_size (a hi lo : Int) (ha : Wd hi lo a) (w : World) :
    Calls Try.prog 125 #[.agg #[.int .i64 hi, .int .u64 lo]] w fun e w' => e = .returned (.tuple #[.int .u64 (absI a / 18446744073709551616), .int .u64 (absI a % 18446744073709551616)]) ∧ Below w.heap.size w w' := by
  have hA := ha
  obtain ⟨a1, a2, a3, a4, a5⟩ := ha
  have A5 := Lib.hid a5
  clear a5
  by_cases h0 : hi < 0
  · by_cases hf : WFit (-a)
    all_goals
      go_enter Try.func125, Try.ntmps125
      go_wp2_with (first | (go_at_call 129; (with_reducible refine (wide_turned_fit a hi lo hA hf _).mono ?_); rintro e w' ⟨rfl, hb'⟩; obtain ⟨hc', hf'⟩ := bcell hb'; have hz' := bz1 (n := w.heap.size) hb' (by (try simp) <;> omega); have hs' := hb'.size; (try simp at hs'); (try (have hs2' := Nat.lt_of_succ_le hs'))) | (go_at_call 129; (with_reducible refine (wide_turned_min a hi lo hA hf _).mono ?_); rintro e w' ⟨rfl, hb'⟩; obtain ⟨hc', hf'⟩ := bcell hb'; have hz' := bz1 (n := w.heap.size) hb' (by (try simp) <;> omega); have hs' := hb'.size; (try simp at hs'); (try (have hs2' := Nat.lt_of_succ_le hs'))))
      go_quiet (fail)
      go_wp2
      go_ret2
      go_light
      have a5 := A5.out
      unfold WFit at hf
      exact ⟨ret_uu (by unfold absI; (try rw [IntKind.wrap_u64]); omega) (by unfold absI; omega), (by repeat' (first | (with_reducible exact Below.refl _ _) | (with_reducible assumption) | (with_reducible refine below_alloc ?_ _ ?_) | (with_reducible refine below_set _ ?_ ?_) | (with_reducible refine Below.drew ?_) | (with_reducible refine below_dN ?_ _) | (apply below_thenA; assumption) | omega | (simp; done) | (simp; omega) | (simp [*]; done)))⟩
  · go_enter Try.func125, Try.ntmps125
    go_wp2
    go_quiet (fail)
    go_wp2
    go_ret2
    go_light
    have a5 := A5.out
    exact ⟨ret_uu (by unfold absI; (try rw [IntKind.wrap_u64]); omega) (by unfold absI; omega), (by repeat' (first | (with_reducible exact Below.refl _ _) | (with_reducible assumption) | (with_reducible refine below_alloc ?_ _ ?_) | (with_reducible refine below_set _ ?_ ?_) | (with_reducible refine Below.drew ?_) | (with_reducible refine below_dN ?_ _) | (apply below_thenA; assumption) | omega | (simp; done) | (simp; omega) | (simp [*]; done)))⟩
end Go.Proofs.Ythofammjbicogaa
set_option linter.unusedVariables false
namespace Go.Proofs.Ythofammjbicogaa.KD
/-- Where a guessed digit stands: too great just where the test says so. -/
theorem test_iff {q r U d y1 y0 : Int} (hi : q * y1 + r = U) :
    q * (y1 * 4294967296 + y0) ≤ U * 4294967296 + d ↔ q * y0 ≤ r * 4294967296 + d := by
  subst hi
  rw [Int.mul_add, ← Int.mul_assoc, Int.add_mul]
  omega
theorem dl (U y k : Int) (hy : 0 < y) (h : U < k * y) : U / y < k := Int.ediv_lt_of_lt_mul hy h
theorem guess_le {U y1 y0 : Int} (h1 : 2147483648 ≤ y1) (h0 : y0 < 4294967296) (hU : U < y1 * 4294967296 + y0) : U / y1 ≤ 4294967297 := by
  have h0 : U < 4294967298 * y1 := by omega
  have h := dl U y1 4294967298 (by omega) h0
  exact Int.le_of_lt_add_one h
theorem guess_ge {U d y1 y0 : Int} (h1 : 0 < y1) (h0 : 0 ≤ y0) (hU : 0 ≤ U) (hd0 : 0 ≤ d) (hd : d < 4294967296) : (U * 4294967296 + d) / (y1 * 4294967296 + y0) ≤ U / y1 := by
  have hQ := Int.ediv_mul_le (U * 4294967296 + d) (b := y1 * 4294967296 + y0) (by omega)
  have hQ0 : 0 ≤ (U * 4294967296 + d) / (y1 * 4294967296 + y0) := Int.ediv_nonneg (by omega) (by omega)
  generalize (U * 4294967296 + d) / (y1 * 4294967296 + y0) = Q at *
  rw [Int.mul_add, ← Int.mul_assoc] at hQ
  have := Int.mul_nonneg hQ0 h0
  exact (Int.le_ediv_iff_mul_le h1).2 (by omega)
theorem digit_lt {U d Y : Int} (hY : 0 < Y) (hU : U < Y) (hd : d < 4294967296) : (U * 4294967296 + d) / Y < 4294967296 :=
  dl _ _ _ hY (by omega)
theorem digit_of {q r U d y1 y0 : Int} (hY : 0 < y1 * 4294967296 + y0) (hi : q * y1 + r = U) (hge : (U * 4294967296 + d) / (y1 * 4294967296 + y0) ≤ q) (ht : q * y0 ≤ r * 4294967296 + d) :
    q = (U * 4294967296 + d) / (y1 * 4294967296 + y0) :=
  Int.le_antisymm ((Int.le_ediv_iff_mul_le hY).2 ((test_iff (d := d) (y0 := y0) hi).2 ht)) hge
theorem digit_step {q r U d y1 y0 : Int} (hY : 0 < y1 * 4294967296 + y0) (hi : q * y1 + r = U) (ht : r * 4294967296 + d < q * y0) :
    (U * 4294967296 + d) / (y1 * 4294967296 + y0) ≤ q - 1 := by
  have h : ¬ q * (y1 * 4294967296 + y0) ≤ U * 4294967296 + d := fun h => by
    have := (test_iff (d := d) (y0 := y0) hi).1 h
    omega
  exact Int.le_sub_one_of_lt (Int.ediv_lt_of_lt_mul hY (Int.lt_of_not_ge h))
theorem digit_big {q r U d y1 y0 : Int} (hY : 0 < y1 * 4294967296 + y0) (h00 : 0 ≤ y0) (h0 : y0 < 4294967296) (hi : q * y1 + r = U) (hd : 0 ≤ d) (hq : q ≤ 4294967296) (hr : 4294967296 ≤ r) (hge : (U * 4294967296 + d) / (y1 * 4294967296 + y0) ≤ q) :
    q = (U * 4294967296 + d) / (y1 * 4294967296 + y0) := by
  refine digit_of hY hi hge ?_
  have h1 : q * y0 ≤ 4294967296 * y0 := Int.mul_le_mul_of_nonneg_right hq h00
  omega
theorem step_inv {q r U y1 : Int} (hi : q * y1 + r = U) : (q - 1) * y1 + (r + y1) = U := by
  rw [Int.sub_mul]; omega
/-- The words put together. -/
theorem whole_aux {U a b Y Q R : Int} (hY : 0 < Y) (h : Y * Q + R = U * 4294967296 + a) :
    (U * 18446744073709551616 + (a * 4294967296 + b)) / Y = Q * 4294967296 + (R * 4294967296 + b) / Y ∧
    (U * 18446744073709551616 + (a * 4294967296 + b)) % Y = (R * 4294967296 + b) % Y := by
  have e : U * 18446744073709551616 + (a * 4294967296 + b) = R * 4294967296 + b + Y * (Q * 4294967296) := by
    have : Y * (Q * 4294967296) = (Y * Q) * 4294967296 := (Int.mul_assoc _ _ _).symm
    omega
  rw [e, Int.add_mul_ediv_left _ _ (by omega), Int.add_mul_emod_self_left]
  exact ⟨Int.add_comm _ _, rfl⟩
theorem whole {U a b Y : Int} (hY : 0 < Y) :
    (U * 18446744073709551616 + (a * 4294967296 + b)) / Y = (U * 4294967296 + a) / Y * 4294967296 + ((U * 4294967296 + a) % Y * 4294967296 + b) / Y ∧
    (U * 18446744073709551616 + (a * 4294967296 + b)) % Y = ((U * 4294967296 + a) % Y * 4294967296 + b) % Y :=
  whole_aux hY (Int.mul_ediv_add_emod _ Y)
/-- Both shifted alike. -/
theorem unshift (x y : Int) (p : Int) (hp : 0 < p) : x * p / (y * p) = x / y ∧ x * p % (y * p) / p = x % y := by
  refine ⟨Int.mul_ediv_mul_of_pos_left _ _ hp, ?_⟩
  rw [Int.mul_comm x, Int.mul_comm y, Int.mul_emod_mul_of_pos _ _ hp, Int.mul_comm, Int.mul_ediv_cancel _ (by omega)]
/-- A guess on its way down to the digit. -/
def KInv (Y y1 U d q r : Int) : Prop := q * y1 + r = U ∧ 0 ≤ q ∧ 0 ≤ r ∧ r < 4294967296 ∧ q ≤ 4294967297 ∧ (U * 4294967296 + d) / Y ≤ q
theorem KInv.start {Y y1 y0 U d : Int} (hY : y1 * 4294967296 + y0 = Y) (h1 : 2147483648 ≤ y1) (h1b : y1 < 4294967296) (h00 : 0 ≤ y0) (h0 : y0 < 4294967296) (hU0 : 0 ≤ U) (hU : U < Y) (hd0 : 0 ≤ d) (hd : d < 4294967296) : KInv Y y1 U d (U / y1) (U - U / y1 * y1) := by
  subst hY
  have e := Int.mul_ediv_add_emod U y1
  have l := Int.emod_lt_of_pos U (show 0 < y1 by omega)
  have l0 := Int.emod_nonneg U (show y1 ≠ 0 by omega)
  rw [Int.mul_comm] at e
  exact ⟨by omega, Int.ediv_nonneg hU0 (by omega), by omega, by omega, guess_le h1 h0 hU, guess_ge (by omega) h00 hU0 hd0 hd⟩
theorem KInv.pos {Y y1 U d q r : Int} (h : KInv Y y1 U d q r) (hq : 4294967296 ≤ q) (hY : 0 < Y) (hU : U < Y) (hd : d < 4294967296) : (U * 4294967296 + d) / Y ≤ q - 1 := by
  have := digit_lt hY hU hd
  omega
theorem KInv.test {Y y1 y0 U d q r : Int} (h : KInv Y y1 U d q r) (hY : y1 * 4294967296 + y0 = Y) (h1 : 0 < y1) (h0 : 0 ≤ y0) (hd : 0 ≤ d) (ht : 4294967296 * r + d < q * y0) : (U * 4294967296 + d) / Y ≤ q - 1 ∧ 1 ≤ q := by
  subst hY
  refine ⟨digit_step (by omega) h.1 (by omega), ?_⟩
  obtain ⟨_, hq0, hr0, _, _, _⟩ := h
  rcases Int.lt_or_le 0 q with hp | hp
  · exact hp
  · have : q = 0 := by omega
    subst this
    simp at ht
    omega
theorem KInv.done {Y y1 y0 U d q r : Int} (h : KInv Y y1 U d q r) (hY : y1 * 4294967296 + y0 = Y) (h1 : 0 < y1) (h0 : 0 ≤ y0) (ht : ¬ 4294967296 * r + d < q * y0) : q = (U * 4294967296 + d) / Y := by
  subst hY
  exact digit_of (by omega) h.1 h.2.2.2.2.2 (by omega)
theorem KInv.next {Y y1 U d q r : Int} (h : KInv Y y1 U d q r) (h1 : 0 ≤ y1) (hp : 1 ≤ q) (hq : (U * 4294967296 + d) / Y ≤ q - 1) (hr : r + y1 < 4294967296) : KInv Y y1 U d (q - 1) (r + y1) := by
  obtain ⟨hi, hq0, hr0, _, hq1, _⟩ := h
  exact ⟨step_inv hi, by omega, by omega, hr, by omega, hq⟩
theorem KInv.big {Y y1 y0 U d q r : Int} (h : KInv Y y1 U d q r) (hY : y1 * 4294967296 + y0 = Y) (h1 : 0 < y1) (h00 : 0 ≤ y0) (h0 : y0 < 4294967296) (hd : 0 ≤ d) (hp : 1 ≤ q) (hq : (U * 4294967296 + d) / Y ≤ q - 1) (hr : 4294967296 ≤ r + y1) : q - 1 = (U * 4294967296 + d) / Y := by
  subst hY
  obtain ⟨hi, hq0, hr0, _, hq1, _⟩ := h
  exact digit_big (by omega) h00 h0 (step_inv hi) hd (by omega) hr hq
theorem mul_lt {q y : Int} (hq0 : 0 ≤ q) (hq : q < 4294967296) (hy0 : 0 ≤ y) (hy : y < 4294967296) : q * y ≤ 18446744065119617025 :=
  Int.mul_le_mul (show q ≤ 4294967295 by omega) (show y ≤ 4294967295 by omega) hy0 (by decide)
end Go.Proofs.Ythofammjbicogaa.KD
namespace Go.Proofs.Ythofammjbicogaa
open Go.RowKit
set_option linter.unusedSimpArgs false
set_option linter.unusedVariables false
def lzN (y : Int) : Nat := 64 - Lib.bitLen y.toNat
theorem lz_any (y : Int) (s : Nat) (h0 : 0 ≤ y) (h1 : y ≤ 18446744073709551615) (hs : lzN y = s) (w : World) :
    Calls Try.prog 130 #[.int .u64 y] w fun e w' => e = .returned (.int .i64 ((s : Int))) ∧ w = w' := by
  refine (Try.bits_LeadingZeros64 y w h0 h1).mono ?_
  rintro e w' ⟨rfl, rfl⟩
  have h := Lib.bitLen_le y.toNat 64 (by omega) (by omega)
  refine ⟨ret_int ?_, rfl⟩
  subst hs
  unfold lzN
  omega

set_option maxRecDepth 100000 in
set_option maxHeartbeats 1000000 in
theorem div64_walk (hi lo y : Int) (s : Nat) (hs : lzN y = s) (h0 : 0 < hi) (h1 : hi < y) (h2 : y ≤ 18446744073709551615) (l0 : 0 ≤ lo) (l1 : lo ≤ 18446744073709551615) (s63 : s ≤ 63)
    (Y y1 y0 U L d1 d0 Q1 R1 Q0 R0 : Int)
    (E1 : IntKind.u64.wrap (y * 2 ^ s) = Y) (E2 : Y / 4294967296 = y1) (E3 : bits .and .u64 Y 4294967295 = y0)
    (E4 : bits .or .u64 (IntKind.u64.wrap (hi * 2 ^ s)) (lo / 2 ^ (64 - s)) = U) (E5 : IntKind.u64.wrap (lo * 2 ^ s) = L) (E6 : L / 4294967296 = d1) (E7 : bits .and .u64 L 4294967295 = d0)
    (y1a : 2147483648 ≤ y1) (y1b : y1 < 4294967296) (y0a : 0 ≤ y0) (y0b : y0 < 4294967296) (hY : Hid (y1 * 4294967296 + y0 = Y)) (U0 : 0 ≤ U) (hU : U < Y) (Y0 : 0 < Y) (Yb : Y ≤ 18446744073709551615) (L0 : 0 ≤ L) (Lb : L ≤ 18446744073709551615) (d1a : 0 ≤ d1) (d1b : d1 < 4294967296) (d0a : 0 ≤ d0) (d0b : d0 < 4294967296)
    (E9 : U / y1 * y1 ≤ U) (E9' : 0 ≤ U / y1 * y1) (q0a : 0 ≤ U / y1) (q0b : U / y1 ≤ 4294967297)
    (HQ1 : Hid (Q1 = (U * 4294967296 + d1) / Y)) (Q1a : 0 ≤ Q1) (Q1b : Q1 < 4294967296)
    (E10 : IntKind.u64.wrap (IntKind.u64.wrap (IntKind.u64.wrap (U * 4294967296) + d1) - IntKind.u64.wrap (Q1 * Y)) = R1) (R1a : 0 ≤ R1) (R1b : R1 < Y)
    (E12 : R1 / y1 * y1 ≤ R1) (E12' : 0 ≤ R1 / y1 * y1) (p0a : 0 ≤ R1 / y1) (p0b : R1 / y1 ≤ 4294967297)
    (HQ0 : Hid (Q0 = (R1 * 4294967296 + d0) / Y)) (Q0a : 0 ≤ Q0) (Q0b : Q0 < 4294967296)
    (E13 : IntKind.u64.wrap (IntKind.u64.wrap (IntKind.u64.wrap (R1 * 4294967296) + d0) - IntKind.u64.wrap (Q0 * Y)) = R0) (R0a : 0 ≤ R0) (R0b : R0 < Y)
    (w : World) :
    Calls Try.prog 127 #[.int .u64 hi, .int .u64 lo, .int .u64 y] w fun e w' => e = .returned (.tuple #[.int .u64 (Q1 * 4294967296 + Q0), .int .u64 (R0 / 2 ^ s)]) ∧ w = w' := by
  have H := Lib.hid hs
  clear hs
  go_enter Try.func127, Try.ntmps127
  go_upto_block 0 with (go_at_call 130; refine (lz_any y s (by omega) (by omega) H.out _).mono ?_; rintro e w' ⟨rfl, rfl⟩)
  go_cut [15, 16] from 67 to 85 (fun a b wx => a = .int .u64 Q1 ∧ wx = w)
  case first =>
    go_wp2_with fail
    go_loop [15, 16] (fun a b => ∃ q r : Int, a = .int .u64 q ∧ b = .int .u64 r ∧ KD.KInv Y y1 U d1 q r) (fun a _ => (intOf a).toNat)
    case atStart =>
      exact ⟨U / y1, U - U / y1 * y1, rfl, rfl, by exact KD.KInv.start hY.out (by omega) (by omega) (by omega) (by omega) (by omega) (by omega) (by omega) (by omega)⟩
    case round =>
      obtain ⟨q, r, rfl, rfl, hI⟩ := hrel
      obtain ⟨_, hq0, hr0, hr, hq, _⟩ := id hI
      rename_i hx1 hx2
      clear hx1 hx2
      by_cases hq2 : 4294967296 ≤ q
      · have hg := hI.pos (by omega) (by omega) (by omega) (by omega)
        have HG := Lib.hid hg
        clear hg
        by_cases hr2 : 4294967296 ≤ r + y1
        · go_wp2
          go_meet
          have := hI.big hY.out (by omega) (by omega) (by omega) (by omega) (by omega) HG.out (by omega)
          have e := HQ1.out
          exact ⟨by rw [e, ← this], rfl⟩
        · go_wp2
          go_round
          case rel => exact ⟨q - 1, r + y1, rfl, rfl, hI.next (by omega) (by omega) HG.out (by omega)⟩
          case measure => simp [intOf]; omega
      · have hm1 := KD.mul_lt (q := q) (y := y0) (by omega) (by omega) (by omega) (by omega)
        have hm0 : 0 ≤ q * y0 := Int.mul_nonneg (by omega) (by omega)
        by_cases ht : 4294967296 * r + d1 < q * y0
        · obtain ⟨hg, hp⟩ := hI.test hY.out (by omega) (by omega) (by omega) ht
          have HG := Lib.hid hg
          clear hg
          by_cases hr2 : 4294967296 ≤ r + y1
          · go_wp2
            go_meet
            have := hI.big hY.out (by omega) (by omega) (by omega) (by omega) hp HG.out (by omega)
            have e := HQ1.out
            exact ⟨by rw [e, ← this], rfl⟩
          · go_wp2
            go_round
            case rel => exact ⟨q - 1, r + y1, rfl, rfl, hI.next (by omega) hp HG.out (by omega)⟩
            case measure => simp [intOf]; omega
        · have HD := Lib.hid (hI.done hY.out (by omega) (by omega) ht)
          go_wp2
          go_meet
          have e := HQ1.out
          exact ⟨by rw [e, ← HD.out], rfl⟩
  case rest =>
    obtain ⟨rfl, rfl⟩ := hcut
    go_upto_block 2 with (fail)
    go_cut [18, 16] from 102 to 120 (fun a b wx => a = .int .u64 Q0 ∧ wx = wc)
    case first =>
      go_wp2_with fail
      go_loop [18, 16] (fun a b => ∃ q r : Int, a = .int .u64 q ∧ b = .int .u64 r ∧ KD.KInv Y y1 R1 d0 q r) (fun a _ => (intOf a).toNat)
      case atStart =>
        exact ⟨R1 / y1, R1 - R1 / y1 * y1, rfl, rfl, by exact KD.KInv.start hY.out (by omega) (by omega) (by omega) (by omega) (by omega) (by omega) (by omega) (by omega)⟩
      case round =>
        obtain ⟨q, r, rfl, rfl, hI⟩ := hrel
        obtain ⟨_, hq0, hr0, hr, hq, _⟩ := id hI
        rename_i hx1 hx2
        clear hx1 hx2
        by_cases hq2 : 4294967296 ≤ q
        · have hg := hI.pos (by omega) (by omega) (by omega) (by omega)
          have HG := Lib.hid hg
          clear hg
          by_cases hr2 : 4294967296 ≤ r + y1
          · go_wp2
            go_meet
            have := hI.big hY.out (by omega) (by omega) (by omega) (by omega) (by omega) HG.out (by omega)
            have e := HQ0.out
            exact ⟨by rw [e, ← this], rfl⟩
          · go_wp2
            go_round
            case rel => exact ⟨q - 1, r + y1, rfl, rfl, hI.next (by omega) (by omega) HG.out (by omega)⟩
            case measure => simp [intOf]; omega
        · have hm1 := KD.mul_lt (q := q) (y := y0) (by omega) (by omega) (by omega) (by omega)
          have hm0 : 0 ≤ q * y0 := Int.mul_nonneg (by omega) (by omega)
          by_cases ht : 4294967296 * r + d0 < q * y0
          · obtain ⟨hg, hp⟩ := hI.test hY.out (by omega) (by omega) (by omega) ht
            have HG := Lib.hid hg
            clear hg
            by_cases hr2 : 4294967296 ≤ r + y1
            · go_wp2
              go_meet
              have := hI.big hY.out (by omega) (by omega) (by omega) (by omega) hp HG.out (by omega)
              have e := HQ0.out
              exact ⟨by rw [e, ← this], rfl⟩
            · go_wp2
              go_round
              case rel => exact ⟨q - 1, r + y1, rfl, rfl, hI.next (by omega) hp HG.out (by omega)⟩
              case measure => simp [intOf]; omega
          · have HD := Lib.hid (hI.done hY.out (by omega) (by omega) ht)
            go_wp2
            go_meet
            have e := HQ0.out
            exact ⟨by rw [e, ← HD.out], rfl⟩
    case rest =>
      obtain ⟨rfl, rfl⟩ := hcut
      go_wp2_with fail
      go_ret2
      exact ⟨rfl, rfl⟩

theorem bitLen_gt (n : Nat) (h : n < 2 ^ 64) : n < 2 ^ Lib.bitLen n := by
  rcases Nat.lt_or_ge n (2 ^ Lib.bitLen n) with hl | hl
  · exact hl
  · have e := Lib.bitLen_shift _ n hl h
    have hp : 0 < n / 2 ^ Lib.bitLen n := Nat.div_pos hl (Nat.two_pow_pos _)
    have hd : n / 2 ^ Lib.bitLen n ≤ n := Nat.div_le_self ..
    have := Lib.bitLen_half (n / 2 ^ Lib.bitLen n) (by omega) (by omega)
    omega
theorem bitLen_ge (n : Nat) (h0 : n ≠ 0) (h : n < 2 ^ 64) : 2 ^ (Lib.bitLen n - 1) ≤ n := by
  rcases Nat.lt_or_ge n (2 ^ (Lib.bitLen n - 1)) with hl | hl
  · have h1 := Lib.bitLen_le n 64 (by decide) h
    have h2 := Lib.bitLen_half n h0 h
    have := Lib.bitLen_le n (Lib.bitLen n - 1) (by omega) hl
    omega
  · exact hl
theorem lz_spec (y : Int) (s : Nat) (h0 : 0 < y) (h1 : y ≤ 18446744073709551615) (hs : lzN y = s) : s ≤ 63 ∧ 9223372036854775808 ≤ y * 2 ^ s ∧ y * 2 ^ s < 18446744073709551616 := by
  obtain ⟨n, rfl⟩ := Int.eq_ofNat_of_zero_le (show 0 ≤ y by omega)
  unfold lzN at hs
  simp only [Int.toNat_natCast] at hs
  have hn : n < 2 ^ 64 := by omega
  have a := bitLen_gt n hn
  have b := bitLen_ge n (by omega) hn
  have c := Lib.bitLen_half n (by omega) hn
  have d := Lib.bitLen_le n 64 (by decide) hn
  generalize Lib.bitLen n = L at *
  have e1 : n * 2 ^ s < 2 ^ L * 2 ^ s := Nat.mul_lt_mul_of_pos_right a (Nat.two_pow_pos _)
  have e2 : 2 ^ (L - 1) * 2 ^ s ≤ n * 2 ^ s := Nat.mul_le_mul_right _ b
  rw [← Nat.pow_add] at e1 e2
  rw [show L + s = 64 by omega] at e1
  rw [show L - 1 + s = 63 by omega] at e2
  refine ⟨by omega, ?_, ?_⟩
  · have : ((2 ^ 63 : Nat) : Int) ≤ ((n * 2 ^ s : Nat) : Int) := by exact_mod_cast e2
    rw [Int.natCast_mul, Int.natCast_pow] at this
    exact this
  · have : ((n * 2 ^ s : Nat) : Int) < ((2 ^ 64 : Nat) : Int) := by exact_mod_cast e1
    rw [Int.natCast_mul, Int.natCast_pow] at this
    exact this
theorem wraps_u64 (n : Int) (h₀ : 0 ≤ n) (h₁ : n < 2 ^ 64) : IntKind.u64.wrap n = n := by rw [IntKind.wrap_u64]; omega
theorem mask32 (x : Int) (h0 : 0 ≤ x) (h1 : x < 18446744073709551616) : bits .and .u64 x 4294967295 = x % 4294967296 :=
  bits_mask .u64 64 (by decide) wraps_u64 32 (by decide) x h0 h1
/-- A word shifted, and the first bits of the next one. -/
theorem shift_join (hi lo : Int) (s : Nat) (h63 : s ≤ 63) (h0 : 0 ≤ hi) (h1 : hi * 2 ^ s < 18446744073709551616) (l0 : 0 ≤ lo) (l1 : lo < 18446744073709551616) :
    bits .or .u64 (hi * 2 ^ s) (lo / 2 ^ (64 - s)) = (hi * 18446744073709551616 + lo) * 2 ^ s / 18446744073709551616 ∧ lo * 2 ^ s % 18446744073709551616 = (hi * 18446744073709551616 + lo) * 2 ^ s % 18446744073709551616 := by
  have hp : (0 : Int) < 2 ^ s := Int.pow_pos (by decide)
  have hq : (0 : Int) < 2 ^ (64 - s) := Int.pow_pos (by decide)
  have hpq : (2 : Int) ^ (64 - s) * 2 ^ s = 18446744073709551616 := by
    rw [← Int.pow_add, show 64 - s + s = 64 by omega]; rfl
  have hlt : lo / 2 ^ (64 - s) < 2 ^ s := Int.ediv_lt_of_lt_mul hq (by rw [Int.mul_comm, hpq]; exact l1)
  have hnn : 0 ≤ lo / 2 ^ (64 - s) := Int.ediv_nonneg l0 (by omega)
  have hle : (2 : Int) ^ s ≤ 2 ^ 64 := by
    have : (2 : Nat) ^ s ≤ 2 ^ 64 := Nat.pow_le_pow_right (by decide) (by omega)
    exact_mod_cast this
  have hj := bits_join .u64 64 (by decide) wraps_u64 s (hi * 2 ^ s) (lo / 2 ^ (64 - s)) (Int.mul_nonneg h0 (by omega)) (Int.mul_emod_left _ _) h1 hnn hlt (by omega)
  rw [hj]
  have e : (hi * 18446744073709551616 + lo) * 2 ^ s = lo * 2 ^ s + 18446744073709551616 * (hi * 2 ^ s) := by
    rw [Int.add_mul, Int.mul_right_comm]
    omega
  rw [e, Int.add_mul_ediv_left _ _ (by decide), Int.add_mul_emod_self_left]
  refine ⟨?_, rfl⟩
  rw [← hpq, Int.mul_ediv_mul_of_pos_left _ _ hp]
  omega

set_option maxHeartbeats 400000 in
theorem div64_hi (hi lo y : Int) (h0 : 0 < hi) (h1 : hi < y) (h2 : y ≤ 18446744073709551615) (l0 : 0 ≤ lo) (l1 : lo ≤ 18446744073709551615) (w : World) :
    Calls Try.prog 127 #[.int .u64 hi, .int .u64 lo, .int .u64 y] w fun e w' => e = .returned (.tuple #[.int .u64 ((hi * 18446744073709551616 + lo) / y), .int .u64 ((hi * 18446744073709551616 + lo) % y)]) ∧ w = w' := by
  obtain ⟨s, hs⟩ : ∃ s, lzN y = s := ⟨_, rfl⟩
  obtain ⟨s63, ya, yb⟩ := lz_spec y s (by omega) h2 hs
  have hp : (0 : Int) < 2 ^ s := Int.pow_pos (by decide)
  have hhi : (hi + 1) * 2 ^ s ≤ y * 2 ^ s := Int.mul_le_mul_of_nonneg_right (by omega) (by omega)
  rw [Int.add_mul] at hhi
  obtain ⟨hU, hL⟩ := shift_join hi lo s s63 (by omega) (by omega) l0 (by omega)
  obtain ⟨u1, u2⟩ := KD.unshift (hi * 18446744073709551616 + lo) y (2 ^ s) hp
  have hlt : (hi * 18446744073709551616 + lo) * 2 ^ s < y * 2 ^ s * 18446744073709551616 := by
    have : (hi * 18446744073709551616 + lo + 1) * 2 ^ s ≤ y * 18446744073709551616 * 2 ^ s := Int.mul_le_mul_of_nonneg_right (by omega) (by omega)
    rw [Int.add_mul, Int.mul_right_comm y] at this
    omega
  have hnn : 0 ≤ (hi * 18446744073709551616 + lo) * 2 ^ s := Int.mul_nonneg (by omega) (by omega)
  have hh0 : 0 ≤ hi * 2 ^ s := Int.mul_nonneg (by omega) (by omega)
  have hl0 : 0 ≤ lo * 2 ^ s := Int.mul_nonneg (by omega) (by omega)
  have hm0 : hi * 2 ^ s < 18446744073709551616 := by omega
  generalize hY : y * 2 ^ s = Y at *
  generalize hX : (hi * 18446744073709551616 + lo) * 2 ^ s = X at *
  rw [← u1, ← u2]
  have hY1 : 2147483648 ≤ Y / 4294967296 := by omega
  have dm := fun x : Int => Int.mul_ediv_add_emod x 4294967296
  have kw := KD.whole (U := X / 18446744073709551616) (a := X % 18446744073709551616 / 4294967296) (b := X % 18446744073709551616 % 4294967296) (Y := Y) (by omega)
  have e : X / 18446744073709551616 * 18446744073709551616 + (X % 18446744073709551616 / 4294967296 * 4294967296 + X % 18446744073709551616 % 4294967296) = X := by omega
  rw [e] at kw
  rw [kw.1, kw.2]
  have hUY : X / 18446744073709551616 < Y := Int.ediv_lt_of_lt_mul (by decide) hlt
  have wr : ∀ U d : Int, 0 ≤ U → U < Y → 0 ≤ d → d < 4294967296 → IntKind.u64.wrap (IntKind.u64.wrap (IntKind.u64.wrap (U * 4294967296) + d) - IntKind.u64.wrap ((U * 4294967296 + d) / Y * Y)) = (U * 4294967296 + d) % Y := by
    intro U d a1 a2 a3 a4
    have h1 := Int.mul_ediv_add_emod (U * 4294967296 + d) Y
    have h2 := Int.emod_lt_of_pos (U * 4294967296 + d) (show 0 < Y by omega)
    have h3 := Int.emod_nonneg (U * 4294967296 + d) (show Y ≠ 0 by omega)
    rw [Int.mul_comm] at h1
    generalize (U * 4294967296 + d) / Y * Y = p at *
    simp only [IntKind.wrap_u64]
    omega
  have nn : ∀ U d : Int, 0 ≤ U → U < Y → 0 ≤ d → 0 ≤ (U * 4294967296 + d) / Y := fun U d a1 a2 a3 => Int.ediv_nonneg (by omega) (by omega)
  have gl : ∀ U : Int, 0 ≤ U → U < Y → U / (Y / 4294967296) * (Y / 4294967296) ≤ U ∧ 0 ≤ U / (Y / 4294967296) * (Y / 4294967296) ∧ 0 ≤ U / (Y / 4294967296) ∧ U / (Y / 4294967296) ≤ 4294967297 := by
    intro U a1 a2
    have hq : 0 ≤ U / (Y / 4294967296) := Int.ediv_nonneg a1 (by omega)
    exact ⟨Int.ediv_mul_le _ (by omega), Int.mul_nonneg hq (by omega), hq, KD.guess_le (y0 := Y % 4294967296) hY1 (by omega) (by omega)⟩
  have U0 : 0 ≤ X / 18446744073709551616 := by omega
  have d10 : 0 ≤ X % 18446744073709551616 / 4294967296 := by omega
  have d11 : X % 18446744073709551616 / 4294967296 < 4294967296 := by omega
  have d00 : 0 ≤ X % 18446744073709551616 % 4294967296 := by omega
  have d01 : X % 18446744073709551616 % 4294967296 < 4294967296 := by omega
  have R0 := Int.emod_nonneg (X / 18446744073709551616 * 4294967296 + X % 18446744073709551616 / 4294967296) (show Y ≠ 0 by omega)
  have R1 := Int.emod_lt_of_pos (X / 18446744073709551616 * 4294967296 + X % 18446744073709551616 / 4294967296) (show 0 < Y by omega)
  have g1 := gl _ U0 hUY
  have g2 := gl _ R0 R1
  exact div64_walk hi lo y s hs h0 h1 h2 l0 l1 s63 Y (Y / 4294967296) (Y % 4294967296) (X / 18446744073709551616) (X % 18446744073709551616) (X % 18446744073709551616 / 4294967296) (X % 18446744073709551616 % 4294967296)
    _ _ _ _
    (by rw [hY, wraps_u64 _ (by omega) (by omega)]) rfl (mask32 _ (by omega) (by omega))
    (by rw [wraps_u64 _ hh0 hm0]; exact hU) (by rw [IntKind.wrap_u64]; exact hL) rfl (mask32 _ (by omega) (by omega))
    hY1 (by omega) (by omega) (by omega) (by show _ = _; omega) U0 hUY (by omega) (by omega) (by omega) (by omega) d10 d11 d00 d01
    g1.1 g1.2.1 g1.2.2.1 g1.2.2.2
    rfl (nn _ _ U0 hUY d10) (KD.digit_lt (by omega) hUY d11)
    (wr _ _ U0 hUY d10 d11) R0 R1
    g2.1 g2.2.1 g2.2.2.1 g2.2.2.2
    rfl (nn _ _ R0 R1 d00) (KD.digit_lt (by omega) R1 d01)
    (wr _ _ R0 R1 d00 d01) (Int.emod_nonneg _ (by omega)) (Int.emod_lt_of_pos _ (by omega)) w

set_option maxRecDepth 100000 in
set_option maxHeartbeats 400000 in
theorem div64_any (hi lo y : Int) (h0 : 0 ≤ hi) (h1 : hi < y) (h2 : y ≤ 18446744073709551615) (l0 : 0 ≤ lo) (l1 : lo ≤ 18446744073709551615) (w : World) :
    Calls Try.prog 127 #[.int .u64 hi, .int .u64 lo, .int .u64 y] w fun e w' => e = .returned (.tuple #[.int .u64 ((hi * 18446744073709551616 + lo) / y), .int .u64 ((hi * 18446744073709551616 + lo) % y)]) ∧ Below w.heap.size w w' := by
  by_cases hz : hi = 0
  · subst hz
    have hy : (y == 0) = false := by simp; omega
    go_enter Try.func127, Try.ntmps127
    go_wp2_with fail
    go_quiet (fail)
    go_wp2
    go_ret2
    exact ⟨ret_uu (by simp) (by simp), (by repeat' (first | (with_reducible exact Below.refl _ _) | (with_reducible assumption) | (with_reducible refine below_alloc ?_ _ ?_) | (with_reducible refine below_set _ ?_ ?_) | (with_reducible refine Below.drew ?_) | (with_reducible refine below_dN ?_ _) | (apply below_thenA; assumption) | omega | (simp; done) | (simp; omega) | (simp [*]; done)))⟩
  · refine (div64_hi hi lo y (by omega) h1 h2 l0 l1 w).mono ?_
    rintro e w' ⟨rfl, rfl⟩
    exact ⟨rfl, Below.refl _ _⟩
end Go.Proofs.Ythofammjbicogaa
