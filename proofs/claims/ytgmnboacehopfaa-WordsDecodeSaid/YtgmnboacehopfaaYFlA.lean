/-
  Package flexbox, each function by its contract: even, room, places.
-/
import Derived.Test.YtgmnboacehopfaaYShC
namespace Go.Proofs.Ytgmnboacehopfaa
open Go.RowKit
set_option linter.unusedSimpArgs false
set_option linter.unusedVariables false

theorem one_get {n i : Nat} (h : i < n) : (ones n).getD i 0 = 1 := by simp [ones, List.getD, h]
theorem one_pre (n : Nat) : ∀ k, k ≤ n → pre (ones n) k = (k : Int)
  | 0, _ => rfl
  | k + 1, h => by
    show pre (ones n) k + (ones n).getD k 0 = _
    rw [one_pre n k (by omega), one_get (by omega)]
    push_cast
    rfl
theorem one_nonneg (n : Nat) : Nonneg (ones n) := fun i => by
  by_cases h : i < n
  · rw [one_get h]; decide
  · have e : (ones n).getD i 0 = 0 := by simp [ones, List.getD, h]
    rw [e]; decide
theorem shE_one {t : Int} {n : Nat} (hm : n ≤ 1024) (hl : lenB t = true) : shE t (ones n) n = 0 := by
  unfold shE
  rw [if_neg (by omega)]
  have : negB (ones n) n = false := by
    unfold negB
    rw [decide_eq_false_iff_not]
    rintro ⟨_, h⟩
    obtain ⟨i, _, h⟩ := (minK_neg _ _).1 h
    have := one_nonneg n i
    omega
  rw [this]
  have hS : pre (ones n) n ≤ 4611686018427387904 := by rw [one_pre n n (Nat.le_refl _)]; omega
  unfold splC allE
  rw [hl, if_pos hS]
  rfl
/-- A length in so many even parts. -/
def evL (t : Int) (p : Nat) : List Int := partsN t (p : Int) (ones p) p
theorem evL_len (t : Int) (p : Nat) : (evL t p).length = p := partsN_len _ _ _ _
/-- The room that is left behind the first things. -/
def roomV (xs : List Int) (avail gap : Int) (j : Nat) : Int := avail - pre xs j - gap * ((j - 1 : Nat) : Int)
theorem room_zero (xs : List Int) (avail gap : Int) : roomV xs avail gap 0 = avail := by unfold roomV; simp [pre]
theorem room_one (xs : List Int) (avail gap : Int) : roomV xs avail gap 1 = roomV xs avail gap 0 - xs.getD 0 0 := by unfold roomV; simp [pre]
theorem room_next (xs : List Int) (avail gap : Int) (j : Nat) (hj : 0 < j) : roomV xs avail gap (j + 1) = roomV xs avail gap j - gap - xs.getD j 0 := by
  unfold roomV
  have e1 : ((j + 1 - 1 : Nat) : Int) = ((j - 1 : Nat) : Int) + 1 := by omega
  have e2 : pre xs (j + 1) = pre xs j + xs.getD j 0 := rfl
  rw [e1, e2, Int.mul_add, Int.mul_one]
  omega
/-- Numbers that have room: sizes below 2^36, few of them; the gap; the room. -/
structure Lim (xs : List Int) (k : Nat) (avail gap : Int) : Prop where
  k30 : k ≤ 30
  xs36 : ∀ i, -68719476736 ≤ xs.getD i 0 ∧ xs.getD i 0 ≤ 68719476736
  av : -1099511627776 ≤ avail ∧ avail ≤ 1099511627776
  gp : -1073741824 ≤ gap ∧ gap ≤ 1073741824
theorem pre_lim {xs : List Int} (h : ∀ i, -68719476736 ≤ xs.getD i 0 ∧ xs.getD i 0 ≤ 68719476736) : ∀ j : Nat, -(68719476736 * (j : Int)) ≤ pre xs j ∧ pre xs j ≤ 68719476736 * (j : Int)
  | 0 => by simp [pre]
  | j + 1 => by
    have h1 := pre_lim h j
    have h2 := h j
    have h3 : pre xs (j + 1) = pre xs j + xs.getD j 0 := rfl
    rw [h3]
    push_cast
    omega
theorem gap_lim {gap : Int} (h : -1073741824 ≤ gap ∧ gap ≤ 1073741824) {j : Nat} (hj : j ≤ 30) : -32212254720 ≤ gap * (j : Int) ∧ gap * (j : Int) ≤ 32212254720 := by
  have h0 : (0 : Int) ≤ (j : Int) := by omega
  have h1 := Int.mul_le_mul_of_nonneg_right h.1 h0
  have h2 := Int.mul_le_mul_of_nonneg_right h.2 h0
  omega
theorem room_lim {xs : List Int} {k : Nat} {avail gap : Int} (h : Lim xs k avail gap) {j : Nat} (hj : j ≤ 30) : -4398046511104 ≤ roomV xs avail gap j ∧ roomV xs avail gap j ≤ 4398046511104 := by
  have h1 := pre_lim h.xs36 j
  have h2 := gap_lim h.gp (show j - 1 ≤ 30 by omega)
  have h3 := h.av
  unfold roomV
  omega
theorem ints_blk {w : World} {g n : Nat} {cs : Array Value} (xs : List Int) (hn : xs.length = n) (h : Blk w g cs 2) (e : cs.toList = i64s xs) (hf : ∀ x ∈ xs, IFit x) : IntsAt w g 0 n xs := by
  obtain ⟨h1, h2⟩ := row_of_blk xs n hn h e
  refine ⟨hn, fun i hi => ?_, fun i hi => ?_⟩
  · have hl : i < xs.length := by omega
    simp only [List.getD]
    rw [List.getElem?_eq_getElem hl]
    exact hf _ (List.getElem_mem hl)
  · obtain ⟨g', off, e', _, hc⟩ := h2 (by omega)
    obtain ⟨rfl, rfl⟩ : g = g' ∧ 0 = off := by simpa using e'
    exact hc i hi
/-- Where things stand. -/
def plAt (xs sp : List Int) (gap : Int) (i : Nat) : Int := pre sp (i + 1) + pre xs i + gap * (i : Int)
def plN (xs sp : List Int) (gap : Int) (n : Nat) : List Int := (List.range n).map (plAt xs sp gap)
theorem plN_succ (xs sp : List Int) (gap : Int) (n : Nat) : plN xs sp gap (n + 1) = plN xs sp gap n ++ [plAt xs sp gap n] := by
  unfold plN
  rw [List.range_succ, List.map_append]
  rfl
def PlRel (w : World) (xs sp : List Int) (gap : Int) (k gk : Nat) (s7 s8 s13 : Value) (wr : World) : Prop :=
  ∃ (j : Nat) (aj : Option Addr) (cj : Nat) (a : Int), j ≤ k ∧ gk = k - j ∧ s7 = .slice aj j cj ∧ s8 = .int .i64 a ∧ s13 = .int .i64 ((j : Int)) ∧ (j < k → a = pre sp j + pre xs j + gap * (j : Int)) ∧ IFit a ∧ OwnI wr w.heap.size aj j cj (plN xs sp gap j) ∧ Below w.heap.size w wr
end Go.Proofs.Ytgmnboacehopfaa
