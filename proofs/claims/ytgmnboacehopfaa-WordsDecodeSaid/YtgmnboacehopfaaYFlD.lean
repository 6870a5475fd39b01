/-
  Package flexbox: automatic margins.
-/
import Derived.Test.YtgmnboacehopfaaYFlB
import Derived.Test.YtgmnboacehopfaaZ7
namespace Go.Proofs.Ytgmnboacehopfaa
open Go.RowKit
set_option linter.unusedSimpArgs false
set_option linter.unusedVariables false

theorem RowV.drew {w : World} {ao : Option Addr} {k s : Nat} {vs : List Value} (h : RowV w ao k s vs) : RowV w.drew ao k s vs := h
theorem RowI.drew {w : World} {ao : Option Addr} {k : Nat} {xs : List Int} (h : RowI w ao k xs) : RowI w.drew ao k xs := h
theorem RowV.but {w w' : World} {b : Nat} {ao : Option Addr} {k s : Nat} {vs : List Value} (h : RowV w ao k s vs) (hb : But b w w') (hne : ∀ g off, ao = some ⟨g, off, none⟩ → g ≠ b) : RowV w' ao k s vs := by
  refine ⟨h.1, fun hk => ?_⟩
  obtain ⟨g, off, e, hg, hc⟩ := h.2 hk
  exact ⟨g, off, e, Nat.lt_of_lt_of_le hg hb.size, fun i hi => (World.cell?_of_block (w := w) (a := ⟨g, off + i, none⟩) (hb.block g hg (hne g off e))).trans (hc i hi)⟩
theorem made2 (n : Nat) : (madeCells #[.int .i64 0, .int .i64 0] (n * 2)).toList = i64s (List.replicate (n * 2) 0) := by
  apply List.ext_getElem
  · simp [i64s, size_madeCells]
  · intro i h1 h2
    simp [i64s, madeCells]
    rcases (by omega : i % 2 = 0 ∨ i % 2 = 1) with h | h <;> simp [h]
/-- The marked places below one, in order. -/
def mkL (bs : List Bool) : Nat → List Nat
  | 0 => []
  | p + 1 => mkL bs p ++ (if bs.getD p false then [p] else [])
theorem mkL_lt {bs : List Bool} : ∀ {p q : Nat}, q ∈ mkL bs p → q < p
  | 0, q, h => by simp [mkL] at h
  | p + 1, q, h => by
    unfold mkL at h
    rcases List.mem_append.1 h with h | h
    · have := mkL_lt h; omega
    · split at h <;> simp at h
      omega
theorem mkL_yes {bs : List Bool} {p : Nat} (h : bs.getD p false = true) : mkL bs (p + 1) = mkL bs p ++ [p] := by
  show mkL bs p ++ _ = _
  rw [if_pos h]
theorem mkL_no {bs : List Bool} {p : Nat} (h : bs.getD p false = false) : mkL bs (p + 1) = mkL bs p := by
  show mkL bs p ++ _ = _
  rw [if_neg (by rw [h]; decide), List.append_nil]
theorem mkL_len (bs : List Bool) : ∀ p, (mkL bs p).length ≤ p
  | 0 => by simp [mkL]
  | p + 1 => by
    have := mkL_len bs p
    unfold mkL
    split <;> simp <;> omega
theorem mkL_end (bs : List Bool) {m : Nat} (h : bs.length ≤ m) : ∀ p, m ≤ p → mkL bs p = mkL bs m
  | 0, hp => by have : m = 0 := by omega
                rw [this]
  | p + 1, hp => by
    rcases Nat.eq_or_lt_of_le hp with e | e
    · rw [e]
    · rw [← mkL_end bs h p (by omega)]
      show mkL bs p ++ _ = _
      have : bs.getD p false = false := by simp [List.getD, List.getElem?_eq_none (show bs.length ≤ p by omega)]
      rw [this]
      simp
/-- Places as pairs. -/
def mkV (ms : List Nat) : List Value := ms.flatMap fun p => [.int .i64 (((p / 2 : Nat) : Int)), .int .i64 (((p % 2 : Nat) : Int))]
theorem mkV_app (a b : List Nat) : mkV (a ++ b) = mkV a ++ mkV b := by simp [mkV]
theorem mkV_get (ms : List Nat) (j : Nat) (hj : j < ms.length) : (mkV ms)[j * 2 + 0]? = some (.int .i64 (((ms.getD j 0 / 2 : Nat) : Int))) ∧ (mkV ms)[j * 2 + 1]? = some (.int .i64 (((ms.getD j 0 % 2 : Nat) : Int))) := by
  induction ms generalizing j with
  | nil => simp at hj
  | cons x l ih =>
    have e : mkV (x :: l) = .int .i64 (((x / 2 : Nat) : Int)) :: .int .i64 (((x % 2 : Nat) : Int)) :: mkV l := rfl
    rw [e]
    match j with
    | 0 => simp [List.getD]
    | j + 1 =>
      have := ih j (by simpa using hj)
      have h1 : (j + 1) * 2 + 0 = (j * 2 + 0) + 1 + 1 := by omega
      have h2 : (j + 1) * 2 + 1 = (j * 2 + 1) + 1 + 1 := by omega
      rw [h1, h2, List.getElem?_cons_succ, List.getElem?_cons_succ, List.getElem?_cons_succ, List.getElem?_cons_succ]
      simpa [List.getD] using this
theorem mkV_one {p i q : Nat} (h1 : p / 2 = i) (h2 : p % 2 = q) : mkV [p] = [.int .i64 ((i : Int)), .int .i64 ((q : Int))] := by
  show [_, _] = _
  rw [h1, h2]
/-- Parts laid at places, the first j of them. -/
def mgL (ms : List Nat) (ps : List Int) (N : Nat) : Nat → List Int
  | 0 => List.replicate N 0
  | j + 1 => (mgL ms ps N j).set (ms.getD j 0) (ps.getD j 0)
theorem mgL_len (ms : List Nat) (ps : List Int) (N : Nat) : ∀ j, (mgL ms ps N j).length = N
  | 0 => by simp [mgL]
  | j + 1 => by unfold mgL; rw [List.length_set]; exact mgL_len ms ps N j
/-- The margins, of such room. -/
def mgF (bs : List Bool) (k : Nat) (f : Int) : List Int :=
  if f ≤ 0 then List.replicate (k * 2) 0 else mgL (mkL bs (2 * k)) (evL f (mkL bs (2 * k)).length) (k * 2) (mkL bs (2 * k)).length
def bools (bs : List Bool) : List Value := bs.map fun b => .bool b
theorem bools_get (bs : List Bool) (i : Nat) (hi : i < bs.length) : (bools bs)[i]? = some (.bool (bs.getD i false)) := by
  simp [bools, List.getD, hi]
end Go.Proofs.Ytgmnboacehopfaa
