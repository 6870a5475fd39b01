/-
  Layer 13: where the items of a line of small items stand, in plain numbers.
-/
import Derived.Test.YthofammjbicogaaYLsB
import Derived.Test.YthofammjbicogaaYLnD
namespace Go.Proofs.Ythofammjbicogaa
open Go.RowKit
set_option linter.unusedSimpArgs false
set_option linter.unusedVariables false

theorem evL_at (t : Int) {p i : Nat} (h : i < p) : (evL t p).getD i 0 = t * ((i + 1 : Nat) : Int) / (p : Int) - t * (i : Int) / (p : Int) := by
  unfold evL
  rw [partsN_get _ _ _ _ _ h]
  unfold shareAt
  rw [one_pre p (i + 1) (by omega), one_pre p i (by omega)]
theorem pre_evL (t : Int) (p : Nat) : ∀ j : Nat, j ≤ p → pre (evL t p) j = t * (j : Int) / (p : Int)
  | 0, _ => by simp [pre]
  | j + 1, h => by
    show pre (evL t p) j + (evL t p).getD j 0 = _
    rw [pre_evL t p j (by omega), evL_at t (by omega)]
    omega
/-- What the gaps ahead of a place come to. -/
def gP (F : Int) (m : Nat) (text : Int) (last : Bool) (j : Nat) : Int := if sprB F m text last then F * (j : Int) / ((m - 1 : Nat) : Int) else 0
theorem pre_sprL (F : Int) (m : Nat) (text : Int) (last : Bool) {j : Nat} (hj : j ≤ m - 1) : pre (sprL F m text last) j = gP F m text last j := by
  unfold sprL gP
  split
  · rw [pre_app0, pre_evL _ _ _ hj]
  · rw [pre_rep]
theorem gP_bnd (F : Int) (m : Nat) (text : Int) (last : Bool) {j : Nat} (hj : j ≤ m - 1) : 0 ≤ gP F m text last j ∧ gP F m text last j ≤ max F 0 := by
  unfold gP
  split
  · rename_i h
    unfold sprB at h
    simp only [Bool.and_eq_true, decide_eq_true_eq] at h
    have hF : 0 < F := h.1.1.2
    have hm : 1 < m := h.2
    have hp : (0 : Int) < ((m - 1 : Nat) : Int) := by omega
    refine ⟨Int.ediv_nonneg (Int.mul_nonneg (by omega) (by omega)) (by omega), ?_⟩
    have h1 : F * (j : Int) ≤ F * ((m - 1 : Nat) : Int) := Int.mul_le_mul_of_nonneg_left (by omega) (by omega)
    have h2 : F * (j : Int) / ((m - 1 : Nat) : Int) ≤ F := Int.ediv_le_of_le_mul hp h1
    omega
  · omega
theorem gP_end {F : Int} {m : Nat} {text : Int} {last : Bool} (h : sprB F m text last = true) : gP F m text last (m - 1) = F := by
  unfold gP
  rw [if_pos h]
  unfold sprB at h
  simp only [Bool.and_eq_true, decide_eq_true_eq] at h
  have hm : 1 < m := h.2
  exact Int.mul_ediv_cancel _ (by omega)
theorem gP_up {F : Int} {m : Nat} {text : Int} {last : Bool} {j : Nat} (hj : j + 1 ≤ m - 1) : gP F m text last j ≤ gP F m text last (j + 1) := by
  unfold gP
  split
  · rename_i h
    unfold sprB at h
    simp only [Bool.and_eq_true, decide_eq_true_eq] at h
    have hF : 0 < F := h.1.1.2
    exact Int.ediv_le_ediv (by omega) (Int.mul_le_mul_of_nonneg_left (by omega) (by omega))
  · exact Int.le_refl _
theorem gP_more {F F' : Int} (hF : F ≤ F') {m : Nat} {text : Int} {last : Bool} {j : Nat} (hj : j ≤ m - 1) : gP F m text last j ≤ gP F' m text last j := by
  by_cases h : sprB F m text last = true
  · have h' := h
    unfold sprB at h'
    simp only [Bool.and_eq_true, decide_eq_true_eq] at h'
    have h2 : sprB F' m text last = true := by
      unfold sprB
      simp only [Bool.and_eq_true, decide_eq_true_eq]
      exact ⟨⟨⟨h'.1.1.1, by have := h'.1.1.2; omega⟩, h'.1.2⟩, h'.2⟩
    unfold gP
    rw [if_pos h, if_pos h2]
    have hm : 1 < m := h'.2
    exact Int.ediv_le_ediv (by omega) (Int.mul_le_mul_of_nonneg_right hF (by omega))
  · have h0 : gP F m text last j = 0 := by unfold gP; rw [if_neg h]
    rw [h0]
    exact (gP_bnd F' m text last hj).1
/-- What the items ahead of a place take. -/
def sF (l : List It) (a : Nat) : Nat → Int
  | 0 => 0
  | j + 1 => sF l a j + ((l.getD (a + j) it0).w + (l.getD (a + j) it0).s)
theorem sF_bnd {l : List It} (h : ItSm l) (a : Nat) : ∀ j : Nat, 0 ≤ sF l a j ∧ sF l a j ≤ 131070 * (j : Int)
  | 0 => by simp [sF]
  | j + 1 => by
    have h1 := sF_bnd h a j
    have h2 := h (a + j)
    unfold sF
    push_cast
    omega
theorem wsF_sF (l : List It) (a b : Nat) : ∀ j, a + j < b → wsF l a b j = sF l a j
  | 0, _ => rfl
  | j + 1, h => by
    unfold wsF sF
    rw [wsF_sF l a b j (by omega), if_pos (by omega)]
theorem ws_sF (l : List It) {a b : Nat} (h : a < b) : ws l a b = sF l a (b - a - 1) + (l.getD (b - 1) it0).w := by
  unfold ws
  obtain ⟨d, hd⟩ : ∃ d, b - a = d + 1 := ⟨b - a - 1, by omega⟩
  rw [hd]
  show wsF l a b d + ((l.getD (a + d) it0).w + (if a + d + 1 < b then (l.getD (a + d) it0).s else 0)) = _
  rw [wsF_sF l a b d (by omega), if_neg (by omega), Int.add_zero, show a + d = b - 1 by omega]
  rfl
/-- Where an item begins. -/
def posF (l : List It) (a m : Nat) (F text : Int) (last : Bool) (j : Nat) : Int := sprAt F text + sF l a j + gP F m text last j
theorem offF_small {l : List It} (h : ItSm l) (a m : Nat) (F text : Int) (last : Bool) (hF : -1099511627776 ≤ F ∧ F ≤ 1099511627776) (hm : m ≤ 1000) : ∀ j : Nat, j ≤ m - 1 → offF l a (sprL F m text last) (sprAt F text) j = some (posF l a m F text last j)
  | 0, _ => by
    have h0 : gP F m text last 0 = 0 := by unfold gP; simp
    unfold posF
    rw [h0]
    simp [offF, sF]
  | j + 1, hj => by
    show (offF l a (sprL F m text last) (sprAt F text) j).bind _ = _
    rw [offF_small h a m F text last hF hm j (by omega)]
    show addP 0 [posF l a m F text last j, (l.getD (a + j) it0).w, (l.getD (a + j) it0).s, (sprL F m text last).getD j 0] = _
    have h1 : pre (sprL F m text last) (j + 1) = pre (sprL F m text last) j + (sprL F m text last).getD j 0 := rfl
    rw [pre_sprL F m text last (by omega), pre_sprL F m text last (by omega)] at h1
    have b1 := gP_bnd F m text last (j := j) (by omega)
    have b2 := gP_bnd F m text last (j := j + 1) (by omega)
    have b3 := sF_bnd h a j
    have b4 := h (a + j)
    have b5 : -1099511627776 ≤ sprAt F text ∧ sprAt F text ≤ 1099511627776 := by
      unfold sprAt; split
      · omega
      · split <;> omega
    have e : posF l a m F text last (j + 1) = posF l a m F text last j + (l.getD (a + j) it0).w + (l.getD (a + j) it0).s + (sprL F m text last).getD j 0 := by
      unfold posF
      rw [h1]
      show sprAt F text + (sF l a j + ((l.getD (a + j) it0).w + (l.getD (a + j) it0).s)) + _ = _
      omega
    have b6 : posF l a m F text last j = sprAt F text + sF l a j + gP F m text last j := rfl
    rw [e]
    obtain ⟨p, ep⟩ : ∃ p, posF l a m F text last j = p := ⟨_, rfl⟩
    obtain ⟨x, ex⟩ : ∃ p, (l.getD (a + j) it0).w = p := ⟨_, rfl⟩
    obtain ⟨y, ey⟩ : ∃ p, (l.getD (a + j) it0).s = p := ⟨_, rfl⟩
    obtain ⟨z, ez⟩ : ∃ p, (sprL F m text last).getD j 0 = p := ⟨_, rfl⟩
    rw [ep, ex, ey, ez]
    rw [ep] at b6
    rw [ex, ey] at b4
    rw [ez] at h1
    have l1 : lenB (0 + p) = true := (lenB_iff _).2 (by unfold LenB; omega)
    have l2 : lenB (0 + p + x) = true := (lenB_iff _).2 (by unfold LenB; omega)
    have l3 : lenB (0 + p + x + y) = true := (lenB_iff _).2 (by unfold LenB; omega)
    have l4 : lenB (0 + p + x + y + z) = true := (lenB_iff _).2 (by unfold LenB; omega)
    unfold addP; rw [if_pos l1]
    unfold addP; rw [if_pos l2]
    unfold addP; rw [if_pos l3]
    unfold addP; rw [if_pos l4]
    unfold addP
    rw [Int.zero_add]
/-- What Offsets answers of a line of small items. -/
def posL (l : List It) (a m : Nat) (F text : Int) (last : Bool) : List Int := (List.range m).map (posF l a m F text last)
theorem posL_len (l : List It) (a m : Nat) (F text : Int) (last : Bool) : (posL l a m F text last).length = m := by simp [posL]
theorem posL_get (l : List It) (a m : Nat) (F text : Int) (last : Bool) {j : Nat} (h : j < m) : (posL l a m F text last).getD j 0 = posF l a m F text last j := by
  simp [posL, List.getD, h]
theorem offR_small {l : List It} (h : ItSm l) {a b : Nat} (hab : a < b) (hb : b ≤ 1000) (W avail text : Int) (hF : -1099511627776 ≤ avail - W ∧ avail - W ≤ 1099511627776) : offR l a b W avail text = some (posL l a (b - a) (avail - W) text ((b : Int) == (l.length : Int))) := by
  unfold offR
  rw [if_pos ((lenB_iff _).2 (by unfold LenB; omega)), offF_small h a (b - a) (avail - W) text _ hF (by omega) (b - a - 1) (by omega)]
  simp only [Option.isSome_some, if_true]
  congr 1
  unfold offL posL
  refine List.map_congr_left fun j hj => ?_
  rw [List.mem_range] at hj
  rw [offF_small h a (b - a) (avail - W) text _ hF (by omega) j (by omega)]
  rfl
/-- The law's own tests. -/
theorem pos_step {l : List It} (a m : Nat) (F text : Int) (last : Bool) {j : Nat} (hj : j + 1 < m) : posF l a m F text last j + (l.getD (a + j) it0).w + (l.getD (a + j) it0).s ≤ posF l a m F text last (j + 1) := by
  have h1 := gP_up (F := F) (m := m) (text := text) (last := last) (j := j) (by omega)
  have h2 : sF l a (j + 1) = sF l a j + ((l.getD (a + j) it0).w + (l.getD (a + j) it0).s) := rfl
  unfold posF
  omega
theorem pos_more {l : List It} (a m : Nat) {F F' : Int} (hF : F ≤ F') (text : Int) (last : Bool) {j : Nat} (hj : j < m) : posF l a m F text last j ≤ posF l a m F' text last j := by
  have h1 := gP_more hF (m := m) (text := text) (last := last) (j := j) (by omega)
  have h2 : sprAt F text ≤ sprAt F' text := by
    unfold sprAt; split
    · exact hF
    · split <;> omega
  unfold posF
  omega
theorem pos_zero {l : List It} (a m : Nat) (F text : Int) (last : Bool) : posF l a m F text last 0 = sprAt F text := by
  have h0 : gP F m text last 0 = 0 := by unfold gP; simp
  unfold posF
  rw [h0]
  simp [sF]
theorem pos_end {l : List It} {a b : Nat} (hab : a < b) (F text : Int) (last : Bool) : posF l a (b - a) F text last (b - a - 1) + (l.getD (b - 1) it0).w = sprAt F text + ws l a b + gP F (b - a) text last (b - a - 1) := by
  rw [ws_sF l hab]
  unfold posF
  omega
end Go.Proofs.Ythofammjbicogaa
