/-
  The laws' 'small': weights out of a slice of uint16.
-/
import Derived.Test.YthffphcgkmjhbaaShC
import Derived.Test.YthffphcgkmjhbaaLaw
namespace Go.Proofs.Ythffphcgkmjhbaa
open Go.RowKit
set_option linter.unusedSimpArgs false
set_option linter.unusedVariables false

/-- The first numbers of a slice of uint16. -/
def smallL (v : Value) (w : World) (ys : List Int) : Prop :=
  (v = .slice none 0 0 ∧ ys = []) ∨ ∃ g off n cap, v = .slice (some ⟨g, off, none⟩) n cap ∧ g < w.heap.size ∧ n ≤ maxLen ∧ ys.length = min n 40 ∧ ∀ i, i < min n 40 → w.cell? ⟨g, off + i, none⟩ = some (.int .u16 (ys.getD i 0))
def U16s (ys : List Int) : Prop := ∀ i, 0 ≤ ys.getD i 0 ∧ ys.getD i 0 ≤ 65535
theorem pre_small {ys : List Int} (h : U16s ys) : ∀ j, 0 ≤ pre ys j ∧ pre ys j ≤ 65535 * (j : Int)
  | 0 => by constructor <;> simp [pre]
  | j + 1 => by
    have h1 := pre_small h j
    have h2 := h j
    have h3 : pre ys (j + 1) = pre ys j + ys.getD j 0 := rfl
    rw [h3]
    push_cast
    omega
def SmallRel (w : World) (ys : List Int) (m gk : Nat) (s4 s5 s6 : Value) (wr : World) : Prop :=
  ∃ (j : Nat) (ao : Option Addr) (cap : Nat) (p : Int), j ≤ m ∧ gk = m - j ∧ s4 = .slice ao j cap ∧ s5 = .int .i64 p ∧ s6 = .int .i64 ((j : Int)) ∧ p = pre ys j ∧ OwnI wr w.heap.size ao j cap (ys.take j) ∧ Below w.heap.size w wr
def SmallAns (ys : List Int) (w : World) (e : Ending) (w' : World) : Prop :=
  ∃ ao m cap, e = .returned (.tuple #[.slice ao m cap, .int .i64 (pre ys m)]) ∧ ys.length = m ∧ OwnI w' w.heap.size ao m cap ys ∧ Below w.heap.size w w'
set_option maxRecDepth 100000 in
set_option maxHeartbeats 3200000 in
theorem law_small (v : Value) (ys : List Int) (w : World) (h : smallL v w ys) (hu : U16s ys) :
    Calls Try.prog 89 #[v] w (SmallAns ys w) := by
  obtain ⟨i0, hi, hz0, hz1, hz2⟩ := info_parts (show (Try.prog.info? 2).map (fun i => (i.zero, i.size, i.bytes)) = some (some (.int .i64 0), 1, 8) by kernel_rfl)
  obtain ⟨Q, eQ⟩ : ∃ Q, Q = SmallAns ys w := ⟨_, rfl⟩
  rw [← eQ]
  have EQ := Lib.hid eQ
  have HU := Lib.hid hu
  clear eQ hu
  rcases h with ⟨rfl, rfl⟩ | ⟨g, off, n, cap, rfl, hg, hn, hl, hc⟩
  · go_enter Try.func89, Try.ntmps89
    go_wp2_with fail
    go_loopg [4, 5, 6] 0 (fun gk s4 s5 s6 wr => s4 = .slice none 0 0 ∧ s5 = .int .i64 0 ∧ s6 = .int .i64 0 ∧ w = wr)
    case atStart => exact ⟨rfl, rfl, rfl, rfl⟩
    obtain ⟨rfl, rfl, rfl, rfl⟩ := hrel
    go_wp2_with fail
    rw [EQ.out]
    exact ⟨none, 0, 0, rfl, rfl, OwnI.nil _ _, Below.refl _ _⟩
  · have HC := Lib.hid hc
    have hl' := hl
    obtain ⟨m, em⟩ : ∃ m, min n 40 = m := ⟨_, rfl⟩
    rw [em] at hl'
    have hm1 : m ≤ 40 := by omega
    have hm2 : m ≤ n := by omega
    have hm3 : m < n → m = 40 := by omega
    have HM := Lib.hid em
    have HL := Lib.hid hl'
    have HM3 := Lib.hid hm3
    clear hc hl hl' em hm3
    go_enter Try.func89, Try.ntmps89
    go_wp2_with fail
    go_loopg [4, 5, 6] m (fun gk s4 s5 s6 wr => SmallRel w ys m gk s4 s5 s6 wr)
    case atStart => exact ⟨0, none, 0, 0, by omega, by omega, rfl, rfl, rfl, rfl, OwnI.nil _ _, Below.refl _ _⟩
    case round =>
      obtain ⟨j, aj, cj, p, hj, rfl, rfl, rfl, rfl, ep, ho, hB⟩ := hrel
      have hp := pre_small HU.out j
      rw [← ep] at hp
      have hp0 := hp.1
      have hp1 : p ≤ 2621400 := by omega
      have EP := Lib.hid ep
      clear ep hp
      have hsz := hB.size
      have hsh := ho.shape
      by_cases hjk : j < m
      · have ix : (j : Int) < (n : Int) := by omega
        have ix2 : (j : Int) < 40 := by omega
        have hcx := (hB.cell (p := ⟨g, off + j, none⟩) hg).trans (HC.out j (by rw [HM.out]; exact hjk))
        obtain ⟨x, ex⟩ : ∃ x, ys.getD j 0 = x := ⟨_, rfl⟩
        have hx := HU.out j
        rw [ex] at hcx hx
        have hx0 := hx.1
        have hx1 := hx.2
        have EX := Lib.hid ex
        clear ex hx
        go_wp2_with (at_builtin; refine wpList_append_own _ rfl _ _ 82 rfl w.heap.size 2 i0 (.int .i64 0) 1 8 Try.underlying82 hi hz0 hz1 hz2 rfl (by decide) _ _ _ rfl (ho.1.alloc _) ⟨wr.heap.size, 0, none⟩ 1 1 [.int .i64 x] rfl rfl ?c1 ?c2 ?c3 ?c4 ?c5 ?_)
        case c1 =>
          intro j u hj
          match j, hj with
          | 0, hj => simp at hj; subst hj; simp [Addr.add]
        case c2 => intro u hu; simp at hu; subst hu; rfl
        case c3 => unfold maxLen; omega
        case c4 => omega
        case c5 => simp; omega
        intro v' w2 hown' hgrow _
        obtain ⟨ao', cap', rfl, ho', _, hB'⟩ := ho.grown hown' hgrow (by omega)
        replace hB := hB' _ _ (Nat.le_refl _) hB
        clear hown' hgrow hB' hcx
        have hcx := (hB.cell (p := ⟨g, off + j, none⟩) hg).trans (HC.out j (by rw [HM.out]; exact hjk))
        rw [EX.out] at hcx
        go_wp2_with fail
        go_roundg (m - (j + 1))
        case measure => omega
        case rel =>
          have e1 : ys.take (j + 1) = ys.take j ++ [x] := by
            have hjl : j < ys.length := by rw [HL.out]; exact hjk
            rw [List.take_succ_eq_append_getElem hjl, ← EX.out]
            simp [List.getD, hjl]
          exact ⟨j + 1, ao', cap', p + x, by omega, rfl, rfl, rfl, by go_num, by rw [EP.out, ← EX.out]; rfl, by rw [e1]; exact ho', hB⟩
      · obtain rfl : j = m := by omega
        have e1 : ys.take j = ys := List.take_of_length_le (by rw [HL.out]; exact Nat.le_refl _)
        rw [e1] at ho
        by_cases hjn : j < n
        · have ix : (j : Int) < (n : Int) := by omega
          have ix2 : ¬ (j : Int) < 40 := by have := HM3.out hjn; omega
          go_wp2_with fail
          rw [EQ.out]
          exact ⟨aj, j, cj, by rw [EP.out], HL.out, ho, hB⟩
        · have ix : ¬ (j : Int) < (n : Int) := by omega
          go_wp2_with fail
          rw [EQ.out]
          exact ⟨aj, j, cj, by rw [EP.out], HL.out, ho, hB⟩
/-- A slice of uint16 that came in: what 'small' takes of it. -/
theorem small_of {w : World} {v : Value} (h : SlV .u16 w v) : ∃ ys, smallL v w ys ∧ U16s ys := by
  rcases h with rfl | ⟨g, off, n, cap, xs, rfl, h1, h2, h3, h4, h5, h6⟩
  · exact ⟨[], .inl ⟨rfl, rfl⟩, fun i => by simp [List.getD]⟩
  · have hx : ∀ i, 0 ≤ xs.getD i 0 ∧ xs.getD i 0 ≤ 65535 := fun i => by
      simp only [List.getD]
      cases e : xs[i]? with
      | none => simp
      | some x => exact u16_of_wf (h6 x (List.mem_of_getElem? e))
    have hg : ∀ i, i < min n 40 → (xs.take (min n 40)).getD i 0 = xs.getD i 0 := fun i hi => by
      simp only [List.getD]
      rw [List.getElem?_take_of_lt hi]
    refine ⟨xs.take (min n 40), .inr ⟨g, off, n, cap, rfl, h4, by omega, by rw [List.length_take]; omega, fun i hi => ?_⟩, fun i => ?_⟩
    · rw [hg i hi]
      exact h5 i (by omega)
    · by_cases hi : i < min n 40
      · rw [hg i hi]; exact hx i
      · simp only [List.getD]
        rw [List.getElem?_eq_none (by rw [List.length_take]; omega)]
        simp
end Go.Proofs.Ythffphcgkmjhbaa
