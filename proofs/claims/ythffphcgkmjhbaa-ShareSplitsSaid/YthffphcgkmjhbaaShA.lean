/-
  Package share, each function by its contract: slices.Min; all; parts.
-/
import Derived.Test.YthffphcgkmjhbaaShM
import Derived.Test.YthffphcgkmjhbaaRow
import Derived.Test.YthffphcgkmjhbaaFixC
namespace Go.Proofs.Ythffphcgkmjhbaa
open Go.RowKit
set_option linter.unusedSimpArgs false
set_option linter.unusedVariables false

/-- The least one of the first k + 1. -/
def minK (xs : List Int) : Nat → Int
  | 0 => xs.getD 0 0
  | j + 1 => min (minK xs j) (xs.getD (j + 1) 0)
theorem minK_neg (xs : List Int) : ∀ j, minK xs j < 0 ↔ ∃ i, i ≤ j ∧ xs.getD i 0 < 0
  | 0 => ⟨fun h => ⟨0, Nat.le_refl _, h⟩, fun ⟨i, hi, h⟩ => by
      obtain rfl : i = 0 := by omega
      exact h⟩
  | j + 1 => by
    have ih := minK_neg xs j
    constructor
    · intro h
      by_cases h1 : minK xs j < 0
      · obtain ⟨i, hi, h2⟩ := ih.1 h1
        exact ⟨i, by omega, h2⟩
      · refine ⟨j + 1, Nat.le_refl _, ?_⟩
        unfold minK at h
        omega
    · rintro ⟨i, hi, h⟩
      unfold minK
      by_cases e : i = j + 1
      · subst e; omega
      · have := ih.2 ⟨i, by omega, h⟩
        omega
set_option maxRecDepth 100000 in
set_option maxHeartbeats 1600000 in
theorem sl_min (ao : Option Addr) (k cap : Nat) (xs : List Int) (hk : 0 < k) (hk2 : k ≤ 1000000) (w : World) (hx : RowI w ao k xs) :
    Calls Try.prog 123 #[.slice ao k cap] w fun e w' => e = .returned (.int .i64 (minK xs (k - 1))) ∧ w' = w := by
  obtain ⟨g, off, rfl, hg, hc0⟩ := hx.at hk
  have HX := Lib.hid hx
  clear hx
  rw [Nat.add_zero] at hc0
  obtain ⟨m0, em⟩ : ∃ m, xs.getD 0 0 = m := ⟨_, rfl⟩
  rw [em] at hc0
  have EM := Lib.hid em
  clear em
  have hk' : ¬ (k : Int) < 1 := by omega
  have hk3 : (0 : Int) < (k : Int) := by omega
  go_enter Try.func123, Try.ntmps123
  go_wp2_with fail
  go_loopg [3, 4] k (fun gk s3 s4 wr => ∃ (j : Nat), j + 1 ≤ k ∧ gk = k - j ∧ s3 = .int .i64 (minK xs j) ∧ s4 = .int .i64 ((j : Int) + 1) ∧ w = wr)
  case atStart => exact ⟨0, by omega, by omega, by rw [← EM.out]; rfl, rfl, rfl⟩
  case round =>
    obtain ⟨j, hj, rfl, rfl, rfl, rfl⟩ := hrel
    by_cases hjk : j + 1 < k
    · have ix : (j : Int) + 1 < (k : Int) := by omega
      obtain ⟨g', off', e', _, hcx⟩ := HX.out.at hjk
      obtain ⟨rfl, rfl⟩ : g = g' ∧ off = off' := by simpa using e'
      obtain ⟨x, ex⟩ : ∃ x, xs.getD (j + 1) 0 = x := ⟨_, rfl⟩
      rw [ex] at hcx
      have EX := Lib.hid ex
      obtain ⟨m, em⟩ : ∃ m, minK xs j = m := ⟨_, rfl⟩
      rw [em]
      have EJ := Lib.hid em
      clear ex em e'
      go_wp2_with fail
      go_roundg (k - (j + 1))
      case measure => omega
      case rel => exact ⟨j + 1, by omega, rfl, by unfold minK; rw [EX.out, EJ.out], by go_num, rfl⟩
    · obtain rfl : k = j + 1 := by omega
      have ix : ¬ (j : Int) + 1 < ((j + 1 : Nat) : Int) := by omega
      go_wp2_with fail
      go_ret
      exact ⟨rfl, rfl⟩
def allE (xs : List Int) (k : Nat) : Int := if pre xs k ≤ 4611686018427387904 then 0 else 2
def allN (xs : List Int) (k : Nat) : Int := if pre xs k ≤ 4611686018427387904 then pre xs k else 0
set_option maxRecDepth 100000 in
set_option maxHeartbeats 1600000 in
theorem sh_all (ao : Option Addr) (k cap : Nat) (xs : List Int) (hk2 : k ≤ 1000000) (hn : Nonneg xs) (hf : Fits xs) (w : World) (hx : RowI w ao k xs) :
    Calls Try.prog 125 #[.slice ao k cap] w (Gives (allN xs k) (allE xs k) w) := by
  obtain ⟨Q, eQ⟩ : ∃ Q, Q = Gives (allN xs k) (allE xs k) w := ⟨_, rfl⟩
  rw [← eQ]
  have EQ := Lib.hid eQ
  have HX := Lib.hid hx
  have HN := Lib.hid hn
  have HF := Lib.hid hf
  clear hx hn hf eQ
  go_enter Try.func125, Try.ntmps125
  go_wp2_with fail
  go_loopg [3, 8] k (fun gk s3 s8 wr => ∃ (j : Nat) (s : Int), j ≤ k ∧ gk = k - j ∧ s3 = .int .i64 s ∧ s8 = .int .i64 ((j : Int)) ∧ s = pre xs j ∧ s ≤ 4611686018427387904 ∧ w = wr)
  case atStart => exact ⟨0, 0, by omega, by omega, rfl, rfl, rfl, by omega, rfl⟩
  case round =>
    obtain ⟨j, s, hj, rfl, rfl, rfl, es, hs, rfl⟩ := hrel
    have hs0 : 0 ≤ s := by rw [es]; exact pre_nonneg HN.out j
    have ES := Lib.hid es
    clear es
    by_cases hjk : j < k
    · have ix : (j : Int) < (k : Int) := by omega
      obtain ⟨g, off, rfl, _, hcx⟩ := HX.out.at hjk
      obtain ⟨x, ex⟩ : ∃ x, xs.getD j 0 = x := ⟨_, rfl⟩
      have hx0 := HN.out j
      have hx1 := (HF.out j).2
      rw [ex] at hcx hx0 hx1
      have EX := Lib.hid ex
      clear ex
      by_cases hL : 4611686018427387904 - s < x
      · have hE : ¬ pre xs k ≤ 4611686018427387904 := by
          have h1 := pre_mono HN.out (show j + 1 ≤ k by omega)
          have h2 : pre xs (j + 1) = pre xs j + xs.getD j 0 := rfl
          rw [← ES.out, EX.out] at h2
          omega
        have HE := Lib.hid hE
        clear hE
        go_wp2_with (go_at_call 62; with_reducible refine (fix_fail2 _).mono ?_; rintro e w2 ⟨rfl, rfl⟩)
        simp only [bodyPost]
        rw [EQ.out]
        unfold allN allE
        have hE := HE.out
        rw [if_neg (by omega), if_neg (by omega)]
        refine ⟨trivial, ?_⟩
        unfold Gives
        exact ⟨(fun h => absurd h (by decide)), (fun _ => rfl), Below.refl _ _⟩
      · go_wp2_with fail
        go_roundg (k - (j + 1))
        case measure => omega
        case rel => exact ⟨j + 1, s + x, by omega, rfl, rfl, by go_num, by rw [ES.out, ← EX.out]; rfl, by omega, rfl⟩
    · obtain rfl : j = k := by omega
      have ix : ¬ (j : Int) < (j : Int) := by omega
      go_wp2_with fail
      rw [EQ.out]
      have hs' := hs
      rw [ES.out] at hs'
      unfold allN allE
      rw [if_pos hs', if_pos hs', ES.out]
      exact ⟨fun _ => rfl, fun h => absurd rfl h, Below.refl _ _⟩
def PartRel (w : World) (t S : Int) (xs : List Int) (k : Nat) (gk : Nat) (s7 s8 s9 s15 : Value) (wr : World) : Prop :=
  ∃ (j : Nat) (ao : Option Addr) (cap : Nat) (p b : Int), j ≤ k ∧ gk = k - j ∧ s7 = .slice ao j cap ∧ s8 = .int .i64 p ∧ s9 = .int .i64 b ∧ s15 = .int .i64 ((j : Int)) ∧ p = pre xs j ∧ b = t * pre xs j / S ∧ OwnI wr w.heap.size ao j cap (partsN t S xs j) ∧ Below w.heap.size w wr
def PartsAns (t S : Int) (xs : List Int) (k : Nat) (w : World) (e : Ending) (w' : World) : Prop :=
  ∃ ao cap, e = .returned (.slice ao k cap) ∧ OwnI w' w.heap.size ao k cap (partsN t S xs k) ∧ Below w.heap.size w w'
theorem bound_len {t p S : Int} (hp : 0 ≤ p) (hS : p ≤ S) (ht : LenB t) : LenB (t * p / S) := by
  have h := @bound_abs t p S hp hS
  unfold LenB at *
  by_cases h0 : 0 ≤ t
  · have := h.1 h0; omega
  · have := h.2 (by omega); omega
set_option maxRecDepth 100000 in
set_option maxHeartbeats 3200000 in
theorem sh_parts (t S : Int) (ao : Option Addr) (k cap : Nat) (xs : List Int) (hk2 : k ≤ 1000000) (hn : Nonneg xs) (ht : LenB t) (hS : pre xs k ≤ S) (hS0 : 0 < S) (hS1 : S ≤ 4611686018427387904) (w : World) (hx : RowI w ao k xs) :
    Calls Try.prog 126 #[.int .i64 t, .slice ao k cap, .int .i64 S] w (PartsAns t S xs k w) := by
  obtain ⟨Q, eQ⟩ : ∃ Q, Q = PartsAns t S xs k w := ⟨_, rfl⟩
  rw [← eQ]
  obtain ⟨i0, hi, hz0, hz1, hz2⟩ := info_parts (show (Try.prog.info? 2).map (fun i => (i.zero, i.size, i.bytes)) = some (some (.int .i64 0), 1, 8) by kernel_rfl)
  have EQ := Lib.hid eQ
  have HX := Lib.hid hx
  have HN := Lib.hid hn
  have HT := Lib.hid ht
  have HS := Lib.hid hS
  clear hx hn ht eQ hS
  go_enter Try.func126, Try.ntmps126
  go_wp2_with fail
  go_loopg [7, 8, 9, 15] k (fun gk s7 s8 s9 s15 wr => PartRel w t S xs k gk s7 s8 s9 s15 wr)
  case atStart => exact ⟨0, none, 0, 0, 0, by omega, by omega, rfl, rfl, rfl, rfl, rfl, by show (0 : Int) = t * 0 / S; rw [Int.mul_zero, Int.zero_ediv], OwnI.nil _ _, Below.refl _ _⟩
  case round =>
    obtain ⟨j, aj, cj, p, b, hj, rfl, rfl, rfl, rfl, rfl, ep, eb, ho, hB⟩ := hrel
    have hp0 : 0 ≤ p := by rw [ep]; exact pre_nonneg HN.out j
    have hpS : p ≤ S := by rw [ep]; exact Int.le_trans (pre_mono HN.out hj) HS.out
    have hbL : LenB b := by rw [eb, ← ep]; exact bound_len hp0 hpS HT.out
    have hb1 := hbL.1
    have hb2 := hbL.2
    have EP := Lib.hid ep
    have EB := Lib.hid eb
    clear ep eb hbL
    have hsz := hB.size
    by_cases hjk : j < k
    · have ix : (j : Int) < (k : Int) := by omega
      obtain ⟨g, off, rfl, _, hcx⟩ := (HX.out.below hB).at hjk
      obtain ⟨x, ex⟩ : ∃ x, xs.getD j 0 = x := ⟨_, rfl⟩
      have hx0 := HN.out j
      have hx1 : p + xs.getD j 0 ≤ S := by
        have h1 := Int.le_trans (pre_mono HN.out (show j + 1 ≤ k by omega)) HS.out
        have h2 : pre xs (j + 1) = pre xs j + xs.getD j 0 := rfl
        rw [EP.out]; omega
      rw [ex] at hcx hx0 hx1
      have EX := Lib.hid ex
      clear ex
      have hq : fq (t * (p + x)) S = t * (p + x) / S := by unfold fq; rw [if_neg (by omega)]
      have hnL : LenB (t * (p + x) / S) := bound_len (by omega) hx1 HT.out
      have PT := fun W => fix_part t (p + x) S (HT.out.fit) (by unfold IFit; omega) (by unfold IFit; omega) (by omega) (by rw [hq]; exact hnL) W
      rw [hq] at PT
      obtain ⟨nb, enb⟩ : ∃ n, t * (p + x) / S = n := ⟨_, rfl⟩
      rw [enb] at PT hnL
      have hn1 := hnL.1
      have hn2 := hnL.2
      have ENB := Lib.hid enb
      clear enb hq hnL
      go_wp2_with fail
      refine (PT _).mono ?_
      rintro e w1 ⟨rfl, hb⟩
      replace ho := ho.below hb
      replace hB := hB.trans (hb.mono hsz)
      have hsz1 := hB.size
      have hsh := ho.shape
      clear hb PT hcx
      go_wp2_with (at_builtin; refine wpList_append_own _ rfl _ _ 82 rfl w.heap.size 2 i0 (.int .i64 0) 1 8 Try.underlying82 hi hz0 hz1 hz2 rfl (by decide) _ _ _ rfl (ho.1.alloc _) ⟨w1.heap.size, 0, none⟩ 1 1 [.int .i64 (nb - b)] rfl rfl ?c1 ?c2 ?c3 ?c4 ?c5 ?_)
      case c1 =>
        intro j u hj
        match j, hj with
        | 0, hj => simp at hj; subst hj; simp [Addr.add]
      case c2 => intro u hu; simp at hu; subst hu; rfl
      case c3 => unfold maxLen; omega
      case c4 => omega
      case c5 => simp; omega
      intro v' w2 hown' hgrow _
      obtain ⟨ao', cap', rfl, ho', _, hB'⟩ := ho.grown hown' hgrow (by omega)
      replace hB := hB' _ _ (Nat.le_refl _) hB
      clear hown' hgrow hB'
      go_wp2_with fail
      go_roundg (k - (j + 1))
      case measure => omega
      case rel =>
        have e1 : pre xs (j + 1) = p + x := by rw [EP.out, ← EX.out]; rfl
        have e2 : shareAt t S xs j = nb - b := by unfold shareAt; rw [e1, ENB.out, EB.out]
        exact ⟨j + 1, ao', cap', p + x, nb, by omega, rfl, rfl, rfl, rfl, by go_num, e1.symm, by rw [e1]; exact ENB.out.symm, by rw [partsN_succ, e2]; exact ho', hB⟩
    · obtain rfl : j = k := by omega
      have ix : ¬ (j : Int) < (j : Int) := by omega
      go_wp2_with fail
      rw [EQ.out]
      exact ⟨aj, cj, rfl, ho, hB⟩
end Go.Proofs.Ythffphcgkmjhbaa
