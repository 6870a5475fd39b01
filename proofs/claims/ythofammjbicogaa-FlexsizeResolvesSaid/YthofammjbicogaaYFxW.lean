/-
  The law's own functions of layer 19: cut.
-/
import Derived.Test.YthofammjbicogaaYFxV
import Derived.Test.YthofammjbicogaaYFxP
namespace Go.Proofs.Ythofammjbicogaa
open Go.RowKit
set_option linter.unusedSimpArgs false
set_option linter.unusedVariables false

theorem and_i64 (x : Int) (n m : Nat) (hm : m = 2 ^ n - 1) (hn : n ≤ 62) : bits .and .i64 x (m : Int) = x % ((2 ^ n : Nat) : Int) := by
  have hm2 : m < 2 ^ 62 := by
    have : 2 ^ n ≤ 2 ^ 62 := Nat.pow_le_pow_right (by omega) hn
    have := Nat.pow_pos (n := n) (show 0 < 2 by omega)
    omega
  have h2 : (BitVec.ofInt 64 (m : Int)).toNat = m := by
    rw [BitVec.ofInt_natCast, BitVec.toNat_ofNat]; exact Nat.mod_eq_of_lt (by omega)
  have h1 : (((BitVec.ofInt 64 x).toNat : Nat) : Int) = x % 18446744073709551616 := by
    rw [BitVec.toNat_ofInt]
    have := Int.emod_nonneg x (show (18446744073709551616 : Int) ≠ 0 by decide)
    rw [Int.toNat_of_nonneg (by simpa using this)]
    rfl
  show IntKind.i64.wrap ((BitVec.ofInt 64 x &&& BitVec.ofInt 64 (m : Int)).toNat : Int) = _
  rw [BitVec.toNat_and, h2, hm, Nat.and_two_pow_sub_one_eq_mod]
  have hd : ((2 ^ n : Nat) : Int) ∣ 18446744073709551616 := by
    refine ⟨((2 ^ (64 - n) : Nat) : Int), ?_⟩
    rw [← Int.natCast_mul, ← Nat.pow_add, show n + (64 - n) = 64 by omega]
    rfl
  have e : (((BitVec.ofInt 64 x).toNat % 2 ^ n : Nat) : Int) = x % ((2 ^ n : Nat) : Int) := by
    rw [Int.natCast_emod, h1, Int.emod_emod_of_dvd _ hd]
  rw [e]
  have hp : (0 : Int) < ((2 ^ n : Nat) : Int) := by
    have := Nat.pow_pos (n := n) (show 0 < 2 by omega)
    omega
  have q1 := Int.emod_nonneg x (show ((2 ^ n : Nat) : Int) ≠ 0 by omega)
  have q2 := Int.emod_lt_of_pos x hp
  have q3 : ((2 ^ n : Nat) : Int) ≤ 4611686018427387904 := by
    have : 2 ^ n ≤ 2 ^ 62 := Nat.pow_le_pow_right (by omega) hn
    have e2 : (2 : Nat) ^ 62 = 4611686018427387904 := by decide
    omega
  rw [IntKind.wrap_i64]
  omega
theorem and30 (x : Int) : bits .and .i64 x 1073741823 = x % 1073741824 := and_i64 x 30 1073741823 (by decide) (by omega)
theorem and62 (x : Int) : bits .and .i64 x 4611686018427387903 = x % 4611686018427387904 := and_i64 x 62 4611686018427387903 (by decide) (by omega)
theorem and36 (x : Int) : bits .and .i64 x 68719476735 = x % 68719476736 := and_i64 x 36 68719476735 (by decide) (by omega)
def cutX (x : Fx) : Fx := ⟨x.base % 1073741824, x.least % 1073741824, x.most % 1073741824, x.bound, x.extra.tmod 1073741824, x.grow % 4611686018427387904 % 4096001, x.shrink % 4611686018427387904 % 4096001⟩
theorem cutX_cut (x : Fx) : Cut (cutX x) := by
  have h1 := Int.tmod_lt_of_pos x.extra (show (0 : Int) < 1073741824 by omega)
  have h2 := Int.lt_tmod_of_pos x.extra (show (0 : Int) < 1073741824 by omega)
  unfold Cut cutX
  simp only []
  omega
def CutAns (k : Nat) (l : List Fx) (w : World) (e : Ending) (w' : World) : Prop :=
  ∃ a1 c1, e = .returned (.slice a1 k c1) ∧ OwnW w' w.heap.size 78 7 a1 k c1 (fxV l) ∧ Below w.heap.size w w'
theorem cut_snoc {l : List Fx} {j : Nat} (hj : j < l.length) : fxV ((l.take (j + 1)).map cutX) = fxV ((l.take j).map cutX) ++ (cutX (l.getD j fx0)).vals := by
  rw [List.take_succ_eq_append_getElem hj, List.map_append]
  unfold fxV
  rw [List.flatMap_append]
  congr 1
  simp [List.getD, hj]
set_option maxRecDepth 100000 in
set_option maxHeartbeats 3200000 in
theorem law19_cut (ao : Option Addr) (n cap k : Nat) (l : List Fx) (hn : n ≤ maxLen) (ek : k = min n 25) (hl : l.length = n) (hf : ∀ x ∈ l, FxFit x) (w : World) (hr : RowV w ao n 7 (fxV l)) :
    Calls Try.prog 42 #[.slice ao n cap] w (CutAns k ((l.take k).map cutX) w) := by
  obtain ⟨i0, hi, hz0, hz1, hz2⟩ := info_parts (show (Try.prog.info? 78).map (fun i => (i.zero, i.size, i.bytes)) = some (some (.agg #[.int .i64 0, .int .i64 0, .int .i64 0, .bool false, .int .i64 0, .int .i64 0, .int .i64 0]), 7, 56) by kernel_rfl)
  obtain ⟨Q, eQ⟩ : ∃ Q : Ending → World → Prop, Q = CutAns k ((l.take k).map cutX) w := ⟨_, rfl⟩
  rw [← eQ]
  have EQ := Lib.hid eQ
  have hk25 : k ≤ 25 := by omega
  have hkn : k ≤ n := by omega
  have EK := Lib.hid ek
  have HL := Lib.hid hl
  have HR := Lib.hid hr
  have HF := Lib.hid hf
  clear eQ ek hl hr hf
  go_enter Try.func42, Try.ntmps42
  go_wp2_with fail
  go_loopg [3, 4] k (fun gk s3 s4 wr => ∃ (j : Nat) (a1 : Option Addr) (c1 : Nat), j ≤ k ∧ gk = k - j ∧ s3 = .slice a1 j c1 ∧ s4 = .int .i64 ((j : Int)) ∧ OwnW wr w.heap.size 78 7 a1 j c1 (fxV ((l.take j).map cutX)) ∧ Below w.heap.size w wr)
  case atStart => exact ⟨0, none, 0, by omega, by omega, rfl, rfl, OwnW.nil _ _ _ _, Below.refl _ _⟩
  case round =>
    obtain ⟨j, a1, c1, hj, rfl, rfl, rfl, o1, hB⟩ := hrel
    have hsB := hB.size
    by_cases hjk : j < k
    · have ix : (j : Int) < (n : Int) := by omega
      have ix2 : (j : Int) < 25 := by omega
      have hjl : j < l.length := by rw [HL.out]; omega
      obtain ⟨g, off, rfl, hg, hF⟩ := fx_at (HR.out.below hB) HL.out (show j < n by omega)
      have hsn := cut_snoc hjl
      have hfit := at_fx HF.out hjl
      obtain ⟨x, ex⟩ : ∃ x, l.getD j fx0 = x := ⟨_, rfl⟩
      rw [ex] at hF hsn hfit
      obtain ⟨h0, h1, h2, h3, h4, h5, h6⟩ := hF
      have A0 := and30 x.base
      have A1 := and30 x.least
      have A2 := and30 x.most
      have A5 := and62 x.grow
      have A6 := and62 x.shrink
      obtain ⟨y0, e0⟩ : ∃ y, x.base % 1073741824 = y := ⟨_, rfl⟩
      obtain ⟨y1, e1⟩ : ∃ y, x.least % 1073741824 = y := ⟨_, rfl⟩
      obtain ⟨y2, e2⟩ : ∃ y, x.most % 1073741824 = y := ⟨_, rfl⟩
      obtain ⟨y4, e4⟩ : ∃ y, x.extra.tmod 1073741824 = y := ⟨_, rfl⟩
      obtain ⟨z5, e5⟩ : ∃ y, x.grow % 4611686018427387904 = y := ⟨_, rfl⟩
      obtain ⟨z6, e6⟩ : ∃ y, x.shrink % 4611686018427387904 = y := ⟨_, rfl⟩
      rw [e0] at A0
      rw [e1] at A1
      rw [e2] at A2
      rw [e5] at A5
      rw [e6] at A6
      have T5 : z5.tmod 4096001 = z5 % 4096001 := Int.tmod_eq_emod_of_nonneg (by omega)
      have T6 : z6.tmod 4096001 = z6 % 4096001 := Int.tmod_eq_emod_of_nonneg (by omega)
      obtain ⟨y5, g5⟩ : ∃ y, z5 % 4096001 = y := ⟨_, rfl⟩
      obtain ⟨y6, g6⟩ : ∃ y, z6 % 4096001 = y := ⟨_, rfl⟩
      rw [g5] at T5
      rw [g6] at T6
      have hv : (cutX x).vals = [.int .i64 y0, .int .i64 y1, .int .i64 y2, .bool x.bound, .int .i64 y4, .int .i64 y5, .int .i64 y6] := by
        unfold cutX Fx.vals
        simp only []
        rw [e0, e1, e2, e4, e5, e6, g5, g6]
      rw [hv] at hsn
      obtain ⟨ys, eys⟩ : ∃ ys, fxV ((l.take j).map cutX) = ys := ⟨_, rfl⟩
      rw [eys] at o1 hsn
      clear eys
      have b5 : 0 ≤ z5 ∧ z5 ≤ 4611686018427387903 := by omega
      have b6 : 0 ≤ z6 ∧ z6 ≤ 4611686018427387903 := by omega
      have b4 : -1073741824 < y4 ∧ y4 < 1073741824 := by
        rw [← e4]
        exact ⟨Int.lt_tmod_of_pos x.extra (by omega), Int.tmod_lt_of_pos x.extra (by omega)⟩
      have HSN := Lib.hid hsn
      have f4 := hfit.2.1
      clear hsn hv ex e0 e1 e2 e5 e6 g5 g6 hfit
      go_wp2_with (at_builtin; refine wpList_append_own _ rfl _ _ 73 rfl w.heap.size 78 i0 (.agg #[.int .i64 0, .int .i64 0, .int .i64 0, .bool false, .int .i64 0, .int .i64 0, .int .i64 0]) 7 56 Try.underlying73 hi hz0 hz1 hz2 rfl (by decide) _ _ _ rfl ((o1.alloc _).alloc _) ⟨wr.heap.size + 1, 0, none⟩ 1 1 [.int .i64 y0, .int .i64 y1, .int .i64 y2, .bool x.bound, .int .i64 y4, .int .i64 y5, .int .i64 y6] rfl rfl ?c1 ?c2 ?c3 ?c4 ?c5 ?_)
      case c1 =>
        intro j u hj
        match j, hj with
        | 0, hj => simp at hj; subst hj; simp [Addr.add]
        | 1, hj => simp at hj; subst hj; simp [Addr.add]
        | 2, hj => simp at hj; subst hj; simp [Addr.add]
        | 3, hj => simp at hj; subst hj; simp [Addr.add]
        | 4, hj => simp at hj; subst hj; simp [Addr.add]
        | 5, hj => simp at hj; subst hj; simp [Addr.add]
        | 6, hj => simp at hj; subst hj; simp [Addr.add]
      case c2 => intro u hu; simp at hu; rcases hu with rfl | rfl | rfl | rfl | rfl | rfl | rfl <;> rfl
      case c3 => unfold maxLen; omega
      case c4 => omega
      case c5 => simp; omega
      intro v' w6 hown' hgrow _
      obtain ⟨ao', cap', rfl, ho', _, hB'⟩ := OwnW.grown (o1.alloc _) hown' hgrow (by simp; omega)
      have hB6 := hB' _ _ (Nat.le_refl _) (hB.alloc hsB _)
      have HO6 := Lib.hid ho'
      have HB6 := Lib.hid hB6
      clear hown' hgrow hB' ho' hB6 o1 hB
      go_wp2_with fail
      go_roundg (k - (j + 1))
      case measure => omega
      case rel => exact ⟨j + 1, ao', cap', by omega, rfl, rfl, by go_num, by rw [HSN.out]; exact HO6.out, HB6.out⟩
    · obtain rfl : j = k := by omega
      have hcond : ¬ (j : Int) < (n : Int) ∨ ((j : Int) < (n : Int) ∧ ¬ (j : Int) < 25) := by have := EK.out; omega
      rcases hcond with ix | ⟨ix, ix2⟩
      all_goals
        go_wp2_with fail
        rw [EQ.out]
        exact ⟨a1, c1, rfl, o1, hB⟩
end Go.Proofs.Ythofammjbicogaa
