/-
  The statements of layer 2 that name the reference: RatioMakes.
-/
import Derived.Test.YtmkblfejoniccaaDoorYLawH
import Derived.Test.YtmkblfejoniccaaDoorZ7
namespace Go.Proofs.YtmkblfejoniccaaDoor
open Go.RowKit
set_option linter.unusedSimpArgs false
set_option linter.unusedVariables false

/-- The two numbers of a ratio in lowest terms. -/
def numR (n d : Int) : Int := if decide (n < 0) = decide (d < 0) then ((n.natAbs / Nat.gcd n.natAbs d.natAbs : Nat) : Int) else -((n.natAbs / Nat.gcd n.natAbs d.natAbs : Nat) : Int)
def denR (n d : Int) : Int := ((d.natAbs / Nat.gcd n.natAbs d.natAbs : Nat) : Int)
def fitR (n d : Int) : Prop := IFit (numR n d) ∧ IFit (denR n d)
theorem rat_of_any (n d : Int) (hn : IFit n) (hd : IFit d) (h0 : d ≠ 0) (w : World) :
    Calls Tryd.prog 19 #[.int .i64 n, .int .i64 d] w fun e w' => (fitR n d → e = .returned (.tuple #[.agg #[.int .i64 (numR n d), .int .i64 (denR n d)], .int .i64 0])) ∧ (¬ fitR n d → e = .returned (.tuple #[.agg #[.int .i64 0, .int .i64 0], .int .i64 2])) ∧ Below w.heap.size w w' := by
  have hA : n = 0 → n.natAbs / Nat.gcd n.natAbs d.natAbs = 0 := fun h => by subst h; simp
  have hs : (n ≠ 0 ∧ ((n < 0 ∧ 0 < d) ∨ (0 < n ∧ d < 0))) ∨ (n = 0 ∨ (n < 0 ∧ d < 0) ∨ (0 < n ∧ 0 < d)) := by omega
  have N1 := fun hz hs => rat_of_neg n d hn hd h0 hz hs _ _ rfl rfl w
  have N2 := fun hs => rat_of_pos n d hn hd h0 hs _ _ rfl rfl w
  unfold fitR numR denR
  obtain ⟨A, eA⟩ : ∃ A, n.natAbs / Nat.gcd n.natAbs d.natAbs = A := ⟨_, rfl⟩
  obtain ⟨B, eB⟩ : ∃ B, d.natAbs / Nat.gcd n.natAbs d.natAbs = B := ⟨_, rfl⟩
  rw [eA] at hA
  rw [eA, eB] at N1 N2
  rw [eA, eB]
  clear eA eB
  rcases hs with ⟨hz, hs⟩ | hs
  · have e1 : ¬ (decide (n < 0) = decide (d < 0)) := by
      rcases hs with ⟨h, h'⟩ | ⟨h, h'⟩
      · rw [show decide (n < 0) = true by simp [h], show decide (d < 0) = false by simp; omega]; decide
      · rw [show decide (n < 0) = false by simp; omega, show decide (d < 0) = true by simp [h']]; decide
    rw [if_neg e1]
    refine (N1 hz hs).mono fun e w' h => ⟨fun hf => ?_, fun hf => ?_, h.2.2⟩
    · exact h.1 ⟨by unfold limR; simp; unfold IFit at hf; omega, by unfold IFit at hf; omega⟩
    · refine h.2.1 fun hc => hf ⟨?_, ?_⟩
      · have := hc.1; unfold limR at this; simp at this; unfold IFit; omega
      · have := hc.2; unfold IFit; omega
  · have e1 : (if decide (n < 0) = decide (d < 0) then (A : Int) else -(A : Int)) = (A : Int) := by
      rcases hs with h | ⟨h, h'⟩ | ⟨h, h'⟩
      · rw [hA h]; simp
      · rw [show decide (n < 0) = true by simp [h], show decide (d < 0) = true by simp [h']]; rfl
      · rw [show decide (n < 0) = false by simp; omega, show decide (d < 0) = false by simp; omega]; rfl
    rw [e1]
    refine (N2 hs).mono fun e w' h => ⟨fun hf => ?_, fun hf => ?_, h.2.2⟩
    · exact h.1 ⟨by unfold limR; simp; unfold IFit at hf; omega, by unfold IFit at hf; omega⟩
    · refine h.2.1 fun hc => hf ⟨?_, ?_⟩
      · have := hc.1; unfold limR at this; simp at this; unfold IFit; omega
      · have := hc.2; unfold IFit; omega
theorem good_low (n d : Int) (hd : d ≠ 0) : goodB (numR n d) (denR n d) = true := by
  have hg : 0 < Nat.gcd n.natAbs d.natAbs := Nat.gcd_pos_of_pos_right _ (by omega)
  have hco := Nat.coprime_div_gcd_div_gcd hg
  have h2 : 0 < d.natAbs / Nat.gcd n.natAbs d.natAbs := Nat.div_pos (Nat.le_of_dvd (by omega) (Nat.gcd_dvd_right _ _)) hg
  unfold numR denR
  obtain ⟨A, eA⟩ : ∃ A, n.natAbs / Nat.gcd n.natAbs d.natAbs = A := ⟨_, rfl⟩
  obtain ⟨B, eB⟩ : ∃ B, d.natAbs / Nat.gcd n.natAbs d.natAbs = B := ⟨_, rfl⟩
  rw [eA, eB] at hco
  rw [eB] at h2
  rw [eA, eB]
  have e : (if decide (n < 0) = decide (d < 0) then (A : Int) else -(A : Int)).natAbs = A := by split <;> omega
  unfold goodB
  rw [e, Int.natAbs_natCast, show Nat.gcd A B = 1 from hco]
  simp; omega
theorem rat_of_yes (n d N D : Int) (hn : IFit n) (hd : IFit d) (h0 : d ≠ 0) (hf : fitR n d) (eN : numR n d = N) (eD : denR n d = D) (w : World) :
    Calls Tryd.prog 19 #[.int .i64 n, .int .i64 d] w fun e w' => e = .returned (.tuple #[.agg #[.int .i64 N, .int .i64 D], .int .i64 0]) ∧ Below w.heap.size w w' := by
  subst eN eD
  exact (rat_of_any n d hn hd h0 w).mono fun e w' h => ⟨h.1 hf, h.2.2⟩
theorem rat_of_no (n d : Int) (hn : IFit n) (hd : IFit d) (h0 : d ≠ 0) (hf : ¬ fitR n d) (w : World) :
    Calls Tryd.prog 19 #[.int .i64 n, .int .i64 d] w fun e w' => e = .returned (.tuple #[.agg #[.int .i64 0, .int .i64 0], .int .i64 2]) ∧ Below w.heap.size w w' :=
  (rat_of_any n d hn hd h0 w).mono fun e w' h => ⟨h.2.1 hf, h.2.2⟩
theorem ref_low (n d N D : Int) (na nb : Bool) (xa xb : Option Addr) (ka kb ca cb : Nat) (w : World) (ha : IsBig w na xa ka ca n) (hb : IsBig w nb xb kb cb d) (hn : IFit n) (hd : IFit d) (h0 : d ≠ 0) (eN : numR n d = N) (eD : denR n d = D) :
    Calls Tryd.prog 51 #[.agg #[.bool na, .slice xa ka ca], .agg #[.bool nb, .slice xb kb cb]] w (BigRet2 N D w) := by
  have e4 : (65536 : Nat) ^ 4 = 18446744073709551616 := by decide
  have := ref_lowest na nb xa xb ka kb ca cb 4 n d w ha hb (by unfold IFit at hn; omega) (by unfold IFit at hd; omega) (by omega) h0
  subst eN eD
  rw [ha.sign, hb.sign] at this ⊢
  exact this
theorem ref_ints_at (na nb : Bool) (xa xb : Option Addr) (ka kb ca cb : Nat) (X Y : Int) (w : World) (ha : IsBig w na xa ka ca X) (hb : IsBig w nb xb kb cb Y) (h1 : X.natAbs < 65536 ^ 4) (h2 : Y.natAbs < 65536 ^ 4) :
    Calls Tryd.prog 52 #[.agg #[.bool na, .slice xa ka ca], .agg #[.bool nb, .slice xb kb cb]] w fun e w' =>
      (IFit X ∧ IFit Y → e = .returned (.tuple #[.int .i64 X, .int .i64 Y, .bool true])) ∧ (¬ (IFit X ∧ IFit Y) → ∃ v u, e = .returned (.tuple #[.int .i64 v, .int .i64 u, .bool false])) ∧ Below w.heap.size w w' := by
  have k1 := ha.le (K := 4) h1
  have k2 := hb.le (K := 4) h2
  refine (ref_ints na nb xa xb ka kb ca cb X Y w ha hb (by omega) (by omega)).mono fun e w' h => ⟨fun hf => ?_, fun hf => ?_, h.2⟩
  · have i1 : intB X = true := (intB_iff' X).2 hf.1
    have i2 : intB Y = true := (intB_iff' Y).2 hf.2
    have := h.1
    unfold intV at this
    rw [i1, i2] at this
    exact this
  · have : (intB X && intB Y) = false := by
      rw [Bool.eq_false_iff]
      intro h
      simp at h
      exact hf ⟨(intB_iff' X).1 h.1, (intB_iff' Y).1 h.2⟩
    have h1 := h.1
    rw [this] at h1
    exact ⟨_, _, h1⟩

theorem numR_le (n d : Int) : (numR n d).natAbs ≤ n.natAbs := by
  have h3 : n.natAbs / Nat.gcd n.natAbs d.natAbs ≤ n.natAbs := Nat.div_le_self _ _
  unfold numR
  obtain ⟨A, eA⟩ : ∃ A, n.natAbs / Nat.gcd n.natAbs d.natAbs = A := ⟨_, rfl⟩
  rw [eA] at h3 ⊢
  split <;> omega
theorem denR_le (n d : Int) : (denR n d).natAbs ≤ d.natAbs := by
  have h3 : d.natAbs / Nat.gcd n.natAbs d.natAbs ≤ d.natAbs := Nat.div_le_self _ _
  unfold denR
  rw [Int.natAbs_natCast]
  exact h3
end Go.Proofs.YtmkblfejoniccaaDoor
