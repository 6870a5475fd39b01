/-
  The reference of layer 2, each function by its contract. Fourth part: Good.
-/
import Derived.Test.YthffphcgkmjhbaaRefE
import Derived.Test.YthffphcgkmjhbaaRatC
namespace Go.Proofs.Ythffphcgkmjhbaa
open Go.RowKit
set_option linter.unusedSimpArgs false
set_option linter.unusedVariables false

theorem low_good (n d : Int) (hn : IFit n) (hd : IFit d) (h1 : 1 ≤ d) (A B : Int) (hA : A = if n < 0 then -((n.natAbs / Nat.gcd n.natAbs d.natAbs : Nat) : Int) else ((n.natAbs / Nat.gcd n.natAbs d.natAbs : Nat) : Int)) (hB : B = ((d.natAbs / Nat.gcd n.natAbs d.natAbs : Nat) : Int)) :
    (A = n ∧ B = d) ↔ Nat.gcd n.natAbs d.natAbs = 1 := by
  have hg : 0 < Nat.gcd n.natAbs d.natAbs := Nat.gcd_pos_of_pos_right _ (by omega)
  constructor
  · rintro ⟨_, h2⟩
    rw [hB] at h2
    have h3 : d.natAbs / Nat.gcd n.natAbs d.natAbs = d.natAbs := by omega
    rcases Nat.lt_or_ge 1 (Nat.gcd n.natAbs d.natAbs) with h | h
    · have := Nat.div_lt_self (show 0 < d.natAbs by omega) h
      omega
    · omega
  · intro h
    rw [h] at hA hB
    rw [Nat.div_one] at hA hB
    refine ⟨?_, by omega⟩
    rw [hA]; split <;> omega
theorem intB_iff' (p : Int) : intB p = true ↔ IFit p := by unfold intB IFit; simp; omega
theorem IsBig.sign {w : World} {neg : Bool} {ao : Option Addr} {k cap : Nat} {n : Int} (h : IsBig w neg ao k cap n) : neg = decide (n < 0) := by
  obtain ⟨ds, h1, h2, h3, rfl⟩ := h
  cases neg
  · simp [sgn]
  · have : BM.bval ds ≠ 0 := fun e => h3 rfl (h2.eq_nil e)
    simp [sgn]; omega
theorem goodB_iff (n d : Int) (h1 : 1 ≤ d) : goodB n d = true ↔ Nat.gcd n.natAbs d.natAbs = 1 := by
  unfold goodB
  obtain ⟨g, eg⟩ : ∃ g, Nat.gcd n.natAbs d.natAbs = g := ⟨_, rfl⟩
  rw [eg]
  simp [h1]; omega
set_option maxRecDepth 100000 in
set_option maxHeartbeats 1600000 in
theorem ref_good (n d : Int) (hn : IFit n) (hd : IFit d) (w : World) :
    Calls Try.prog 46 #[.int .i64 n, .int .i64 d] w fun e w' => e = .returned (.bool (goodB n d)) ∧ Below w.heap.size w w' := by
  by_cases h1 : 1 ≤ d
  · have hgd := goodB_iff n d h1
    have hlow := low_good n d hn hd h1 _ _ rfl rfl
    have hl1 : decide (d < 1) = false := by simp; omega
    have e4 : (65536 : Nat) ^ 4 = 18446744073709551616 := by decide
    have hn' := hn
    have hd' := hd
    obtain ⟨n1, n2⟩ := hn
    obtain ⟨d1, d2⟩ := hd
    have hx : n.natAbs < 65536 ^ 4 := by omega
    have hy : d.natAbs < 65536 ^ 4 := by omega
    have hA1 : n.natAbs / Nat.gcd n.natAbs d.natAbs ≤ n.natAbs := Nat.div_le_self _ _
    have hB1 : d.natAbs / Nat.gcd n.natAbs d.natAbs ≤ d.natAbs := Nat.div_le_self _ _
    have LW := fun na nb xa xb ka kb ca cb W (h1 : IsBig W na xa ka ca n) (h2 : IsBig W nb xb kb cb d) => ref_lowest na nb xa xb ka kb ca cb 4 n d W h1 h2 hx hy (by omega) (by omega)
    obtain ⟨g, eg⟩ : ∃ g, Nat.gcd n.natAbs d.natAbs = g := ⟨_, rfl⟩
    rw [eg] at hgd hlow LW hA1 hB1
    obtain ⟨a, ea⟩ : ∃ a, n.natAbs / g = a := ⟨_, rfl⟩
    obtain ⟨b, eb⟩ : ∃ b, d.natAbs / g = b := ⟨_, rfl⟩
    rw [ea, eb] at hlow LW
    rw [ea] at hA1
    rw [eb] at hB1
    obtain ⟨A, eA⟩ : ∃ A : Int, (if n < 0 then -(a : Int) else (a : Int)) = A := ⟨_, rfl⟩
    rw [eA] at hlow
    have hAf : IFit A := by rw [← eA]; unfold IFit; split <;> omega
    have hBf : IFit (b : Int) := by unfold IFit; omega
    have iA : intB A = true := (intB_iff' A).2 hAf
    have iB : intB (b : Int) = true := (intB_iff' b).2 hBf
    have vA : intV A = A := by unfold intV; rw [iA]; rfl
    have vB : intV (b : Int) = b := by unfold intV; rw [iB]; rfl
    have sA := BM.Sz.i64 hAf.1 hAf.2
    have sB := BM.Sz.i64 hBf.1 hBf.2
    have IT := fun na nb xa xb ka kb ca cb W (h1 : IsBig W na xa ka ca A) (h2 : IsBig W nb xb kb cb (b : Int)) hk hm => ref_ints na nb xa xb ka kb ca cb A b W h1 h2 hk hm
    rw [vA, vB, iA, iB] at IT
    have HG := Lib.hid hgd
    have HL := Lib.hid hlow
    have HE := Lib.hid eA
    clear hgd hlow eA eg ea eb iA iB vA vB hx hy hA1 hB1 e4
    go_enter Try.func46, Try.ntmps46
    go_wp2_with fail
    refine (big_of n n1 n2 _).mono ?_
    rintro e w1 ⟨m1, x1, k1, c1, rfl, hI1, hb1⟩
    go_wp2_with fail
    refine (big_of d d1 d2 _).mono ?_
    rintro e w2 ⟨m2, x2, k2, c2, rfl, hI2, hb2⟩
    have s1 := Lib.hid hI1.sign
    have s2 := Lib.hid hI2.sign
    go_wp2_with fail
    refine (LW m1 m2 x1 x2 k1 k2 c1 c2 w2 (hI1.keep hb2) hI2).mono ?_
    rintro e w3 hRet
    obtain ⟨qn, qa, qk, qc, rn, ra, rk, rc, rfl, hQ, hR, hb3⟩ := hRet.out
    have ha : (if m1 = m2 then ((a : Nat) : Int) else -((a : Nat) : Int)) = A := by
      rw [s1.out, s2.out, ← HE.out]
      have : decide (d < 0) = false := by simp; omega
      rw [this]
      by_cases h : n < 0 <;> simp [h]
    rw [ha] at hQ
    have hB3 := (hb1.trans (hb2.mono hb1.size))
    have hB4 := hB3.trans (hb3.mono hB3.size)
    have hqk := hQ.le sA
    have hrk := hR.le sB
    clear ha s1 s2 LW hRet
    go_wp2_with fail
    refine (IT qn rn qa ra qk rk qc rc _ ((hQ.allocd _).allocd _) ((hR.allocd _).allocd _) (by omega) (by omega)).mono ?_
    rintro e w4 ⟨rfl, hb4⟩
    have hs4 := hB4.size
    have hB4a : Below w.heap.size w ((w3.alloc (.cells #[.bool qn, .slice qa qk qc] 29)).alloc (.cells #[.bool rn, .slice ra rk rc] 29)) := (hB4.alloc hs4 _).alloc (by simp; omega) _
    have hB5 : Below w.heap.size w w4 := hB4a.trans (hb4.mono hB4a.size)
    by_cases hg : g = 1
    · obtain ⟨ha, hb⟩ := HL.out.2 hg
      have f1 : (A == n) = true := by simp [ha]
      have f2 : (((b : Nat) : Int) == d) = true := by simp [hb]
      have HV : Hid (goodB n d = true) := Lib.hid (HG.out.2 hg)
      clear ha hb hg
      go_wp2_with fail
      go_ret
      exact ⟨by rw [HV.out]; rfl, hB5⟩
    · have HV : Hid (goodB n d = false) := Lib.hid (by rw [Bool.eq_false_iff]; exact fun x => hg (HG.out.1 x))
      by_cases ha : A = n
      · have f1 : (A == n) = true := by simp [ha]
        have f2 : (((b : Nat) : Int) == d) = false := by simp; intro h; exact hg (HL.out.1 ⟨ha, h⟩)
        clear ha hg
        go_wp2_with fail
        go_ret
        exact ⟨by rw [HV.out]; rfl, hB5⟩
      · have f1 : (A == n) = false := by simp [ha]
        clear ha hg
        go_wp2_with fail
        go_ret
        exact ⟨by rw [HV.out]; rfl, hB5⟩
  · have hl1 : decide (d < 1) = true := by simp; omega
    have HV : Hid (goodB n d = false) := Lib.hid (by unfold goodB; simp; omega)
    clear h1
    go_enter Try.func46, Try.ntmps46
    go_wp2_with fail
    go_ret
    exact ⟨by rw [HV.out]; rfl, Below.refl _ _⟩
end Go.Proofs.Ythffphcgkmjhbaa
