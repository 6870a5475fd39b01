/-
  The functions of package ratio, each by its contract. Third part: Good, Down.
-/
/-
  The reference of layer 2, each function by its contract. Fourth part: Good.
-/
/-
  The reference of layer 2, each function by its contract. Fifth part: Down, Half.
-/
/-
  Boxes of any type that a drawn region makes and fills: claims on them.
-/
/-
  The functions of package fixed, each by its contract. First part: pixels, lengths, giving up.
-/
/-
  The functions of package fixed, each by its contract. Second part: Part, Px, Sub, Add, Try.
-/
/-
  The statements of layer 4 that name no reference. First part: what each begins with; FixedOrder.
-/
/-
  The reference of layer 4, each function by its contract: Length, Told.
-/
/-
  The functions of package fixed, each by its contract. Third part: Part and Scale whatever they are given; Try over a closure that stores a number; the reference's Part.
-/
/-
  From a walk that leaves all old memory as it was to the row's own words.
-/
/-
  From a walk that leaves all old memory as it was to a law's own words, whatever its parameters: each argument reads as it did. And: structs of one-cell fields by value, opened.
-/
import Derived.Test.YtgmnboacehopfaaZ5
import Derived.Deep.RegionHeld3
import Derived.Deep.RegionWith
import Derived.Test.YtgmnboacehopfaaZ1
import Derived.Test.YtgmnboacehopfaaZ4
import Derived.Recover
import Derived.WalkSmall
import Derived.Deep.LoopGhost
import Derived.Shelf.Abstract
import Derived.Test.YtgmnboacehopfaaZ3
import Derived.ProofKit
import Derived.OpenShut
import Derived.ReadAgain
import Derived.Lib.SmallJoins
namespace Go.Proofs.Ytgmnboacehopfaa
open Go.RowKit
set_option linter.unusedSimpArgs false
set_option linter.unusedVariables false

/-- May a ratio be? -/
def goodB (N D : Int) : Bool := decide (1 ≤ D) && ((Nat.gcd N.natAbs D.natAbs : Int) == 1)
theorem below_undrew' {w w' : World} (h : Below w.drew.heap.size w.drew w') : Below w.heap.size w w' := (Below.drew (Below.refl _ _)).trans h
set_option maxRecDepth 100000 in
set_option maxHeartbeats 1600000 in
theorem rat_good (N D : Int) (hN : IFit N) (hD : IFit D) (w : World) :
    Calls Try.prog 74 #[.agg #[.int .i64 N, .int .i64 D]] w fun e w' => e = .returned (.bool (goodB N D)) ∧ Below w.heap.size w w' := by
  have S1 := rat_size N hN
  have S2 := rat_size D hD
  have ha : N.natAbs < 18446744073709551616 := by unfold IFit at hN; omega
  have hb : D.natAbs < 18446744073709551616 := by unfold IFit at hD; omega
  have CM := rat_common N.natAbs D.natAbs ha hb
  have hG : goodB N D = (decide (1 ≤ D) && ((Nat.gcd N.natAbs D.natAbs : Int) == 1)) := rfl
  obtain ⟨G, eG⟩ : ∃ G, goodB N D = G := ⟨_, rfl⟩
  rw [eG] at hG ⊢
  obtain ⟨a, ea⟩ : ∃ a, N.natAbs = a := ⟨_, rfl⟩
  obtain ⟨b, eb⟩ : ∃ b, D.natAbs = b := ⟨_, rfl⟩
  rw [ea] at S1 CM ha hG
  rw [eb] at S2 CM hb hG
  obtain ⟨g, eg⟩ : ∃ g, Nat.gcd a b = g := ⟨_, rfl⟩
  rw [eg] at CM hG
  have HG := Lib.hid hG
  have t := Rx.new w (.int .i64 N) (.int .i64 D) _ rfl
  have hB : Below w.heap.size w (w.alloc (.cells #[.int .i64 N, .int .i64 D] 51)) := (by repeat' (first | (with_reducible exact Below.refl _ _) | (with_reducible assumption) | (with_reducible refine below_alloc ?_ _ ?_) | (with_reducible refine below_set _ ?_ ?_) | (with_reducible refine Below.drew ?_) | (with_reducible refine below_dN ?_ _) | (apply below_thenA; assumption) | omega | (simp; done) | (simp; omega) | (simp [*]; done)))
  obtain ⟨p1, p2, p3, p4⟩ := t.cells
  clear eG ea eb eg hG hN hD ha hb
  by_cases hd : 1 ≤ D
  · have d1 : decide (1 ≤ D) = true := by simp [hd]
    go_enter Try.func74, Try.ntmps74
    go_wp2_with fail
    go_region_held3 (fun w' => w'.cell? ⟨w.heap.size, 0, none⟩ = some (.int .i64 N) ∧ w'.cell? ⟨w.heap.size, 1, none⟩ = some (.int .i64 D))
      (first | exact ⟨p1, p2⟩ | go_keep)
      (first
      | (go_at_call 39; with_reducible refine (S1 _).mono ?_; rintro e w1 ⟨rfl, rfl⟩)
      | (go_at_call 39; with_reducible refine (S2 _).mono ?_; rintro e w1 ⟨rfl, rfl⟩)
      | (go_at_call 40; with_reducible refine (CM _).mono ?_; rintro e w2 ⟨rfl, hb2⟩; replace hb2 := below_undrew' hb2; replace t := t.below hb2; replace hB := hB.trans (hb2.mono hB.size); obtain ⟨p1, p2, p3, p4⟩ := t.cells))
    go_wp2_with fail
    go_ret
    exact ⟨by rw [HG.out, d1]; rfl, hB⟩
  · have d1 : decide (1 ≤ D) = false := by simp; omega
    go_enter Try.func74, Try.ntmps74
    go_wp2_with fail
    go_quiet (fail)
    go_wp2_with fail
    go_ret
    exact ⟨by rw [HG.out, d1]; rfl, (by repeat' (first | (with_reducible exact Below.refl _ _) | (with_reducible assumption) | (with_reducible refine below_alloc ?_ _ ?_) | (with_reducible refine below_set _ ?_ ?_) | (with_reducible refine Below.drew ?_) | (with_reducible refine below_dN ?_ _) | (apply below_thenA; assumption) | omega | (simp; done) | (simp; omega) | (simp [*]; done)))⟩
/-- What Down answers. -/
def DownAns (x N D : Int) (w : World) (e : Ending) (w' : World) : Prop :=
  (goodB N D = false → e = .returned (.tuple #[.int .i64 0, .int .i64 1])) ∧ (goodB N D = true → IFit (fq (x * N) D) → e = .returned (.tuple #[.int .i64 (fq (x * N) D), .int .i64 0])) ∧
  (goodB N D = true → ¬ IFit (fq (x * N) D) → e = .returned (.tuple #[.int .i64 0, .int .i64 2])) ∧ Below w.heap.size w w'
set_option maxRecDepth 100000 in
set_option maxHeartbeats 1600000 in
theorem rat_down (x N D : Int) (hx : IFit x) (hN : IFit N) (hD : IFit D) (w : World) :
    Calls Try.prog 53 #[.agg #[.int .i64 N, .int .i64 D], .int .i64 x] w (DownAns x N D w) := by
  have GD := rat_good N D hN hD
  have hDN : goodB N D = true → D ≠ 0 := fun h => by unfold goodB at h; simp at h; omega
  have t := Rx.new w (.int .i64 N) (.int .i64 D) _ rfl
  have hB : Below w.heap.size w (w.alloc (.cells #[.int .i64 N, .int .i64 D] 51)) := (by repeat' (first | (with_reducible exact Below.refl _ _) | (with_reducible assumption) | (with_reducible refine below_alloc ?_ _ ?_) | (with_reducible refine below_set _ ?_ ?_) | (with_reducible refine Below.drew ?_) | (with_reducible refine below_dN ?_ _) | (apply below_thenA; assumption) | omega | (simp; done) | (simp; omega) | (simp [*]; done)))
  have MF := wide_muldiv_fit x N D hx hN hD
  have MN := wide_muldiv_no x N D hx hN hD
  have hans : ∀ e w', (goodB N D = false → e = .returned (.tuple #[.int .i64 0, .int .i64 1])) → (goodB N D = true → IFit (fq (x * N) D) → e = .returned (.tuple #[.int .i64 (fq (x * N) D), .int .i64 0])) → (goodB N D = true → ¬ IFit (fq (x * N) D) → e = .returned (.tuple #[.int .i64 0, .int .i64 2])) → Below w.heap.size w w' → DownAns x N D w e w' := fun e w' a b c d => ⟨a, b, c, d⟩
  obtain ⟨p1, p2, p3, p4⟩ := t.cells
  by_cases hg : goodB N D = true
  · have h0 := hDN hg
    by_cases hf : IFit (fq (x * N) D)
    · have MM := MF ⟨h0, hf⟩
      rw [hg] at GD
      have HA := Lib.hid hans
      have HGG := Lib.hid hg
      obtain ⟨F, eF⟩ : ∃ F, fq (x * N) D = F := ⟨_, rfl⟩
      rw [eF] at MM
      have EF := Lib.hid eF
      have HF := Lib.hid hf
      clear hans hg h0 hDN MF MN eF hf
      go_enter Try.func53, Try.ntmps53
      go_wp2_with fail
      refine (GD _).mono ?_
      rintro e w1 ⟨rfl, hb1⟩
      replace t := t.below hb1
      replace hB := hB.trans (hb1.mono hB.size)
      clear p1 p2 p3 p4
      obtain ⟨p1, p2, p3, p4⟩ := t.cells
      go_wp2_with fail
      refine (MM _).mono ?_
      rintro e w2 ⟨rfl, hb2⟩
      replace hB := hB.trans (hb2.mono hB.size)
      go_wp2_with fail
      go_ret2
      exact HA.out _ _ (fun h => by rw [HGG.out] at h; cases h) (fun _ _ => by rw [EF.out]; rfl) (fun _ h => absurd HF.out h) hB
    · have MM := MN (fun h => hf h.2)
      rw [hg] at GD
      have HA := Lib.hid hans
      have HGG := Lib.hid hg
      have HF := Lib.hid hf
      clear hans hg h0 hDN MF MN hf
      go_enter Try.func53, Try.ntmps53
      go_wp2_with fail
      refine (GD _).mono ?_
      rintro e w1 ⟨rfl, hb1⟩
      replace t := t.below hb1
      replace hB := hB.trans (hb1.mono hB.size)
      clear p1 p2 p3 p4
      obtain ⟨p1, p2, p3, p4⟩ := t.cells
      go_wp2_with fail
      refine (MM _).mono ?_
      rintro e w2 ⟨rfl, hb2⟩
      replace hB := hB.trans (hb2.mono hB.size)
      go_wp2_with fail
      go_ret2
      exact HA.out _ _ (fun h => by rw [HGG.out] at h; cases h) (fun _ h => absurd h HF.out) (fun _ _ => rfl) hB
  · have hg' : goodB N D = false := by simpa using hg
    rw [hg'] at GD
    have HA := Lib.hid hans
    have HGG := Lib.hid hg'
    clear hans hg hg' hDN MF MN
    go_enter Try.func53, Try.ntmps53
    go_wp2_with fail
    refine (GD _).mono ?_
    rintro e w1 ⟨rfl, hb1⟩
    replace hB := hB.trans (hb1.mono hB.size)
    go_wp2_with fail
    go_ret2
    exact HA.out _ _ (fun _ => rfl) (fun h => by rw [HGG.out] at h; cases h) (fun h => by rw [HGG.out] at h; cases h) hB
end Go.Proofs.Ytgmnboacehopfaa
namespace Go.Proofs.Ytgmnboacehopfaa
open Go.RowKit
set_option linter.unusedSimpArgs false
set_option linter.unusedVariables false

theorem low_good (n d : Int) (hn : IFit n) (hd : IFit d) (h1 : 1 ≤ d) (A B : Int) (hA : A = if n < 0 then -((n.natAbs / Nat.gcd n.natAbs d.natAbs : Nat) : Int) else ((n.natAbs / Nat.gcd n.natAbs d.natAbs : Nat) : Int)) (hB : B = ((d.natAbs / Nat.gcd n.natAbs d.natAbs : Nat) : Int)) :
    (A = n ∧ B = d) ↔ Nat.gcd n.natAbs d.natAbs = 1 := by
  have hg : 0 < Nat.gcd n.natAbs d.natAbs := Nat.gcd_pos_of_pos_right _ (by omega)
  constructor
  · rintro ⟨_, h2⟩
    rw [hB] at h2
    have h3 : d.natAbs / Nat.gcd n.natAbs d.natAbs = d.natAbs := by omega
    rcases Nat.lt_or_ge 1 (Nat.gcd n.natAbs d.natAbs) with h | h
    · have := Nat.div_lt_self (show 0 < d.natAbs by omega) h
      omega
    · omega
  · intro h
    rw [h] at hA hB
    rw [Nat.div_one] at hA hB
    refine ⟨?_, by omega⟩
    rw [hA]; split <;> omega
theorem intB_iff' (p : Int) : intB p = true ↔ IFit p := by unfold intB IFit; simp; omega
theorem IsBig.sign {w : World} {neg : Bool} {ao : Option Addr} {k cap : Nat} {n : Int} (h : IsBig w neg ao k cap n) : neg = decide (n < 0) := by
  obtain ⟨ds, h1, h2, h3, rfl⟩ := h
  cases neg
  · simp [sgn]
  · have : BM.bval ds ≠ 0 := fun e => h3 rfl (h2.eq_nil e)
    simp [sgn]; omega
theorem goodB_iff (n d : Int) (h1 : 1 ≤ d) : goodB n d = true ↔ Nat.gcd n.natAbs d.natAbs = 1 := by
  unfold goodB
  obtain ⟨g, eg⟩ : ∃ g, Nat.gcd n.natAbs d.natAbs = g := ⟨_, rfl⟩
  rw [eg]
  simp [h1]; omega
set_option maxRecDepth 100000 in
set_option maxHeartbeats 1600000 in
theorem ref_good (n d : Int) (hn : IFit n) (hd : IFit d) (w : World) :
    Calls Try.prog 32 #[.int .i64 n, .int .i64 d] w fun e w' => e = .returned (.bool (goodB n d)) ∧ Below w.heap.size w w' := by
  by_cases h1 : 1 ≤ d
  · have hgd := goodB_iff n d h1
    have hlow := low_good n d hn hd h1 _ _ rfl rfl
    have hl1 : decide (d < 1) = false := by simp; omega
    have e4 : (65536 : Nat) ^ 4 = 18446744073709551616 := by decide
    have hn' := hn
    have hd' := hd
    obtain ⟨n1, n2⟩ := hn
    obtain ⟨d1, d2⟩ := hd
    have hx : n.natAbs < 65536 ^ 4 := by omega
    have hy : d.natAbs < 65536 ^ 4 := by omega
    have hA1 : n.natAbs / Nat.gcd n.natAbs d.natAbs ≤ n.natAbs := Nat.div_le_self _ _
    have hB1 : d.natAbs / Nat.gcd n.natAbs d.natAbs ≤ d.natAbs := Nat.div_le_self _ _
    have LW := fun na nb xa xb ka kb ca cb W (h1 : IsBig W na xa ka ca n) (h2 : IsBig W nb xb kb cb d) => ref_lowest na nb xa xb ka kb ca cb 4 n d W h1 h2 hx hy (by omega) (by omega)
    obtain ⟨g, eg⟩ : ∃ g, Nat.gcd n.natAbs d.natAbs = g := ⟨_, rfl⟩
    rw [eg] at hgd hlow LW hA1 hB1
    obtain ⟨a, ea⟩ : ∃ a, n.natAbs / g = a := ⟨_, rfl⟩
    obtain ⟨b, eb⟩ : ∃ b, d.natAbs / g = b := ⟨_, rfl⟩
    rw [ea, eb] at hlow LW
    rw [ea] at hA1
    rw [eb] at hB1
    obtain ⟨A, eA⟩ : ∃ A : Int, (if n < 0 then -(a : Int) else (a : Int)) = A := ⟨_, rfl⟩
    rw [eA] at hlow
    have hAf : IFit A := by rw [← eA]; unfold IFit; split <;> omega
    have hBf : IFit (b : Int) := by unfold IFit; omega
    have iA : intB A = true := (intB_iff' A).2 hAf
    have iB : intB (b : Int) = true := (intB_iff' b).2 hBf
    have vA : intV A = A := by unfold intV; rw [iA]; rfl
    have vB : intV (b : Int) = b := by unfold intV; rw [iB]; rfl
    have sA := BM.Sz.i64 hAf.1 hAf.2
    have sB := BM.Sz.i64 hBf.1 hBf.2
    have IT := fun na nb xa xb ka kb ca cb W (h1 : IsBig W na xa ka ca A) (h2 : IsBig W nb xb kb cb (b : Int)) hk hm => ref_ints na nb xa xb ka kb ca cb A b W h1 h2 hk hm
    rw [vA, vB, iA, iB] at IT
    have HG := Lib.hid hgd
    have HL := Lib.hid hlow
    have HE := Lib.hid eA
    clear hgd hlow eA eg ea eb iA iB vA vB hx hy hA1 hB1 e4
    go_enter Try.func32, Try.ntmps32
    go_wp2_with fail
    refine (big_of n n1 n2 _).mono ?_
    rintro e w1 ⟨m1, x1, k1, c1, rfl, hI1, hb1⟩
    go_wp2_with fail
    refine (big_of d d1 d2 _).mono ?_
    rintro e w2 ⟨m2, x2, k2, c2, rfl, hI2, hb2⟩
    have s1 := Lib.hid hI1.sign
    have s2 := Lib.hid hI2.sign
    go_wp2_with fail
    refine (LW m1 m2 x1 x2 k1 k2 c1 c2 w2 (hI1.keep hb2) hI2).mono ?_
    rintro e w3 hRet
    obtain ⟨qn, qa, qk, qc, rn, ra, rk, rc, rfl, hQ, hR, hb3⟩ := hRet.out
    have ha : (if m1 = m2 then ((a : Nat) : Int) else -((a : Nat) : Int)) = A := by
      rw [s1.out, s2.out, ← HE.out]
      have : decide (d < 0) = false := by simp; omega
      rw [this]
      by_cases h : n < 0 <;> simp [h]
    rw [ha] at hQ
    have hB3 := (hb1.trans (hb2.mono hb1.size))
    have hB4 := hB3.trans (hb3.mono hB3.size)
    have hqk := hQ.le sA
    have hrk := hR.le sB
    clear ha s1 s2 LW hRet
    go_wp2_with fail
    refine (IT qn rn qa ra qk rk qc rc _ ((hQ.allocd _).allocd _) ((hR.allocd _).allocd _) (by omega) (by omega)).mono ?_
    rintro e w4 ⟨rfl, hb4⟩
    have hs4 := hB4.size
    have hB4a : Below w.heap.size w ((w3.alloc (.cells #[.bool qn, .slice qa qk qc] 100)).alloc (.cells #[.bool rn, .slice ra rk rc] 100)) := (hB4.alloc hs4 _).alloc (by simp; omega) _
    have hB5 : Below w.heap.size w w4 := hB4a.trans (hb4.mono hB4a.size)
    by_cases hg : g = 1
    · obtain ⟨ha, hb⟩ := HL.out.2 hg
      have f1 : (A == n) = true := by simp [ha]
      have f2 : (((b : Nat) : Int) == d) = true := by simp [hb]
      have HV : Hid (goodB n d = true) := Lib.hid (HG.out.2 hg)
      clear ha hb hg
      go_wp2_with fail
      go_ret
      exact ⟨by rw [HV.out]; rfl, hB5⟩
    · have HV : Hid (goodB n d = false) := Lib.hid (by rw [Bool.eq_false_iff]; exact fun x => hg (HG.out.1 x))
      by_cases ha : A = n
      · have f1 : (A == n) = true := by simp [ha]
        have f2 : (((b : Nat) : Int) == d) = false := by simp; intro h; exact hg (HL.out.1 ⟨ha, h⟩)
        clear ha hg
        go_wp2_with fail
        go_ret
        exact ⟨by rw [HV.out]; rfl, hB5⟩
      · have f1 : (A == n) = false := by simp [ha]
        clear ha hg
        go_wp2_with fail
        go_ret
        exact ⟨by rw [HV.out]; rfl, hB5⟩
  · have hl1 : decide (d < 1) = true := by simp; omega
    have HV : Hid (goodB n d = false) := Lib.hid (by unfold goodB; simp; omega)
    clear h1
    go_enter Try.func32, Try.ntmps32
    go_wp2_with fail
    go_ret
    exact ⟨by rw [HV.out]; rfl, Below.refl _ _⟩
end Go.Proofs.Ytgmnboacehopfaa
namespace Go.Proofs.Ytgmnboacehopfaa
open Go.RowKit
set_option linter.unusedSimpArgs false
set_option linter.unusedVariables false

theorem pw4 : (65536 : Nat) ^ 4 = 18446744073709551616 := by decide
/-- A value is a whole number that lies in memory. -/
def BigV (n : Int) (v : Value) (w : World) : Prop := ∃ neg ao k cap, v = .agg #[.bool neg, .slice ao k cap] ∧ IsBig w neg ao k cap n
def Big2V (n p : Int) (v : Value) (w : World) : Prop := ∃ (qn : Bool) (qa : Option Addr) (qk qc : Nat) (rn : Bool) (ra : Option Addr) (rk rc : Nat), v = .tuple #[.agg #[.bool qn, .slice qa qk qc], .agg #[.bool rn, .slice ra rk rc]] ∧ IsBig w qn qa qk qc n ∧ IsBig w rn ra rk rc p
/-- A value points to a box of this kind, from this block on. -/
def BoxV (B : Nat) (v : Value) (w : World) : Prop := ∃ b x y, v = .pointer (some ⟨b, 0, none⟩) ∧ B ≤ b ∧ Two w b x y
/-- A box holds a whole number. -/
def BoxBig (B : Nat) (n : Int) (v : Value) (w : World) : Prop := ∃ b neg ao k cap, v = .pointer (some ⟨b, 0, none⟩) ∧ B ≤ b ∧ Two w b (.bool neg) (.slice ao k cap) ∧ IsBig w neg ao k cap n
theorem BigV.below {n : Int} {v : Value} {w w' : World} (h : BigV n v w) (hb : Below w.heap.size w w') : BigV n v w' := by
  obtain ⟨a, b, c, d, e, f⟩ := h; exact ⟨a, b, c, d, e, f.keep hb⟩
theorem Big2V.below {n p : Int} {v : Value} {w w' : World} (h : Big2V n p v w) (hb : Below w.heap.size w w') : Big2V n p v w' := by
  obtain ⟨a, b, c, d, a', b', c', d', e, f, g⟩ := h; exact ⟨a, b, c, d, a', b', c', d', e, f.keep hb, g.keep hb⟩
theorem BoxV.below {B : Nat} {v : Value} {w w' : World} (h : BoxV B v w) (hb : Below w.heap.size w w') : BoxV B v w' := by
  obtain ⟨b, x, y, e, f, g⟩ := h; exact ⟨b, x, y, e, f, g.below hb⟩
theorem BoxBig.below {B : Nat} {n : Int} {v : Value} {w w' : World} (h : BoxBig B n v w) (hb : Below w.heap.size w w') : BoxBig B n v w' := by
  obtain ⟨b, x, y, c, d, e, f, g, i⟩ := h; exact ⟨b, x, y, c, d, e, f, g.below hb, i.keep hb⟩

def bigC (n : Int) : Cl := .own (BigV n) (fun _ _ _ h hb => h.below hb)
def big2C (n p : Int) : Cl := .own (Big2V n p) (fun _ _ _ h hb => h.below hb)
def boxC (B : Nat) : Cl := .own (BoxV B) (fun _ _ _ h hb => h.below hb)
def boxAt (j B : Nat) (n : Int) : Cl := .at j (BoxBig B n) (fun _ _ _ h hb => h.below hb)
theorem BigV.put {n : Int} {v : Value} {w : World} {b : Nat} {y1 y2 : Value} (h : BigV n v w) (t : Two w b y1 y2) (u1 u2 : Value) : BigV n v ((w.setCell ⟨b, 0, none⟩ u1).setCell ⟨b, 1, none⟩ u2) := by
  obtain ⟨a1, a2, a3, a4, e, h⟩ := h; exact ⟨a1, a2, a3, a4, e, IsBig.put h t u1 u2⟩
theorem Big2V.put {n p : Int} {v : Value} {w : World} {b : Nat} {y1 y2 : Value} (h : Big2V n p v w) (t : Two w b y1 y2) (u1 u2 : Value) : Big2V n p v ((w.setCell ⟨b, 0, none⟩ u1).setCell ⟨b, 1, none⟩ u2) := by
  obtain ⟨a1, a2, a3, a4, b1, b2, b3, b4, e, h, g⟩ := h; exact ⟨a1, a2, a3, a4, b1, b2, b3, b4, e, IsBig.put h t u1 u2, IsBig.put g t u1 u2⟩
theorem BoxV.put {B : Nat} {v : Value} {w : World} {b : Nat} {y1 y2 : Value} (h : BoxV B v w) (t : Two w b y1 y2) (u1 u2 : Value) : BoxV B v ((w.setCell ⟨b, 0, none⟩ u1).setCell ⟨b, 1, none⟩ u2) := by
  obtain ⟨c, x, y, e, h1, h2⟩ := h
  by_cases hc : c = b
  · subst hc; exact ⟨c, u1, u2, e, h1, t.put u1 u2⟩
  · exact ⟨c, x, y, e, h1, h2.put_other hc u1 u2⟩
theorem BoxBig.put {B : Nat} {n : Int} {v : Value} {w : World} {b : Nat} {y1 y2 : Value} (h : BoxBig B n v w) (hne : v ≠ .pointer (some ⟨b, 0, none⟩)) (t : Two w b y1 y2) (u1 u2 : Value) : BoxBig B n v ((w.setCell ⟨b, 0, none⟩ u1).setCell ⟨b, 1, none⟩ u2) := by
  obtain ⟨c, a1, a2, a3, a4, e, h1, h2, h3⟩ := h
  have hc : c ≠ b := fun x => hne (by rw [e, x])
  exact ⟨c, a1, a2, a3, a4, e, h1, h2.put_other hc u1 u2, IsBig.put h3 t u1 u2⟩
end Go.Proofs.Ytgmnboacehopfaa
namespace Go.Proofs.Ytgmnboacehopfaa
open Go.RowKit
set_option linter.unusedSimpArgs false
set_option linter.unusedVariables false

theorem Blk.same {w : World} {b : Nat} {cs cs' : Array Value} {T T' : TypeId} (h : Blk w b cs T) (h' : Blk w b cs' T') : cs = cs' ∧ T = T' := by
  unfold Blk at h h'
  rw [h] at h'
  simpa using h'
theorem Blk.cellx {w : World} {b : Nat} {cs : Array Value} {T : TypeId} (h : Blk w b cs T) (i : Nat) (hi : i < cs.size) : ∃ y, w.cell? ⟨b, i, none⟩ = some y := ⟨cs[i], h.cell i _ (by simp [hi])⟩
theorem Blk.set1 {w : World} {b : Nat} {cs : Array Value} {T : TypeId} (h : Blk w b cs T) (hs : cs.size = 1) (u : Value) : Blk (w.setCell ⟨b, 0, none⟩ u) b #[u] T := by
  have h1 := h.set 0 u
  have e : cs.setIfInBounds 0 u = #[u] := by
    obtain ⟨l⟩ := cs
    match l, hs with
    | [_], _ => rfl
  rwa [e] at h1
theorem Blk.set2 {w : World} {b : Nat} {cs : Array Value} {T : TypeId} (h : Blk w b cs T) (hs : cs.size = 2) (u v : Value) : Blk ((w.setCell ⟨b, 0, none⟩ u).setCell ⟨b, 1, none⟩ v) b #[u, v] T := by
  have h1 := (h.set 0 u).set 1 v
  have e : (cs.setIfInBounds 0 u).setIfInBounds 1 v = #[u, v] := by
    obtain ⟨l⟩ := cs
    match l, hs with
    | [_, _], _ => rfl
  rwa [e] at h1
theorem Blk.set3 {w : World} {b : Nat} {cs : Array Value} {T : TypeId} (h : Blk w b cs T) (hs : cs.size = 3) (u v x : Value) : Blk (((w.setCell ⟨b, 0, none⟩ u).setCell ⟨b, 1, none⟩ v).setCell ⟨b, 2, none⟩ x) b #[u, v, x] T := by
  have h1 := ((h.set 0 u).set 1 v).set 2 x
  have e : ((cs.setIfInBounds 0 u).setIfInBounds 1 v).setIfInBounds 2 x = #[u, v, x] := by
    obtain ⟨l⟩ := cs
    match l, hs with
    | [_, _, _], _ => rfl
  rwa [e] at h1
theorem But.set2 {b : Nat} (w : World) (u v : Value) : But b w ((w.setCell ⟨b, 0, none⟩ u).setCell ⟨b, 1, none⟩ v) := (But.set _ _ _).trans (But.set _ _ _)
theorem But.set3 {b : Nat} (w : World) (u v x : Value) : But b w (((w.setCell ⟨b, 0, none⟩ u).setCell ⟨b, 1, none⟩ v).setCell ⟨b, 2, none⟩ x) := ((But.set _ _ _).trans (But.set _ _ _)).trans (But.set _ _ _)
/-- A new box, whatever it holds; a new box that holds these cells. -/
def BxV (B : Nat) (T : TypeId) (n : Nat) (v : Value) (w : World) : Prop := ∃ b cs, v = .pointer (some ⟨b, 0, none⟩) ∧ B ≤ b ∧ Blk w b cs T ∧ cs.size = n
def BxC (B : Nat) (T : TypeId) (cs : Array Value) (v : Value) (w : World) : Prop := ∃ b, v = .pointer (some ⟨b, 0, none⟩) ∧ B ≤ b ∧ Blk w b cs T
theorem BxV.below {B n : Nat} {T : TypeId} {v : Value} {w w' : World} (h : BxV B T n v w) (hb : Below w.heap.size w w') : BxV B T n v w' := by
  obtain ⟨b, cs, e, h1, h2, h3⟩ := h; exact ⟨b, cs, e, h1, h2.below hb, h3⟩
theorem BxC.below {B : Nat} {T : TypeId} {cs : Array Value} {v : Value} {w w' : World} (h : BxC B T cs v w) (hb : Below w.heap.size w w') : BxC B T cs v w' := by
  obtain ⟨b, e, h1, h2⟩ := h; exact ⟨b, e, h1, h2.below hb⟩
def bxV (B : Nat) (T : TypeId) (n : Nat) : Cl := .own (BxV B T n) (fun _ _ _ h hb => h.below hb)
def bxC (j B : Nat) (T : TypeId) (cs : Array Value) : Cl := .at j (BxC B T cs) (fun _ _ _ h hb => h.below hb)
section
variable {w w' : World} {b : Nat} {cs0 cs1 : Array Value} {T0 : TypeId}
theorem BxV.but {B n : Nat} {T : TypeId} {v : Value} (h : BxV B T n v w) (hb : But b w w') (t0 : Blk w b cs0 T0) (t1 : Blk w' b cs1 T0) (hs : cs1.size = cs0.size) : BxV B T n v w' := by
  obtain ⟨c, cs, e, h1, h2, h3⟩ := h
  by_cases hc : c = b
  · subst hc
    obtain ⟨rfl, rfl⟩ := h2.same t0
    exact ⟨c, cs1, e, h1, t1, by rw [hs, h3]⟩
  · exact ⟨c, cs, e, h1, h2.but hb hc, h3⟩
theorem BxC.but {B : Nat} {T : TypeId} {cs : Array Value} {v : Value} (h : BxC B T cs v w) (hb : But b w w') (hne : v ≠ .pointer (some ⟨b, 0, none⟩)) : BxC B T cs v w' := by
  obtain ⟨c, e, h1, h2⟩ := h
  exact ⟨c, e, h1, h2.but hb (fun x => hne (by rw [e, x]))⟩
theorem keeps_but (hb : But b w w') (t0 : Blk w b cs0 T0) (hT : T0 ≠ 30) : Keeps w w' := by
  intro g cur hg
  have hne : g ≠ b := by
    rintro rfl
    exact hT (Blk.same (T := 30) (cs := cur) hg t0).2.symm
  exact (hb.block g (Array.getElem?_eq_some_iff.1 hg).1 hne).trans hg
theorem IsBig.but {neg : Bool} {ao : Option Addr} {k cap : Nat} {n : Int} (h : IsBig w neg ao k cap n) (hb : But b w w') (t0 : Blk w b cs0 T0) (hT : T0 ≠ 30) : IsBig w' neg ao k cap n := h.keeps (keeps_but hb t0 hT)
theorem BigV.but {n : Int} {v : Value} (h : BigV n v w) (hb : But b w w') (t0 : Blk w b cs0 T0) (hT : T0 ≠ 30) : BigV n v w' := by
  obtain ⟨a1, a2, a3, a4, e, h⟩ := h; exact ⟨a1, a2, a3, a4, e, h.but hb t0 hT⟩
theorem Big2V.but {n p : Int} {v : Value} (h : Big2V n p v w) (hb : But b w w') (t0 : Blk w b cs0 T0) (hT : T0 ≠ 30) : Big2V n p v w' := by
  obtain ⟨a1, a2, a3, a4, b1, b2, b3, b4, e, h, g⟩ := h; exact ⟨a1, a2, a3, a4, b1, b2, b3, b4, e, h.but hb t0 hT, g.but hb t0 hT⟩
/-- A new box that holds a whole number. -/
theorem BoxBig.but {B : Nat} {n : Int} {v : Value} (h : BoxBig B n v w) (hb : But b w w') (t0 : Blk w b cs0 T0) (hT : T0 ≠ 30) (hne : v ≠ .pointer (some ⟨b, 0, none⟩)) : BoxBig B n v w' := by
  obtain ⟨c, a1, a2, a3, a4, e, h1, h2, h3⟩ := h
  exact ⟨c, a1, a2, a3, a4, e, h1, Blk.but (cs := #[.bool a1, .slice a2 a3 a4]) h2 hb (fun x => hne (by rw [e, x])), h3.but hb t0 hT⟩
end
end Go.Proofs.Ytgmnboacehopfaa
namespace Go.Proofs.Ytgmnboacehopfaa
open Go.RowKit
set_option linter.unusedSimpArgs false
set_option linter.unusedVariables false

theorem td64 (a : Int) : (a.tmod 64 < 0 → a.tdiv 64 - 1 = a / 64) ∧ (¬ a.tmod 64 < 0 → a.tdiv 64 = a / 64) ∧ (0 < a.tmod 64 → a.tdiv 64 + 1 = -((-a) / 64)) ∧ (¬ 0 < a.tmod 64 → a.tdiv 64 = -((-a) / 64)) := by
  rcases Int.lt_or_le a 0 with h | h
  · obtain ⟨b, rfl⟩ : ∃ b, a = -b := ⟨-a, by omega⟩
    have e1 : (-b).tdiv 64 = -(b / 64) := by rw [Int.neg_tdiv, Int.tdiv_eq_ediv_of_nonneg (by omega)]
    have e2 : (-b).tmod 64 = -(b % 64) := by rw [Int.neg_tmod, Int.tmod_eq_emod_of_nonneg (by omega)]
    rw [e1, e2]; omega
  · have e1 : a.tdiv 64 = a / 64 := Int.tdiv_eq_ediv_of_nonneg h
    have e2 : a.tmod 64 = a % 64 := Int.tmod_eq_emod_of_nonneg h
    rw [e1, e2]; omega
def LenB (n : Int) : Prop := -17592186044416 ≤ n ∧ n ≤ 17592186044416
/-- What a giving up with this error is. -/
def gave (c : Int) : List PanicEntry := [{ v := .iface 83 (.int .i64 c), recovered := false }]

theorem fix_fail0 (w : World) : Calls Try.prog 54 #[.int .i64 0] w fun e w' => e = .returned (.tuple #[]) ∧ w' = w := by
  go_enter Try.func54, Try.ntmps54
  go_wp2_with fail
  go_end0
  exact ⟨rfl, rfl⟩
theorem fix_fail (c : Int) (hc : c ≠ 0) (w : World) : Calls Try.prog 54 #[.int .i64 c] w fun e w' => e = .panicked (gave c) ∧ w' = w := by
  have h : (c != 0) = true := by simp [hc]
  go_enter Try.func54, Try.ntmps54
  go_wp2_with fail
  simp [bodyPost, gave]
theorem fix_fail2 (w : World) : Calls Try.prog 54 #[.int .i64 2] w fun e w' => e = .panicked (gave 2) ∧ w' = w := fix_fail 2 (by decide) w
theorem fix_fail3 (w : World) : Calls Try.prog 54 #[.int .i64 3] w fun e w' => e = .panicked (gave 3) ∧ w' = w := fix_fail 3 (by decide) w
set_option maxRecDepth 100000 in
set_option maxHeartbeats 1600000 in
theorem fix_of (n : Int) (hn : IFit n) (h : LenB n) (w : World) : Calls Try.prog 55 #[.int .i64 n] w fun e w' => e = .returned (.int .i64 n) ∧ w' = w := by
  obtain ⟨h1, h2⟩ := h
  have d1 : decide (n < -17592186044416) = false := by simp; omega
  have d2 : decide (17592186044416 < n) = false := by simp; omega
  go_enter Try.func55, Try.ntmps55
  go_wp2_with fail
  go_ret
  exact ⟨rfl, rfl⟩
set_option maxRecDepth 100000 in
set_option maxHeartbeats 1600000 in
theorem fix_of_no (n : Int) (hn : IFit n) (h : ¬ LenB n) (w : World) : Calls Try.prog 55 #[.int .i64 n] w fun e w' => e = .panicked (gave 2) ∧ w' = w := by
  by_cases hlo : n < -17592186044416
  · have d1 : decide (n < -17592186044416) = true := by simp [hlo]
    go_enter Try.func55, Try.ntmps55
    go_wp2_with (go_at_call 54; with_reducible refine (fix_fail2 _).mono ?_; rintro e w1 ⟨rfl, rfl⟩)
    simp [bodyPost]
  · have d1 : decide (n < -17592186044416) = false := by simp; omega
    have hhi : 17592186044416 < n := by unfold LenB at h; omega
    have d2 : decide (17592186044416 < n) = true := by simp [hhi]
    go_enter Try.func55, Try.ntmps55
    go_wp2_with (go_at_call 54; with_reducible refine (fix_fail2 _).mono ?_; rintro e w1 ⟨rfl, rfl⟩)
    simp [bodyPost]
def clip (n : Int) : Int := min (max n (-52776558133248)) 52776558133248
theorem clip_lo (n : Int) : -52776558133248 ≤ clip n := by unfold clip; omega
theorem clip_hi (n : Int) : clip n ≤ 52776558133248 := by unfold clip; omega
end Go.Proofs.Ytgmnboacehopfaa
namespace Go.Proofs.Ytgmnboacehopfaa
open Go.RowKit
set_option linter.unusedSimpArgs false
set_option linter.unusedVariables false

theorem assert_gave (c : Int) (w : World) : (Instr.typeAssert (Value.iface 83 (.int .i64 c)) 20 83 true).run Try.prog w = .ok (.tuple #[.int .i64 c, .bool true]) w := by kernel_rfl
theorem LenB.fit {n : Int} (h : LenB n) : IFit n := by unfold LenB at h; unfold IFit; omega
set_option maxRecDepth 100000 in
set_option maxHeartbeats 1600000 in
/-- The deferred function of Try, where nothing has given up. -/
theorem fix_try1_idle (p : Addr) (w : World) :
    CallsD Try.prog 30 #[.pointer (some p)] .returning w fun e u' w' => e = .returned (.tuple #[]) ∧ u' = .returning ∧ w' = w := by
  refine callsD_of_wpS Try.func30 rfl fun c₀ cs hu => ?_
  have e0 : (#[Value.pointer (some p)] ++ Array.replicate (Try.f30.ntmps - #[Value.pointer (some p)].size) undef : Array Value) = #[.pointer (some p), undef, undef, undef, undef, undef, undef, undef, undef, undef, undef] := by rw [Try.ntmps30]; rfl
  rw [e0]
  apply wpS_seq
  apply wpS_region
  simp [wpOpsS, go_sem, recoverD, hu, Try.ntmps30, Exit.thenS]
  refine wpS_of_wp ?_
  go_wp2
  cases c₀
  simp_all [bodyPostS, results, Try.results30]
set_option maxRecDepth 100000 in
set_option maxHeartbeats 1600000 in
/-- The deferred function of Try, where something has given up. -/
theorem fix_try1_caught (p : Addr) (c : Int) (older : List PanicEntry) (w : World) (x : Value) (hc : w.cell? p = some x) (hz : w.frozen? p = false) :
    CallsD Try.prog 30 #[.pointer (some p)] (.panicking ({ v := .iface 83 (.int .i64 c), recovered := false } :: older)) w fun e u' w' =>
      e = .returned (.tuple #[]) ∧ u' = .panicking ({ v := .iface 83 (.int .i64 c), recovered := true } :: older) ∧ w' = w.setCell p (.int .i64 c) := by
  refine callsD_of_wpS Try.func30 rfl fun c₀ cs hu => ?_
  have e0 : (#[Value.pointer (some p)] ++ Array.replicate (Try.f30.ntmps - #[Value.pointer (some p)].size) undef : Array Value) = #[.pointer (some p), undef, undef, undef, undef, undef, undef, undef, undef, undef, undef] := by rw [Try.ntmps30]; rfl
  rw [e0]
  apply wpS_seq
  apply wpS_region
  simp [wpOpsS, go_sem, recoverD, hu, Try.ntmps30, Exit.thenS]
  refine wpS_of_wp ?_
  have ha := assert_gave c
  go_wp2
  cases c₀
  simp_all [bodyPostS, results, Try.results30]
set_option maxRecDepth 100000 in
set_option maxHeartbeats 1600000 in
/-- Try: what the function gives up with, or 0. -/
theorem fix_try (F : Nat) (cap : Array Value) (w : World) (R : Int → World → Prop) (hen : ∀ w, (callFunc F cap).run Try.prog w = .ok (.enter F cap) w)
    (h : Calls Try.prog F cap (w.alloc (.cells #[.int .i64 0] 36)) fun e w1 => w1.cell? ⟨w.heap.size, 0, none⟩ = some (.int .i64 0) ∧ w1.frozen? ⟨w.heap.size, 0, none⟩ = false ∧
      ((e = .returned (.tuple #[]) ∧ R 0 w1) ∨ (∃ c, e = .panicked (gave c) ∧ R c w1))) :
    Calls Try.prog 12 #[.func (.func F) #[] cap] w fun e w' => ∃ c w1, R c w1 ∧ e = .returned (.int .i64 c) ∧ w' = w1.setCell ⟨w.heap.size, 0, none⟩ (.int .i64 c) := by
  have hmf : ∀ (fn : Fn) (first cap : Array Value) (w : World), (Instr.makeFunc fn first cap).run Try.prog w = .ok (.func fn first cap) w := fun _ _ _ _ => rfl
  have hnn : ∀ w : World, (binOp BinOp.eql 1 (Value.func (Fn.func F) #[] cap) Value.nilFunc).run Try.prog w = .ok (.bool false) w := fun _ => by kernel_rfl
  go_enter_defers Try.func12, Try.ntmps12
  go_wp2_with fail
  refine h.mono ?_
  rintro e w1 ⟨e1, e2, h1⟩
  have e3 : ∀ v, (w1.setCell ⟨w.heap.size, 0, none⟩ v).cell? ⟨w.heap.size, 0, none⟩ = some v := fun v => World.cell?_setCell_same _ _ v e1
  rcases h1 with ⟨rfl, hR⟩ | ⟨c, rfl, hR⟩
  · go_wp2_with fail
    refine leaves_cons (f := 30) (args := #[.pointer (some ⟨w.heap.size, 0, none⟩)]) (by simp) (by simp [go_sem]) ?_
    refine (fix_try1_idle ⟨w.heap.size, 0, none⟩ _).mono ?_
    rintro e u' w'' ⟨rfl, rfl, rfl⟩
    simp only [Leaves, settle, results, Try.results12]
    simp [go_sem, e3]
    exact ⟨0, w1, hR, rfl, rfl⟩
  · refine leaves_cons (f := 30) (args := #[.pointer (some ⟨w.heap.size, 0, none⟩)]) (by simp) (by simp [go_sem]) ?_
    refine (fix_try1_caught ⟨w.heap.size, 0, none⟩ c [] w1 _ e1 e2).mono ?_
    rintro e u' w'' ⟨rfl, rfl, rfl⟩
    simp only [Leaves, settle, results, Try.results12]
    simp [go_sem, e3]
    simp only [Leaves, results, Try.results12]
    simp [go_sem, e3]
    exact ⟨c, w1, hR, rfl, rfl⟩

set_option maxRecDepth 100000 in
set_option maxHeartbeats 1600000 in
theorem fix_part (a n d : Int) (ha : IFit a) (hn : IFit n) (hd : IFit d) (h0 : d ≠ 0) (hL : LenB (fq (a * n) d)) (w : World) :
    Calls Try.prog 38 #[.int .i64 a, .int .i64 n, .int .i64 d] w fun e w' => e = .returned (.int .i64 (fq (a * n) d)) ∧ Below w.heap.size w w' := by
  have MD := wide_muldiv_fit a n d ha hn hd ⟨h0, hL.fit⟩
  have hne : (d == 0) = false := by simp [h0]
  obtain ⟨F, eF⟩ : ∃ F, fq (a * n) d = F := ⟨_, rfl⟩
  rw [eF] at MD hL ⊢
  have hF := hL.fit
  clear eF h0
  go_enter Try.func38, Try.ntmps38
  go_wp2_with (first
    | (go_at_call 61; with_reducible refine (MD _).mono ?_; rintro e w1 ⟨rfl, hb1⟩)
    | (go_at_call 55; with_reducible refine (fix_of F hF hL _).mono ?_; rintro e w2 ⟨rfl, rfl⟩))
  go_ret
  exact ⟨rfl, hb1⟩
set_option maxRecDepth 100000 in
set_option maxHeartbeats 1600000 in
theorem fix_part_zero (a n : Int) (w : World) :
    Calls Try.prog 38 #[.int .i64 a, .int .i64 n, .int .i64 0] w fun e w' => e = .panicked (gave 3) ∧ w' = w := by
  go_enter Try.func38, Try.ntmps38
  go_wp2_with (go_at_call 54; with_reducible refine (fix_fail3 _).mono ?_; rintro e w2 ⟨rfl, rfl⟩)
  simp [bodyPost]
set_option maxRecDepth 100000 in
set_option maxHeartbeats 1600000 in
theorem fix_part_no (a n d : Int) (ha : IFit a) (hn : IFit n) (hd : IFit d) (h0 : d ≠ 0) (hL : ¬ LenB (fq (a * n) d)) (w : World) :
    Calls Try.prog 38 #[.int .i64 a, .int .i64 n, .int .i64 d] w fun e w' => e = .panicked (gave 2) ∧ Below w.heap.size w w' := by
  have hne : (d == 0) = false := by simp [h0]
  by_cases hF : IFit (fq (a * n) d)
  · have MD := wide_muldiv_fit a n d ha hn hd ⟨h0, hF⟩
    obtain ⟨F, eF⟩ : ∃ F, fq (a * n) d = F := ⟨_, rfl⟩
    rw [eF] at MD hL hF
    clear eF h0
    go_enter Try.func38, Try.ntmps38
    go_wp2_with (first
      | (go_at_call 61; with_reducible refine (MD _).mono ?_; rintro e w1 ⟨rfl, hb1⟩)
      | (go_at_call 55; with_reducible refine (fix_of_no F hF hL _).mono ?_; rintro e w2 ⟨rfl, rfl⟩))
    simp [bodyPost]; exact hb1
  · have MD := wide_muldiv_no a n d ha hn hd (fun x => hF x.2)
    clear h0
    go_enter Try.func38, Try.ntmps38
    go_wp2_with (first
      | (go_at_call 61; with_reducible refine (MD _).mono ?_; rintro e w1 ⟨rfl, hb1⟩)
      | (go_at_call 54; with_reducible refine (fix_fail2 _).mono ?_; rintro e w2 ⟨rfl, rfl⟩))
    simp [bodyPost]; exact hb1
theorem fq_one (a : Int) : fq a 1 = a := by unfold fq; rw [if_neg (by decide), Int.ediv_one]
/-- A slice's numbers. -/
def IntsAt (w : World) (g off k : Nat) (xs : List Int) : Prop := xs.length = k ∧ (∀ i, i < k → IFit (xs.getD i 0)) ∧ ∀ i, i < k → w.cell? ⟨g, off + i, none⟩ = some (.int .i64 (xs.getD i 0))
/-- The sum, each sum on the way a length. -/
def addS : Int → List Int → Option Int
  | s, [] => some s
  | s, x :: xs => if -17592186044416 ≤ s + clip x ∧ s + clip x ≤ 17592186044416 then addS (s + clip x) xs else none
def AddAns (r : Option Int) (w : World) (e : Ending) (w' : World) : Prop := (match r with | some t => e = .returned (.int .i64 t) | none => e = .panicked (gave 2)) ∧ w' = w
theorem addS_cons_yes {s x : Int} {xs : List Int} (h : LenB (s + clip x)) : addS s (x :: xs) = addS (s + clip x) xs := by rw [addS]; exact if_pos ⟨h.1, h.2⟩
theorem addS_cons_no {s x : Int} {xs : List Int} (h : ¬ LenB (s + clip x)) : addS s (x :: xs) = none := by rw [addS]; exact if_neg (fun x => h ⟨x.1, x.2⟩)
end Go.Proofs.Ytgmnboacehopfaa
namespace Go.Proofs.Ytgmnboacehopfaa
open Go.RowKit
set_option linter.unusedSimpArgs false
set_option linter.unusedVariables false

/-- A block of one cell. -/
def One (w : World) (b : Nat) (T : TypeId) (x : Value) : Prop := w.heap[b]? = some (Obj.cells #[x] T (0, 0))
theorem One.cell {w : World} {b : Nat} {T : TypeId} {x : Value} (h : One w b T x) : w.cell? ⟨b, 0, none⟩ = some x := by rw [cell_of_row w b 0 _ _ _ h]; rfl
theorem One.free {w : World} {b : Nat} {T : TypeId} {x : Value} (h : One w b T x) : w.frozen? ⟨b, 0, none⟩ = false := by simp [World.frozen?, show w.heap[b]? = _ from h]
theorem One.lt {w : World} {b : Nat} {T : TypeId} {x : Value} (h : One w b T x) : b < w.heap.size := (Array.getElem?_eq_some_iff.1 h).1
theorem One.new (w : World) (T : TypeId) (x : Value) (b : Nat) (hb : b = w.heap.size) : One (w.alloc (.cells #[x] T)) b T x := by subst hb; exact heap_alloc_new w _
theorem One.alloc {w : World} {b : Nat} {T : TypeId} {x : Value} (h : One w b T x) (o : Obj) : One (w.alloc o) b T x := (Below.heap_alloc w o _ h.lt).trans h
theorem One.below {w w' : World} {b : Nat} {T : TypeId} {x : Value} (h : One w b T x) (hb : Below w.heap.size w w') : One w' b T x := (hb.block b h.lt).trans h
theorem One.set {w : World} {b : Nat} {T : TypeId} {x : Value} (h : One w b T x) (u : Value) : One (w.setCell ⟨b, 0, none⟩ u) b T u := by
  unfold One at *
  simp only [World.setCell, Array.getElem?_modify, if_true, h]
  rfl
theorem One.other {w : World} {b c : Nat} {T : TypeId} {x : Value} (h : One w b T x) (hc : b ≠ c) (u : Value) : One (w.setCell ⟨c, 0, none⟩ u) b T x := by
  unfold One at *
  rw [Below.heap_setCell _ _ _ _ hc]; exact h
theorem intsAt_new (w : World) (xs : List Int) (k : Nat) (hk : xs.length = k) (hf : ∀ i, i < k → IFit (xs.getD i 0)) : IntsAt (w.alloc (.cells (xs.map fun x => Value.int .i64 x).toArray 2)) w.heap.size 0 k xs := by
  refine ⟨hk, hf, fun i hi => ?_⟩
  rw [cell_of_row _ w.heap.size (0 + i) _ _ _ (heap_alloc_new w _)]
  simp [List.getD, List.getElem?_eq_getElem (show i < xs.length by omega)]

theorem if0 : IFit 0 := by unfold IFit; omega
end Go.Proofs.Ytgmnboacehopfaa
namespace Go.Proofs.Ytgmnboacehopfaa
open Go.RowKit
set_option linter.unusedSimpArgs false
set_option linter.unusedVariables false

/-- Is a whole number a length? -/
def lenB (X : Int) : Bool := decide (-17592186044416 ≤ X) && decide (X ≤ 17592186044416)
theorem lenB_hi {X : Int} (h : ¬ cmpI X 17592186044416 ≤ 0) : lenB X = false := by
  unfold cmpI at h
  unfold lenB
  have : 17592186044416 < X := by
    by_cases h1 : X < 17592186044416
    · rw [if_pos h1] at h; omega
    · rw [if_neg h1] at h
      by_cases h2 : 17592186044416 < X
      · exact h2
      · rw [if_neg h2] at h; omega
  simp; omega
theorem lenB_lo {X : Int} (h : cmpI X 17592186044416 ≤ 0) : lenB X = decide (0 ≤ cmpI X (-17592186044416)) := by
  unfold cmpI at *
  unfold lenB
  have : X ≤ 17592186044416 := by
    by_cases h1 : X < 17592186044416
    · omega
    · rw [if_neg h1] at h
      by_cases h2 : 17592186044416 < X
      · rw [if_pos h2] at h; omega
      · omega
  by_cases h3 : X < -17592186044416
  · simp [h3]; omega
  · simp only [if_neg h3]
    split <;> simp <;> omega

set_option maxRecDepth 100000 in
set_option maxHeartbeats 1600000 in
theorem ref_length (neg : Bool) (ao : Option Addr) (k cap : Nat) (X : Int) (w : World) (h : IsBig w neg ao k cap X) (hk : k ≤ 100000) :
    Calls Try.prog 77 #[.agg #[.bool neg, .slice ao k cap]] w fun e w' => e = .returned (.bool (lenB X)) ∧ Below w.heap.size w w' := by
  obtain ⟨M, eM⟩ : ∃ M : Int, M = 17592186044416 := ⟨_, rfl⟩
  have eP : M = ((2 ^ 44 : Nat) : Int) := by rw [eM]; decide
  have sM : BM.Sz M 4 := by rw [eM]; unfold BM.Sz; decide
  obtain ⟨c1, e1⟩ : ∃ c1, c1 = cmpI X M := ⟨_, rfl⟩
  obtain ⟨c2, e2⟩ : ∃ c2, c2 = cmpI X (-M) := ⟨_, rfl⟩
  have E1 := Lib.hid e1.symm
  have E2 := Lib.hid e2.symm
  have hA : ¬ c1 ≤ 0 → lenB X = false := fun h => lenB_hi (by rw [← eM, ← e1]; exact h)
  have hB : c1 ≤ 0 → lenB X = decide (0 ≤ c2) := fun h => by rw [lenB_lo (by rw [← eM, ← e1]; exact h), ← eM, ← e2]
  have t0 : Two (w.alloc (.cells #[.bool neg, .slice ao k cap] 100)) w.heap.size (.bool neg) (.slice ao k cap) := Two.new w _ _ _ rfl
  clear eM e1 e2
  by_cases hc : c1 ≤ 0
  · have HVV := Lib.hid (hB hc)
    have hd : decide (c1 ≤ 0) = true := by simp [hc]
    clear hA hB hc
    go_enter Try.func77, Try.ntmps77
    go_wp2_with fail
    refine (big_power_lit 44 44 rfl (by omega) M eP _).mono ?_
    rintro e w1 ⟨m3, b3, j3, d3, rfl, hM, hb1⟩
    replace t0 := (t0.below hb1).alloc (.cells #[.bool m3, .slice b3 j3 d3] 100)
    have t1 : Two (w1.alloc (.cells #[.bool m3, .slice b3 j3 d3] 100)) w1.heap.size (.bool m3) (.slice b3 j3 d3) := Two.new w1 _ _ _ rfl
    replace hM := hM.keep (w' := w1.alloc (.cells #[.bool m3, .slice b3 j3 d3] 100)) (by repeat' (first | (with_reducible exact Below.refl _ _) | (with_reducible assumption) | (with_reducible refine below_alloc ?_ _ ?_) | (with_reducible refine below_set _ ?_ ?_) | (with_reducible refine Below.drew ?_) | (with_reducible refine below_dN ?_ _) | (apply below_thenA; assumption) | omega | (simp; done) | (simp; omega) | (simp [*]; done)))
    have hx := ((h.keep (w' := w.alloc (.cells #[.bool neg, .slice ao k cap] 100)) (by repeat' (first | (with_reducible exact Below.refl _ _) | (with_reducible assumption) | (with_reducible refine below_alloc ?_ _ ?_) | (with_reducible refine below_set _ ?_ ?_) | (with_reducible refine Below.drew ?_) | (with_reducible refine below_dN ?_ _) | (apply below_thenA; assumption) | omega | (simp; done) | (simp; omega) | (simp [*]; done)))).keep hb1).keep (w' := w1.alloc (.cells #[.bool m3, .slice b3 j3 d3] 100)) (by repeat' (first | (with_reducible exact Below.refl _ _) | (with_reducible assumption) | (with_reducible refine below_alloc ?_ _ ?_) | (with_reducible refine below_set _ ?_ ?_) | (with_reducible refine Below.drew ?_) | (with_reducible refine below_dN ?_ _) | (apply below_thenA; assumption) | omega | (simp; done) | (simp; omega) | (simp [*]; done)))
    have hs1 : w.heap.size + 1 ≤ w1.heap.size := by have := hb1.size; simpa using this
    have hB1 : Below w.heap.size w (w1.alloc (.cells #[.bool m3, .slice b3 j3 d3] 100)) := (by repeat' (first | (with_reducible exact Below.refl _ _) | (with_reducible assumption) | (with_reducible refine below_alloc ?_ _ ?_) | (with_reducible refine below_set _ ?_ ?_) | (with_reducible refine Below.drew ?_) | (with_reducible refine below_dN ?_ _) | (apply below_thenA; assumption) | omega | (simp; done) | (simp; omega) | (simp [*]; done)))
    have hq : Below (w1.alloc (.cells #[.bool m3, .slice b3 j3 d3] 100)).heap.size (w1.alloc (.cells #[.bool m3, .slice b3 j3 d3] 100)) (w1.alloc (.cells #[.bool m3, .slice b3 j3 d3] 100)) := Below.refl _ _
    have hfin : ∀ w', Below (w1.alloc (.cells #[.bool m3, .slice b3 j3 d3] 100)).heap.size (w1.alloc (.cells #[.bool m3, .slice b3 j3 d3] 100)) w' → Below w.heap.size w w' := fun w' h' => hB1.trans (h'.mono hB1.size)
    clear hb1 hB1 hs1
    obtain ⟨q1, q2, q3, q4⟩ := t0.cells
    obtain ⟨r1, r2, r3, r4⟩ := t1.cells
    go_wp2_with fail
    go_region_held3 (fun w' => w'.cell? ⟨w.heap.size, 0, none⟩ = some (.bool neg) ∧ w'.cell? ⟨w.heap.size, 1, none⟩ = some (.slice ao k cap) ∧ w'.cell? ⟨w1.heap.size, 0, none⟩ = some (.bool m3) ∧ w'.cell? ⟨w1.heap.size, 1, none⟩ = some (.slice b3 j3 d3))
      (first | exact ⟨q1, q2, r1, r2⟩ | go_keep)
      (first
      | (go_at_call 51; with_reducible refine (big_cmp neg m3 ao b3 k j3 cap d3 X M _ (hx.keep (Below.drew hq)) (hM.keep (Below.drew hq)) ?_ ?_).mono ?_; omega; (have := hM.le sM; omega); rintro e w5 ⟨rfl, hb4⟩; rw [E1.out]; (try replace hb4 := below_undrew hb4); replace hq := below_step hq hb4; replace t0 := t0.below hb4; replace t1 := t1.below hb4; obtain ⟨q1, q2, q3, q4⟩ := t0.cells; obtain ⟨r1, r2, r3, r4⟩ := t1.cells)
      | (go_at_call 70; with_reducible refine (big_minus m3 b3 j3 d3 M _ (hM.keep hq) ?_).mono ?_; (have := hM.le sM; omega); rintro e w6 hB6; obtain ⟨n6, a6, k6, c6, rfl, hI6, hb4⟩ := hB6.out; (try replace hb4 := below_undrew hb4); replace hq := below_step hq hb4; replace t0 := t0.below hb4; replace t1 := t1.below hb4; obtain ⟨q1, q2, q3, q4⟩ := t0.cells; obtain ⟨r1, r2, r3, r4⟩ := t1.cells)
      | (go_at_call 51; with_reducible refine (big_cmp neg n6 ao a6 k k6 cap c6 X (-M) _ (hx.keep hq) hI6 ?_ ?_).mono ?_; omega; (have := hI6.le sM.neg; omega); rintro e w7 ⟨rfl, hb4⟩; rw [E2.out]; (try replace hb4 := below_undrew hb4); replace hq := below_step hq hb4; replace t0 := t0.below hb4; replace t1 := t1.below hb4; obtain ⟨q1, q2, q3, q4⟩ := t0.cells; obtain ⟨r1, r2, r3, r4⟩ := t1.cells))
    go_wp2_with fail
    go_ret
    exact ⟨by rw [HVV.out]; rfl, hfin _ hq⟩
  · have HVV := Lib.hid (hA hc)
    have hd : decide (c1 ≤ 0) = false := by simp; omega
    clear hA hB
    go_enter Try.func77, Try.ntmps77
    go_wp2_with fail
    refine (big_power_lit 44 44 rfl (by omega) M eP _).mono ?_
    rintro e w1 ⟨m3, b3, j3, d3, rfl, hM, hb1⟩
    replace t0 := (t0.below hb1).alloc (.cells #[.bool m3, .slice b3 j3 d3] 100)
    have t1 : Two (w1.alloc (.cells #[.bool m3, .slice b3 j3 d3] 100)) w1.heap.size (.bool m3) (.slice b3 j3 d3) := Two.new w1 _ _ _ rfl
    replace hM := hM.keep (w' := w1.alloc (.cells #[.bool m3, .slice b3 j3 d3] 100)) (by repeat' (first | (with_reducible exact Below.refl _ _) | (with_reducible assumption) | (with_reducible refine below_alloc ?_ _ ?_) | (with_reducible refine below_set _ ?_ ?_) | (with_reducible refine Below.drew ?_) | (with_reducible refine below_dN ?_ _) | (apply below_thenA; assumption) | omega | (simp; done) | (simp; omega) | (simp [*]; done)))
    have hx := ((h.keep (w' := w.alloc (.cells #[.bool neg, .slice ao k cap] 100)) (by repeat' (first | (with_reducible exact Below.refl _ _) | (with_reducible assumption) | (with_reducible refine below_alloc ?_ _ ?_) | (with_reducible refine below_set _ ?_ ?_) | (with_reducible refine Below.drew ?_) | (with_reducible refine below_dN ?_ _) | (apply below_thenA; assumption) | omega | (simp; done) | (simp; omega) | (simp [*]; done)))).keep hb1).keep (w' := w1.alloc (.cells #[.bool m3, .slice b3 j3 d3] 100)) (by repeat' (first | (with_reducible exact Below.refl _ _) | (with_reducible assumption) | (with_reducible refine below_alloc ?_ _ ?_) | (with_reducible refine below_set _ ?_ ?_) | (with_reducible refine Below.drew ?_) | (with_reducible refine below_dN ?_ _) | (apply below_thenA; assumption) | omega | (simp; done) | (simp; omega) | (simp [*]; done)))
    have hs1 : w.heap.size + 1 ≤ w1.heap.size := by have := hb1.size; simpa using this
    have hB1 : Below w.heap.size w (w1.alloc (.cells #[.bool m3, .slice b3 j3 d3] 100)) := (by repeat' (first | (with_reducible exact Below.refl _ _) | (with_reducible assumption) | (with_reducible refine below_alloc ?_ _ ?_) | (with_reducible refine below_set _ ?_ ?_) | (with_reducible refine Below.drew ?_) | (with_reducible refine below_dN ?_ _) | (apply below_thenA; assumption) | omega | (simp; done) | (simp; omega) | (simp [*]; done)))
    have hq : Below (w1.alloc (.cells #[.bool m3, .slice b3 j3 d3] 100)).heap.size (w1.alloc (.cells #[.bool m3, .slice b3 j3 d3] 100)) (w1.alloc (.cells #[.bool m3, .slice b3 j3 d3] 100)) := Below.refl _ _
    have hfin : ∀ w', Below (w1.alloc (.cells #[.bool m3, .slice b3 j3 d3] 100)).heap.size (w1.alloc (.cells #[.bool m3, .slice b3 j3 d3] 100)) w' → Below w.heap.size w w' := fun w' h' => hB1.trans (h'.mono hB1.size)
    clear hb1 hB1 hs1
    obtain ⟨q1, q2, q3, q4⟩ := t0.cells
    obtain ⟨r1, r2, r3, r4⟩ := t1.cells
    go_wp2_with fail
    go_region_with (first
      | (go_at_call 51; with_reducible refine (big_cmp neg m3 ao b3 k j3 cap d3 X M _ (hx.keep (Below.drew hq)) (hM.keep (Below.drew hq)) ?_ ?_).mono ?_; omega; (have := hM.le sM; omega); rintro e w5 ⟨rfl, hb4⟩; rw [E1.out]; (try replace hb4 := below_undrew hb4); replace hq := below_step hq hb4; replace t0 := t0.below hb4; replace t1 := t1.below hb4; obtain ⟨q1, q2, q3, q4⟩ := t0.cells; obtain ⟨r1, r2, r3, r4⟩ := t1.cells)
      | (go_at_call 70; with_reducible refine (big_minus m3 b3 j3 d3 M _ (hM.keep hq) ?_).mono ?_; (have := hM.le sM; omega); rintro e w6 hB6; obtain ⟨n6, a6, k6, c6, rfl, hI6, hb4⟩ := hB6.out; (try replace hb4 := below_undrew hb4); replace hq := below_step hq hb4; replace t0 := t0.below hb4; replace t1 := t1.below hb4; obtain ⟨q1, q2, q3, q4⟩ := t0.cells; obtain ⟨r1, r2, r3, r4⟩ := t1.cells)
      | (go_at_call 51; with_reducible refine (big_cmp neg n6 ao a6 k k6 cap c6 X (-M) _ (hx.keep hq) hI6 ?_ ?_).mono ?_; omega; (have := hI6.le sM.neg; omega); rintro e w7 ⟨rfl, hb4⟩; rw [E2.out]; (try replace hb4 := below_undrew hb4); replace hq := below_step hq hb4; replace t0 := t0.below hb4; replace t1 := t1.below hb4; obtain ⟨q1, q2, q3, q4⟩ := t0.cells; obtain ⟨r1, r2, r3, r4⟩ := t1.cells))
    all_goals
      go_wp2_with fail
      go_ret
      exact ⟨by rw [HVV.out]; rfl, hfin _ hq⟩
set_option maxRecDepth 100000 in
set_option maxHeartbeats 1600000 in
theorem ref_told (neg : Bool) (ao : Option Addr) (k cap : Nat) (X : Int) (w : World) (h : IsBig w neg ao k cap X) (hk : k ≤ 100000) :
    Calls Try.prog 58 #[.agg #[.bool neg, .slice ao k cap]] w fun e w' => e = .returned (.tuple #[.int .i64 (if lenB X then X else 0), .int .i64 (if lenB X then 0 else 2)]) ∧ Below w.heap.size w w' := by
  have LN := fun W (hW : IsBig W neg ao k cap X) => ref_length neg ao k cap X W hW hk
  have IN := fun W (hW : IsBig W neg ao k cap X) => big_int neg ao k cap X W hW hk
  have t0 : Two (w.alloc (.cells #[.bool neg, .slice ao k cap] 100)) w.heap.size (.bool neg) (.slice ao k cap) := Two.new w _ _ _ rfl
  have hx := h.keep (w' := w.alloc (.cells #[.bool neg, .slice ao k cap] 100)) (by repeat' (first | (with_reducible exact Below.refl _ _) | (with_reducible assumption) | (with_reducible refine below_alloc ?_ _ ?_) | (with_reducible refine below_set _ ?_ ?_) | (with_reducible refine Below.drew ?_) | (with_reducible refine below_dN ?_ _) | (apply below_thenA; assumption) | omega | (simp; done) | (simp; omega) | (simp [*]; done)))
  have hB : Below w.heap.size w (w.alloc (.cells #[.bool neg, .slice ao k cap] 100)) := (by repeat' (first | (with_reducible exact Below.refl _ _) | (with_reducible assumption) | (with_reducible refine below_alloc ?_ _ ?_) | (with_reducible refine below_set _ ?_ ?_) | (with_reducible refine Below.drew ?_) | (with_reducible refine below_dN ?_ _) | (apply below_thenA; assumption) | omega | (simp; done) | (simp; omega) | (simp [*]; done)))
  obtain ⟨q1, q2, q3, q4⟩ := t0.cells
  clear h
  cases hl : lenB X
  · rw [hl] at LN
    clear hl
    go_enter Try.func58, Try.ntmps58
    go_wp2_with fail
    refine (LN _ hx).mono ?_
    rintro e w1 ⟨rfl, hb1⟩
    replace hB := hB.trans (hb1.mono hB.size)
    go_wp2_with fail
    go_ret2
    exact ⟨rfl, hB⟩
  · have hfit : intB X = true := by unfold lenB at hl; unfold intB; simp at hl ⊢; omega
    have hV : intV X = X := by unfold intV; rw [hfit]; rfl
    rw [hl] at LN
    rw [hV] at IN
    clear hl hfit hV
    go_enter Try.func58, Try.ntmps58
    go_wp2_with fail
    refine (LN _ hx).mono ?_
    rintro e w1 ⟨rfl, hb1⟩
    replace hB := hB.trans (hb1.mono hB.size)
    replace t0 := t0.below hb1
    replace hx := hx.keep hb1
    clear q1 q2 q3 q4
    obtain ⟨q1, q2, q3, q4⟩ := t0.cells
    go_wp2_with fail
    refine (IN _ hx).mono ?_
    rintro e w2 ⟨rfl, hb2⟩
    replace hB := hB.trans (hb2.mono hB.size)
    go_wp2_with fail
    go_ret2
    exact ⟨rfl, hB⟩
end Go.Proofs.Ytgmnboacehopfaa
namespace Go.Proofs.Ytgmnboacehopfaa
open Go.RowKit
set_option linter.unusedSimpArgs false
set_option linter.unusedVariables false

/-- A number, or a giving up. -/
def Gives (n c : Int) (w : World) (e : Ending) (w' : World) : Prop := (c = 0 → e = .returned (.int .i64 n)) ∧ (c ≠ 0 → e = .panicked (gave c)) ∧ Below w.heap.size w w'
def partE (a n d : Int) : Int := if d = 0 then 3 else if lenB (fq (a * n) d) then 0 else 2
def partN (a n d : Int) : Int := if d = 0 then 0 else if lenB (fq (a * n) d) then fq (a * n) d else 0
theorem lenB_iff (X : Int) : lenB X = true ↔ LenB X := by unfold lenB LenB; simp
theorem fix_part_any (a n d : Int) (ha : IFit a) (hn : IFit n) (hd : IFit d) (w : World) :
    Calls Try.prog 38 #[.int .i64 a, .int .i64 n, .int .i64 d] w (Gives (partN a n d) (partE a n d) w) := by
  unfold Gives partN partE
  by_cases h0 : d = 0
  · subst h0
    refine (fix_part_zero a n w).mono fun e w' h => ?_
    obtain ⟨rfl, rfl⟩ := h
    exact ⟨fun h => by simp at h, fun _ => by simp, Below.refl _ _⟩
  · simp only [if_neg h0]
    cases hl : lenB (fq (a * n) d)
    · exact (fix_part_no a n d ha hn hd h0 (fun h => by rw [(lenB_iff _).2 h] at hl; cases hl) w).mono fun e w' h => ⟨fun h => by simp at h, fun _ => h.1, h.2⟩
    · exact (fix_part a n d ha hn hd h0 ((lenB_iff _).1 hl) w).mono fun e w' h => ⟨fun _ => h.1, fun h => by simp at h, h.2⟩
def scaleE (n p q : Int) : Int := if goodB p q then partE n p q else 1
def scaleN (n p q : Int) : Int := if goodB p q then partN n p q else 0
theorem goodB_pos {p q : Int} (h : goodB p q = true) : 1 ≤ q := by unfold goodB at h; simp at h; omega
set_option maxRecDepth 100000 in
set_option maxHeartbeats 1600000 in
theorem fix_scale (n p q : Int) (hn : IFit n) (hp : IFit p) (hq : IFit q) (w : World) :
    Calls Try.prog 31 #[.int .i64 n, .agg #[.int .i64 p, .int .i64 q]] w (Gives (scaleN n p q) (scaleE n p q) w) := by
  have DN := fun W => rat_down n p q hn hp hq W
  have t := Rx.new w (.int .i64 p) (.int .i64 q) _ rfl
  have hB : Below w.heap.size w (w.alloc (.cells #[.int .i64 p, .int .i64 q] 51)) := (by repeat' (first | (with_reducible exact Below.refl _ _) | (with_reducible assumption) | (with_reducible refine below_alloc ?_ _ ?_) | (with_reducible refine below_set _ ?_ ?_) | (with_reducible refine Below.drew ?_) | (with_reducible refine below_dN ?_ _) | (apply below_thenA; assumption) | omega | (simp; done) | (simp; omega) | (simp [*]; done)))
  obtain ⟨p1, p2, p3, p4⟩ := t.cells
  unfold scaleN scaleE partN partE
  cases hg : goodB p q
  · have D1 := fun W => (DN W).mono fun _ _ h => (⟨h.1 hg, h.2.2.2⟩ : _ ∧ _)
    clear DN hg hn hp hq
    go_enter Try.func31, Try.ntmps31
    go_wp2_with fail
    refine (D1 _).mono ?_
    rintro e w1 ⟨rfl, hb1⟩
    replace hB := hB.trans (hb1.mono hB.size)
    go_wp2_with (go_at_call 54; with_reducible refine (fix_fail 1 (by decide) _).mono ?_; rintro e w2 ⟨rfl, rfl⟩)
    simp [bodyPost, Gives]
    exact hB
  · have hq1 := goodB_pos hg
    have h0 : ¬ q = 0 := by omega
    simp only [if_neg h0]
    by_cases hf : IFit (fq (n * p) q)
    · have D1 := fun W => (DN W).mono fun _ _ h => (⟨h.2.1 hg hf, h.2.2.2⟩ : _ ∧ _)
      cases hl : lenB (fq (n * p) q)
      · have OF := fun W => fix_of_no (fq (n * p) q) hf (fun h => by rw [(lenB_iff _).2 h] at hl; cases hl) W
        obtain ⟨F, eF⟩ : ∃ F, fq (n * p) q = F := ⟨_, rfl⟩
        rw [eF] at D1 OF
        clear DN hg hn hp hq eF hl hf hq1 h0
        go_enter Try.func31, Try.ntmps31
        go_wp2_with fail
        refine (D1 _).mono ?_
        rintro e w1 ⟨rfl, hb1⟩
        replace hB := hB.trans (hb1.mono hB.size)
        go_wp2_with (first
          | (go_at_call 54; with_reducible refine (fix_fail0 _).mono ?_; rintro e w2 ⟨rfl, rfl⟩)
          | (go_at_call 55; with_reducible refine (OF _).mono ?_; rintro e w2 ⟨rfl, rfl⟩))
        simp [bodyPost, Gives]
        exact hB
      · have OF := fun W => fix_of (fq (n * p) q) hf ((lenB_iff _).1 hl) W
        obtain ⟨F, eF⟩ : ∃ F, fq (n * p) q = F := ⟨_, rfl⟩
        rw [eF] at D1 OF ⊢
        clear DN hg hn hp hq eF hl hf hq1 h0
        go_enter Try.func31, Try.ntmps31
        go_wp2_with fail
        refine (D1 _).mono ?_
        rintro e w1 ⟨rfl, hb1⟩
        replace hB := hB.trans (hb1.mono hB.size)
        go_wp2_with (first
          | (go_at_call 54; with_reducible refine (fix_fail0 _).mono ?_; rintro e w2 ⟨rfl, rfl⟩)
          | (go_at_call 55; with_reducible refine (OF _).mono ?_; rintro e w2 ⟨rfl, rfl⟩))
        go_ret
        exact ⟨fun _ => rfl, fun h => absurd rfl h, hB⟩
    · have D1 := fun W => (DN W).mono fun _ _ h => (⟨h.2.2.1 hg hf, h.2.2.2⟩ : _ ∧ _)
      have hl : lenB (fq (n * p) q) = false := by
        rw [Bool.eq_false_iff]; intro h; exact hf ((lenB_iff _).1 h).fit
      rw [hl]
      clear DN hg hn hp hq hl hf hq1 h0
      go_enter Try.func31, Try.ntmps31
      go_wp2_with fail
      refine (D1 _).mono ?_
      rintro e w1 ⟨rfl, hb1⟩
      replace hB := hB.trans (hb1.mono hB.size)
      go_wp2_with (go_at_call 54; with_reducible refine (fix_fail2 _).mono ?_; rintro e w2 ⟨rfl, rfl⟩)
      simp [bodyPost, Gives]
      exact hB
/-- A closure that puts a number into a block's cell, or gives up. -/
def Puts (b off : Nat) (n c : Int) (w : World) (e : Ending) (w' : World) : Prop :=
  (c = 0 → e = .returned (.tuple #[]) ∧ ∃ w3, Below w.heap.size w w3 ∧ w' = w3.setCell ⟨b, off, none⟩ (.int .i64 n)) ∧ (c ≠ 0 → e = .panicked (gave c) ∧ Below w.heap.size w w')
theorem try_puts (F : Nat) (cap : Array Value) (b off : Nat) (n c : Int) (w : World) (cs : Array Value) (T : TypeId) (hb : Blk w b cs T) (hen : ∀ w, (callFunc F cap).run Try.prog w = .ok (.enter F cap) w)
    (h : ∀ W, Below w.heap.size w W → Calls Try.prog F cap W (Puts b off n c W)) :
    Calls Try.prog 12 #[.func (.func F) #[] cap] w fun e w' => e = .returned (.int .i64 c) ∧ But b w w' ∧ Blk w' b (if c = 0 then cs.setIfInBounds off (.int .i64 n) else cs) T := by
  have hlt := hb.lt
  have o1 : Blk (w.alloc (.cells #[.int .i64 0] 36)) w.heap.size #[.int .i64 0] 36 := Blk.new w _ _ _ rfl
  have b1 := hb.alloc (.cells #[.int .i64 0] 36)
  refine (fix_try F cap w (fun c' w1 => c' = c ∧ But b (w.alloc (.cells #[.int .i64 0] 36)) w1 ∧ Blk w1 b (if c = 0 then cs.setIfInBounds off (.int .i64 n) else cs) T) hen ((h _ (by repeat' (first | (with_reducible exact Below.refl _ _) | (with_reducible assumption) | (with_reducible refine below_alloc ?_ _ ?_) | (with_reducible refine below_set _ ?_ ?_) | (with_reducible refine Below.drew ?_) | (with_reducible refine below_dN ?_ _) | (apply below_thenA; assumption) | omega | (simp; done) | (simp; omega) | (simp [*]; done)))).mono fun e w1 x => ?_)).mono fun e w' x => ?_
  · by_cases hc : c = 0
    · obtain ⟨rfl, w3, hb3, rfl⟩ := x.1 hc
      have o3 := (o1.below hb3).other (c := b) (by omega) off (.int .i64 n)
      refine ⟨o3.cell 0 _ rfl, o3.free 0, .inl ⟨rfl, hc.symm, (But.of hb3).trans (But.set _ _ _), ?_⟩⟩
      rw [if_pos hc]
      exact (b1.below hb3).set _ _
    · obtain ⟨rfl, hb3⟩ := x.2 hc
      have o3 := o1.below hb3
      refine ⟨o3.cell 0 _ rfl, o3.free 0, .inr ⟨c, rfl, rfl, But.of hb3, ?_⟩⟩
      rw [if_neg hc]
      exact b1.below hb3
  · obtain ⟨c', w1, ⟨rfl, hbut, hblk⟩, rfl, rfl⟩ := x
    refine ⟨rfl, ((But.of (b := b) (show Below w.heap.size w (w.alloc (.cells #[.int .i64 0] 36)) from (by repeat' (first | (with_reducible exact Below.refl _ _) | (with_reducible assumption) | (with_reducible refine below_alloc ?_ _ ?_) | (with_reducible refine below_set _ ?_ ?_) | (with_reducible refine Below.drew ?_) | (with_reducible refine below_dN ?_ _) | (apply below_thenA; assumption) | omega | (simp; done) | (simp; omega) | (simp [*]; done))))).trans hbut).setNew (Nat.le_refl _) _ _, hblk.other (by omega) _ _⟩
/-- Try over a closure that turns some old blocks. -/
theorem try_blks (F : Nat) (cap : Array Value) (c : Int) (L : List (Nat × Array Value × TypeId)) (w : World) (hl : ∀ e, e ∈ L → e.1 < w.heap.size) (hen : ∀ w, (callFunc F cap).run Try.prog w = .ok (.enter F cap) w)
    (h : ∀ W, Below w.heap.size w W → Calls Try.prog F cap W fun e W' => (c = 0 → e = .returned (.tuple #[])) ∧ (c ≠ 0 → e = .panicked (gave c)) ∧ BlkL W' L ∧ ButL (L.map (·.1)) W W') :
    Calls Try.prog 12 #[.func (.func F) #[] cap] w fun e w' => e = .returned (.int .i64 c) ∧ BlkL w' L ∧ ButL (L.map (·.1)) w w' := by
  have o1 : Blk (w.alloc (.cells #[.int .i64 0] 36)) w.heap.size #[.int .i64 0] 36 := Blk.new w _ _ _ rfl
  have hnew : w.heap.size ∉ L.map (·.1) := fun hm => by
    obtain ⟨e, he, e2⟩ := List.mem_map.1 hm
    have := hl e he
    omega
  refine (fix_try F cap w (fun c' w1 => c' = c ∧ BlkL w1 L ∧ ButL (L.map (·.1)) (w.alloc (.cells #[.int .i64 0] 36)) w1) hen ((h _ (by repeat' (first | (with_reducible exact Below.refl _ _) | (with_reducible assumption) | (with_reducible refine below_alloc ?_ _ ?_) | (with_reducible refine below_set _ ?_ ?_) | (with_reducible refine Below.drew ?_) | (with_reducible refine below_dN ?_ _) | (apply below_thenA; assumption) | omega | (simp; done) | (simp; omega) | (simp [*]; done)))).mono fun e w1 x => ?_)).mono fun e w' x => ?_
  · obtain ⟨x1, x2, x3, x4⟩ := x
    have o3 := o1.butl x4 hnew
    refine ⟨o3.cell 0 _ rfl, o3.free 0, ?_⟩
    by_cases hc : c = 0
    · exact .inl ⟨x1 hc, hc.symm, x3, x4⟩
    · exact .inr ⟨c, x2 hc, rfl, x3, x4⟩
  · obtain ⟨c', w1, ⟨rfl, hblk, hbut⟩, rfl, rfl⟩ := x
    refine ⟨rfl, fun e he => (hblk e he).other (Nat.ne_of_lt (hl e he)) _ _, ((ButL.of (l := L.map (·.1)) (show Below w.heap.size w (w.alloc (.cells #[.int .i64 0] 36)) from (by repeat' (first | (with_reducible exact Below.refl _ _) | (with_reducible assumption) | (with_reducible refine below_alloc ?_ _ ?_) | (with_reducible refine below_set _ ?_ ?_) | (with_reducible refine Below.drew ?_) | (with_reducible refine below_dN ?_ _) | (apply below_thenA; assumption) | omega | (simp; done) | (simp; omega) | (simp [*]; done))))).trans hbut).setNew (Nat.le_refl _) _ _⟩
set_option maxRecDepth 100000 in
set_option maxHeartbeats 3200000 in
theorem ref4_part (a n d : Int) (ha : IFit a) (hn : IFit n) (hd : IFit d) (w : World) :
    Calls Try.prog 33 #[.int .i64 a, .int .i64 n, .int .i64 d] w fun e w' => e = .returned (.tuple #[.int .i64 (partN a n d), .int .i64 (partE a n d)]) ∧ Below w.heap.size w w' := by
  unfold partN partE
  by_cases h0 : d = 0
  · subst h0
    simp only [if_true]
    clear ha hn hd
    go_enter Try.func33, Try.ntmps33
    go_wp2_with fail
    go_ret2
    exact ⟨rfl, Below.refl _ _⟩
  · simp only [if_neg h0]
    have hd0 : (d == 0) = false := by simp [h0]
    obtain ⟨x1, x2⟩ := ha
    obtain ⟨n1, n2⟩ := hn
    obtain ⟨d1, d2⟩ := hd
    have sx := BM.Sz.i64 x1 x2
    have sn := BM.Sz.i64 n1 n2
    have sd := BM.Sz.i64 d1 d2
    have sxn := BM.Sz.mul sx sn
    have sF : BM.Sz (fq (a * n) d) (4 + 4) := sxn.le (fq_abs h0)
    have DN := fun na nb ax bx k m ca cb W (h1 : IsBig W na ax k ca (a * n)) (h2 : IsBig W nb bx m cb d) hk hm => big_down na nb ax bx k m ca cb (a * n) d W h1 h2 hk hm h0
    obtain ⟨F, eF⟩ : ∃ F, fq (a * n) d = F := ⟨_, rfl⟩
    obtain ⟨R, eR⟩ : ∃ R, fr (a * n) d = R := ⟨_, rfl⟩
    rw [eF, eR] at DN
    rw [eF] at sF ⊢
    have TL := fun neg ao k cap W h hk => ref_told neg ao k cap F W h hk
    obtain ⟨V, eV⟩ : ∃ V : Int, (if lenB F then F else 0) = V := ⟨_, rfl⟩
    obtain ⟨E, eE⟩ : ∃ E : Int, (if lenB F then 0 else 2) = E := ⟨_, rfl⟩
    rw [eV, eE] at TL ⊢
    clear eF eR h0 eV eE
    go_enter Try.func33, Try.ntmps33
    go_wp2_with fail
    refine (big_of a x1 x2 _).mono ?_
    rintro e w1 ⟨a1, a2, a3, a4, rfl, I1, hB⟩
    go_wp2_with fail
    refine (big_of n n1 n2 _).mono ?_
    rintro e w2 ⟨b1, b2, b3, b4, rfl, I2, hb2⟩
    replace hB := hB.trans (hb2.mono hB.size)
    replace I1 := I1.keep hb2
    have k1 := I1.le sx
    have k2 := I2.le sn
    go_wp2_with fail
    refine (big_times a1 b1 a2 b2 a3 b3 a4 b4 a n _ I1 I2 (by omega) (by omega)).mono ?_
    rintro e w3 ⟨c1, c2, c3, c4, rfl, I3, hb3⟩
    replace hB := hB.trans (hb3.mono hB.size)
    go_wp2_with fail
    refine (big_of d d1 d2 _).mono ?_
    rintro e w4 ⟨f1, f2, f3, f4, rfl, I4, hb4⟩
    replace hB := hB.trans (hb4.mono hB.size)
    replace I3 := I3.keep hb4
    have k3 := I3.le sxn
    have k4 := I4.le sd
    clear I1 I2 hb2 hb3 hb4
    go_wp2_with fail
    refine (DN c1 f1 c2 f2 c3 f3 c4 f4 _ I3 I4 (by omega) (by omega)).mono ?_
    rintro e w5 hR
    obtain ⟨qn, qa, qk, qc, rn, ra, rk, rc, rfl, IQ, IR, hb5⟩ := hR.out
    replace hB := hB.trans (hb5.mono hB.size)
    have kq := IQ.le sF
    clear hR hb5 I3 I4 DN IR
    go_wp2_with fail
    refine (TL qn qa qk qc _ (IQ.keep (by repeat' (first | (with_reducible exact Below.refl _ _) | (with_reducible assumption) | (with_reducible refine below_alloc ?_ _ ?_) | (with_reducible refine below_set _ ?_ ?_) | (with_reducible refine Below.drew ?_) | (with_reducible refine below_dN ?_ _) | (apply below_thenA; assumption) | omega | (simp; done) | (simp; omega) | (simp [*]; done)))) (by omega)).mono ?_
    rintro e w6 ⟨rfl, hb6⟩
    have hz5 := hB.size
    have hB2 : Below w.heap.size w ((w5.alloc (.cells #[.bool qn, .slice qa qk qc] 100)).alloc (.cells #[.bool rn, .slice ra rk rc] 100)) := (by repeat' (first | (with_reducible exact Below.refl _ _) | (with_reducible assumption) | (with_reducible refine below_alloc ?_ _ ?_) | (with_reducible refine below_set _ ?_ ?_) | (with_reducible refine Below.drew ?_) | (with_reducible refine below_dN ?_ _) | (apply below_thenA; assumption) | omega | (simp; done) | (simp; omega) | (simp [*]; done)))
    replace hB := hB2.trans (hb6.mono hB2.size)
    go_wp2_with fail
    go_ret2
    exact ⟨rfl, hB⟩
end Go.Proofs.Ytgmnboacehopfaa
namespace Go.Proofs.Ytgmnboacehopfaa
open Go.ChangeShapes Go.WideShapes Go.ChangeAt Go.RowKit
section
variable {H : Type} {enc : TypeId × Value → H} {P : Program}
theorem post_below {f : Func} {s : ChangeSpec} {apart fresh handsOn : Bool} {W W' : World} {args : Array Value} {v : Value} {ds gs : List (DataW H)} {before pa pv : List MemPlace}
    (hW : DataW.Whole enc P f.params.toList s.vars apart W args.toList ds gs before)
    (hres : ∀ (b : Nat) (sp : Nat → Bool) (hd : Bool), DataW.TrodAll enc P W' b sp hd f.resultTypes.toList (v.resultList f.resultTypes.size) (s.fn H (ds ++ gs)).results [])
    (hargs : ∀ sp : Nat → Bool, (∀ p ∈ before, sp p.block = true) → DataW.TrodAll enc P W' 0 sp true f.params.toList args.toList (s.fn H (ds ++ gs)).args pa)
    (hvars : ∀ sp : Nat → Bool, (∀ p ∈ before, sp p.block = true) → DataW.TrodVars enc P W' sp s.vars (s.fn H (ds ++ gs)).vars pv)
    (hps : before = pa ++ pv) (hb : Below W.heap.size W W') :
    s.post enc P f apart fresh handsOn false W args v W' := by
  have hold : ∀ p ∈ before, (fun b => decide (b < W.heap.size)) p.block = true := fun p hp => by simpa using hW.lt p hp
  refine ⟨ds, gs, before, [], pa, pv, hW, hres _ _ _, hargs _ hold, hvars _ hold, World.keptBut_mono (fun p hp => ⟨hp, ?_⟩) (hb.frame _), fun h => by cases h⟩
  rw [hps, List.mem_append] at hp
  exact Or.inr hp
end
theorem fit_of_wf {x : Int} (h : (Lit.int .i64 x).wf = true) : -9223372036854775808 ≤ x ∧ x ≤ 9223372036854775807 := by
  simp [Lit.wf, IntKind.min, IntKind.max, IntKind.signed, IntKind.bits] at h
  exact ⟨by omega, by omega⟩
theorem fitu_of_wf {x : Int} (h : (Lit.int .u64 x).wf = true) : 0 ≤ x ∧ x ≤ 18446744073709551615 := by
  simp [Lit.wf, IntKind.min, IntKind.max, IntKind.signed, IntKind.bits] at h
  exact ⟨by omega, by omega⟩
theorem wd_of_wf {h l : Int} (w0 : (Lit.int .i64 h).wf = true) (w1 : (Lit.int .u64 l).wf = true) : Wd h l (h * 18446744073709551616 + l) := by
  have a := fit_of_wf w0
  have b := fitu_of_wf w1
  exact ⟨a.1, a.2, b.1, b.2, rfl⟩
end Go.Proofs.Ytgmnboacehopfaa
namespace Go.Proofs.Ytgmnboacehopfaa
open Go.ChangeShapes Go.WideShapes Go.ChangeAt Go.RowKit Go.Joins Go.Deep
set_option linter.unusedVariables false
section
variable {H : Type} {enc : TypeId × Value → H} {P : Program}
theorem trodAll_carry {w w' : World} {base : Nat} {spare : Nat → Bool} {held : Bool} : ∀ {ts : List TypeId} {vs : List Value} {ds : List (DataW H)} {ps : List MemPlace},
    DataW.TrodAll enc P w base spare held ts vs ds ps → (∀ p ∈ ps, w.sameAt w' p) → DataW.TrodAll enc P w' base spare held ts vs ds ps
  | [], [], [], _, h, _ => h
  | _ :: _, _ :: _, _ :: _, _, ⟨p, q, ⟨n, h1⟩, h2, e⟩, hs =>
    ⟨p, q, ⟨n, DataW.trod_carry n _ _ _ h1 fun x hx => hs x (by rw [e]; exact List.mem_append_left _ hx)⟩, trodAll_carry h2 fun x hx => hs x (by rw [e]; exact List.mem_append_right _ hx), e⟩
/-- Behind a walk of a law: true; the arguments read as they did. -/
theorem post_law (hl : laidOutB P = true) (hm : mapsRowed P = true) (hz : ∀ t e, t < P.types.size → P.underlying t = some (.slice e) → 0 < P.cellsOf e)
    {f : Func} {s : ChangeSpec} {tb : TypeId} {W W' : World} {args : Array Value} {ds : List (DataW H)} {before : List MemPlace}
    (hW : DataW.Whole enc P f.params.toList s.vars false W args.toList ds [] before) (hv : s.vars = []) (ht : ∀ t ∈ f.params.toList, t < P.types.size)
    (hr : f.resultTypes = #[tb]) (hb : P.underlying tb = some .bool) (hf : s.fn H (ds ++ []) = { results := [.lit (.bool true)], args := ds }) (hB : Below W.heap.size W W') :
    s.post enc P f false true false false W args (.bool true) W' := by
  have hlt := hW.lt
  obtain ⟨p, q, hA, hV, rfl, hfz, hnd⟩ := hW
  rw [hv] at hV
  obtain ⟨_, rfl⟩ := trodVars_none hV
  rw [List.append_nil] at hlt hfz
  refine post_below (ds := ds) (gs := []) (pa := p) (pv := []) ⟨p, [], hA, by rw [hv]; rfl, rfl, by rw [List.append_nil]; exact hfz, hnd⟩ ?_ ?_ ?_ rfl hB
  · intro b sp hd
    rw [hf, hr]
    exact trodAll_cons_mk (shut_bool hb _) trodAll_mk0
  · intro sp hsp
    rw [hf]
    refine trodAll_carry (DataW.TrodAll.respare (kids_rows hl hm) hz ht hA fun x hx => hsp x (by rw [List.append_nil]; exact hx)) fun x hx => ?_
    exact hB.same (hlt x hx)
  · intro sp _
    rw [hf, hv]
    rfl
end
section
variable {H : Type} {enc : TypeId × Value → H} {P : Program} {w : World} {base : Nat} {spare : Nat → Bool} {held : Bool}
/-- A struct of one-cell fields, by value: each field by its own reading. -/
theorem open_flat {r : Reach} {b0 : Nat} {t : TypeId} {fs : Array Field} {v : Value} {d : DataW H} {p : List MemPlace} (hs : P.underlying t = some (.struct fs)) (hone : oneCellFields P fs = true) (hC : P.cellsOf t = fs.size)
    (hv : Value.okWide P w r b0 t v) (h : DataW.Trod enc P w base spare held t v d p) :
    ∃ l : List Value, v = .agg l.toArray ∧ l.length = fs.size ∧ ∀ (i : Nat) (f : Field), fs[i]? = some f → ∃ u y n, l[i]? = some u ∧ DataW.trod enc P w base spare held n f.type [u] = some y := by
  obtain ⟨⟨l⟩, rfl, hsz⟩ := okWide_struct hs hv
  obtain ⟨fuel, hf⟩ := h
  obtain ⟨xs, n, _, _, _, hlen, hg⟩ := DataW.trod_struct hs hf
  refine ⟨l, rfl, by rw [← hC, ← hsz]; rfl, fun i f hi => ?_⟩
  obtain ⟨ho, hk⟩ := hone_of hone i f hi
  have h1 := hg i f hi
  have hil : i < fs.size := (Array.getElem?_eq_some_iff.1 hi).1
  have hll : i < l.length := by rw [hC] at hsz; simp at hsz; omega
  have hxl : i < xs.length := by omega
  rw [ho, hk] at h1
  have e : (l.drop i).take 1 = [l[i]] := by rw [List.drop_eq_getElem_cons hll]; rfl
  rw [show (Value.agg { toList := l }).cells.toList = l from rfl, e, List.getElem?_eq_getElem hxl] at h1
  exact ⟨l[i], xs[i], n, List.getElem?_eq_getElem hll, h1⟩
/-- An array of structs of one-cell fields, by value: each field by its own reading. -/
theorem open_arr_flat {r : Reach} {b0 n : Nat} {t e : TypeId} {fs : Array Field} {v : Value} {d : DataW H} {p : List MemPlace} (hs : P.underlying t = some (.array n e)) (he : P.underlying e = some (.struct fs)) (hone : oneCellFields P fs = true) (hE : P.cellsOf e = fs.size) (hC : P.cellsOf t = n * fs.size)
    (hv : Value.okWide P w r b0 t v) (h : DataW.Trod enc P w base spare held t v d p) :
    ∃ l : List Value, v = .agg l.toArray ∧ l.length = n * fs.size ∧ ∀ (i j : Nat) (f : Field), i < n → fs[j]? = some f → ∃ u y m, l[i * fs.size + j]? = some u ∧ DataW.trod enc P w base spare held m f.type [u] = some y := by
  simp only [Value.okWide, hs] at hv
  obtain ⟨⟨l⟩, rfl, hsz, _⟩ := hv
  obtain ⟨fuel, hf⟩ := h
  obtain ⟨xs, m, _, _, _, hxl, hg⟩ := DataW.trod_array hs hf
  have hl : l.length = n * fs.size := by rw [← hC, ← hsz]; rfl
  refine ⟨l, rfl, hl, fun i j f hi hj => ?_⟩
  have hjl : j < fs.size := (Array.getElem?_eq_some_iff.1 hj).1
  have h1 := hg i hi
  rw [List.getElem?_eq_getElem (by omega), show (Value.agg { toList := l }).cells.toList = l from rfl, hE] at h1
  obtain ⟨ys, m', _, _, _, hyl, hg2⟩ := DataW.trod_struct he h1
  have h2 := hg2 j f hj
  obtain ⟨ho, hk⟩ := hone_of hone j f hj
  have hin : i * fs.size + j < l.length := by
    rw [hl]
    have : (i + 1) * fs.size ≤ n * fs.size := Nat.mul_le_mul_right _ hi
    rw [Nat.add_mul] at this
    omega
  rw [ho, hk, List.getElem?_eq_getElem (show j < ys.length by omega)] at h2
  have e : (((l.drop (i * fs.size)).take fs.size).drop j).take 1 = [l[i * fs.size + j]] := by
    rw [List.drop_take, List.take_take, List.drop_drop, show min 1 (fs.size - j) = 1 by omega, List.drop_eq_getElem_cons hin]
    rfl
  rw [e] at h2
  exact ⟨_, _, m', List.getElem?_eq_getElem hin, h2⟩
theorem flat_int {t : TypeId} {k : IntKind} (ht : P.underlying t = some (.int k)) {l : List Value} {i : Nat} (h : ∃ u y n, l[i]? = some u ∧ DataW.trod enc P w base spare held n t [u] = some y) :
    ∃ a : Int, l[i]? = some (.int k a) ∧ (Lit.int k a).wf = true := by
  obtain ⟨u, y, n, h1, h2⟩ := h
  obtain ⟨a, e, _, hw⟩ := DataW.trod_int ht h2
  obtain rfl : u = .int k a := by simpa using e
  exact ⟨a, h1, hw⟩
theorem flat_bool {t : TypeId} (ht : P.underlying t = some .bool) {l : List Value} {i : Nat} (h : ∃ u y n, l[i]? = some u ∧ DataW.trod enc P w base spare held n t [u] = some y) :
    ∃ a : Bool, l[i]? = some (.bool a) := by
  obtain ⟨u, y, n, h1, h2⟩ := h
  obtain ⟨a, e, _⟩ := DataW.trod_bool ht h2
  obtain rfl : u = .bool a := by simpa using e
  exact ⟨a, h1⟩
theorem flat_string {t : TypeId} (ht : P.underlying t = some .string) {l : List Value} {i : Nat} (h : ∃ u y n, l[i]? = some u ∧ DataW.trod enc P w base spare held n t [u] = some y) :
    ∃ a : ByteArray, l[i]? = some (.string a) ∧ a.size ≤ maxLen := by
  obtain ⟨u, y, n, h1, h2⟩ := h
  obtain ⟨a, e, _, hm⟩ := DataW.trod_string ht h2
  obtain rfl : u = .string a := by simpa using e
  exact ⟨a, h1, hm⟩
end
theorem open_sl {H : Type} {enc : TypeId × Value → H} {P : Program} {w : World} {r : Reach} {b0 base : Nat} {spare : Nat → Bool} {held : Bool} {t e : TypeId} {k : IntKind} {v : Value} {d : DataW H} {p : List MemPlace} (ht : P.underlying t = some (.slice e)) (he : P.underlying e = some (.int k)) (hc : P.cellsOf e = 1)
    (hsp : spare = fun _ => true) (hv : Value.okWide P w r b0 t v) (h : DataW.Trod enc P w base spare held t v d p) : SlV k w v := by
  obtain ⟨fuel, hf⟩ := h
  have hv' := hv
  simp only [Value.okWide, ht] at hv'
  obtain ⟨a, l, c, rfl⟩ := okWide_slice ht hv
  rcases open_ints ht he hc hf with ⟨hcs, _⟩ | ⟨a', len, cap, zs, hcs, _, hl, hm, hz, _, hcell, hwz⟩
  · left
    have : (Value.slice a l c).cells.toList = [.slice a l c] := rfl
    rw [this] at hcs
    simpa using hcs
  · have : (Value.slice a l c).cells.toList = [.slice a l c] := rfl
    rw [this] at hcs
    obtain ⟨rfl, rfl, rfl⟩ : a = some a' ∧ l = len ∧ c = cap := by simpa using hcs
    simp only [Cell.okWide, Cell.ok, ht] at hv'
    obtain ⟨_, _, _, hspot, row, cells, hshape, _⟩ := hv'
    obtain ⟨g, off, spot⟩ := a'
    simp only at hspot hshape
    subst hspot
    have hg : g < w.heap.size := by
      rcases Nat.lt_or_ge g w.heap.size with h | h
      · exact h
      · unfold World.shape? at hshape
        rw [Array.getElem?_eq_none h] at hshape
        cases hshape
    right
    rw [hsp] at hz
    simp only [if_true] at hz
    refine ⟨g, off, l, c, zs, rfl, hz, hl, hm, hg, fun i hi => ?_, hwz⟩
    have := hcell i (by omega)
    have hadd : (⟨g, off, none⟩ : Addr).add i = ⟨g, off + i, none⟩ := by unfold Addr.add; split <;> simp_all
    rwa [hadd] at this
def listAt (l : List Value) : Nat → List Value → Prop
  | _, [] => True
  | k, x :: xs => l[k]? = some x ∧ listAt l (k + 1) xs
theorem list_end {l : List Value} {k : Nat} : listAt l k [] := trivial
theorem list_step {l : List Value} {k : Nat} {x : Value} {xs : List Value} (h : l[k]? = some x) (hs : listAt l (k + 1) xs) : listAt l k (x :: xs) := ⟨h, hs⟩
theorem listAt.get {l : List Value} : ∀ {xs : List Value} {k : Nat}, listAt l k xs → ∀ i, i < xs.length → l[k + i]? = xs[i]?
  | x :: xs, k, h, i, hi => by
    cases i with
    | zero => simpa using h.1
    | succ i =>
      have := listAt.get h.2 i (by simpa using hi)
      rw [List.getElem?_cons_succ, ← this]; congr 1; omega
theorem list_by {l xs : List Value} {n : Nat} (hl : l.length = n) (h : listAt l 0 xs) (hn : xs.length = n := by rfl) : l = xs := by
  apply List.ext_getElem?
  intro i
  by_cases hi : i < xs.length
  · have := h.get i hi; rwa [Nat.zero_add] at this
  · rw [List.getElem?_eq_none (by omega), List.getElem?_eq_none (by omega)]
theorem u32_of_wf {x : Int} (h : (Lit.int .u32 x).wf = true) : 0 ≤ x ∧ x ≤ 4294967295 := by
  simp [Lit.wf, IntKind.min, IntKind.max, IntKind.signed, IntKind.bits] at h
  exact ⟨by omega, by omega⟩
theorem u16_of_wf {x : Int} (h : (Lit.int .u16 x).wf = true) : 0 ≤ x ∧ x ≤ 65535 := by
  simp [Lit.wf, IntKind.min, IntKind.max, IntKind.signed, IntKind.bits] at h
  exact ⟨by omega, by omega⟩
theorem u8_of_wf {x : Int} (h : (Lit.int .u8 x).wf = true) : 0 ≤ x ∧ x ≤ 255 := by
  simp [Lit.wf, IntKind.min, IntKind.max, IntKind.signed, IntKind.bits] at h
  exact ⟨by omega, by omega⟩
theorem i32_of_wf {x : Int} (h : (Lit.int .i32 x).wf = true) : -2147483648 ≤ x ∧ x ≤ 2147483647 := by
  simp [Lit.wf, IntKind.min, IntKind.max, IntKind.signed, IntKind.bits] at h
  exact ⟨by omega, by omega⟩
theorem slices_full : ∀ t e, t < Try.prog.types.size → Try.prog.underlying t = some (.slice e) → 0 < Try.prog.cellsOf e := slices_full_of Try.prog (by kernel_rfl)
end Go.Proofs.Ytgmnboacehopfaa
