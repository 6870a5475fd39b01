/-
  The reference of layer 2, each function by its contract. First part: Common, the greatest common divisor.
-/
import Derived.Test.YthffphcgkmjhbaaBigO
namespace Go.Proofs.Ythffphcgkmjhbaa
open Go.RowKit
set_option linter.unusedSimpArgs false
set_option linter.unusedVariables false

theorem IsBig.lenpos {w : World} {neg : Bool} {ao : Option Addr} {k cap y : Nat} (h : IsBig w neg ao k cap ((y : Nat) : Int)) : (y = 0 → k = 0) ∧ (0 < y → 0 < k) := by
  obtain ⟨_, ds, h1, h2, h3⟩ := h.nat
  have hl := h1.len
  refine ⟨fun e => ?_, fun e => ?_⟩
  · have := h2.eq_nil (by omega); rw [this] at hl; simp at hl; omega
  · rcases Nat.eq_zero_or_pos k with h0 | h0
    · rw [h0] at hl; have : ds = [] := List.eq_nil_of_length_eq_zero hl; rw [this] at h3; simp [BM.bval] at h3; omega
    · exact h0
theorem fr_nat (x y : Nat) (hy : 0 < y) : fr (x : Int) (y : Int) = ((x % y : Nat) : Int) := by
  rw [fr_pos (by omega)]; simp
/-- The three boxes of Common. -/
def CmB (w : World) (a1 a2 b1 b2 : Value) (wr : World) : Prop :=
  Two wr w.heap.size a1 a2 ∧ Two wr (w.heap.size + 1) b1 b2 ∧ Two wr (w.heap.size + 1 + 1) (.bool false) (.slice none 0 0) ∧ Below w.heap.size w wr
section
variable {w wr w' : World} {a1 a2 b1 b2 : Value}
theorem CmB.ta (h : CmB w a1 a2 b1 b2 wr) : Two wr w.heap.size a1 a2 := h.1
theorem CmB.tb (h : CmB w a1 a2 b1 b2 wr) : Two wr (w.heap.size + 1) b1 b2 := h.2.1
theorem CmB.tc (h : CmB w a1 a2 b1 b2 wr) : Two wr (w.heap.size + 1 + 1) (.bool false) (.slice none 0 0) := h.2.2.1
theorem CmB.bl (h : CmB w a1 a2 b1 b2 wr) : Below w.heap.size w wr := h.2.2.2
theorem CmB.alloc (h : CmB w a1 a2 b1 b2 wr) (o : Obj) : CmB w a1 a2 b1 b2 (wr.alloc o) := ⟨h.ta.alloc o, h.tb.alloc o, h.tc.alloc o, h.bl.alloc h.bl.size o⟩
theorem CmB.drew (h : CmB w a1 a2 b1 b2 wr) : CmB w a1 a2 b1 b2 wr.drew := ⟨h.ta, h.tb, h.tc, h.bl.drew⟩
theorem CmB.below (h : CmB w a1 a2 b1 b2 wr) (hb : Below wr.heap.size wr w') : CmB w a1 a2 b1 b2 w' := ⟨h.ta.below hb, h.tb.below hb, h.tc.below hb, h.bl.trans (hb.mono h.bl.size)⟩
theorem CmB.puts (h : CmB w a1 a2 b1 b2 wr) (c1 c2 d1 d2 : Value) :
    CmB w c1 c2 d1 d2 ((((wr.setCell ⟨w.heap.size, 0, none⟩ c1).setCell ⟨w.heap.size, 1, none⟩ c2).setCell ⟨w.heap.size + 1, 0, none⟩ d1).setCell ⟨w.heap.size + 1, 1, none⟩ d2) :=
  ⟨(h.ta.put c1 c2).put_other (by omega) d1 d2, (h.tb.put_other (by omega) c1 c2).put d1 d2, (h.tc.put_other (by omega) c1 c2).put_other (by omega) d1 d2, BP (BP h.bl (by omega) c1 c2) (by omega) d1 d2⟩
theorem CmB.big (h : CmB w a1 a2 b1 b2 wr) (c1 c2 d1 d2 : Value) {neg : Bool} {ao : Option Addr} {k cap : Nat} {n : Int} (hI : IsBig wr neg ao k cap n) :
    IsBig ((((wr.setCell ⟨w.heap.size, 0, none⟩ c1).setCell ⟨w.heap.size, 1, none⟩ c2).setCell ⟨w.heap.size + 1, 0, none⟩ d1).setCell ⟨w.heap.size + 1, 1, none⟩ d2) neg ao k cap n :=
  IsBig.put (IsBig.put hI h.ta c1 c2) (h.tb.put_other (by omega) c1 c2) d1 d2
end
def ComRel (G K : Nat) (w : World) (g : Nat) (wr : World) : Prop :=
  ∃ (x y : Nat) (na : Bool) (xa : Option Addr) (ka ca : Nat) (nb : Bool) (xb : Option Addr) (kb cb : Nat), g = y ∧ x < 65536 ^ K ∧ y < 65536 ^ K ∧ Nat.gcd x y = G ∧
    CmB w (.bool na) (.slice xa ka ca) (.bool nb) (.slice xb kb cb) wr ∧ IsBig wr na xa ka ca ((x : Nat) : Int) ∧ IsBig wr nb xb kb cb ((y : Nat) : Int)

set_option maxRecDepth 100000 in
set_option maxHeartbeats 3200000 in
theorem ref_common (na nb : Bool) (xa xb : Option Addr) (ka kb ca cb x y K : Nat) (w : World) (ha : IsBig w na xa ka ca ((x : Nat) : Int)) (hb : IsBig w nb xb kb cb ((y : Nat) : Int)) (hx : x < 65536 ^ K) (hy : y < 65536 ^ K) (hK : K ≤ 10000) :
    Calls Try.prog 112 #[.agg #[.bool na, .slice xa ka ca], .agg #[.bool nb, .slice xb kb cb]] w (BigRet ((Nat.gcd x y : Nat) : Int) w) := by
  obtain ⟨G, eG⟩ : ∃ G, Nat.gcd x y = G := ⟨_, rfl⟩
  rw [eG]
  have EG := Lib.hid eG
  have HX := Lib.hid hx
  have HY := Lib.hid hy
  clear eG hx hy
  go_enter Try.func112, Try.ntmps112
  go_wp2_with fail
  go_loopg [] y (fun g wr => ComRel G K w g wr)
  case atStart =>
    exact ⟨x, y, na, xa, ka, ca, nb, xb, kb, cb, rfl, HX.out, HY.out, EG.out, ⟨((Two.new w _ _ _ rfl).alloc _).alloc _, (Two.new _ _ _ _ (by simp)).alloc _, Two.new _ _ _ _ (by simp), (by repeat' (first | (with_reducible exact Below.refl _ _) | (with_reducible assumption) | (with_reducible refine below_alloc ?_ _ ?_) | (with_reducible refine below_set _ ?_ ?_) | (with_reducible refine Below.drew ?_) | (with_reducible refine below_dN ?_ _) | (apply below_thenA; assumption) | omega | (simp; done) | (simp; omega) | (simp [*]; done)))⟩, ha.keep (by repeat' (first | (with_reducible exact Below.refl _ _) | (with_reducible assumption) | (with_reducible refine below_alloc ?_ _ ?_) | (with_reducible refine below_set _ ?_ ?_) | (with_reducible refine Below.drew ?_) | (with_reducible refine below_dN ?_ _) | (apply below_thenA; assumption) | omega | (simp; done) | (simp; omega) | (simp [*]; done))), hb.keep (by repeat' (first | (with_reducible exact Below.refl _ _) | (with_reducible assumption) | (with_reducible refine below_alloc ?_ _ ?_) | (with_reducible refine below_set _ ?_ ?_) | (with_reducible refine Below.drew ?_) | (with_reducible refine below_dN ?_ _) | (apply below_thenA; assumption) | omega | (simp; done) | (simp; omega) | (simp [*]; done)))⟩
  case round =>
    clear ha hb HX HY EG
    obtain ⟨x, y, na, xa, ka, ca, nb, xb, kb, cb, rfl, hx, hy, hg, D, hA, hB⟩ := hrel
    have hlen := hB.lenpos
    have HG := Lib.hid hg
    have HY := Lib.hid hy
    have sx := sz_nat hx
    have sy := sz_nat hy
    have hka := hA.le sx
    have hkb := hB.le sy
    clear hg hy
    by_cases h0 : gk = 0
    · have hk0 := hlen.1 h0
      have e : x = G := by have := HG.out; rw [h0, Nat.gcd_zero_right] at this; exact this
      subst hk0
      subst e
      clear hlen
      obtain ⟨p1, p2, p3, p4⟩ := D.ta.cells
      obtain ⟨p5, p6, p7, p8⟩ := D.tb.cells
      obtain ⟨q1, q2, q3, q4⟩ := D.tc.cells
      have hN := IsBig.put hA D.tc (.bool na) (.slice xa ka ca)
      have hL := BP D.bl (b := w.heap.size + 1 + 1) (by omega) (.bool na) (.slice xa ka ca)
      go_wp2_with fail
      (go_light; simp [bodyPost, results, Try.results112, go_sem, *])
      exact ⟨na, xa, ka, ca, rfl, hN, hL⟩
    · have hk0 := hlen.2 (by omega)
      have hp : 0 < gk := by omega
      clear hlen
      have DN := fun W (h1 : IsBig W na xa ka ca ((x : Nat) : Int)) (h2 : IsBig W nb xb kb cb ((gk : Nat) : Int)) => big_down na nb xa xb ka kb ca cb ((x : Nat) : Int) ((gk : Nat) : Int) W h1 h2 (by omega) (by omega) (by omega)
      rw [fr_nat x gk hp] at DN
      obtain ⟨r, er⟩ : ∃ r, x % gk = r := ⟨_, rfl⟩
      rw [er] at DN
      have hr : r < gk := by rw [← er]; exact Nat.mod_lt _ hp
      have HR : Hid (Nat.gcd gk r = G) := Lib.hid (by rw [← HG.out, ← er, Nat.gcd_comm x]; exact (Nat.gcd_comm _ _).trans (Nat.gcd_rec _ _).symm)
      clear er
      obtain ⟨p1, p2, p3, p4⟩ := D.ta.cells
      obtain ⟨p5, p6, p7, p8⟩ := D.tb.cells
      go_wp2_with fail
      refine (DN _ hA hB).mono ?_
      rintro e w5 hRet
      obtain ⟨qn, qa, qk, qc, rn, ra, rk, rc, rfl, hQ, hRr, hb5⟩ := hRet.out
      have D5 := D.below hb5
      have hD := (((D5.puts (.bool nb) (.slice xb kb cb) (.bool rn) (.slice ra rk rc)).alloc (.cells #[.bool qn, .slice qa qk qc] 29)).alloc (.cells #[.bool rn, .slice ra rk rc] 29)).drew
      have hN := IsBig.keeps (D5.big (.bool nb) (.slice xb kb cb) (.bool rn) (.slice ra rk rc) (hB.keep hb5)) (Keeps.drew (Keeps.alloc (Keeps.alloc (Keeps.refl _) (.cells #[.bool qn, .slice qa qk qc] 29)) (.cells #[.bool rn, .slice ra rk rc] 29)))
      have hO := IsBig.keeps (D5.big (.bool nb) (.slice xb kb cb) (.bool rn) (.slice ra rk rc) hRr) (Keeps.drew (Keeps.alloc (Keeps.alloc (Keeps.refl _) (.cells #[.bool qn, .slice qa qk qc] 29)) (.cells #[.bool rn, .slice ra rk rc] 29)))
      have t5 := (D.below hb5).ta
      have t6 := (D.below hb5).tb
      have l6 := t6.lt
      clear p1 p2 p3 p4 p5 p6 p7 p8 DN hRet
      obtain ⟨p1, p2, p3, p4⟩ := t5.cells
      obtain ⟨p5, p6, p7, p8⟩ := t6.cells
      have g1 : w.heap.size < w5.heap.size := by omega
      go_wp2_with fail
      go_region
      all_goals
        go_wp2_with fail
        go_roundg r
        case measure => exact hr
        case rel => exact ⟨gk, r, nb, xb, kb, cb, rn, ra, rk, rc, rfl, HY.out, Nat.lt_trans hr HY.out, HR.out, hD, hN, hO⟩
end Go.Proofs.Ythffphcgkmjhbaa
