/-
  The reference's whole numbers, each function by its contract. Tenth part: Power.
-/
import Derived.Test.YthffphcgkmjhbaaBigI
import Derived.Deep.RegionWith
namespace Go.Proofs.Ythffphcgkmjhbaa
open Go.RowKit
set_option linter.unusedSimpArgs false
set_option linter.unusedVariables false

theorem pow_sz (i : Nat) : BM.Sz (((2 ^ i : Nat) : Int)) (i + 1) := by
  unfold BM.Sz
  rw [Int.natAbs_natCast]
  exact Nat.lt_of_le_of_lt (Nat.pow_le_pow_left (by decide) i) (Nat.pow_lt_pow_right (by decide) (by omega))
theorem big_ofu1 (W : World) : Calls Try.prog 98 #[.int .u64 1] W (BigRet 1 W) := big_ofu 1 (by omega) W
theorem big_ofu2 (W : World) : Calls Try.prog 98 #[.int .u64 2] W (BigRet 2 W) := big_ofu 2 (by omega) W
theorem pow_dbl (i : Nat) : ((2 ^ i : Nat) : Int) * 2 = ((2 ^ (i + 1) : Nat) : Int) := by
  rw [Nat.pow_succ]; simp
theorem BigRet.out {n : Int} {w : World} {e : Ending} {w' : World} (h : BigRet n w e w') : ∃ neg ao k cap, e = .returned (.agg #[.bool neg, .slice ao k cap]) ∧ IsBig w' neg ao k cap n ∧ Below w.heap.size w w' := h
theorem below_undrew {w w' : World} (h : Below w.drew.heap.size w.drew w') : Below w.heap.size w w' := (Below.drew (Below.refl _ _)).trans h
/-- A whole number is laid into a box. -/
def put (w : World) (b : Nat) (x y : Value) : World := (w.setCell ⟨b, 0, none⟩ x).setCell ⟨b, 1, none⟩ y
theorem Two.put {w : World} {b : Nat} {x y : Value} (h : Two w b x y) (u v : Value) : Two ((w.setCell ⟨b, 0, none⟩ u).setCell ⟨b, 1, none⟩ v) b u v := (h.set0 u).set1 v
theorem Two.put_other {w : World} {b c : Nat} {x y : Value} (h : Two w b x y) (hc : b ≠ c) (u v : Value) : Two ((w.setCell ⟨c, 0, none⟩ u).setCell ⟨c, 1, none⟩ v) b x y := (h.other _ _ hc).other _ _ hc
theorem IsBig.put {w : World} {b : Nat} {x y : Value} {neg : Bool} {ao : Option Addr} {k cap : Nat} {n : Int} (h : IsBig w neg ao k cap n) (t : Two w b x y) (u v : Value) : IsBig ((w.setCell ⟨b, 0, none⟩ u).setCell ⟨b, 1, none⟩ v) neg ao k cap n :=
  IsBig.keeps h (Keeps.set (Keeps.set (Keeps.refl _) _ _ t.ty (by decide)) _ _ (t.set0 _).ty (by decide))
theorem Below.put {w w' : World} {B b : Nat} (h : Below B w w') (hb : B ≤ b) (u v : Value) : Below B w ((w'.setCell ⟨b, 0, none⟩ u).setCell ⟨b, 1, none⟩ v) :=
  (h.setCell (p := ⟨b, 0, none⟩) hb u).setCell (p := ⟨b, 1, none⟩) hb v
def PowRel (n b : Nat) (w : World) (g : Nat) (s4 : Value) (wr : World) : Prop :=
  ∃ (i : Nat) (neg : Bool) (ao : Option Addr) (k cap : Nat) (v : Int), i ≤ n ∧ g = n - i ∧ s4 = .int .i64 ((i : Int)) ∧ v = ((2 ^ i : Nat) : Int) ∧
    Two wr w.heap.size (.bool false) (.slice none 0 0) ∧ Two wr b (.bool neg) (.slice ao k cap) ∧ IsBig wr neg ao k cap v ∧ Below w.heap.size w wr

set_option maxRecDepth 100000 in
set_option maxHeartbeats 1600000 in
theorem big_power_at (n : Nat) (hn : n ≤ 1000) (N : Int) (eN : N = ((2 ^ n : Nat) : Int)) (w : World) :
    Calls Try.prog 99 #[.int .i64 (((n : Nat) : Int))] w (BigRet N w) := by
  have EN := Lib.hid eN
  clear eN
  go_enter Try.func99, Try.ntmps99
  go_wp2_with fail
  refine (big_ofu1 _).mono ?_
  rintro e w1 ⟨n1, a1, k1, c1, rfl, hI1, hb1⟩
  obtain ⟨hc1, hf1⟩ := bcell hb1
  have hz1 := bz1 (n := w.heap.size) hb1 (by simp)
  have hl1 : w.heap.size < w1.heap.size := hz1.1
  have tt : Two w1 w.heap.size (.bool false) (.slice none 0 0) := (Two.new w _ _ _ rfl).below hb1
  have hbw : Below w.heap.size w w1 := (by repeat' (first | (with_reducible exact Below.refl _ _) | (with_reducible assumption) | (with_reducible refine below_alloc ?_ _ ?_) | (with_reducible refine below_set _ ?_ ?_) | (with_reducible refine Below.drew ?_) | (with_reducible refine below_dN ?_ _) | (apply below_thenA; assumption) | omega | (simp; done) | (simp; omega) | (simp [*]; done)))
  go_wp2_with fail
  go_loopg [4] n (fun g s4 wr => PowRel n w1.heap.size w g s4 wr)
  case atStart =>
    refine ⟨0, n1, a1, k1, c1, 1, by omega, by omega, rfl, rfl, tt.alloc _, Two.new _ _ _ _ rfl, ?_, (by repeat' (first | (with_reducible exact Below.refl _ _) | (with_reducible assumption) | (with_reducible refine below_alloc ?_ _ ?_) | (with_reducible refine below_set _ ?_ ?_) | (with_reducible refine Below.drew ?_) | (with_reducible refine below_dN ?_ _) | (apply below_thenA; assumption) | omega | (simp; done) | (simp; omega) | (simp [*]; done)))⟩
    exact IsBig.keeps hI1 (by repeat' (first | (with_reducible exact Keeps.refl _) | (with_reducible refine Keeps.alloc ?_ _) | (with_reducible refine Keeps.drew ?_) | (with_reducible refine Keeps.drewN ?_ _) | (with_reducible refine Keeps.set ?_ _ _ (T := 29) ?_ (by decide)) | (with_reducible exact TyAt.new _ _ _ _ (by simp)) | (with_reducible refine TyAt.set ?_ _ _) | (with_reducible refine TyAt.alloc ?_ _) | (with_reducible refine TyAt.drew ?_) | (with_reducible refine TyAt.drewN ?_ _) | (apply Keeps.below; assumption) | (exact Two.ty (by assumption)) | (apply TyAt.below; rotate_left; assumption)))
  case round =>
    clear tt hbw hz1 hc1 hf1 hI1
    obtain ⟨i, neg, ao, k, cap, v, hi, rfl, rfl, hv, t0, t1, hI, hbl⟩ := hrel
    have HV := Lib.hid hv
    by_cases lx : i < n
    · have ix : (i : Int) < (n : Int) := by omega
      have hs : BM.Sz v (i + 1) := by rw [hv]; exact pow_sz i
      have hk := hI.le hs
      have h2 := BM.Sz.u64 (n := 2) (by omega) (by omega)
      have HD : Hid (v * 2 = ((2 ^ (i + 1) : Nat) : Int)) := Lib.hid (by rw [hv]; exact pow_dbl i)
      clear hv
      obtain ⟨p1, p2, p3, p4⟩ := t1.cells
      have hlr := t1.lt
      go_wp2_with fail
      go_region_with (first
        | (go_at_call 98; with_reducible refine (big_ofu2 _).mono ?_; rintro e w2 hB2; obtain ⟨n2, a2, k2, c2, rfl, hI2, hb2⟩ := hB2.out; obtain ⟨hc2, hf2⟩ := bcell hb2; replace hb2 := below_undrew hb2; have hs2 := hb2.size; have t1a := t1.below hb2; obtain ⟨q1, q2, q3, q4⟩ := t1a.cells)
        | (go_at_call 26; go_loud (with_reducible refine (big_times neg n2 ao a2 k k2 cap c2 v 2 _ (hI.keep hb2) hI2 ?_ ?_).mono ?_); omega; (have := hI2.le h2; omega); go_loud (rintro e w3 hB3; obtain ⟨n3, a3, k3, c3, rfl, hI3, hb3⟩ := hB3.out; obtain ⟨hc3, hf3⟩ := bcell hb3; have hs3 := hb3.size; have hl3 : w1.heap.size < w3.heap.size := (by omega); have t0' := (t0.below hb2).below hb3; have t1' := (t1.below hb2).below hb3; obtain ⟨r1, r2, r3, r4⟩ := t1'.cells; have hbl3 : Below w.heap.size w w3 := (by repeat' (first | (with_reducible exact Below.refl _ _) | (with_reducible assumption) | (with_reducible refine below_alloc ?_ _ ?_) | (with_reducible refine below_set _ ?_ ?_) | (with_reducible refine Below.drew ?_) | (with_reducible refine below_dN ?_ _) | (apply below_thenA; assumption) | omega | (simp; done) | (simp; omega) | (simp [*]; done))))))
      all_goals
        have hD := hI3.put t1' (.bool n3) (.slice a3 k3 c3)
        have hU := t1'.put (.bool n3) (.slice a3 k3 c3)
        have hT := t0'.put_other (c := w1.heap.size) (by omega) (.bool n3) (.slice a3 k3 c3)
        have hQ := Below.put hbl3 (b := w1.heap.size) (by omega) (.bool n3) (.slice a3 k3 c3)
        clear p1 p2 p3 p4 q1 q2 q3 q4 r1 r2 r3 r4
        go_wp2_with fail
        go_roundg (n - (i + 1))
        case measure => omega
        case rel => exact ⟨i + 1, n3, a3, k3, c3, v * 2, by omega, by omega, by go_num, HD.out, hT, hU, hD, hQ⟩
    · have ix : ¬ (i : Int) < (n : Int) := by omega
      obtain rfl : i = n := by omega
      obtain rfl : v = N := by rw [EN.out]; exact HV.out
      clear hv
      obtain ⟨p1, p2, p3, p4⟩ := t1.cells
      obtain ⟨q1, q2, q3, q4⟩ := t0.cells
      go_wp2_with fail
      (go_light; simp [bodyPost, results, Try.results99, go_sem, *])
      exact ⟨neg, ao, k, cap, rfl, hI.put t0 _ _, Below.put hbl (Nat.le_refl _) _ _⟩
/-- Two to a number. -/
theorem big_power (n : Nat) (hn : n ≤ 1000) (w : World) :
    Calls Try.prog 99 #[.int .i64 (((n : Nat) : Int))] w (BigRet ((2 ^ n : Nat) : Int) w) := big_power_at n hn _ rfl w
end Go.Proofs.Ythffphcgkmjhbaa
