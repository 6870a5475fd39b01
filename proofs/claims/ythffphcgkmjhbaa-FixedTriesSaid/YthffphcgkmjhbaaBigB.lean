/-
  The reference's whole numbers, each function by its contract. Second part: sizes, Minus, OfU.
-/
import Derived.Test.YthffphcgkmjhbaaBigA
namespace Go.Proofs.Ythffphcgkmjhbaa
open Go.RowKit
set_option linter.unusedSimpArgs false
set_option linter.unusedVariables false

def cmpN (a b : Nat) : Int := if a < b then -1 else if b < a then 1 else 0
theorem cmpN_lt {a b : Nat} (h : a < b) : cmpN a b = -1 := if_pos h
theorem cmpN_gt {a b : Nat} (h : b < a) : cmpN a b = 1 := by unfold cmpN; rw [if_neg (by omega), if_pos h]
theorem cmpN_eq {a b : Nat} (h : a = b) : cmpN a b = 0 := by unfold cmpN; rw [if_neg (by omega), if_neg (by omega)]

set_option maxRecDepth 100000 in
set_option maxHeartbeats 400000 in
theorem big_sizes (ao bo : Option Addr) (k m cap cap' : Nat) (xs ys : List Nat) (w : World) (ha : Pcs w ao k cap xs) (hb : Pcs w bo m cap' ys) (ta : BM.Trim xs) (tb : BM.Trim ys) (hk : k ≤ 1000000) (hm : m ≤ 1000000) :
    Calls Try.prog 105 #[.slice ao k cap, .slice bo m cap'] w fun e w' => e = .returned (.int .i64 (cmpN (BM.bval xs) (BM.bval ys))) ∧ Below w.heap.size w w' := by
  have la := ha.len
  have lb := hb.len
  have LA := Lib.hid la
  have LB := Lib.hid lb
  clear la lb
  rcases Nat.lt_trichotomy k m with hlt | rfl | hgt
  · have e := cmpN_lt (BM.len_lt_bval ha.dig tb (by rw [LA.out, LB.out]; exact hlt))
    have E := Lib.hid e
    clear e
    have hne : ((k : Int) != (m : Int)) = true := by simp; omega
    go_enter Try.func105, Try.ntmps105
    go_wp2
    go_ret
    exact ⟨ret_int (by rw [E.out]), (by repeat' (first | (with_reducible exact Below.refl _ _) | (with_reducible assumption) | (with_reducible refine below_alloc ?_ _ ?_) | (with_reducible refine below_set _ ?_ ?_) | (with_reducible refine Below.drew ?_) | (with_reducible refine below_dN ?_ _) | (apply below_thenA; assumption) | omega | (simp; done) | (simp; omega) | (simp [*]; done)))⟩
  · have HQ : Hid (∀ i, i < k → xs.getD i 0 < 65536 ∧ ys.getD i 0 < 65536) := fun i _ => ⟨ha.dig.getD i, hb.dig.getD i⟩
    go_enter Try.func105, Try.ntmps105
    go_wp2
    go_loopg [5] k (fun g s wr => ∃ (j n : Nat), j ≤ k ∧ g = j ∧ s = .int .i64 ((j : Int) - 1) ∧ w.drewN n = wr ∧ xs.drop j = ys.drop j)
    case atStart => exact ⟨k, 0, Nat.le_refl _, rfl, rfl, rfl, by rw [List.drop_eq_nil_of_le (by rw [LA.out]; exact Nat.le_refl _), List.drop_eq_nil_of_le (by rw [LB.out]; exact Nat.le_refl _)]⟩
    case round =>
      obtain ⟨j, n, hj, rfl, rfl, rfl, hd⟩ := hrel
      have HD := Lib.hid hd
      clear hd
      by_cases hj0 : gk = 0
      · subst hj0
        have e : BM.bval xs = BM.bval ys := by have := HD.out; simp at this; rw [this]
        have E := Lib.hid (cmpN_eq e)
        clear e
        go_wp2
        go_ret
        exact ⟨ret_int (by rw [E.out]), (by repeat' (first | (with_reducible exact Below.refl _ _) | (with_reducible assumption) | (with_reducible refine below_alloc ?_ _ ?_) | (with_reducible refine below_set _ ?_ ?_) | (with_reducible refine Below.drew ?_) | (with_reducible refine below_dN ?_ _) | (apply below_thenA; assumption) | omega | (simp; done) | (simp; omega) | (simp [*]; done)))⟩
      · obtain ⟨g, rfl, hc, hg⟩ := ha.cell (gk - 1) (by omega)
        obtain ⟨g', rfl, hc', hg'⟩ := hb.cell (gk - 1) (by omega)
        have hla : gk - 1 < xs.length := by rw [LA.out]; omega
        have hlb : gk - 1 < ys.length := by rw [LB.out]; omega
        have ga : xs.getD (gk - 1) 0 = xs[gk - 1] := by simp [List.getD, hla]
        have gb : ys.getD (gk - 1) 0 = ys[gk - 1] := by simp [List.getD, hlb]
        have es : xs.drop (gk - 1 + 1) = ys.drop (gk - 1 + 1) := by rw [show gk - 1 + 1 = gk by omega]; exact HD.out
        have CL := Lib.hid (BM.bval_cmp_at ha.dig (gk - 1) hla hlb es)
        have CG := Lib.hid (BM.bval_cmp_at hb.dig (gk - 1) hlb hla es.symm)
        rw [← ga, ← gb] at CL CG
        have RR := Lib.hid (show xs.getD (gk - 1) 0 = ys.getD (gk - 1) 0 → xs.drop (gk - 1) = ys.drop (gk - 1) from fun h => by
          rw [List.drop_eq_getElem_cons hla, List.drop_eq_getElem_cons hlb, es, ← ga, ← gb, h])
        clear ga gb es hla hlb
        obtain ⟨x, hx⟩ : ∃ x, x = xs.getD (gk - 1) 0 := ⟨_, rfl⟩
        obtain ⟨y, hy⟩ : ∃ y, y = ys.getD (gk - 1) 0 := ⟨_, rfl⟩
        rw [← hx] at hc CL CG RR
        rw [← hy] at hc' CL CG RR
        clear hx hy
        have hj1 : 0 < gk := by omega
        have i1 : 0 ≤ (gk : Int) - 1 := by omega
        have i2 : (gk : Int) - 1 < (k : Int) := by omega
        rcases Nat.lt_trichotomy x y with hl | hl | hl
        · have e := Lib.hid (cmpN_lt (CL.out hl))
          have hl' : (x : Int) < (y : Int) := by omega
          clear hl
          go_wp2
          go_quiet (fail)
          go_wp2
          go_ret
          exact ⟨ret_int (by rw [e.out]), (by repeat' (first | (with_reducible exact Below.refl _ _) | (with_reducible assumption) | (with_reducible refine below_alloc ?_ _ ?_) | (with_reducible refine below_set _ ?_ ?_) | (with_reducible refine Below.drew ?_) | (with_reducible refine below_dN ?_ _) | (apply below_thenA; assumption) | omega | (simp; done) | (simp; omega) | (simp [*]; done)))⟩
        · subst hl
          go_wp2
          go_quiet (fail)
          go_wp2
          go_quiet (fail)
          go_wp2
          go_roundg (gk - 1)
          case measure => omega
          case rel =>
            exact ⟨gk - 1, _, by omega, rfl, by congr 1; omega, rfl, RR.out (by first | trivial | rfl)⟩
        · have e := Lib.hid (cmpN_gt (CG.out hl))
          have hl' : (y : Int) < (x : Int) := by omega
          clear hl
          go_wp2
          go_quiet (fail)
          go_wp2
          go_quiet (fail)
          go_wp2
          go_ret
          exact ⟨ret_int (by rw [e.out]), (by repeat' (first | (with_reducible exact Below.refl _ _) | (with_reducible assumption) | (with_reducible refine below_alloc ?_ _ ?_) | (with_reducible refine below_set _ ?_ ?_) | (with_reducible refine Below.drew ?_) | (with_reducible refine below_dN ?_ _) | (apply below_thenA; assumption) | omega | (simp; done) | (simp; omega) | (simp [*]; done)))⟩
  · have e := cmpN_gt (BM.len_lt_bval hb.dig ta (by rw [LA.out, LB.out]; exact hgt))
    have E := Lib.hid e
    clear e
    have hne : ((k : Int) != (m : Int)) = true := by simp; omega
    go_enter Try.func105, Try.ntmps105
    go_wp2
    go_ret
    exact ⟨ret_int (by rw [E.out]), (by repeat' (first | (with_reducible exact Below.refl _ _) | (with_reducible assumption) | (with_reducible refine below_alloc ?_ _ ?_) | (with_reducible refine below_set _ ?_ ?_) | (with_reducible refine Below.drew ?_) | (with_reducible refine below_dN ?_ _) | (apply below_thenA; assumption) | omega | (simp; done) | (simp; omega) | (simp [*]; done)))⟩
end Go.Proofs.Ythffphcgkmjhbaa
