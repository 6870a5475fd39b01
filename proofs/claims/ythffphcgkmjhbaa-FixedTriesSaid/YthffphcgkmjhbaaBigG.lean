/-
  The reference's whole numbers, each function by its contract. Seventh part: Times.
-/
import Derived.Test.YthffphcgkmjhbaaBigF
import Derived.BigQuiet
import Derived.Deep.OwnRows
namespace Go.Proofs.Ythffphcgkmjhbaa
open Go.RowKit
set_option linter.unusedSimpArgs false
set_option linter.unusedVariables false

/-- A block of pieces. -/
def Row (w : World) (g n : Nat) (os : List Nat) : Prop := w.heap[g]? = some (Obj.cells (u64s os).toArray 23 (0, 0)) ∧ os.length = n ∧ BM.Dig os
theorem Row.lt {w : World} {g n : Nat} {os : List Nat} (h : Row w g n os) : g < w.heap.size := (Array.getElem?_eq_some_iff.1 h.1).1
theorem Row.cell {w : World} {g n : Nat} {os : List Nat} (h : Row w g n os) (j : Nat) (hj : j < n) : w.cell? ⟨g, j, none⟩ = some (.int .u64 (((os.getD j 0 : Nat) : Int))) := by
  have hl := h.2.1
  rw [cell_of_row w g j _ _ _ h.1]
  simp [u64s, List.getD, List.getElem?_eq_getElem (show j < os.length by omega)]
theorem Row.frozen {w : World} {g n : Nat} {os : List Nat} (h : Row w g n os) (j : Nat) : w.frozen? ⟨g, j, none⟩ = false := by
  simp [World.frozen?, h.1]
theorem Row.set {w : World} {g n : Nat} {os : List Nat} (h : Row w g n os) (j d : Nat) (hd : d < 65536) : Row (w.setCell ⟨g, j, none⟩ (.int .u64 ((d : Int)))) g n (os.set j d) := by
  refine ⟨?_, by rw [List.length_set]; exact h.2.1, h.2.2.set j d hd⟩
  simp only [World.setCell, Array.getElem?_modify, if_true, h.1]
  simp [u64s, List.map_set]
theorem Row.drew {w : World} {g n : Nat} {os : List Nat} (h : Row w g n os) : Row w.drew g n os := h
theorem Row.drewN {w : World} {g n : Nat} {os : List Nat} (h : Row w g n os) (k : Nat) : Row (w.drewN k) g n os := h
theorem Row.pcs {w : World} {g n : Nat} {os : List Nat} (h : Row w g n os) (hn : n ≤ maxLen) : Pcs w (some ⟨g, 0, none⟩) n n os :=
  ⟨⟨by simp [u64s, h.2.1], .inr ⟨g, n, _, rfl, Nat.zero_le _, h.1, Nat.le_refl _, hn, by simp [u64s, h.2.1], by simp [u64s]; rw [List.take_of_length_le (by simp [h.2.1])]⟩⟩, h.2⟩
theorem Row.made (w : World) (n g : Nat) (hg : g = w.heap.size) : Row (w.alloc (.cells (madeCells #[.int .u64 0] n) 23)) g n (List.replicate n 0) := by
  subst hg
  refine ⟨?_, by simp, BM.Dig.replicate n⟩
  have e : madeCells #[Value.int .u64 0] n = (u64s (List.replicate n 0)).toArray := by
    apply Array.ext'
    rw [toList_madeCells_one]
    simp [u64s]
  rw [e]
  exact heap_alloc_new w _

theorem times_step {xs ys os : List Nat} {i j c x o y t : Nat} (hl : i + j < os.length) (ho : o = os.getD (i + j) 0) (hy : y = ys.getD j 0)
    (h : BM.bval os + 65536 ^ (i + j) * c = BM.bval (xs.take i) * BM.bval ys + 65536 ^ i * (x * BM.bval (ys.take j))) (ht : t = o + x * y + c) :
    BM.bval (os.set (i + j) (t % 65536)) + 65536 ^ (i + (j + 1)) * (t / 65536) = BM.bval (xs.take i) * BM.bval ys + 65536 ^ i * (x * BM.bval (ys.take (j + 1))) := by
  have h1 := BM.bval_set os (i + j) (t % 65536) hl
  have e1 : os[i + j] = o := by rw [ho]; simp [List.getD, hl]
  rw [e1] at h1
  rw [bval_take_getD, ← hy, Nat.mul_add x, Nat.mul_add (65536 ^ i), ← Nat.add_assoc i j 1, Nat.pow_succ, Nat.mul_assoc]
  have e2 : 65536 ^ (i + j) * (t % 65536) + 65536 ^ (i + j) * (65536 * (t / 65536)) = 65536 ^ (i + j) * (o + x * y + c) := by
    rw [← Nat.mul_add, Nat.mod_add_div, ht]
  have e3 : 65536 ^ i * (x * (65536 ^ j * y)) = 65536 ^ (i + j) * (x * y) := by
    rw [Nat.pow_add, Nat.mul_assoc, Nat.mul_left_comm x]
  rw [Nat.mul_add, Nat.mul_add] at e2
  rw [e3]
  omega
theorem times_end {xs ys os : List Nat} {i c : Nat} (dx : BM.Dig xs) (dy : BM.Dig ys) (hl : i + ys.length < os.length)
    (h : BM.bval os + 65536 ^ (i + ys.length) * c = BM.bval (xs.take i) * BM.bval ys + 65536 ^ i * (xs.getD i 0 * BM.bval (ys.take ys.length))) :
    os.getD (i + ys.length) 0 + c < 65536 ∧ BM.bval (os.set (i + ys.length) (os.getD (i + ys.length) 0 + c)) = BM.bval (xs.take (i + 1)) * BM.bval ys := by
  have h1 := BM.bval_set os (i + ys.length) (os.getD (i + ys.length) 0 + c) hl
  have e1 : os[i + ys.length] = os.getD (i + ys.length) 0 := by simp [List.getD, hl]
  rw [e1] at h1
  have e2 : BM.bval os + 65536 ^ (i + ys.length) * c = BM.bval (xs.take (i + 1)) * BM.bval ys := by
    rw [h, bval_take_getD, List.take_of_length_le (Nat.le_refl _), Nat.add_mul, Nat.mul_assoc]
  rw [Nat.mul_add] at h1
  refine ⟨?_, by omega⟩
  have h2 : BM.bval (xs.take (i + 1)) < 65536 ^ (i + 1) := BM.bval_take_lt dx (i + 1)
  have h3 := BM.bval_lt dy
  have h4 : BM.bval (xs.take (i + 1)) * BM.bval ys < 65536 ^ (i + 1) * 65536 ^ ys.length := by
    rcases Nat.eq_zero_or_pos (BM.bval ys) with e | hp
    · rw [e, Nat.mul_zero]; exact Nat.mul_pos (Nat.pow_pos (by decide)) (Nat.pow_pos (by decide))
    · exact Nat.lt_of_lt_of_le ((Nat.mul_lt_mul_right hp).2 h2) (Nat.mul_le_mul_left _ (Nat.le_of_lt h3))
  have h5 : 65536 ^ (i + 1) * 65536 ^ ys.length = 65536 ^ (i + ys.length) * 65536 := by
    rw [Nat.pow_succ, Nat.pow_add, Nat.mul_right_comm]
  have h6 : 65536 ^ (i + ys.length) * os.getD (i + ys.length) 0 ≤ BM.bval os := by
    have := BM.bval_take_succ os (i + ys.length) hl
    rw [e1] at this
    have h7 := BM.bval_split os (i + ys.length + 1) (by omega)
    omega
  rw [h5] at h4
  have h8 : 65536 ^ (i + ys.length) * (os.getD (i + ys.length) 0 + c) < 65536 ^ (i + ys.length) * 65536 := by rw [Nat.mul_add]; omega
  exact Nat.lt_of_mul_lt_mul_left h8
theorem sgn_mul (na nb : Bool) (a b : Nat) : sgn (na != nb) (a * b) = sgn na a * sgn nb b := by
  cases na <;> cases nb <;> simp [sgn, Int.neg_mul, Int.mul_neg]

def TimesOut (na nb : Bool) (ax bx : Option Addr) (k m n ca cb : Nat) (xs ys : List Nat) (w : World) (g : Nat) (s6 : Value) (wr : World) : Prop :=
  ∃ (i : Nat) (os : List Nat), i ≤ k ∧ g = k - i ∧ s6 = .int .i64 ((i : Int)) ∧
    Two wr w.heap.size (.bool na) (.slice ax k ca) ∧ Two wr (w.heap.size + 1) (.bool nb) (.slice bx m cb) ∧ Two wr (w.heap.size + 1 + 1) (.bool false) (.slice none 0 0) ∧
    Row wr (w.heap.size + 1 + 1 + 1) n os ∧ BM.bval os = BM.bval (xs.take i) * BM.bval ys ∧ Below w.heap.size w wr
def TimesIn (na nb : Bool) (ax bx : Option Addr) (k m n ca cb : Nat) (xs ys : List Nat) (w : World) (i : Nat) (g : Nat) (s7 s8 : Value) (wr : World) : Prop :=
  ∃ (j c : Nat) (os : List Nat), j ≤ m ∧ g = m - j ∧ s8 = .int .i64 ((j : Int)) ∧ s7 = .int .u64 ((c : Int)) ∧ c < 65536 ∧
    Two wr w.heap.size (.bool na) (.slice ax k ca) ∧ Two wr (w.heap.size + 1) (.bool nb) (.slice bx m cb) ∧ Two wr (w.heap.size + 1 + 1) (.bool false) (.slice none 0 0) ∧
    Row wr (w.heap.size + 1 + 1 + 1) n os ∧ BM.bval os + 65536 ^ (i + j) * c = BM.bval (xs.take i) * BM.bval ys + 65536 ^ i * (xs.getD i 0 * BM.bval (ys.take j)) ∧ Below w.heap.size w wr

set_option maxRecDepth 100000 in
set_option maxHeartbeats 1600000 in
theorem big_times (na nb : Bool) (ax bx : Option Addr) (k m ca cb : Nat) (a b : Int) (w : World) (ha : IsBig w na ax k ca a) (hb : IsBig w nb bx m cb b) (hk : k ≤ 100000) (hm : m ≤ 100000) :
    Calls Try.prog 26 #[.agg #[.bool na, .slice ax k ca], .agg #[.bool nb, .slice bx m cb]] w (BigRet (a * b) w) := by
  obtain ⟨xs, hx, tx, nx, rfl⟩ := ha
  obtain ⟨ys, hy, ty, ny, rfl⟩ := hb
  rw [← sgn_mul]
  have LX := Lib.hid hx.len
  have LY := Lib.hid hy.len
  obtain ⟨n, en⟩ : ∃ n, n = k + m := ⟨_, rfl⟩
  have ekm : (k : Int) + (m : Int) = (n : Int) := by omega
  have hn1 : (n : Int) ≤ 200000 := by omega
  have EN := Lib.hid en
  have hmk := run_make_row' (P := Try.prog) 27 23 (.int .u64 0) 8 Try.underlying27 (by kernel_rfl) rfl .i64 .i64 n (by omega) (by omega)
  have tt0 : Two ((((w.alloc (.cells #[.bool na, .slice ax k ca] 29)).alloc (.cells #[.bool nb, .slice bx m cb] 29)).alloc (.cells #[.bool false, .slice none 0 0] 29)).alloc (.cells (madeCells #[.int .u64 0] n) 23)) w.heap.size (.bool na) (.slice ax k ca) := (((Two.new _ _ _ _ rfl).alloc _).alloc _).alloc _
  have tt1 : Two ((((w.alloc (.cells #[.bool na, .slice ax k ca] 29)).alloc (.cells #[.bool nb, .slice bx m cb] 29)).alloc (.cells #[.bool false, .slice none 0 0] 29)).alloc (.cells (madeCells #[.int .u64 0] n) 23)) (w.heap.size + 1) (.bool nb) (.slice bx m cb) := ((Two.new _ _ _ _ (by simp)).alloc _).alloc _
  have tt2 : Two ((((w.alloc (.cells #[.bool na, .slice ax k ca] 29)).alloc (.cells #[.bool nb, .slice bx m cb] 29)).alloc (.cells #[.bool false, .slice none 0 0] 29)).alloc (.cells (madeCells #[.int .u64 0] n) 23)) (w.heap.size + 1 + 1) (.bool false) (.slice none 0 0) := (Two.new _ _ _ _ (by simp)).alloc _
  clear en
  go_enter Try.func26, Try.ntmps26
  go_wp2_with fail
  clear hmk
  go_loopg [6] k (fun g s6 wr => TimesOut na nb ax bx k m n ca cb xs ys w g s6 wr)
  case atStart =>
    exact ⟨0, List.replicate n 0, by omega, by omega, rfl, tt0, tt1, tt2, Row.made _ _ _ (by simp), by simp [BM.bval, BM.bval_replicate], (by repeat' (first | (with_reducible exact Below.refl _ _) | (with_reducible assumption) | (with_reducible refine below_alloc ?_ _ ?_) | (with_reducible refine below_set _ ?_ ?_) | (with_reducible refine Below.drew ?_) | (with_reducible refine below_dN ?_ _) | (apply below_thenA; assumption) | omega | (simp; done) | (simp; omega) | (simp [*]; done)))⟩
  case round =>
    clear tt0 tt1 tt2
    obtain ⟨i, os, hi, rfl, rfl, t0, t1, t2, ho, hv, hbl⟩ := hrel
    have HV := Lib.hid hv
    clear hv
    by_cases lx : i < k
    · have ix : (i : Int) < (k : Int) := by omega
      obtain ⟨p1, p2, p3, p4⟩ := t0.cells
      go_wp2_with fail
      clear p1 p2 p3 p4
      obtain ⟨wo, rfl⟩ : ∃ wo : World, wo = wr := ⟨_, rfl⟩
      go_loopg [7, 8] m (fun g s7 s8 wr => TimesIn na nb ax bx k m n ca cb xs ys w i g s7 s8 wr)
      case atStart =>
        exact ⟨0, 0, os, by omega, by omega, rfl, rfl, by omega, t0, t1, t2, ho, by rw [HV.out]; simp [BM.bval], hbl⟩
      case round =>
        clear t0 t1 t2 ho HV hbl
        obtain ⟨j, c, os, hj, rfl, rfl, rfl, hc, t0, t1, t2, ho, hv, hbl⟩ := hrel
        have HV := Lib.hid hv
        clear hv
        have l2 := t2.lt
        by_cases ly : j < m
        · have iy : (j : Int) < (m : Int) := by omega
          obtain ⟨gx, rfl, hcx, hgx⟩ := (hx.keep hbl).cell i (by omega)
          have dx := hx.dig.getD i
          obtain ⟨gy, rfl, hcy, hgy⟩ := (hy.keep hbl).cell j (by omega)
          have dy := hy.dig.getD j
          have hco := ho.cell (i + j) (by rw [EN.out]; omega)
          have hfo := ho.frozen (i + j)
          have do_ := ho.2.2.getD (i + j)
          obtain ⟨x, ex⟩ : ∃ x, x = xs.getD i 0 := ⟨_, rfl⟩
          obtain ⟨y, ey⟩ : ∃ y, y = ys.getD j 0 := ⟨_, rfl⟩
          obtain ⟨o, eo⟩ : ∃ o, o = os.getD (i + j) 0 := ⟨_, rfl⟩
          obtain ⟨p, ep⟩ : ∃ p, p = i + j := ⟨_, rfl⟩
          obtain ⟨q, eq⟩ : ∃ q, q = x * y := ⟨_, rfl⟩
          have HS := Lib.hid (times_step (xs := xs) (ys := ys) (os := os) (i := i) (j := j) (c := c) (x := x) (o := o) (y := y) (t := o + q + c) (by rw [ho.2.1, EN.out]; omega) eo ey (by rw [ex]; exact HV.out) (by rw [eq]))
          rw [← ex] at hcx dx
          rw [← ey] at hcy dy
          rw [← eo] at hco do_
          rw [← ep] at hco hfo
          have hq : q ≤ 4294836225 := by rw [eq]; exact Nat.mul_le_mul (show x ≤ 65535 by omega) (show y ≤ 65535 by omega)
          have eq2 : (x : Int) * (y : Int) = (q : Int) := by rw [eq]; simp
          have ep2 : (i : Int) + (j : Int) = (p : Int) := by omega
          have ep3 : (p : Int) < (n : Int) := by rw [EN.out]; omega
          have EX := Lib.hid ex
          have EP := Lib.hid ep
          clear ex ey eo eq ep
          obtain ⟨p1, p2, p3, p4⟩ := t0.cells
          obtain ⟨p5, p6, p7, p8⟩ := t1.cells
          go_wp2_with fail
          go_quiet (fail)
          clear p1 p2 p3 p4 p5 p6 p7 p8
          go_wp2_with fail
          have hq1 : o + q + c < 4294967296 := by omega
          rw [← EP.out] at HS
          go_roundg (m - (j + 1))
          case measure => omega
          case rel =>
            refine ⟨j + 1, (o + q + c) / 65536, os.set p ((o + q + c) % 65536), by omega, by omega, by go_num, by go_num, by omega, ?_, ?_, ?_, ?_, by rw [← EX.out]; exact HS.out, ?_⟩
            · exact t0.other _ _ (by show w.heap.size ≠ w.heap.size + 1 + 1 + 1; omega)
            · exact t1.other _ _ (by show w.heap.size + 1 ≠ w.heap.size + 1 + 1 + 1; omega)
            · exact t2.other _ _ (by show w.heap.size + 1 + 1 ≠ w.heap.size + 1 + 1 + 1; omega)
            · exact ho.set p _ (Nat.mod_lt _ (by decide))
            · exact (by repeat' (first | (with_reducible exact Below.refl _ _) | (with_reducible assumption) | (with_reducible refine below_alloc ?_ _ ?_) | (with_reducible refine below_set _ ?_ ?_) | (with_reducible refine Below.drew ?_) | (with_reducible refine below_dN ?_ _) | (apply below_thenA; assumption) | omega | (simp; done) | (simp; omega) | (simp [*]; done)))
        · have iy : ¬ (j : Int) < (m : Int) := by omega
          obtain rfl : j = m := by omega
          have HE := times_end (i := i) (c := c) (os := os) hx.dig hy.dig (by rw [LY.out, ho.2.1, EN.out]; omega) (by rw [LY.out]; exact HV.out)
          rw [LY.out] at HE
          have hco := ho.cell (i + j) (by rw [EN.out]; omega)
          have hfo := ho.frozen (i + j)
          obtain ⟨o, eo⟩ : ∃ o, o = os.getD (i + j) 0 := ⟨_, rfl⟩
          obtain ⟨p, ep⟩ : ∃ p, p = i + j := ⟨_, rfl⟩
          rw [← eo] at hco HE
          rw [← ep] at hco hfo HE
          obtain ⟨hoc, HS⟩ := HE
          have hs := Lib.hid HS
          have ep2 : (i : Int) + (j : Int) = (p : Int) := by omega
          have ep3 : (p : Int) < (n : Int) := by rw [EN.out]; omega
          clear eo ep HS HV
          obtain ⟨p5, p6, p7, p8⟩ := t1.cells
          go_wp2_with fail
          clear p5 p6 p7 p8
          go_roundg (k - (i + 1))
          case measure => omega
          case rel =>
            refine ⟨i + 1, os.set p (o + c), by omega, by omega, by go_num, ?_, ?_, ?_, ?_, hs.out, ?_⟩
            · exact t0.other _ _ (by show w.heap.size ≠ w.heap.size + 1 + 1 + 1; omega)
            · exact t1.other _ _ (by show w.heap.size + 1 ≠ w.heap.size + 1 + 1 + 1; omega)
            · exact t2.other _ _ (by show w.heap.size + 1 + 1 ≠ w.heap.size + 1 + 1 + 1; omega)
            · exact ho.set p _ hoc
            · exact hbl.setCell (by show w.heap.size ≤ w.heap.size + 1 + 1 + 1; omega) _
    · obtain rfl : i = k := by omega
      have ix : ¬ (i : Int) < (i : Int) := by omega
      have e := HV.out
      rw [List.take_of_length_le (by rw [LX.out]; omega)] at e
      have HE := Lib.hid e
      clear e HV
      obtain ⟨p1, p2, p3, p4⟩ := t0.cells
      obtain ⟨p5, p6, p7, p8⟩ := t1.cells
      obtain ⟨p9, p10, p11, p12⟩ := t2.cells
      have l2 := t2.lt
      go_wp2_with fail
      refine (big_trim (na != nb) _ n n os _ (ho.pcs (by unfold maxLen; omega)) (by omega)).mono ?_
      rintro e w1 ⟨neg1, ao1, k1, cap1, rfl, hI, hb1⟩
      obtain ⟨hc1, hf1⟩ := bcell hb1
      have hz1 := bz3 (n := w.heap.size) hb1 (by omega)
      have t2' := t2.below hb1
      obtain ⟨r1, r2, r3, r4⟩ := t2'.cells
      rw [HE.out] at hI
      go_wp2_with fail
      (go_light; simp [bodyPost, results, Try.results26, go_sem, *])
      exact ⟨neg1, ao1, k1, cap1, rfl, IsBig.keeps hI (by repeat' (first | (with_reducible exact Keeps.refl _) | (with_reducible refine Keeps.alloc ?_ _) | (with_reducible refine Keeps.drew ?_) | (with_reducible refine Keeps.drewN ?_ _) | (with_reducible refine Keeps.set ?_ _ _ (T := 29) ?_ (by decide)) | (with_reducible exact TyAt.new _ _ _ _ (by simp)) | (with_reducible refine TyAt.set ?_ _ _) | (with_reducible refine TyAt.alloc ?_ _) | (with_reducible refine TyAt.drew ?_) | (with_reducible refine TyAt.drewN ?_ _) | (apply Keeps.below; assumption) | (exact Two.ty (by assumption)) | (apply TyAt.below; rotate_left; assumption))), (by repeat' (first | (with_reducible exact Below.refl _ _) | (with_reducible assumption) | (with_reducible refine below_alloc ?_ _ ?_) | (with_reducible refine below_set _ ?_ ?_) | (with_reducible refine Below.drew ?_) | (with_reducible refine below_dN ?_ _) | (apply below_thenA; assumption) | omega | (simp; done) | (simp; omega) | (simp [*]; done)))⟩
end Go.Proofs.Ythffphcgkmjhbaa
