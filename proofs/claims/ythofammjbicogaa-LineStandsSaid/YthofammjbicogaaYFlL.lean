/-
  The reference of layer 20: Room, Places, auto, Even.
-/
import Derived.Test.YthofammjbicogaaYFlJ
namespace Go.Proofs.Ythofammjbicogaa
open Go.RowKit
set_option linter.unusedSimpArgs false
set_option linter.unusedVariables false

set_option maxRecDepth 100000 in
set_option maxHeartbeats 1600000 in
theorem ref20_room (ao : Option Addr) (k cap : Nat) (xs : List Int) (avail gap : Int) (h : Lim xs k avail gap) (w : World) (hx : RowI w ao k xs) :
    Calls Try.prog 70 #[.slice ao k cap, .int .i64 avail, .int .i64 gap] w fun e w' => e = .returned (.int .i64 (roomV xs avail gap k)) ∧ Below w.heap.size w w' := by
  have HX := Lib.hid hx
  have HL := Lib.hid h
  have hk30 := h.k30
  clear hx h
  go_enter Try.func70, Try.ntmps70
  go_wp2_with fail
  go_loopg [1, 7] k (fun gk s1 s7 wr => ∃ (j : Nat) (r : Int), j ≤ k ∧ gk = k - j ∧ s1 = .int .i64 r ∧ s7 = .int .i64 ((j : Int)) ∧ r = roomV xs avail gap j ∧ Below w.heap.size w wr)
  case atStart => exact ⟨0, avail, by omega, by omega, rfl, rfl, (room_zero _ _ _).symm, Below.refl _ _⟩
  case round =>
    obtain ⟨j, r, hj, rfl, rfl, rfl, er, hB⟩ := hrel
    have hr := room_lim HL.out (show j ≤ 30 by omega)
    rw [← er] at hr
    have hr1 := hr.1
    have hr2 := hr.2
    have ER := Lib.hid er
    clear er hr
    by_cases hjk : j < k
    · have ix : (j : Int) < (k : Int) := by omega
      obtain ⟨g, off, rfl, _, hcx⟩ := (HX.out.below hB).at hjk
      have hx := HL.out.xs36 j
      have hg := HL.out.gp
      by_cases hj0 : j = 0
      · have en := room_one xs avail gap
        subst hj0
        rw [← ER.out] at en
        obtain ⟨x, ex⟩ : ∃ x, xs.getD 0 0 = x := ⟨_, rfl⟩
        rw [ex] at hcx hx en
        rw [Nat.add_zero] at hcx
        have hw1 : wrap64 (r - x) = r - x := by simp only [wrap64]; omega
        have EN := Lib.hid en
        have EW := Lib.hid hw1
        have hk0 : 0 < k := hjk
        clear ex en hw1
        go_wp2_with fail
        go_roundg (k - 1)
        case measure => omega
        case rel => exact ⟨1, r - x, by omega, by omega, by first | rfl | rw [EW.out], by go_num, EN.out.symm, hB⟩
      · have en := room_next xs avail gap j (by omega)
        rw [← ER.out] at en
        obtain ⟨x, ex⟩ : ∃ x, xs.getD j 0 = x := ⟨_, rfl⟩
        rw [ex] at hcx hx en
        have hj0' : (0 : Int) < (j : Int) := by omega
        have hjp : 0 < j := by omega
        have hw1 : wrap64 (r - x) = r - x := by simp only [wrap64]; omega
        have hw2 : wrap64 (r - x - gap) = r - gap - x := by simp only [wrap64]; omega
        have hw3 : wrap64 (wrap64 (r - x) - gap) = r - gap - x := by rw [hw1]; exact hw2
        have EN := Lib.hid en
        have EW := Lib.hid hw2
        have EW3 := Lib.hid hw3
        clear ex en hj0 hw1 hw2 hw3
        go_wp2_with fail
        go_roundg (k - (j + 1))
        case measure => omega
        case rel => exact ⟨j + 1, r - x - gap, by omega, rfl, by first | rfl | (rw [EW.out]; congr 1; omega) | (rw [EW3.out]; congr 1; omega), by go_num, by rw [EN.out]; omega, hB⟩
    · obtain rfl : j = k := by omega
      have ix : ¬ (j : Int) < (j : Int) := by omega
      go_wp2_with fail
      go_ret
      exact ⟨by rw [ER.out]; rfl, hB⟩
set_option maxRecDepth 100000 in
set_option maxHeartbeats 3200000 in
theorem ref20_places (ao so : Option Addr) (k cap m sc : Nat) (xs sp : List Int) (gap : Int) (hk30 : k ≤ 30) (hgp : -1073741824 ≤ gap ∧ gap ≤ 1073741824) (h : ∀ j, j ≤ k → -6597069766656 ≤ pre xs j ∧ pre xs j ≤ 6597069766656) (hkm : k ≤ m) (hsf : ∀ j, j ≤ k → -8796093022208 ≤ pre sp j ∧ pre sp j ≤ 8796093022208) (w : World) (hx : RowI w ao k xs) (hy : RowI w so m sp) :
    Calls Try.prog 72 #[.slice ao k cap, .slice so m sc, .int .i64 gap] w fun e w' => ∃ aj cj, e = .returned (.slice aj k cj) ∧ OwnI w' w.heap.size aj k cj (plN xs sp gap k) ∧ Below w.heap.size w w' := by
  obtain ⟨i0, hi, hz0, hz1, hz2⟩ := info_parts (show (Try.prog.info? 2).map (fun i => (i.zero, i.size, i.bytes)) = some (some (.int .i64 0), 1, 8) by kernel_rfl)
  obtain ⟨Q, eQ⟩ : ∃ Q : Ending → World → Prop, Q = fun e w' => ∃ aj cj, e = .returned (.slice aj k cj) ∧ OwnI w' w.heap.size aj k cj (plN xs sp gap k) ∧ Below w.heap.size w w' := ⟨_, rfl⟩
  rw [← eQ]
  have EQ := Lib.hid eQ
  have HX := Lib.hid hx
  have HY := Lib.hid hy
  have HL := Lib.hid h
  have HS := Lib.hid hsf
  have HG := Lib.hid hgp
  clear hx hy h hsf eQ
  go_enter Try.func72, Try.ntmps72
  go_wp2_with fail
  go_loopg [7, 8, 9] k (fun gk s7 s8 s9 wr => ∃ (j : Nat) (aj : Option Addr) (cj : Nat) (a : Int), j ≤ k ∧ gk = k - j ∧ s7 = .slice aj j cj ∧ s8 = .int .i64 a ∧ s9 = .int .i64 ((j : Int)) ∧ a = pre sp j + pre xs j + gap * (j : Int) ∧ OwnI wr w.heap.size aj j cj (plN xs sp gap j) ∧ Below w.heap.size w wr)
  case atStart => exact ⟨0, none, 0, 0, by omega, by omega, rfl, rfl, rfl, by simp [pre], OwnI.nil _ _, Below.refl _ _⟩
  case round =>
    obtain ⟨j, aj, cj, a, hj, rfl, rfl, rfl, rfl, ea, ho, hB⟩ := hrel
    have hsz := hB.size
    by_cases hjk : j < k
    · have ix : (j : Int) < (k : Int) := by omega
      have ixm : (j : Int) < (m : Int) := by omega
      obtain ⟨g, off, rfl, hg1, hcx⟩ := (HX.out).at hjk
      obtain ⟨g2, off2, rfl, hg2, hcy⟩ := (HY.out).at (show j < m by omega)
      have px := HL.out j (by omega)
      have px1 := HL.out (j + 1) (by omega)
      have gj := gap_lim HG.out (show j ≤ 30 by omega)
      have gj1 := gap_lim HG.out (show j + 1 ≤ 30 by omega)
      have s0 := HS.out j (by omega)
      have s1 := HS.out (j + 1) (by omega)
      have es1 : pre sp (j + 1) = pre sp j + sp.getD j 0 := rfl
      have ex1 : pre xs (j + 1) = pre xs j + xs.getD j 0 := rfl
      have eg1 : gap * ((j + 1 : Nat) : Int) = gap * (j : Int) + gap := by push_cast; rw [Int.mul_add, Int.mul_one]
      have hpl : plAt xs sp gap j = a + sp.getD j 0 := by unfold plAt; rw [es1, ea]; omega
      have hnx : pre sp (j + 1) + pre xs (j + 1) + gap * ((j + 1 : Nat) : Int) = a + sp.getD j 0 + (xs.getD j 0 + gap) := by rw [es1, ex1, eg1, ea]; omega
      obtain ⟨x, ex⟩ : ∃ x, xs.getD j 0 = x := ⟨_, rfl⟩
      obtain ⟨y, ey⟩ : ∃ y, sp.getD j 0 = y := ⟨_, rfl⟩
      rw [ex] at hcx ex1 hnx
      rw [ey] at hcy es1 hpl hnx
      have w1 : wrap64 (a + y) = a + y := by simp only [wrap64]; omega
      have w2 : wrap64 (x + gap) = x + gap := by simp only [wrap64]; omega
      have w3 : wrap64 (a + y + (x + gap)) = a + y + (x + gap) := by simp only [wrap64]; omega
      have W2 := Lib.hid w2
      have W3 := Lib.hid w3
      have hcx0 := (hB.cell (p := ⟨g, off + j, none⟩) hg1).trans hcx
      have hcy0 := (hB.cell (p := ⟨g2, off2 + j, none⟩) hg2).trans hcy
      have HPL := Lib.hid hpl
      have HNX := Lib.hid hnx
      have HCX := Lib.hid hcx
      clear ea px px1 gj gj1 s0 s1 es1 ex1 eg1 hpl hnx ex ey hcx hcy w2 w3
      have hsh := ho.shape
      go_wp2_with (at_builtin; refine wpList_append_own _ rfl _ _ 31 rfl w.heap.size 2 i0 (.int .i64 0) 1 8 Try.underlying31 hi hz0 hz1 hz2 rfl (by decide) _ _ _ rfl (ho.1.alloc _) ⟨wr.heap.size, 0, none⟩ 1 1 [.int .i64 (a + y)] rfl rfl ?c1 ?c2 ?c3 ?c4 ?c5 ?_)
      case c1 =>
        intro j u hj
        match j, hj with
        | 0, hj => simp at hj; subst hj; simp [Addr.add, w1]
      case c2 => intro u hu; simp at hu; subst hu; rfl
      case c3 => unfold maxLen; omega
      case c4 => omega
      case c5 => simp; omega
      intro v' w2 hown' hgrow _
      obtain ⟨ao', cap', rfl, ho', _, hB'⟩ := ho.grown hown' hgrow (by omega)
      replace hB := hB' _ _ (Nat.le_refl _) hB
      clear hown' hgrow hB' hsh hsz ho
      have hcx1 := (hB.cell (p := ⟨g, off + j, none⟩) hg1).trans HCX.out
      go_wp2_with fail
      go_roundg (k - (j + 1))
      case measure => omega
      case rel => exact ⟨j + 1, ao', cap', a + y + (x + gap), by omega, rfl, rfl, by first | rw [W2.out, W3.out] | rw [w1, W2.out, W3.out], by go_num, HNX.out.symm, by rw [plN_succ, HPL.out]; exact ho', hB⟩
    · obtain rfl : j = k := by omega
      have ix : ¬ (j : Int) < (j : Int) := by omega
      go_wp2_with fail
      rw [EQ.out]
      exact ⟨aj, cj, rfl, ho, hB⟩
set_option maxRecDepth 100000 in
set_option maxHeartbeats 1600000 in
theorem ref20_auto (ba : Option Addr) (m bc i q : Nat) (bs : List Bool) (hm : m ≤ 100) (hq : q < 2) (hbs : bs.length = m * 2) (w : World) (hr : RowV w ba m 2 (bools bs)) :
    Calls Try.prog 71 #[.slice ba m bc, .int .i64 ((i : Int)), .int .i64 ((q : Int))] w fun e w' => e = .returned (.bool (bs.getD (i * 2 + q) false)) ∧ w' = w := by
  have hq2 : (q : Int) < 2 := by omega
  by_cases h : i < m
  · obtain ⟨g, off, rfl, hg, hc⟩ := hr.at h
    have c0 := hc q hq
    rw [bools_get bs _ (by omega)] at c0
    have ix : (i : Int) < (m : Int) := by omega
    obtain ⟨x, ex⟩ : ∃ x, bs.getD (i * 2 + q) false = x := ⟨_, rfl⟩
    rw [ex] at c0 ⊢
    clear ex hc hr
    go_enter Try.func71, Try.ntmps71
    go_wp2_with fail
    go_ret
    exact ⟨rfl, rfl⟩
  · have e : bs.getD (i * 2 + q) false = false := by simp only [List.getD]; rw [List.getElem?_eq_none (by omega)]; rfl
    have ix : ¬ (i : Int) < (m : Int) := by omega
    rw [e]
    clear e hr
    go_enter Try.func71, Try.ntmps71
    go_wp2_with fail
    go_ret
    exact ⟨rfl, rfl⟩
theorem ones_succ (n : Nat) : ones (n + 1) = ones n ++ [1] := by unfold ones; rw [List.replicate_succ']
set_option maxRecDepth 100000 in
set_option maxHeartbeats 1600000 in
theorem ref20_even (t P : Int) (p : Nat) (hP : P = (p : Int)) (hp2 : p ≤ 1000) (ht : lenB t = true) (w : World) :
    Calls Try.prog 74 #[.int .i64 t, .int .i64 P] w fun e w' => ∃ ao cap, e = .returned (.slice ao p cap) ∧ RowI w' ao p (evL t p) ∧ p ≤ cap ∧ cap ≤ maxLen ∧ (∀ g off, ao = some ⟨g, off, none⟩ → w.heap.size ≤ g) ∧ Below w.heap.size w w' := by
  subst hP
  obtain ⟨i0, hi, hz0, hz1, hz2⟩ := info_parts (show (Try.prog.info? 2).map (fun i => (i.zero, i.size, i.bytes)) = some (some (.int .i64 0), 1, 8) by kernel_rfl)
  have hL := (lenB_iff t).1 ht
  have SP := fun ao cap W hx => ref5_split t ao p cap (ones p) (by omega) hL.fit (fits_ones p) W hx
  unfold SplitAns at SP
  rw [shE_one (by omega) ht, one_pre p p (Nat.le_refl _)] at SP
  obtain ⟨Q, eQ⟩ : ∃ Q : Ending → World → Prop, Q = fun e w' => ∃ ao cap, e = .returned (.slice ao p cap) ∧ RowI w' ao p (evL t p) ∧ p ≤ cap ∧ cap ≤ maxLen ∧ (∀ g off, ao = some ⟨g, off, none⟩ → w.heap.size ≤ g) ∧ Below w.heap.size w w' := ⟨_, rfl⟩
  rw [← eQ]
  have EQ := Lib.hid eQ
  clear ht hL eQ
  go_enter Try.func74, Try.ntmps74
  go_wp2_with fail
  go_loopg [5, 6] p (fun gk s5 s6 wr => ∃ (j : Nat) (aj : Option Addr) (cj : Nat), j ≤ p ∧ gk = p - j ∧ s5 = .slice aj j cj ∧ s6 = .int .i64 ((j : Int)) ∧ OwnI wr w.heap.size aj j cj (ones j) ∧ Below w.heap.size w wr)
  case atStart => exact ⟨0, none, 0, by omega, by omega, rfl, rfl, OwnI.nil _ _, Below.refl _ _⟩
  case round =>
    obtain ⟨j, aj, cj, hj, rfl, rfl, rfl, ho, hB⟩ := hrel
    have hsz := hB.size
    have hsh := ho.shape
    by_cases hjk : j < p
    · have ix : (j : Int) < (p : Int) := by omega
      go_wp2_with (at_builtin; refine wpList_append_own _ rfl _ _ 31 rfl w.heap.size 2 i0 (.int .i64 0) 1 8 Try.underlying31 hi hz0 hz1 hz2 rfl (by decide) _ _ _ rfl (ho.1.alloc _) ⟨wr.heap.size, 0, none⟩ 1 1 [.int .i64 1] rfl rfl ?c1 ?c2 ?c3 ?c4 ?c5 ?_)
      case c1 =>
        intro j u hj
        match j, hj with
        | 0, hj => simp at hj; subst hj; simp [Addr.add]
      case c2 => intro u hu; simp at hu; subst hu; rfl
      case c3 => unfold maxLen; omega
      case c4 => omega
      case c5 => simp; omega
      intro v' w2 hown' hgrow _
      obtain ⟨ao', cap', rfl, ho', _, hB'⟩ := ho.grown hown' hgrow (by omega)
      replace hB := hB' _ _ (Nat.le_refl _) hB
      clear hown' hgrow hB' hsh hsz ho
      go_wp2_with fail
      go_roundg (p - (j + 1))
      case measure => omega
      case rel => exact ⟨j + 1, ao', cap', by omega, rfl, rfl, by go_num, by rw [ones_succ]; exact ho', hB⟩
    · obtain rfl : j = p := by omega
      have ix : ¬ (j : Int) < (j : Int) := by omega
      have hrw := ho.row
      clear ho hsh
      go_wp2_with fail
      refine (SP _ _ _ hrw).mono ?_
      rintro e w2 ⟨a2, m, c2, ys, rfl, r1, q1, q2, h1, -, hb⟩
      obtain ⟨e2, rfl⟩ := h1 (by first | trivial | rfl)
      obtain rfl := e2.symm
      have hbb := hB.trans (hb.mono hB.size)
      clear hb h1 e2
      go_wp2_with fail
      rw [EQ.out]
      exact ⟨a2, c2, rfl, r1, q1, q2.1, fun g off e => Nat.le_trans hsz (q2.2 g off e), hbb⟩
end Go.Proofs.Ythofammjbicogaa
