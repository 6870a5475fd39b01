/-
  The reference of layer 19, its small functions by their contracts.
-/
import Derived.Test.YthofammjbicogaaYFxY
import Derived.Test.YthofammjbicogaaZ10
namespace Go.Proofs.Ythofammjbicogaa
open Go.RowKit
set_option linter.unusedSimpArgs false
set_option linter.unusedVariables false

set_option maxRecDepth 100000 in
theorem ref19_within (x : Fx) (n : Int) (w : World) : Calls Try.prog 77 #[x.val, .int .i64 n] w fun e w' => e = .returned (.int .i64 (x.lim n)) ∧ Below w.heap.size w w' := by
  have WI := fun W => ref14_within n x.least x.most x.bound W
  unfold Fx.val
  go_enter Try.func77, Try.ntmps77
  go_wp2_with (go_at_call 101; with_reducible refine (WI _).mono ?_; rintro e w1 ⟨rfl, rfl⟩)
  go_ret
  exact ⟨rfl, (by repeat' (first | (with_reducible exact Below.refl _ _) | (with_reducible assumption) | (with_reducible refine below_alloc ?_ _ ?_) | (with_reducible refine below_set _ ?_ ?_) | (with_reducible refine Below.drew ?_) | (with_reducible refine below_dN ?_ _) | (apply below_thenA; assumption) | omega | (simp; done) | (simp; omega) | (simp [*]; done)))⟩
set_option maxRecDepth 100000 in
theorem ref19_down (n : Int) (hn : IFit n) (w : World) : Calls Try.prog 79 #[.int .i64 n] w fun e w' => e = .returned (.int .i64 (n / 4096)) ∧ w' = w := by
  obtain ⟨h1, h2⟩ := hn
  have e1 : n.tdiv 4096 = if n.tmod 4096 < 0 then n / 4096 + 1 else n / 4096 := by
    have a1 := Int.mul_tdiv_add_tmod n 4096
    have a2 := Int.mul_ediv_add_emod n 4096
    have a3 := Int.emod_nonneg n (show (4096 : Int) ≠ 0 by omega)
    have a4 := Int.emod_lt_of_pos n (show (0 : Int) < 4096 by omega)
    have a5 := Int.lt_tmod_of_pos n (show (0 : Int) < 4096 by omega)
    have a6 := Int.tmod_lt_of_pos n (show (0 : Int) < 4096 by omega)
    have a7 : 0 ≤ n → n.tmod 4096 = n % 4096 := fun h => Int.tmod_eq_emod_of_nonneg h
    have a8 : n < 0 → n.tmod 4096 ≤ 0 := fun h => by
      have := Int.tmod_nonneg (a := -n) 4096 (by omega)
      rw [Int.neg_tmod] at this
      omega
    split <;> omega
  obtain ⟨d, ed⟩ : ∃ d, n.tdiv 4096 = d := ⟨_, rfl⟩
  obtain ⟨r, er⟩ : ∃ d, n.tmod 4096 = d := ⟨_, rfl⟩
  rw [ed, er] at e1
  by_cases hr : r < 0
  · rw [if_pos hr] at e1
    have hb1 : -9223372036854775808 ≤ d - 1 := by omega
    have hb2 : d - 1 ≤ 9223372036854775807 := by omega
    have hb3 : -9223372036854775808 ≤ d := by omega
    have hb4 : d ≤ 9223372036854775807 := by omega
    have hq : n / 4096 = d - 1 := by omega
    rw [hq]
    clear e1 hq
    go_enter Try.func79, Try.ntmps79
    go_wp2_with fail
    go_ret
    exact ⟨rfl, rfl⟩
  · rw [if_neg hr] at e1
    have hb3 : -9223372036854775808 ≤ d := by omega
    have hb4 : d ≤ 9223372036854775807 := by omega
    rw [← e1]
    clear e1
    go_enter Try.func79, Try.ntmps79
    go_wp2_with fail
    go_ret
    exact ⟨rfl, rfl⟩
set_option maxRecDepth 100000 in
theorem ref19_size (n : Int) (h1 : -9223372036854775808 < n) (h2 : n ≤ 9223372036854775807) (w : World) : Calls Try.prog 80 #[.int .i64 n] w fun e w' => e = .returned (.int .i64 (absI n)) ∧ w' = w := by
  by_cases h : n < 0
  · have e : absI n = -n := by unfold absI; omega
    rw [e]
    clear e
    go_enter Try.func80, Try.ntmps80
    go_wp2_with fail
    go_ret
    exact ⟨rfl, rfl⟩
  · have e : absI n = n := by unfold absI; omega
    rw [e]
    clear e
    go_enter Try.func80, Try.ntmps80
    go_wp2_with fail
    go_ret
    exact ⟨rfl, rfl⟩
def bolV (st : List Fl) : List Value := st.map fun y => .bool y.fi
theorem bol_at {w : World} {ao : Option Addr} {n : Nat} {st : List Fl} (h : RowV w ao n 1 (bolV st)) (hl : st.length = n) {i : Nat} (hi : i < n) : ∃ g off, ao = some ⟨g, off, none⟩ ∧ g < w.heap.size ∧ w.cell? ⟨g, off + i, none⟩ = some (.bool (st.getD i fl0).fi) := by
  obtain ⟨g, off, e, hg, hc⟩ := h.at hi
  refine ⟨g, off, e, hg, ?_⟩
  have := hc 0 (by omega)
  rw [Nat.mul_one, Nat.add_zero, Nat.add_zero] at this
  rw [this]
  simp [bolV, List.getD, hl, hi]
def outV (y : Fl) : Int := y.it.extra + y.now
set_option maxRecDepth 100000 in
set_option maxHeartbeats 1600000 in
theorem ref19_free (al ao ab : Option Addr) (n cl co cb : Nat) (st : List Fl) (avail : Int) (hn : n ≤ 25) (hl : st.length = n) (hb : ∀ y ∈ st, (-1073741823 ≤ y.it.extra ∧ y.it.extra ≤ 1073741823) ∧ 0 ≤ y.now ∧ y.now ≤ 549755813888) (ha : -68719476736 ≤ avail ∧ avail ≤ 68719476736) (w : World) (hr : RowV w al n 7 (fxV (st.map Fl.it))) (hs : RowI w ao n (st.map Fl.tg)) (hf : RowV w ab n 1 (bolV st)) :
    Calls Try.prog 78 #[.slice al n cl, .slice ao n co, .slice ab n cb, .int .i64 avail] w fun e w' => e = .returned (.int .i64 (avail - sm outV st)) ∧ w' = w := by
  have HR := Lib.hid hr
  have HS := Lib.hid hs
  have HF := Lib.hid hf
  have HL := Lib.hid hl
  have HB := Lib.hid hb
  clear hr hs hf hl hb
  go_enter Try.func78, Try.ntmps78
  go_wp2_with fail
  go_loopg [3, 9] n (fun gk s3 s9 wr => ∃ (j : Nat), j ≤ n ∧ gk = n - j ∧ s3 = .int .i64 (avail - sm outV (st.take j)) ∧ s9 = .int .i64 ((j : Int)) ∧ w = wr)
  case atStart => exact ⟨0, by omega, by omega, by simp [sm], rfl, rfl⟩
  case round =>
    obtain ⟨j, hj, rfl, rfl, rfl, rfl⟩ := hrel
    by_cases hjk : j < n
    · have ix : (j : Int) < (n : Int) := by omega
      have hjl : j < st.length := by rw [HL.out]; exact hjk
      obtain ⟨g1, o1, rfl, hg1, hF⟩ := fx_at HR.out (by rw [List.length_map, HL.out]) hjk
      obtain ⟨g2, o2, rfl, hg2, hc2⟩ := HS.out.at hjk
      obtain ⟨g3, o3, rfl, hg3, hc3⟩ := bol_at HF.out HL.out hjk
      have e1 : (st.map Fl.it).getD j fx0 = (st.getD j fl0).it := by simp [List.getD, hjl]
      have e2 : (st.map Fl.tg).getD j 0 = (st.getD j fl0).tg := by simp [List.getD, hjl]
      rw [e1] at hF
      rw [e2] at hc2
      have ht := sm_take (f := outV) hjl
      have hbb := sm_bnd (f := outV) (A := -1073741823) (B := 550829555711) (m := st.take j) (fun z hz => by
        have := HB.out z (List.mem_of_mem_take hz)
        unfold outV
        omega)
      have hlt : (st.take j).length ≤ 25 := by rw [List.length_take]; omega
      have hy := HB.out (st.getD j fl0) (by
        have e : st.getD j fl0 = st[j] := by simp [List.getD, hjl]
        rw [e]; exact List.getElem_mem hjl)
      obtain ⟨y, ey⟩ : ∃ y, st.getD j fl0 = y := ⟨_, rfl⟩
      rw [ey] at hF hc2 hc3 ht hy
      obtain ⟨h0, h1, h2, h3, h4, h5, h6⟩ := hF
      obtain ⟨S, eS⟩ : ∃ s, sm outV (st.take j) = s := ⟨_, rfl⟩
      rw [eS] at ht hbb
      rw [eS]
      have hB : -26843545575 ≤ S ∧ S ≤ 13770738892775 := by omega
      have hov : outV y = y.it.extra + y.now := rfl
      rw [hov] at ht
      have HT := Lib.hid ht
      clear ht hbb hlt ey eS e1 e2 hov hjl
      cases hx : y.fi
      · have en : y.now = y.it.base := by unfold Fl.now; rw [hx]; rfl
        rw [hx] at hc3
        rw [en] at hy
        have EN := Lib.hid en
        clear hx en
        go_wp2_with fail
        go_roundg (n - (j + 1))
        case measure => omega
        case rel => exact ⟨j + 1, by omega, rfl, by rw [HT.out, EN.out]; exact congrArg (fun z => Value.int .i64 z) (by omega), by go_num, rfl⟩
      · have en : y.now = y.tg := by unfold Fl.now; rw [hx]; rfl
        rw [hx] at hc3
        rw [en] at hy
        have EN := Lib.hid en
        clear hx en
        go_wp2_with fail
        go_roundg (n - (j + 1))
        case measure => omega
        case rel => exact ⟨j + 1, by omega, rfl, by rw [HT.out, EN.out]; exact congrArg (fun z => Value.int .i64 z) (by omega), by go_num, rfl⟩
    · obtain rfl : n = j := by omega
      have ix : ¬ (n : Int) < (n : Int) := by omega
      rw [List.take_of_length_le (by rw [HL.out]; omega)]
      go_wp2_with fail
      go_ret
      exact ⟨rfl, rfl⟩
end Go.Proofs.Ythofammjbicogaa
