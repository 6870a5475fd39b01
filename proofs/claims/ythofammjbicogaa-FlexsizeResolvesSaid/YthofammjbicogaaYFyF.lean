/-
  The law FlexsizeResolves, walked.
-/
import Derived.Test.YthofammjbicogaaYFyD
import Derived.Test.YthofammjbicogaaYFxW
import Derived.Test.YthofammjbicogaaYFxO
import Derived.Test.YthofammjbicogaaYFxQ
import Derived.Test.YthofammjbicogaaYOpenD
namespace Go.Proofs.Ythofammjbicogaa
open Go.RowKit
set_option linter.unusedSimpArgs false
set_option linter.unusedVariables false

set_option maxRecDepth 100000 in
set_option maxHeartbeats 6400000 in
theorem law_resolves19 (v : Value) (av : Int) (hav : IFit av) (w : World) (hv : FxIn w v) :
    Calls Try.prog 9 #[v, .int .i64 av] w fun e w' => e = .returned (.bool true) ∧ Below w.heap.size w w' := by
  obtain ⟨ao, n, cap, l, rfl, hn, hl, hr, hf⟩ := hv
  obtain ⟨i0, hi, hz0, hz1, hz2⟩ := info_parts (show (Try.prog.info? 77).map (fun i => (i.zero, i.size, i.bytes)) = some (some (.agg #[.int .i64 0, .int .i64 0, .int .i64 0, .bool false, .int .i64 0, .int .i64 0, .int .i64 0]), 7, 56) by kernel_rfl)
  obtain ⟨k, ek⟩ : ∃ k, k = min n 25 := ⟨_, rfl⟩
  have CU := fun W hr => law19_cut ao n cap k l hn ek hl hf W hr
  obtain ⟨q, eq⟩ : ∃ q, (l.take k).map cutX = q := ⟨_, rfl⟩
  have hql : q.length = k := by rw [← eq, List.length_map, List.length_take, hl]; omega
  have hqc : ∀ x ∈ q, Cut x := fun x hx => by
    rw [← eq] at hx
    obtain ⟨y, _, rfl⟩ := List.mem_map.1 hx
    exact cutX_cut y
  rw [eq] at CU
  have hk25 : k ≤ 25 := by omega
  obtain ⟨room, er⟩ : ∃ r, av.tmod 68719476736 = r := ⟨_, rfl⟩
  have hro : -68719476736 ≤ room ∧ room ≤ 68719476736 := by
    have h1 := Int.lt_tmod_of_pos av (show (0 : Int) < 68719476736 by omega)
    have h2 := Int.tmod_lt_of_pos av (show (0 : Int) < 68719476736 by omega)
    omega
  obtain ⟨g, first, m, -, -, -, -, ers, erc, -⟩ := flex_ok hqc (by omega) hro
  have RV := fun a1 c1 W hr => law19_resolved a1 k c1 q room (by omega) hql (fun x hx => (hqc x hx).fit) (by unfold IFit; omega) W hr
  unfold RvAns at RV
  rw [erc, ers] at RV
  have RR := fun a1 c1 W hr => ref19_resolve a1 k c1 q room hk25 hql hqc hro W hr
  rw [ers] at RR
  obtain ⟨ts, ets⟩ : ∃ ts, m.map Fl.tg = ts := ⟨_, rfl⟩
  rw [ets] at RV RR
  have HR := Lib.hid hr
  have HQL := Lib.hid hql
  clear hr hql hqc eq ek hl hf ers erc ets
  go_enter Try.func9, Try.ntmps9
  go_wp2_with fail
  refine (speaks19 _).mono ?_
  rintro e w1 ⟨rfl, hb1⟩
  have CU1 := CU w1 (HR.out.below hb1)
  have HB1 := Lib.hid hb1
  clear hb1 CU
  go_wp2_with fail
  refine CU1.mono ?_
  rintro e w2 ⟨a1, c1, rfl, o1, hb2⟩
  have hB2 := HB1.out.trans (hb2.mono HB1.out.size)
  have hrow := o1.row
  have HB2 := Lib.hid hB2
  have HROW := Lib.hid hrow
  clear CU1 hb2 hB2 o1 hrow
  go_wp2_with fail
  go_loopg [7, 8] k (fun gk s7 s8 wr => ∃ (j : Nat) (aj : Option Addr) (cj : Nat), j ≤ k ∧ gk = k - j ∧ s7 = .slice aj j cj ∧ s8 = .int .i64 ((j : Int)) ∧ OwnW wr w2.heap.size 77 7 aj j cj (fxV (q.take j)) ∧ Below w2.heap.size w2 wr)
  case atStart => exact ⟨0, none, 0, by omega, by omega, rfl, rfl, OwnW.nil _ _ _ _, Below.refl _ _⟩
  case round =>
    obtain ⟨j, aj, cj, hj, rfl, rfl, rfl, o1, hB⟩ := hrel
    have hsB := hB.size
    by_cases hjk : j < k
    · have ix : (j : Int) < (k : Int) := by omega
      have hjl : j < q.length := by rw [HQL.out]; omega
      obtain ⟨g1, off, rfl, hg, hF⟩ := fx_at (HROW.out.below hB) HQL.out hjk
      have hsn := fxV_snoc hjl
      obtain ⟨x, ex⟩ : ∃ x, q.getD j fx0 = x := ⟨_, rfl⟩
      rw [ex] at hF hsn
      obtain ⟨h0, h1, h2, h3, h4, h5, h6⟩ := hF
      obtain ⟨ys, eys⟩ : ∃ ys, fxV (q.take j) = ys := ⟨_, rfl⟩
      rw [eys] at o1 hsn
      have hxv : x.vals = [.int .i64 x.base, .int .i64 x.least, .int .i64 x.most, .bool x.bound, .int .i64 x.extra, .int .i64 x.grow, .int .i64 x.shrink] := rfl
      rw [hxv] at hsn
      have HSN := Lib.hid hsn
      clear hsn ex eys hxv
      go_wp2_with (at_builtin; refine wpList_append_own _ rfl _ _ 75 rfl w2.heap.size 77 i0 (.agg #[.int .i64 0, .int .i64 0, .int .i64 0, .bool false, .int .i64 0, .int .i64 0, .int .i64 0]) 7 56 Try.underlying75 hi hz0 hz1 hz2 rfl (by decide) _ _ _ rfl (o1.alloc _) ⟨wr.heap.size, 0, none⟩ 1 1 [.int .i64 x.base, .int .i64 x.least, .int .i64 x.most, .bool x.bound, .int .i64 x.extra, .int .i64 x.grow, .int .i64 x.shrink] rfl rfl ?c1 ?c2 ?c3 ?c4 ?c5 ?_)
      case c1 =>
        intro j u hj
        match j, hj with
        | 0, hj => simp at hj; subst hj; simp [Addr.add]
        | 1, hj => simp at hj; subst hj; simp [Addr.add]
        | 2, hj => simp at hj; subst hj; simp [Addr.add]
        | 3, hj => simp at hj; subst hj; simp [Addr.add]
        | 4, hj => simp at hj; subst hj; simp [Addr.add]
        | 5, hj => simp at hj; subst hj; simp [Addr.add]
        | 6, hj => simp at hj; subst hj; simp [Addr.add]
      case c2 => intro u hu; simp at hu; rcases hu with rfl | rfl | rfl | rfl | rfl | rfl | rfl <;> rfl
      case c3 => unfold maxLen; omega
      case c4 => omega
      case c5 => simp; omega
      intro v' w6 hown' hgrow _
      obtain ⟨ao', cap', rfl, ho', _, hB'⟩ := OwnW.grown o1 hown' hgrow (by omega)
      have hB6 := hB' _ _ (Nat.le_refl _) hB
      have HO6 := Lib.hid ho'
      have HB6 := Lib.hid hB6
      clear hown' hgrow hB' ho' hB6 o1 hB
      go_wp2_with fail
      go_roundg (k - (j + 1))
      case measure => omega
      case rel => exact ⟨j + 1, ao', cap', by omega, rfl, rfl, by go_num, by rw [HSN.out]; exact HO6.out, HB6.out⟩
    · obtain rfl : k = j := by omega
      have ix : ¬ (k : Int) < (k : Int) := by omega
      rw [List.take_of_length_le (by rw [HQL.out]; omega)] at o1
      obtain ⟨wy, rfl⟩ : ∃ x, x = wr := ⟨_, rfl⟩
      have hbrow := o1.row
      have RV2 := RV a1 c1 wy (HROW.out.below hB)
      have hB3 := HB2.out.trans (hB.mono HB2.out.size)
      have HB3 := Lib.hid hB3
      have BROW := Lib.hid hbrow
      clear o1 hbrow hB hB3 RV
      go_wp2_with fail
      refine RV2.mono ?_
      rintro e w3 ⟨a2, mm, c2, rfl, h1, -, hb3⟩
      obtain ⟨xs, e1, rfl, r3⟩ := h1 (by first | rfl | trivial)
      obtain rfl : ts = xs := by simpa using e1
      have hB4 := HB3.out.trans (hb3.mono HB3.out.size)
      have RR2 := RR aj cj w3 (BROW.out.below hb3)
      have R3 := Lib.hid r3
      have HB4 := Lib.hid hB4
      clear RV2 RR h1 e1 hb3 hB4 r3
      go_wp2_with fail
      refine RR2.mono ?_
      rintro e w4 ⟨a4, ys, rfl, e2, r4, hb4⟩
      obtain rfl : ts = ys := by simpa using e2
      have hB5 := HB4.out.trans (hb4.mono HB4.out.size)
      have r3b := R3.out.below hb4
      have HB5 := Lib.hid hB5
      have R3B := Lib.hid r3b
      have R4 := Lib.hid r4
      clear RR2 e2 hb4 hB5 r3b r4
      have hne : ((mm : Int) != (mm : Int)) = false := by simp
      go_wp2_with fail
      go_loopg [12] mm (fun gk s12 wx => ∃ (j : Nat), j ≤ mm ∧ gk = mm - j ∧ s12 = .int .i64 ((j : Int)) ∧ ∃ nd, wx = w4.drewN nd)
      case atStart => exact ⟨0, by omega, by omega, rfl, 0, rfl⟩
      case round =>
        obtain ⟨j, hj, rfl, rfl, nd, rfl⟩ := hrel
        by_cases hjk : j < mm
        · have ix : (j : Int) < (mm : Int) := by omega
          obtain ⟨g3, o3, rfl, _, c3⟩ := R3B.out.at hjk
          obtain ⟨g4, o4, rfl, _, c4⟩ := R4.out.at hjk
          obtain ⟨t, et⟩ : ∃ t, ts.getD j 0 = t := ⟨_, rfl⟩
          rw [et] at c3 c4
          have hnt : (t != t) = false := by simp
          clear et
          go_upto_region 17 with (fail)
          go_quiet (fail)
          go_wp2_with fail
          go_roundg (mm - (j + 1))
          case measure => omega
          case rel => exact ⟨j + 1, by omega, rfl, by go_num, nd + nq, rfl⟩
        · obtain rfl : mm = j := by omega
          have ix : ¬ (mm : Int) < (mm : Int) := by omega
          go_wp2_with fail
          go_ret
          exact ⟨rfl, below_dN HB5.out nd⟩
end Go.Proofs.Ythofammjbicogaa
