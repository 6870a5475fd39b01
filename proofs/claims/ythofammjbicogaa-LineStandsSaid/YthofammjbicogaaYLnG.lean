/-
  The reference of layer 13: Width, Ends.
-/
import Derived.Test.YthofammjbicogaaYLnF
import Derived.Test.YthofammjbicogaaYLawL
import Derived.Test.YthofammjbicogaaYFlR
namespace Go.Proofs.Ythofammjbicogaa
open Go.RowKit
set_option linter.unusedSimpArgs false
set_option linter.unusedVariables false

def RwAns (r : Option Int) (w : World) (e : Ending) (w' : World) : Prop := e = .returned (.tuple #[.int .i64 (oN r), .int .i64 (oE r)]) ∧ Below w.heap.size w w'
theorem own_sints {w : World} {B k cap : Nat} {ao : Option Addr} {xs : List Int} (h : OwnI w B ao k cap xs) (hf : ∀ x ∈ xs, IFit x) : SInts w ao k cap xs := by
  have hfit : ∀ i, i < k → IFit (xs.getD i 0) := fun i hi => by
    have hl : i < xs.length := by have := h.2; omega
    simp only [List.getD]
    rw [List.getElem?_eq_getElem hl]
    exact hf _ (List.getElem_mem hl)
  rcases h.1.2 with ⟨e, e2⟩ | ⟨g, c, cur, e, _, hg, _⟩
  · obtain ⟨rfl, rfl, rfl⟩ : ao = none ∧ k = 0 ∧ cap = 0 := by simpa using e
    exact .inl ⟨rfl, rfl, rfl, List.eq_nil_of_length_eq_zero h.2⟩
  · obtain ⟨rfl, rfl⟩ : ao = some ⟨g, 0, none⟩ ∧ cap = c := by simpa using e
    have hlt := (Array.getElem?_eq_some_iff.1 hg).1
    refine .inr ⟨g, 0, rfl, ⟨h.2, hfit, fun i hi => ?_⟩, hlt, h.shape.1⟩
    obtain ⟨g', off', e', _, hc⟩ := h.row.at hi
    obtain ⟨rfl, rfl⟩ : g = g' ∧ 0 = off' := by simpa using e'
    exact hc
set_option maxRecDepth 100000 in
set_option maxHeartbeats 3200000 in
theorem r13_width (ao : Option Addr) (k cap a b : Nat) (l : List It) (hk : k ≤ 1000) (hl : l.length = k) (hf : ItFit l) (hab : a ≤ b) (hbk : b ≤ k) (w : World) (hr : RowV w ao k 4 (itV l)) :
    Calls Try.prog 31 #[.slice ao k cap, .int .i64 ((a : Int)), .int .i64 ((b : Int))] w (RwAns (wd l a b) w) := by
  obtain ⟨i0, hi, hz0, hz1, hz2⟩ := info_parts (show (Try.prog.info? 2).map (fun i => (i.zero, i.size, i.bytes)) = some (some (.int .i64 0), 1, 8) by kernel_rfl)
  obtain ⟨Q, eQ⟩ : ∃ Q : Ending → World → Prop, Q = RwAns (wd l a b) w := ⟨_, rfl⟩
  rw [← eQ]
  have EQ := Lib.hid eQ
  have HR := Lib.hid hr
  have HF := Lib.hid hf
  have HL := Lib.hid hl
  clear eQ hr hf hl
  go_enter Try.func31, Try.ntmps31
  go_wp2_with fail
  go_loopg [8, 9] (b - a) (fun gk s8 s9 wr => ∃ (i n : Nat) (aj : Option Addr) (cj : Nat), a ≤ i ∧ i ≤ b ∧ gk = b - i ∧ s8 = .slice aj n cj ∧ s9 = .int .i64 ((i : Int)) ∧ OwnI wr w.heap.size aj n cj (pts l a b (i - a)) ∧ n ≤ 2 * (i - a) ∧ Below w.heap.size w wr)
  case atStart => exact ⟨a, 0, none, 0, Nat.le_refl _, hab, rfl, rfl, rfl, by rw [Nat.sub_self]; exact OwnI.nil _ _, by omega, Below.refl _ _⟩
  case round =>
    obtain ⟨i, n, aj, cj, hai, hib, rfl, rfl, rfl, ho, hn, hB⟩ := hrel
    have hsB := hB.size
    have hsh := ho.shape
    by_cases hjb : i < b
    · have ix : (i : Int) < (b : Int) := by omega
      have ixk : (i : Int) < (k : Int) := by omega
      obtain ⟨g, off, rfl, hg, hcx⟩ := HR.out.at (show i < k by omega)
      have hgv := itV_get l i (by rw [HL.out]; omega)
      have c0 := hcx 0 (by omega)
      have c1 := hcx 1 (by omega)
      rw [hgv.1, Nat.add_zero] at c0
      rw [hgv.2.1] at c1
      have est : pts l a b (i + 1 - a) = pts l a b (i - a) ++ ptAt l b i := by
        rw [show i + 1 - a = (i - a) + 1 by omega]
        show pts l a b (i - a) ++ ptAt l b (a + (i - a)) = _
        rw [show a + (i - a) = i by omega]
      unfold ptAt at est
      obtain ⟨x, ex⟩ : ∃ x, (l.getD i it0).w = x := ⟨_, rfl⟩
      obtain ⟨y, ey⟩ : ∃ x, (l.getD i it0).s = x := ⟨_, rfl⟩
      rw [ex] at c0 est
      rw [ey] at c1 est
      obtain ⟨ys, eys⟩ : ∃ ys, pts l a b (i - a) = ys := ⟨_, rfl⟩
      rw [eys] at ho est
      have HC1 := Lib.hid (fun W (h : Below w.heap.size w W) => (h.cell (p := ⟨g, off + i * 4 + 1, none⟩) hg).trans c1)
      have c0' := (hB.cell (p := ⟨g, off + i * 4, none⟩) hg).trans c0
      clear hcx hgv ex ey eys c0 c1
      go_wp2_with (at_builtin; refine wpList_append_own _ rfl _ _ 31 rfl w.heap.size 2 i0 (.int .i64 0) 1 8 Try.underlying31 hi hz0 hz1 hz2 rfl (by decide) _ _ _ rfl (ho.1.alloc _) ⟨wr.heap.size, 0, none⟩ 1 1 [.int .i64 x] rfl rfl ?c1 ?c2 ?c3 ?c4 ?c5 ?_)
      case c1 =>
        intro j u hj
        match j, hj with
        | 0, hj => simp at hj; subst hj; simp [Addr.add]
      case c2 => intro u hu; simp at hu; subst hu; rfl
      case c3 => unfold maxLen; omega
      case c4 => omega
      case c5 => simp; omega
      intro v' w2 hown' hgrow _
      obtain ⟨ao', cap', rfl, ho', _, hB'⟩ := ho.grown hown' hgrow (by omega)
      replace hB := hB' _ _ (Nat.le_refl _) hB
      have hsB2 := hB.size
      clear hown' hgrow hB' ho hsh c0' hsB
      by_cases hi1 : i + 1 < b
      · have ix1 : (i : Int) + 1 < (b : Int) := by omega
        rw [if_pos hi1] at est
        have EST := Lib.hid est
        have c1' := HC1.out w2 hB
        clear est hi1
        go_wp2_with (at_builtin; refine wpList_append_own _ rfl _ _ 31 rfl w.heap.size 2 i0 (.int .i64 0) 1 8 Try.underlying31 hi hz0 hz1 hz2 rfl (by decide) _ _ _ rfl (ho'.1.alloc _) ⟨w2.heap.size, 0, none⟩ 1 1 [.int .i64 y] rfl rfl ?d1 ?d2 ?d3 ?d4 ?d5 ?_)
        case d1 =>
          intro j u hj
          match j, hj with
          | 0, hj => simp at hj; subst hj; simp [Addr.add]
        case d2 => intro u hu; simp at hu; subst hu; rfl
        case d3 => unfold maxLen; omega
        case d4 => omega
        case d5 => simp; omega
        intro v'' w3 hown' hgrow _
        obtain ⟨ao2, cap2, rfl, ho2, _, hB'⟩ := ho'.grown hown' hgrow (by omega)
        replace hB := hB' _ _ (Nat.le_refl _) hB
        clear hown' hgrow hB' ho' c1'
        go_wp2_with fail
        go_roundg (b - (i + 1))
        case measure => omega
        case rel => exact ⟨i + 1, n + 1 + 1, ao2, cap2, by omega, by omega, rfl, rfl, by go_num, by rw [EST.out, show ys ++ [x, y] = ys ++ [x] ++ [y] by simp]; exact ho2, by omega, hB⟩
      · have ix1 : ¬ (i : Int) + 1 < (b : Int) := by omega
        rw [if_neg hi1] at est
        have EST := Lib.hid est
        clear est hi1
        go_wp2_with fail
        go_roundg (b - (i + 1))
        case measure => omega
        case rel => exact ⟨i + 1, n + 1, ao', cap', by omega, by omega, rfl, rfl, by go_num, by rw [EST.out]; exact ho', by omega, hB⟩
    · obtain rfl : i = b := by omega
      have ix : ¬ (i : Int) < (i : Int) := by omega
      have hpf := pts_fit HF.out a i (i - a)
      have hwd : wd l a i = addP 0 (pts l a i (i - a)) := rfl
      have hfin : RwAns (wd l a i) w = fun e w' => e = .returned (.tuple #[.int .i64 (addN (pts l a i (i - a))), .int .i64 (addE (pts l a i (i - a)))]) ∧ Below w.heap.size w w' := rfl
      have HFIN := Lib.hid hfin
      obtain ⟨ys, eys⟩ : ∃ ys, pts l a i (i - a) = ys := ⟨_, rfl⟩
      rw [eys] at hpf ho
      have EYS := Lib.hid eys
      clear hwd hfin eys
      have AD := ref4_add_s aj n cj ys (by omega) wr (own_sints ho hpf)
      clear hpf ho
      go_wp2_with fail
      refine AD.mono ?_
      rintro e w2 ⟨rfl, hb⟩
      have hB2 := hB.trans (hb.mono hsB)
      clear hb hB AD
      go_wp2_with fail
      rw [EQ.out, HFIN.out, EYS.out]
      exact ⟨rfl, hB2⟩
/-- What Ends leaves. -/
def EndsAns (E : List Int) (w : World) (e : Ending) (w' : World) : Prop :=
  ∃ ao c, e = .returned (.slice ao E.length c) ∧ OwnW w' w.heap.size 3 1 ao E.length c (i64s E) ∧ Below w.heap.size w w'
set_option maxRecDepth 100000 in
set_option maxHeartbeats 3200000 in
theorem r13_ends (ao : Option Addr) (k cap : Nat) (l : List It) (hk : k ≤ 1000) (hl : l.length = k) (w : World) (hr : RowV w ao k 4 (itV l)) :
    Calls Try.prog 63 #[.slice ao k cap] w (EndsAns (endsF l k 0) w) := by
  obtain ⟨i0, hi, hz0, hz1, hz2⟩ := info_parts (show (Try.prog.info? 3).map (fun i => (i.zero, i.size, i.bytes)) = some (some (.int .i64 0), 1, 8) by kernel_rfl)
  obtain ⟨E, eE⟩ : ∃ E, endsF l k 0 = E := ⟨_, rfl⟩
  rw [eE]
  obtain ⟨Q, eQ⟩ : ∃ Q : Ending → World → Prop, Q = EndsAns E w := ⟨_, rfl⟩
  rw [← eQ]
  have EQ := Lib.hid eQ
  have HR := Lib.hid hr
  have HL := Lib.hid hl
  have EE := Lib.hid eE
  clear eQ hr hl eE
  go_enter Try.func63, Try.ntmps63
  go_wp2_with fail
  go_loopg [3, 4] k (fun gk s3 s4 wr => ∃ (i p d : Nat) (xs : List Int) (aj : Option Addr) (cj : Nat), i ≤ k ∧ p ≤ i ∧ gk = k - i ∧ s3 = .slice aj xs.length cj ∧ s4 = .int .i64 ((i : Int)) ∧ OwnW wr w.heap.size 3 1 aj xs.length cj (i64s xs) ∧ k - p ≤ d ∧ xs ++ endsF l d p = E ∧ (i < k → seg l p = seg l i) ∧ (i = k → p = k) ∧ xs.length ≤ i ∧ Below w.heap.size w wr)
  case atStart => exact ⟨0, 0, k, [], none, 0, by omega, by omega, by omega, rfl, rfl, OwnW.nil _ _ _ _, by omega, EE.out, (fun _ => rfl), (fun h => h), by simp, Below.refl _ _⟩
  case round =>
    obtain ⟨i, p, d, xs, aj, cj, hik, hpi, rfl, rfl, rfl, ho, hd, he, hsg, hpe, hx, hB⟩ := hrel
    have hsB := hB.size
    by_cases hjk : i < k
    · have ix : (i : Int) < (k : Int) := by omega
      obtain ⟨g, off, rfl, hg, hcx⟩ := (HR.out.below hB).at hjk
      have hil : i < l.length := by rw [HL.out]; exact hjk
      have hgv := itV_get l i hil
      have c3 := hcx 3 (by omega)
      rw [hgv.2.2.2] at c3
      have hsg := hsg hjk
      have hseg1 : (l.getD i it0).b = true → seg l i = i + 1 := seg_brk hil
      have hseg0 : (l.getD i it0).b = false → seg l i = seg l (i + 1) := seg_next hil
      have hsend : i + 1 = k → seg l (i + 1) = i + 1 := fun h => by rw [seg_end (by rw [HL.out]; omega), HL.out, h]
      obtain ⟨b, eb⟩ : ∃ b, (l.getD i it0).b = b := ⟨_, rfl⟩
      rw [eb] at c3 hseg1 hseg0
      have happ : seg l i = i + 1 → xs ++ [((i + 1 : Nat) : Int)] ++ endsF l (d - 1) (i + 1) = E := fun h => by
        rw [← he]
        obtain ⟨d', rfl⟩ : ∃ d', d = d' + 1 := ⟨d - 1, by omega⟩
        show _ = xs ++ (if p < l.length then (seg l p : Int) :: endsF l d' (seg l p) else [])
        rw [if_pos (by rw [HL.out]; omega), hsg, h]
        simp
      have HAPP := Lib.hid happ
      have HS1 := Lib.hid hseg1
      have HS0 := Lib.hid hseg0
      have HSE := Lib.hid hsend
      have HSG := Lib.hid hsg
      have HE := Lib.hid he
      clear hcx hgv hil hsg hseg1 hseg0 hsend eb happ he hpe
      have hcase : b = true ∨ (b = false ∧ i + 1 = k) ∨ (b = false ∧ ¬ i + 1 = k) := by cases b <;> simp <;> omega
      rcases hcase with rfl | ⟨rfl, hik1⟩ | ⟨rfl, hik1⟩
      · have HA := Lib.hid (HAPP.out (HS1.out rfl))
        clear HAPP HS1 HS0 HSE HSG HE
        go_wp2_with (at_builtin; refine wpList_append_own _ rfl _ _ 108 rfl w.heap.size 3 i0 (.int .i64 0) 1 8 Try.underlying108 hi hz0 hz1 hz2 rfl (by decide) _ _ _ rfl (ho.alloc _) ⟨wr.heap.size, 0, none⟩ 1 1 [.int .i64 ((i : Int) + 1)] rfl rfl ?c1 ?c2 ?c3 ?c4 ?c5 ?_)
        case c1 =>
          intro j u hj
          match j, hj with
          | 0, hj => simp at hj; subst hj; simp [Addr.add]
        case c2 => intro u hu; simp at hu; subst hu; rfl
        case c3 => unfold maxLen; omega
        case c4 => omega
        case c5 => simp; omega
        intro v' w2 hown' hgrow _
        obtain ⟨ao', cap', rfl, ho', _, hB'⟩ := OwnW.grown ho hown' hgrow (by omega)
        have hB2 := hB' _ _ (Nat.le_refl _) hB
        clear hown' hgrow hB' ho hB
        go_wp2_with fail
        go_roundg (k - (i + 1))
        case measure => omega
        case rel => exact ⟨i + 1, i + 1, d - 1, xs ++ [((i + 1 : Nat) : Int)], ao', cap', by omega, Nat.le_refl _, rfl, by rw [List.length_append]; rfl, by go_num, by rw [List.length_append]; have e2 : i64s (xs ++ [((i + 1 : Nat) : Int)]) = i64s xs ++ [.int .i64 ((i : Int) + 1)] := by { unfold i64s; rw [List.map_append]; rfl }; rw [e2]; exact ho', by omega, HA.out, (fun _ => rfl), (fun h => h), by rw [List.length_append]; show xs.length + 1 ≤ i + 1; omega, hB2⟩
      · have ik1 : ((i : Int) + 1 == (k : Int)) = true := by simp; omega
        have HA := Lib.hid (HAPP.out ((HS0.out rfl).trans (HSE.out hik1)))
        have HIK := Lib.hid hik1
        clear HAPP HS1 HS0 HSE HSG HE hik1
        go_wp2_with (at_builtin; refine wpList_append_own _ rfl _ _ 108 rfl w.heap.size 3 i0 (.int .i64 0) 1 8 Try.underlying108 hi hz0 hz1 hz2 rfl (by decide) _ _ _ rfl (ho.alloc _) ⟨wr.heap.size, 0, none⟩ 1 1 [.int .i64 ((i : Int) + 1)] rfl rfl ?c1 ?c2 ?c3 ?c4 ?c5 ?_)
        case c1 =>
          intro j u hj
          match j, hj with
          | 0, hj => simp at hj; subst hj; simp [Addr.add]
        case c2 => intro u hu; simp at hu; subst hu; rfl
        case c3 => unfold maxLen; omega
        case c4 => omega
        case c5 => simp; omega
        intro v' w2 hown' hgrow _
        obtain ⟨ao', cap', rfl, ho', _, hB'⟩ := OwnW.grown ho hown' hgrow (by omega)
        have hB2 := hB' _ _ (Nat.le_refl _) hB
        clear hown' hgrow hB' ho hB
        go_wp2_with fail
        go_roundg (k - (i + 1))
        case measure => omega
        case rel => exact ⟨i + 1, i + 1, d - 1, xs ++ [((i + 1 : Nat) : Int)], ao', cap', by omega, Nat.le_refl _, rfl, by rw [List.length_append]; rfl, by go_num, by rw [List.length_append]; have e2 : i64s (xs ++ [((i + 1 : Nat) : Int)]) = i64s xs ++ [.int .i64 ((i : Int) + 1)] := by { unfold i64s; rw [List.map_append]; rfl }; rw [e2]; exact ho', by omega, HA.out, (fun _ => rfl), (fun h => h), by rw [List.length_append]; show xs.length + 1 ≤ i + 1; omega, hB2⟩
      · have ik1 : ((i : Int) + 1 == (k : Int)) = false := by simp; omega
        have HIK := Lib.hid hik1
        have HS2 := Lib.hid (HSG.out.trans (HS0.out rfl))
        clear HAPP hik1 HS0 HS1
        go_wp2_with fail
        go_roundg (k - (i + 1))
        case measure => omega
        case rel => exact ⟨i + 1, p, d, xs, aj, cj, by omega, by omega, rfl, rfl, by go_num, ho, hd, HE.out, (fun _ => HS2.out), (fun h => absurd h HIK.out), by omega, hB⟩
    · obtain rfl : i = k := by omega
      have ix : ¬ (i : Int) < (i : Int) := by omega
      obtain rfl := hpe rfl
      have hE : E = xs := by
        rw [← he]
        cases d with
        | zero => simp [endsF]
        | succ d =>
          show xs ++ (if p < l.length then _ else []) = xs
          rw [if_neg (by rw [HL.out]; omega), List.append_nil]
      subst hE
      clear he hsg hpe
      go_wp2_with fail
      rw [EQ.out]
      exact ⟨aj, cj, rfl, ho, hB⟩
end Go.Proofs.Ythofammjbicogaa
