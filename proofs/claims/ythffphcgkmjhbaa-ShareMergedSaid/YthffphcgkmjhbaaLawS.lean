/-
  The statement ShareMerged.
-/
import Derived.Test.YthffphcgkmjhbaaLawQ
import Derived.Deep.DeepCutAuto
import Derived.Deep.CutRange
import Derived.Maps.AppendAt
import Derived.Deep.RegionLaw
namespace Go.Proofs.Ythffphcgkmjhbaa
open Go.RowKit
set_option linter.unusedSimpArgs false
set_option linter.unusedVariables false

theorem OwnI.empty (w : World) : OwnI (w.alloc (.cells #[] 2)) w.heap.size (some ⟨w.heap.size, 0, none⟩) 0 0 [] :=
  ⟨⟨rfl, .inr ⟨w.heap.size, 0, #[], rfl, Nat.le_refl _, heap_alloc_new w _, Nat.le_refl _, by unfold maxLen; omega, rfl, rfl⟩⟩, rfl⟩
/-- Behind an append of some numbers. -/
theorem OwnI.app {w w1 : World} {B : Nat} {ao : Option Addr} {k cap m : Nat} {xs ys : List Int} {v' : Value} (h : OwnI w B ao k cap xs)
    (ho : w1.ownsRow B 2 1 v' (k + m) (i64s xs ++ i64s ys)) (hg : w.grownBy w1 (Value.slice ao k cap).ownBlock) (hm : ys.length = m) (hB : B ≤ w.heap.size) :
    ∃ ao' cap', v' = .slice ao' (k + m) cap' ∧ OwnI w1 B ao' (k + m) cap' (xs ++ ys) ∧ (∀ C a, C ≤ B → Below C a w → Below C a w1) := by
  have hs : ∃ ao' cap', v' = .slice ao' (k + m) cap' := by
    rcases ho.2 with ⟨e, e0⟩ | ⟨g, c, cur, e, _⟩
    · exact ⟨none, 0, by rw [e, e0]⟩
    · exact ⟨_, _, e⟩
  obtain ⟨ao', cap', rfl⟩ := hs
  refine ⟨ao', cap', rfl, ⟨by simpa [i64s] using ho, by simp [h.2, hm]⟩, fun C a hC hb => ?_⟩
  refine hb.grown hg (Nat.le_trans hC hB) ?_
  intro j hj
  have := (h.1.lt j hj).1
  omega
theorem RowI.news {w : World} {g off n : Nat} {xs : List Int} (h : RowI w (some ⟨g, off, none⟩) n xs) (i0 cnt : Nat) (hle : i0 + cnt ≤ n) (a : Addr) (ha : 0 < cnt → a = ⟨g, off + i0, none⟩) :
    ∀ j u, (i64s ((xs.drop i0).take cnt))[j]? = some u → w.cell? (a.add j) = some u := by
  intro j u hj
  unfold i64s at hj
  rw [List.getElem?_map] at hj
  obtain ⟨x, hx, rfl⟩ := Option.map_eq_some_iff.1 hj
  have hjc : j < cnt := by
    have := (List.getElem?_eq_some_iff.1 hx).1
    rw [List.length_take] at this
    omega
  rw [List.getElem?_take_of_lt hjc, List.getElem?_drop] at hx
  rw [ha (by omega)]
  obtain ⟨g', off', e, _, hc⟩ := h.at (show i0 + j < n by omega)
  obtain ⟨rfl, rfl⟩ : g = g' ∧ off = off' := by simpa using e
  have hadd : (⟨g, off + i0, none⟩ : Addr).add j = ⟨g, off + (i0 + j), none⟩ := by unfold Addr.add; split <;> simp_all [Nat.add_assoc]
  rw [hadd, hc]
  simp [List.getD, hx]
theorem step_app {ops : Array Oper} {o : Oper} {a : Act} {K : Act → World → Prop} {Q : Exit → Act → World → Prop} {E : Prop} (hgd : o.guard = none) (s x : Operand)
    (ho : o.op = .call { callee := .builtin .append, args := #[s, x], argTypes := #[82, 82] }) (w : World) (H : Nat) (ao : Option Addr) (k cap : Nat) (xs : List Int) (hs : a.eval s = .slice ao k cap) (hown : OwnI w H ao k cap xs)
    (A : Option Addr) (ad : Addr) (m c : Nat) (ys : List Int) (hx : a.eval x = .slice A m c) (hA : A = some ad) (hl : ys.length = m) (hnews : ∀ j u, (i64s ys)[j]? = some u → w.cell? (ad.add j) = some u) (h63 : k + m ≤ 1000000) (hbase : H ≤ w.heap.size)
    (h : ∀ ao' cap' w', OwnI w' H ao' (k + m) cap' (xs ++ ys) → (∀ C a, C ≤ H → Below C a w → Below C a w') → w.heap.size ≤ w'.heap.size → K (a.put o.dst (.slice ao' (k + m) cap')) w') :
    if Region.wanted o (yielded ops a.tmps) = true then Oper.wp Try.prog o a w K Q else E := by
  obtain ⟨i0, hi, hz0, hz1, hz2⟩ := info_parts (show (Try.prog.info? 2).map (fun i => (i.zero, i.size, i.bytes)) = some (some (.int .i64 0), 1, 8) by kernel_rfl)
  have hw : Region.wanted o (yielded ops a.tmps) = true := by simp [Region.wanted, hgd]
  rw [if_pos hw]
  subst hA
  refine wp_append_own w s x 82 ho H 2 i0 (.int .i64 0) 1 8 Try.underlying82 hi hz0 hz1 hz2 rfl (by decide) _ _ _ hs hown.1 ad m c (i64s ys) hx (by simp [i64s, hl]) hnews ?_ (by unfold maxLen; omega) (by omega) hbase ?_
  · intro u hu
    unfold i64s at hu
    obtain ⟨y, _, rfl⟩ := List.mem_map.1 hu
    rfl
  · intro v' w' h2 h3 _
    obtain ⟨ao', cap', rfl, ho', hb⟩ := hown.app h2 h3 hl hbase
    exact h ao' cap' w' ho' hb h3.size
theorem i64s_one (xs : List Int) : ∀ u ∈ i64s xs, u.oneCell' = true := by
  intro u hu
  unfold i64s at hu
  obtain ⟨y, _, rfl⟩ := List.mem_map.1 hu
  rfl
theorem merge_app {ys : List Int} {k m : Nat} {s : Int} (hm : ys.length = m) (hs : ys.getD k 0 + ys.getD (k + 1) 0 = s) : ys.take k ++ [s] ++ (ys.drop (k + 2)).take (m - (k + 2)) = merge ys k := by
  unfold merge
  rw [hs, List.take_of_length_le (l := ys.drop (k + 2)) (by rw [List.length_drop]; omega), List.append_assoc]
  rfl
theorem merge_all {P : Int → Prop} {ys : List Int} {k : Nat} (h : k + 1 < ys.length) (h0 : P 0) (h1 : ∀ i, P (ys.getD i 0)) (h2 : ∀ i j, P (ys.getD i 0 + ys.getD j 0)) : ∀ i, P ((merge ys k).getD i 0) := by
  intro i
  by_cases c1 : i < k
  · rw [merge_lo ys k i h c1]; exact h1 i
  · by_cases c2 : i = k
    · subst c2; rw [merge_at ys i h]; exact h2 i (i + 1)
    · rw [merge_hi ys k i h (by omega)]; exact h1 (i + 1)
theorem share_rounds (n S : Int) (ys : List Int) (m i : Nat) (hn : Nonneg ys) (hS : pre ys m = S) (hi : i < m) : shareAt (n * S) S ys i = n * ys.getD i 0 := by
  by_cases h : 0 < S
  · exact share_whole n S ys i h
  · have h1 := pre_nonneg hn m
    have h2 : S = 0 := by omega
    rw [pre_zero hn (n := m) (by rw [hS, h2]) hi, Int.mul_zero]
    exact share_none _ _ _ _ (pre_zero hn (n := m) (by rw [hS, h2]) hi)
set_option maxRecDepth 100000 in
set_option maxHeartbeats 3200000 in
theorem law_merged (t : Int) (v : Value) (a : Int) (ht1 : -2147483648 ≤ t) (ht2 : t ≤ 2147483647) (ha0 : 0 ≤ a) (ha1 : a ≤ 255) (w : World) (hv : SlV .u16 w v) :
    Calls Try.prog 21 #[.int .i32 t, v, .int .u8 a] w fun e w' => e = .returned (.bool true) ∧ Below w.heap.size w w' := by
  obtain ⟨i0, hi, hz0, hz1, hz2⟩ := info_parts (show (Try.prog.info? 2).map (fun i => (i.zero, i.size, i.bytes)) = some (some (.int .i64 0), 1, 8) by kernel_rfl)
  obtain ⟨ys, hs, hu⟩ := small_of hv
  have hm40 : ys.length ≤ 40 := by
    rcases hs with ⟨_, rfl⟩ | ⟨g, off, n, cap, _, _, _, hl, _⟩
    · simp
    · omega
  have SM := fun W hW => law_small v ys W hW hu
  obtain ⟨m, em⟩ : ∃ m, ys.length = m := ⟨_, rfl⟩
  rw [em] at hm40
  have hn := nonneg_u16 hu
  have hSb := pre_small hu m
  have hE := shE_ok (by omega) hn (lenB_of ht1 ht2) (show pre ys m ≤ 4611686018427387904 by omega)
  have SP := fun ao cap W hx => sh_split t ao m cap ys (by omega) (by unfold IFit; omega) (fits_u16 hu) W hx
  unfold SplitAns at SP
  rw [hE] at SP
  obtain ⟨S, eS⟩ : ∃ S, pre ys m = S := ⟨_, rfl⟩
  rw [eS] at SP hSb
  have hS0 := hSb.1
  have hS1 : S ≤ 2621400 := by omega
  have EM := Lib.hid em
  have ES := Lib.hid eS
  have HN := Lib.hid hn
  have HU := Lib.hid hu
  clear hE hSb em eS hn hu hv
  have hs1 : ∀ w', Below w.heap.size w w' → smallL v w' ys := fun w' hb => by
    rcases hs with h | ⟨g, off, n, cap, e, hg, h1, h2, h3⟩
    · exact .inl h
    · exact .inr ⟨g, off, n, cap, e, Nat.lt_of_lt_of_le hg hb.size, h1, h2, fun i hi => (hb.cell (p := ⟨g, off + i, none⟩) hg).trans (h3 i hi)⟩
  clear hs
  go_enter Try.func21, Try.ntmps21
  go_wp2_with fail
  refine (speaks05 _).mono ?_
  rintro e w1 ⟨rfl, hB⟩
  go_wp2_with fail
  refine (SM _ (hs1 _ hB)).mono ?_
  rintro e w2 ⟨ao, m', cap, rfl, e1, hr, hb⟩
  obtain rfl : m = m' := EM.out.symm.trans e1
  have hsh := hr.shape
  have hr := hr.row
  rw [ES.out]
  replace hB := hB.trans (hb.mono hB.size)
  clear hb hs1 SM e1
  go_wp2_with fail
  refine (SP ao cap _ hr).mono ?_
  rintro e w3 ⟨ao2, m', cap2, zs, rfl, hp, hsh2, hsh3, h1, -, hb⟩
  obtain ⟨e2, rfl⟩ := h1 (by first | trivial | rfl)
  obtain rfl := e2.symm
  replace hr := hr.below hb
  replace hB := hB.trans (hb.mono hB.size)
  have HR := Lib.hid hr
  have HP := Lib.hid hp
  clear hb h1 SP hr hp e2
  have hmm : (m != m) = false := by simp
  obtain ⟨bm, ebm⟩ : ∃ b, decide ((1 : Int) < (m : Int)) = b := ⟨_, rfl⟩
  go_upto_if 45 with (fail)
  have EBM := Lib.hid ebm
  clear ebm
  go_cut [11, 12, 13, 14, 15] from 46 to 112 (fun _ _ _ _ _ wx => Below w3.heap.size w3 wx)
  case first =>
    cases bm
    rotate_left
    · have im1 : (1 : Int) < (m : Int) := of_decide_eq_true EBM.out
      have hm1 : 1 < m := by omega
      obtain ⟨k, hk⟩ : ∃ k : Nat, a.tmod ((m : Int) - 1) = (k : Int) := by
        refine ⟨(a.tmod ((m : Int) - 1)).toNat, (Int.toNat_of_nonneg (Int.tmod_nonneg _ ha0)).symm⟩
      have hk1 : k + 1 < m := by
        have := Int.tmod_lt_of_pos a (show 0 < (m : Int) - 1 by omega)
        omega
      have wr0 : IntKind.i64.wrap ((m : Int) - 1) = (m : Int) - 1 := by simp [IntKind.wrap, IntKind.bits, IntKind.signed]; omega
      have im0 : ((m : Int) - 1 == 0) = false := by simp; omega
      have SP2 : ∀ ao cap W, RowI W ao (m - 1) (merge ys k) → Calls Try.prog 85 #[.int .i64 t, .slice ao (m - 1) cap] W fun e w' => ∃ a3 m3 c3 zs, e = .returned (.tuple #[.slice a3 m3 c3, .int .i64 0]) ∧ RowI w' a3 m3 zs ∧ m3 ≤ c3 ∧ c3 ≤ maxLen ∧ ((0 : Int) = 0 → m3 = m - 1 ∧ zs = partsN t S (merge ys k) (m - 1)) ∧ ((0 : Int) ≠ 0 → m3 = 0 ∧ zs = []) ∧ Below W.heap.size W w' := by
        have hkl : k + 1 < ys.length := by rw [EM.out]; exact hk1
        have nn : Nonneg (merge ys k) := merge_all hkl (Int.le_refl 0) (fun i => (HU.out i).1) (fun i j => Int.add_nonneg (HU.out i).1 (HU.out j).1)
        have ff : Fits (merge ys k) := merge_all (P := fun x => -9223372036854775808 ≤ x ∧ x ≤ 9223372036854775807) hkl (by omega) (fun i => by have := HU.out i; omega) (fun i j => by have h1 := HU.out i; have h2 := HU.out j; omega)
        have ep : pre (merge ys k) (m - 1) = S := by
          have := merge_pre_hi ys k hkl (m - 1 - (k + 1))
          rw [show k + 1 + (m - 1 - (k + 1)) = m - 1 by omega, show k + 2 + (m - 1 - (k + 1)) = m by omega] at this
          rw [this, ES.out]
        have hE := shE_ok (m := m - 1) (by omega) nn (lenB_of ht1 ht2) (by rw [ep]; omega)
        intro ao cap W hx
        have := sh_split t ao (m - 1) cap (merge ys k) (by omega) (by unfold IFit; omega) ff W hx
        unfold SplitAns at this
        rw [hE, ep] at this
        exact this
      obtain ⟨ps, eps⟩ : ∃ ps, partsN t S ys m = ps := ⟨_, rfl⟩
      have ms := merge_share t S ys k m EM.out hk1
      have hpl := partsN_len t S ys m
      have pb : ∀ i, -4294967296 ≤ ps.getD i 0 ∧ ps.getD i 0 ≤ 4294967296 := fun i => by
        rw [← eps]
        by_cases h : i < m
        · rw [partsN_get _ _ _ _ _ h]
          have b1 := bound_i32 (S := S) ht1 ht2 (pre_nonneg HN.out i) (by rw [← ES.out]; exact pre_mono HN.out (by omega))
          have b2 := bound_i32 (S := S) ht1 ht2 (pre_nonneg HN.out (i + 1)) (by rw [← ES.out]; exact pre_mono HN.out (by omega))
          unfold shareAt
          omega
        · simp only [List.getD]
          rw [List.getElem?_eq_none (by rw [hpl]; omega)]
          simp
      rw [eps] at ms hpl
      have hp' := HP.out
      rw [eps] at hp'
      clear HP
      have HP := Lib.hid hp'
      have MS := Lib.hid ms
      have EPS := Lib.hid hpl
      have PB := Lib.hid pb
      clear ms hpl pb eps hp'
      obtain ⟨k1, ek1⟩ : ∃ x, k + 1 = x := ⟨_, rfl⟩
      obtain ⟨k2, ek2⟩ : ∃ x, k + 2 = x := ⟨_, rfl⟩
      have wr1 : IntKind.i64.wrap ((k : Int) + 1) = (k1 : Int) := by simp [IntKind.wrap, IntKind.bits, IntKind.signed]; omega
      have wr2 : IntKind.i64.wrap ((k : Int) + 2) = (k2 : Int) := by simp [IntKind.wrap, IntKind.bits, IntKind.signed]; omega
      have ik2 : (k : Int) < (m : Int) := by omega
      have ik3 : (k1 : Int) < (m : Int) := by omega
      have ik4 : (k2 : Int) ≤ (m : Int) := by omega
      have ik5 : (m : Int) ≤ (cap : Int) := by omega
      have ik1 : (k : Int) ≤ (cap : Int) := by omega
      have EK1 := Lib.hid ek1
      have EK2 := Lib.hid ek2
      clear ek1 ek2
      obtain ⟨g, off, rfl, hg, hc1⟩ := HR.out.at (show k < m by omega)
      obtain ⟨g', off', e', _, hc2⟩ := HR.out.at (show k + 1 < m by omega)
      obtain ⟨rfl, rfl⟩ : g = g' ∧ off = off' := by simpa using e'
      clear e'
      obtain ⟨x1, ex1⟩ : ∃ x, ys.getD k 0 = x := ⟨_, rfl⟩
      obtain ⟨x2, ex2⟩ : ∃ x, ys.getD (k + 1) 0 = x := ⟨_, rfl⟩
      have hx1 : 0 ≤ x1 ∧ x1 ≤ 65535 := by rw [← ex1]; exact HU.out k
      have hx2 : 0 ≤ x2 ∧ x2 ≤ 65535 := by rw [← ex2]; exact HU.out (k + 1)
      rw [ex1] at hc1
      rw [ex2] at hc2
      obtain ⟨s, es⟩ : ∃ s, x1 + x2 = s := ⟨_, rfl⟩
      have wr3 : IntKind.i64.wrap (x1 + x2) = s := by simp [IntKind.wrap, IntKind.bits, IntKind.signed]; omega
      have ess : ys.getD k 0 + ys.getD (k + 1) 0 = s := by rw [ex1, ex2, es]
      rw [EK1.out] at hc2
      have HC1 := Lib.hid hc1
      have HC2 := Lib.hid hc2
      have HGw := Lib.hid hg
      have ESS := Lib.hid ess
      clear hc1 hc2 ex1 ex2 es ess hg
      have hown0 := OwnI.empty w3
      go_wp2_with (at_builtin; refine wpList_append_own_at _ rfl _ _ 82 rfl w3.heap.size 2 i0 (.int .i64 0) 1 8 Try.underlying82 hi hz0 hz1 hz2 rfl (by decide) _ _ _ rfl hown0.1 ⟨g, off, none⟩ k cap (i64s (ys.take k)) rfl (by have := EM.out; simp [i64s]; omega) (fun j u hu => ((HR.out.below (w' := w3.alloc (.cells #[] 2)) (by repeat' (first | (with_reducible exact Below.refl _ _) | (with_reducible assumption) | (with_reducible refine below_alloc ?_ _ ?_) | (with_reducible refine below_set _ ?_ ?_) | (with_reducible refine Below.drew ?_) | (with_reducible refine below_dN ?_ _) | (apply below_thenA; assumption) | omega | (simp; done) | (simp; omega) | (simp [*]; done)))).news 0 k (by omega) ⟨g, off, none⟩ (fun _ => by rw [Nat.add_zero])) j u (by rw [List.drop_zero]; exact hu)) (i64s_one _) (by unfold maxLen; omega) (by omega) (by simp) ?_)
      intro v' W0 hown' hgrow _ hat
      obtain ⟨a0, c0, rfl, hoW, hbe⟩ := hown0.app (m := k) (ys := ys.take k) (by rw [Nat.zero_add]; exact hown') hgrow (by have := EM.out; rw [List.length_take]; omega) (by simp)
      rw [Nat.zero_add, List.nil_append] at hoW
      have hbW := hbe _ _ (Nat.le_refl _) (show Below w3.heap.size w3 (w3.alloc (.cells #[] 2)) from (by repeat' (first | (with_reducible exact Below.refl _ _) | (with_reducible assumption) | (with_reducible refine below_alloc ?_ _ ?_) | (with_reducible refine below_set _ ?_ ?_) | (with_reducible refine Below.drew ?_) | (with_reducible refine below_dN ?_ _) | (apply below_thenA; assumption) | omega | (simp; done) | (simp; omega) | (simp [*]; done))))
      clear hown' hgrow hat hbe hown0
      simp only [Nat.zero_add]
      have hszW := hbW.size
      go_upto_region 10 with (fail)
      go_cut [12] from 57 to 74 (fun s wx => ∃ a1 c1, s = .slice a1 (m - 1) c1 ∧ OwnI wx w3.heap.size a1 (m - 1) c1 (merge ys k) ∧ Below w3.heap.size w3 wx)
      case first =>
        have hc1 := (hbW.cell (p := ⟨g, off + k, none⟩) HGw.out).trans HC1.out
        have hc2 := (hbW.cell (p := ⟨g, off + k1, none⟩) HGw.out).trans HC2.out
        go_region_law (first
          | (refine step_app rfl (.tmp 57) (.tmp 68) rfl _ w3.heap.size a0 k c0 (ys.take k) rfl (hoW.drew.alloc _) (some ⟨W0.heap.size, 0, none⟩) ⟨W0.heap.size, 0, none⟩ 1 1 [s] rfl rfl rfl (cell_one_new _ _ _) (by omega) (by simp; omega) ?_; intro a1 c1' W1 ho1 hbe1 hsz1)
          | (refine step_app rfl (.tmp 69) (.tmp 73) rfl _ w3.heap.size a1 (k + 1) c1' (ys.take k ++ [s]) rfl ho1 _ (if cap = k2 then ⟨g, off, none⟩ else ⟨g, off + k2, none⟩) (m - k2) (cap - k2) ((ys.drop k2).take (m - k2)) rfl (by split <;> rfl) (by have := EM.out; rw [List.length_take, List.length_drop]; omega)
              ((HR.out.below (hbe1 _ _ (Nat.le_refl _) (hbW.drew.alloc hszW _))).news k2 (m - k2) (by omega) _ (fun h => if_neg (by omega))) (by omega) (Nat.le_trans (by simp; omega) hsz1) ?_; intro a2 c2' W2 ho2 hbe2 hsz2))
        all_goals
          have hb2 := hbe2 _ _ (Nat.le_refl _) (hbe1 _ _ (Nat.le_refl _) (hbW.drew.alloc hszW (.cells #[.int .i64 s] 2)))
          generalize (if cap = k2 then some (⟨g, off, none⟩ : Addr) else some ⟨g, off + k2, none⟩) = A73
          go_wp2_with fail
          go_meet
          case rel =>
            have e1 : k + 1 + (m - k2) = m - 1 := by have := EK2.out; omega
            have e2 : ys.take k ++ [s] ++ (ys.drop k2).take (m - k2) = merge ys k := by
              rw [← EK2.out]
              exact merge_app EM.out ESS.out
            rw [e1, e2] at ho2
            exact ⟨a2, c2', by rw [e1], ho2, hb2⟩
      case rest =>
        obtain ⟨a12, c12, rfl, hown3, hb3⟩ := hcut
        clear hoW hbW hszW HC1 HC2 ESS
        have hB3 := hb3
        go_wp2_with fail
        refine (SP2 _ _ _ hown3.row).mono ?_
        rintro e w4 ⟨a3, m3, c3, zs, rfl, h3, -, -, h1, -, hb⟩
        obtain ⟨e2, rfl⟩ := h1 (by first | trivial | rfl)
        obtain rfl := e2.symm
        rw [MS.out] at h3
        have HO3 := Lib.hid h3
        have hB4 := hB3.trans (hb.mono hB3.size)
        have HP2 := Lib.hid (HP.out.below hB4)
        clear h1 h3 hb e2 hown3 SP2
        obtain ⟨g2, off2, rfl, hg, hc1⟩ := HP2.out.at (show k < m by omega)
        obtain ⟨g', off', e', _, hc2⟩ := HP2.out.at (show k + 1 < m by omega)
        obtain ⟨rfl, rfl⟩ : g2 = g' ∧ off2 = off' := by simpa using e'
        clear e'
        have ik6 : (m : Int) ≤ (cap2 : Int) := by omega
        have ik7 : (k : Int) ≤ (cap2 : Int) := by omega
        obtain ⟨x1, ex1⟩ : ∃ x, ps.getD k 0 = x := ⟨_, rfl⟩
        obtain ⟨x2, ex2⟩ : ∃ x, ps.getD (k + 1) 0 = x := ⟨_, rfl⟩
        have hx1 : -4294967296 ≤ x1 ∧ x1 ≤ 4294967296 := by rw [← ex1]; exact PB.out k
        have hx2 : -4294967296 ≤ x2 ∧ x2 ≤ 4294967296 := by rw [← ex2]; exact PB.out (k + 1)
        rw [ex1] at hc1
        rw [ex2] at hc2
        obtain ⟨s, es⟩ : ∃ s, x1 + x2 = s := ⟨_, rfl⟩
        have wr3 : IntKind.i64.wrap (x1 + x2) = s := by simp [IntKind.wrap, IntKind.bits, IntKind.signed]; omega
        have ess : ps.getD k 0 + ps.getD (k + 1) 0 = s := by rw [ex1, ex2, es]
        rw [EK1.out] at hc2
        have HC1 := Lib.hid hc1
        have HC2 := Lib.hid hc2
        have HGp := Lib.hid hg
        have ESS := Lib.hid ess
        clear hc1 hc2 ex1 ex2 es ess hg
        have hown0 := OwnI.empty w4
        go_wp2_with (at_builtin; refine wpList_append_own_at _ rfl _ _ 82 rfl w4.heap.size 2 i0 (.int .i64 0) 1 8 Try.underlying82 hi hz0 hz1 hz2 rfl (by decide) _ _ _ rfl hown0.1 ⟨g2, off2, none⟩ k cap2 (i64s (ps.take k)) rfl (by have := EPS.out; simp [i64s]; omega) (fun j u hu => ((HP2.out.below (w' := w4.alloc (.cells #[] 2)) (by repeat' (first | (with_reducible exact Below.refl _ _) | (with_reducible assumption) | (with_reducible refine below_alloc ?_ _ ?_) | (with_reducible refine below_set _ ?_ ?_) | (with_reducible refine Below.drew ?_) | (with_reducible refine below_dN ?_ _) | (apply below_thenA; assumption) | omega | (simp; done) | (simp; omega) | (simp [*]; done)))).news 0 k (by omega) ⟨g2, off2, none⟩ (fun _ => by rw [Nat.add_zero])) j u (by rw [List.drop_zero]; exact hu)) (i64s_one _) (by unfold maxLen; omega) (by omega) (by simp) ?_)
        intro v' W3 hown' hgrow _ hat
        obtain ⟨a0, c0, rfl, hoW, hbe⟩ := hown0.app (m := k) (ys := ps.take k) (by rw [Nat.zero_add]; exact hown') hgrow (by have := EPS.out; rw [List.length_take]; omega) (by simp)
        rw [Nat.zero_add, List.nil_append] at hoW
        have hbW := hbe _ _ (Nat.le_refl _) (show Below w4.heap.size w4 (w4.alloc (.cells #[] 2)) from (by repeat' (first | (with_reducible exact Below.refl _ _) | (with_reducible assumption) | (with_reducible refine below_alloc ?_ _ ?_) | (with_reducible refine below_set _ ?_ ?_) | (with_reducible refine Below.drew ?_) | (with_reducible refine below_dN ?_ _) | (apply below_thenA; assumption) | omega | (simp; done) | (simp; omega) | (simp [*]; done))))
        clear hown' hgrow hat hbe hown0
        simp only [Nat.zero_add]
        have hszW := hbW.size
        go_upto_region 13 with (fail)
        go_cut [15] from 87 to 104 (fun s wx => ∃ a1 c1, s = .slice a1 (m - 1) c1 ∧ OwnI wx w4.heap.size a1 (m - 1) c1 (merge ps k) ∧ Below w4.heap.size w4 wx)
        case first =>
          have hc1 := (hbW.cell (p := ⟨g2, off2 + k, none⟩) HGp.out).trans HC1.out
          have hc2 := (hbW.cell (p := ⟨g2, off2 + k1, none⟩) HGp.out).trans HC2.out
          go_region_law (first
            | (refine step_app rfl (.tmp 87) (.tmp 98) rfl _ w4.heap.size a0 k c0 (ps.take k) rfl (hoW.drew.alloc _) (some ⟨W3.heap.size, 0, none⟩) ⟨W3.heap.size, 0, none⟩ 1 1 [s] rfl rfl rfl (cell_one_new _ _ _) (by omega) (by simp; omega) ?_; intro a1 c1' W1 ho1 hbe1 hsz1)
            | (refine step_app rfl (.tmp 99) (.tmp 103) rfl _ w4.heap.size a1 (k + 1) c1' (ps.take k ++ [s]) rfl ho1 _ (if cap2 = k2 then ⟨g2, off2, none⟩ else ⟨g2, off2 + k2, none⟩) (m - k2) (cap2 - k2) ((ps.drop k2).take (m - k2)) rfl (by split <;> rfl) (by have := EPS.out; rw [List.length_take, List.length_drop]; omega)
                ((HP2.out.below (hbe1 _ _ (Nat.le_refl _) (hbW.drew.alloc hszW _))).news k2 (m - k2) (by omega) _ (fun h => if_neg (by omega))) (by omega) (Nat.le_trans (by simp; omega) hsz1) ?_; intro a2 c2' W2 ho2 hbe2 hsz2))
          all_goals
            have hb2 := hbe2 _ _ (Nat.le_refl _) (hbe1 _ _ (Nat.le_refl _) (hbW.drew.alloc hszW (.cells #[.int .i64 s] 2)))
            generalize (if cap2 = k2 then some (⟨g2, off2, none⟩ : Addr) else some ⟨g2, off2 + k2, none⟩) = A73
            go_wp2_with fail
            go_meet
            case rel =>
              have e1 : k + 1 + (m - k2) = m - 1 := by have := EK2.out; omega
              have e2 : ps.take k ++ [s] ++ (ps.drop k2).take (m - k2) = merge ps k := by
                rw [← EK2.out]
                exact merge_app EPS.out ESS.out
              rw [e1, e2] at ho2
              exact ⟨a2, c2', by rw [e1], ho2, hb2⟩
        case rest =>
          obtain ⟨a15, c15, rfl, hown5, hb5⟩ := hcut
          clear hoW hbW hszW HC1 HC2 ESS
          have hr3 := (HO3.out.below hb5)
          have SS := sh_same a3 a15 (m - 1) c3 c15 (merge ps k) (by omega) wc hr3 hown5.row
          go_wp2_with fail
          refine SS.mono ?_
          rintro e w6 ⟨rfl, hb6⟩
          go_wp2_with fail
          go_meet
          case rel => exact hB4.trans ((hb5.trans (hb6.mono hb5.size)).mono hB4.size)
    · go_wp2_with fail
      go_meet
      case rel => exact Below.refl _ _
  case rest =>
    have hb := hcut
    clear hcut
    obtain ⟨n, en⟩ : ∃ n, t.tmod 1000 = n := ⟨_, rfl⟩
    have hn1 : n < 1000 := by rw [← en]; exact Int.tmod_lt_of_pos t (by decide)
    have hn2 : -1000 < n := by rw [← en]; exact Int.lt_tmod_of_pos t (by decide)
    have hms := mul_lim (a := n) (A := 999) (B := 2621400) (by omega) (by omega) hS0 hS1 (by omega)
    have hms1 := hms.1
    have hms2 := hms.2
    have hE := shE_ok (t := n * S) (m := m) (by omega) HN.out ((lenB_iff _).2 (by unfold LenB; omega)) (by rw [ES.out]; omega)
    have SP3 := fun W hx => sh_split (n * S) ao m cap ys (by omega) (by unfold IFit; omega) (fits_u16 HU.out) W hx
    unfold SplitAns at SP3
    rw [hE, ES.out] at SP3
    have hr := HR.out.below hb
    clear hE hms HP HR
    go_wp2_with fail
    refine (SP3 _ hr).mono ?_
    rintro e w4 ⟨a3, m3, c3, zs, rfl, h3, -, -, h1, -, hb4⟩
    obtain ⟨e2, rfl⟩ := h1 (by first | trivial | rfl)
    obtain rfl := e2.symm
    replace hr := hr.below hb4
    replace hB := hB.trans (hb.mono hB.size)
    replace hB := hB.trans (hb4.mono hB.size)
    have HR := Lib.hid hr
    have HP := Lib.hid h3
    have HB := Lib.hid hB
    clear hb hb4 h1 h3 hr e2 SP3 hB
    go_wp2_with fail
    go_loopg [19] m (fun gk s19 wr => ∃ (j : Nat), j ≤ m ∧ gk = m - j ∧ s19 = .int .i64 ((j : Int)) ∧ Below w4.heap.size w4 wr)
    case atStart => exact ⟨0, by omega, by omega, rfl, Below.refl _ _⟩
    case round =>
      obtain ⟨j, hj, rfl, rfl, hb⟩ := hrel
      by_cases hjk : j < m
      · have ix : (j : Int) < (m : Int) := by omega
        obtain ⟨g, off, rfl, _, hcx⟩ := (HR.out.below hb).at hjk
        obtain ⟨g2, off2, rfl, _, hcp⟩ := (HP.out.below hb).at hjk
        rw [partsN_get _ _ _ _ _ hjk, share_rounds n S ys m j HN.out ES.out hjk] at hcp
        have hx := HU.out j
        obtain ⟨x, ex⟩ : ∃ x, ys.getD j 0 = x := ⟨_, rfl⟩
        rw [ex] at hcx hcp hx
        have hd := mul_lim (a := n) (A := 999) (B := 65535) (by omega) (by omega) hx.1 hx.2 (by omega)
        have hd1 := hd.1
        have hd2 := hd.2
        clear ex hx hd
        go_wp2_with fail
        go_quiet (fail)
        go_wp2_with fail
        go_roundg (m - (j + 1))
        case measure => omega
        case rel => exact ⟨j + 1, by omega, rfl, by go_num, below_dN hb _⟩
      · obtain rfl : j = m := by omega
        have ix : ¬ (j : Int) < (j : Int) := by omega
        go_wp2_with fail
        go_ret
        exact ⟨rfl, HB.out.trans (hb.mono HB.out.size)⟩
end Go.Proofs.Ythffphcgkmjhbaa
