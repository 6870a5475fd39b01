/-
  The reference of layer 12: Scale.
-/
import Derived.Test.YtgmnboacehopfaaYWoC
import Derived.Test.YtgmnboacehopfaaYVaA
namespace Go.Proofs.Ytgmnboacehopfaa
open Go.RowKit
set_option linter.unusedSimpArgs false
set_option linter.unusedVariables false

/-- A word in device units; why it may not be; the first such reason of a list. -/
def scF (p q : Int) (x : Wo) : Wo := ⟨scaleN x.w p q, scaleN x.s p q, x.br⟩
def scE (p q : Int) (x : Wo) : Int := if scaleE x.w p q ≠ 0 then scaleE x.w p q else scaleE x.s p q
def scC (p q : Int) : List Wo → Int
  | [] => 0
  | x :: l => if scE p q x ≠ 0 then scE p q x else scC p q l
def Wo.Fit (x : Wo) : Prop := IFit x.w ∧ IFit x.s
theorem scC_at {p q : Int} {l : List Wo} {j : Nat} (hj : j < l.length) : scC p q (l.drop j) = if scE p q (l.getD j wo0) ≠ 0 then scE p q (l.getD j wo0) else scC p q (l.drop (j + 1)) := by
  rw [List.drop_eq_getElem_cons hj, scC]
  simp [List.getD, hj]
def ScAns (T : TypeId) (n : Nat) (C : Int) (vs : List Value) (w : World) (e : Ending) (w' : World) : Prop :=
  ∃ a m c, e = .returned (.tuple #[.slice a m c, .int .i64 C]) ∧ (C = 0 → m = n ∧ OwnW w' w.heap.size T 3 a n c vs) ∧ (C ≠ 0 → m = 0) ∧ Below w.heap.size w w'
set_option maxRecDepth 100000 in
set_option maxHeartbeats 3200000 in
theorem ref12_scale (ao : Option Addr) (n cap : Nat) (l : List Wo) (p q : Int) (hl : l.length = n) (hn : n ≤ 1000000) (hf : ∀ x ∈ l, x.Fit) (hp : IFit p) (hq : IFit q) (w : World) (hr : RowV w ao n 3 (l.flatMap Wo.vals)) :
    Calls Try.prog 15 #[.slice ao n cap, .int .i64 p, .int .i64 q] w (ScAns 43 n (scC p q l) ((l.map (scF p q)).flatMap Wo.vals) w) := by
  obtain ⟨i0, hi, hz0, hz1, hz2⟩ := info_parts (show (Try.prog.info? 43).map (fun i => (i.zero, i.size, i.bytes)) = some (some (.agg #[.int .i64 0, .int .i64 0, .bool false]), 3, 24) by kernel_rfl)
  obtain ⟨C, eC⟩ : ∃ C, scC p q l = C := ⟨_, rfl⟩
  rw [eC]
  obtain ⟨Q, eQ⟩ : ∃ Q, Q = ScAns 43 n C ((l.map (scF p q)).flatMap Wo.vals) w := ⟨_, rfl⟩
  rw [← eQ]
  have EQ := Lib.hid eQ
  have HL := Lib.hid hl
  have HF := Lib.hid hf
  have HR := Lib.hid hr
  have HP := Lib.hid hp
  have HQ := Lib.hid hq
  have EC := Lib.hid eC
  have GD := fun W => ref_good p q hp hq W
  clear eQ hl hf hr hp hq eC
  go_enter Try.func15, Try.ntmps15
  go_wp2_with fail
  go_loopg [8, 9] n (fun gk s8 s9 wr => ∃ (j : Nat) (aj : Option Addr) (cj : Nat), j ≤ n ∧ gk = n - j ∧ s8 = .slice aj j cj ∧ s9 = .int .i64 ((j : Int)) ∧ scC p q (l.drop j) = C ∧ OwnW wr w.heap.size 43 3 aj j cj (((l.take j).map (scF p q)).flatMap Wo.vals) ∧ Below w.heap.size w wr)
  case atStart => exact ⟨0, none, 0, by omega, by omega, rfl, rfl, EC.out, OwnW.nil _ _ _ _, Below.refl _ _⟩
  case round =>
    obtain ⟨j, aj, cj, hj, rfl, rfl, rfl, hcd, o1, hB⟩ := hrel
    have hsB := hB.size
    have hsh := o1.shape
    by_cases hjk : j < n
    · have ix : (j : Int) < (n : Int) := by omega
      have hjl : j < l.length := by rw [HL.out]; exact hjk
      obtain ⟨g, off, rfl, hg, hc⟩ := (HR.out.below hB).at hjk
      have hx := fun k (hk : k < 3) => (hc k hk).trans (flW_get Wo.vals 3 (fun _ => rfl) wo0 l j k hjl hk)
      have hfit : (l.getD j wo0).Fit := by
        have e : l.getD j wo0 = l[j] := by simp [List.getD, hjl]
        rw [e]; exact HF.out _ (List.getElem_mem hjl)
      have hca := scC_at (p := p) (q := q) hjl
      rw [hcd] at hca
      have hmp : ((l.take (j + 1)).map (scF p q)).flatMap Wo.vals = ((l.take j).map (scF p q)).flatMap Wo.vals ++ (scF p q (l.getD j wo0)).vals := by
        rw [List.take_succ_eq_append_getElem hjl, List.map_append, List.flatMap_append]
        congr 1
        simp [List.getD, hjl]
      obtain ⟨x, ex⟩ : ∃ x, l.getD j wo0 = x := ⟨_, rfl⟩
      rw [ex] at hx hfit hca hmp
      have h0 := hx 0 (by omega)
      have h1 := hx 1 (by omega)
      have h2 := hx 2 (by omega)
      rw [Nat.add_zero] at h0
      rw [show x.vals[0]? = some (.int .i64 x.w) from rfl] at h0
      rw [show x.vals[1]? = some (.int .i64 x.s) from rfl] at h1
      rw [show x.vals[2]? = some (.bool x.br) from rfl] at h2
      have P1 := fun W => ref4_part x.w p q hfit.1 HP.out HQ.out W
      have P2 := fun W => ref4_part x.s p q hfit.2 HP.out HQ.out W
      have hwv : (scF p q x).vals = [.int .i64 (scaleN x.w p q), .int .i64 (scaleN x.s p q), .bool x.br] := rfl
      rw [hwv] at hmp
      unfold scE at hca
      cases hgd : goodB p q
      · have e1 : scaleE x.w p q = 1 := by unfold scaleE; rw [hgd]; rfl
        rw [e1] at hca
        simp only [ne_eq, Int.one_ne_zero, not_false_eq_true, if_true] at hca
        rw [hgd] at GD
        have HCA := Lib.hid hca
        have HB := Lib.hid hB
        clear hx hfit hca hmp hwv hc P1 P2 h0 h1 h2 ex e1 hgd hB o1 hcd
        go_wp2_with (go_at_call 32; with_reducible refine (GD _).mono ?_; rintro e w1 ⟨rfl, hb1⟩)
        rw [EQ.out, HCA.out]
        exact ⟨none, 0, 0, rfl, fun h => absurd h (by omega), fun _ => rfl, HB.out.trans (hb1.mono hsB)⟩
      · have e1 : scaleE x.w p q = partE x.w p q := by unfold scaleE; rw [hgd]; rfl
        have e2 : scaleE x.s p q = partE x.s p q := by unfold scaleE; rw [hgd]; rfl
        have e3 : scaleN x.w p q = partN x.w p q := by unfold scaleN; rw [hgd]; rfl
        have e4 : scaleN x.s p q = partN x.s p q := by unfold scaleN; rw [hgd]; rfl
        rw [e1, e2] at hca
        rw [e3, e4] at hmp
        rw [hgd] at GD
        obtain ⟨n1, en1⟩ : ∃ v, partN x.w p q = v := ⟨_, rfl⟩
        obtain ⟨n2, en2⟩ : ∃ v, partN x.s p q = v := ⟨_, rfl⟩
        obtain ⟨c1, ec1⟩ : ∃ v, partE x.w p q = v := ⟨_, rfl⟩
        obtain ⟨c2, ec2⟩ : ∃ v, partE x.s p q = v := ⟨_, rfl⟩
        simp only [en1, ec1] at P1
        simp only [en2, ec2] at P2
        rw [en1, en2] at hmp
        rw [ec1, ec2] at hca
        have hcc : (c1 ≠ 0 → C = c1) ∧ (c1 = 0 → c2 ≠ 0 → C = c2) ∧ (c1 = 0 → c2 = 0 → C = scC p q (l.drop (j + 1))) := by
          refine ⟨fun h => ?_, fun h h' => ?_, fun h h' => ?_⟩
          · rw [hca, if_pos (by rw [if_pos h]; exact h), if_pos h]
          · rw [hca, if_pos (by rw [if_neg (by simpa using h)]; exact h'), if_neg (by simpa using h)]
          · rw [hca, if_neg (by rw [if_neg (by simpa using h)]; simpa using h')]
        clear hca
        have HMP := Lib.hid hmp
        have HB := Lib.hid hB
        have HO := Lib.hid o1
        have BR := Lib.hid (show ∀ W, Below wr.heap.size wr W → W.cell? ⟨g, off + j * 3, none⟩ = some (.int .i64 x.w) ∧ W.cell? ⟨g, off + j * 3 + 1, none⟩ = some (.int .i64 x.s) ∧ W.cell? ⟨g, off + j * 3 + 2, none⟩ = some (.bool x.br) from fun W hW => ⟨(hW.cell (p := ⟨g, off + j * 3, none⟩) hg).trans h0, (hW.cell (p := ⟨g, off + j * 3 + 1, none⟩) hg).trans h1, (hW.cell (p := ⟨g, off + j * 3 + 2, none⟩) hg).trans h2⟩)
        clear hx hfit hmp hwv hc ex e1 e2 e3 e4 en1 en2 ec1 ec2 hgd hB o1 hcd h0 h1 h2
        by_cases z1 : c1 = 0
        · subst z1
          by_cases z2 : c2 = 0
          · subst z2
            have HCA := Lib.hid (hcc.2.2 rfl rfl)
            clear hcc
            go_upto_region 13 with (first
              | (go_at_call 32; with_reducible refine (GD _).mono ?_; rintro e w1 ⟨rfl, hb1⟩; obtain ⟨h0, h1, h2⟩ := BR.out w1 hb1)
              | (go_at_call 33; with_reducible refine (P1 _).mono ?_; rintro e w2 ⟨rfl, hb2⟩; obtain ⟨k0, k1, k2⟩ := BR.out w2 (hb1.trans (hb2.mono hb1.size)))
              | (go_at_call 33; with_reducible refine (P2 _).mono ?_; rintro e w3 ⟨rfl, hb3⟩))
            have hb4 : Below wr.heap.size wr w3 := (hb1.trans (hb2.mono hb1.size)).trans (hb3.mono (by have := hb1.size; have := hb2.size; omega))
            obtain ⟨r0, r1, r2⟩ := BR.out w3 hb4
            have hB2 := HB.out.trans (hb4.mono hsB)
            have o5 := HO.out.below hb4
            have hz5 := hB2.size
            clear hb4 hb1 hb2 hb3 h0 h1 h2 k0 k1 k2 r0 r1 BR P1 P2 GD
            obtain ⟨ys, eys⟩ : ∃ ys, ((l.take j).map (scF p q)).flatMap Wo.vals = ys := ⟨_, rfl⟩
            rw [eys] at o5 HMP
            clear eys
            go_wp2_with (at_builtin; refine wpList_append_own _ rfl _ _ 39 rfl w.heap.size 43 i0 (.agg #[.int .i64 0, .int .i64 0, .bool false]) 3 24 Try.underlying39 hi hz0 hz1 hz2 rfl (by decide) _ _ _ rfl (o5.alloc _) ⟨w3.heap.size, 0, none⟩ 1 1 [.int .i64 n1, .int .i64 n2, .bool x.br] rfl rfl (fun j u hj => by match j, hj with | 0, hj => (simp at hj; subst hj; simp [Addr.add]) | 1, hj => (simp at hj; subst hj; simp [Addr.add]) | 2, hj => (simp at hj; subst hj; simp [Addr.add])) (fun u hu => by simp at hu; rcases hu with rfl | rfl | rfl <;> rfl) (by unfold maxLen; omega) (by omega) (by simp; omega) ?_)
            intro v' w6 hown' hgrow _
            obtain ⟨ao', cap', rfl, ho', _, hB'⟩ := OwnW.grown o5 hown' hgrow (by omega)
            have hB6 := hB' _ _ (Nat.le_refl _) hB2
            have HO6 := Lib.hid ho'
            have HB6 := Lib.hid hB6
            clear hown' hgrow hB' ho' hB6 o5 hB2 r2
            go_wp2_with fail
            go_roundg (n - (j + 1))
            case measure => omega
            case rel => exact ⟨j + 1, ao', cap', by omega, rfl, rfl, by go_num, HCA.out.symm, by rw [HMP.out]; exact HO6.out, HB6.out⟩
          · have HCA := Lib.hid (hcc.2.1 rfl z2)
            have Z2 := Lib.hid z2
            have zb : (c2 != 0) = true := by simp [z2]
            clear hcc z2
            go_wp2_with (first
              | (go_at_call 32; with_reducible refine (GD _).mono ?_; rintro e w1 ⟨rfl, hb1⟩; obtain ⟨h0, h1, h2⟩ := BR.out w1 hb1)
              | (go_at_call 33; with_reducible refine (P1 _).mono ?_; rintro e w2 ⟨rfl, hb2⟩; obtain ⟨k0, k1, k2⟩ := BR.out w2 (hb1.trans (hb2.mono hb1.size)))
              | (go_at_call 33; with_reducible refine (P2 _).mono ?_; rintro e w3 ⟨rfl, hb3⟩))
            rw [EQ.out, HCA.out]
            exact ⟨none, 0, 0, rfl, fun h => absurd h Z2.out, fun _ => rfl, HB.out.trans (((hb1.trans (hb2.mono hb1.size)).trans (hb3.mono (by have := hb1.size; have := hb2.size; omega))).mono hsB)⟩
        · have HCA := Lib.hid (hcc.1 z1)
          have Z1 := Lib.hid z1
          have zb : (c1 != 0) = true := by simp [z1]
          clear hcc z1
          go_wp2_with (first
            | (go_at_call 32; with_reducible refine (GD _).mono ?_; rintro e w1 ⟨rfl, hb1⟩; obtain ⟨h0, h1, h2⟩ := BR.out w1 hb1)
            | (go_at_call 33; with_reducible refine (P1 _).mono ?_; rintro e w2 ⟨rfl, hb2⟩; obtain ⟨k0, k1, k2⟩ := BR.out w2 (hb1.trans (hb2.mono hb1.size)))
            | (go_at_call 33; with_reducible refine (P2 _).mono ?_; rintro e w3 ⟨rfl, hb3⟩))
          rw [EQ.out, HCA.out]
          exact ⟨none, 0, 0, rfl, fun h => absurd h Z1.out, fun _ => rfl, HB.out.trans (((hb1.trans (hb2.mono hb1.size)).trans (hb3.mono (by have := hb1.size; have := hb2.size; omega))).mono hsB)⟩
    · obtain rfl : n = j := by omega
      have ix : ¬ (n : Int) < (n : Int) := by omega
      rw [List.drop_eq_nil_of_le (by rw [HL.out]; omega)] at hcd
      rw [List.take_of_length_le (by rw [HL.out]; omega)] at o1
      obtain rfl : 0 = C := hcd
      go_wp2_with fail
      rw [EQ.out]
      exact ⟨aj, n, cj, rfl, fun _ => ⟨rfl, o1⟩, fun h => absurd rfl h, hB⟩
end Go.Proofs.Ytgmnboacehopfaa
