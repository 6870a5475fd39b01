/-
  The reference of layer 12: Decode.
-/
import Derived.Test.YtgmnboacehopfaaYWoB
import Derived.Test.YtgmnboacehopfaaYGrG
namespace Go.Proofs.Ytgmnboacehopfaa
open Go.RowKit
set_option linter.unusedSimpArgs false
set_option linter.unusedVariables false

theorem map_at {α : Type} (f : α → Value) (d : α) {l : List α} {j : Nat} (hj : j < l.length) : (l.map f)[j]? = some (f (l.getD j d)) := by
  simp [List.getD, hj]
theorem row1 {w : World} {ao : Option Addr} {n : Nat} {vs : List Value} (h : RowV w ao n 1 vs) {i : Nat} (hi : i < n) : ∃ g off, ao = some ⟨g, off, none⟩ ∧ g < w.heap.size ∧ w.cell? ⟨g, off + i, none⟩ = vs[i]? := by
  obtain ⟨g, off, e, hg, hc⟩ := h.at hi
  refine ⟨g, off, e, hg, ?_⟩
  have := hc 0 (by omega)
  rw [Nat.mul_one, Nat.add_zero, Nat.add_zero] at this
  exact this
set_option maxRecDepth 100000 in
set_option maxHeartbeats 3200000 in
theorem ref12_decode (aw az ab : Option Addr) (n cw cs cb : Nat) (l : List Rw) (hl : l.length = n) (hn : n ≤ 1000000) (hf : ∀ x ∈ l, x.Wf) (w : World) (hw : RowV w aw n 1 (l.map fun x => .int .u64 (x.w : Int))) (hs : RowV w az n 1 (l.map fun x => .int .u64 (x.s : Int))) (hb : RowV w ab n 1 (l.map fun x => .bool x.br)) :
    Calls Try.prog 11 #[.slice aw n cw, .slice az n cs, .slice ab n cb] w (WdAns 43 n l w) := by
  obtain ⟨i0, hi, hz0, hz1, hz2⟩ := info_parts (show (Try.prog.info? 43).map (fun i => (i.zero, i.size, i.bytes)) = some (some (.agg #[.int .i64 0, .int .i64 0, .bool false]), 3, 24) by kernel_rfl)
  obtain ⟨Q, eQ⟩ : ∃ Q, Q = WdAns 43 n l w := ⟨_, rfl⟩
  rw [← eQ]
  have EQ := Lib.hid eQ
  have HL := Lib.hid hl
  have HF := Lib.hid hf
  have HW := Lib.hid hw
  have HS := Lib.hid hs
  have HBo := Lib.hid hb
  clear eQ hl hf hw hs hb
  by_cases h256 : 256 < n
  · have ix : (256 : Int) < (n : Int) := by omega
    have H := Lib.hid h256
    clear h256
    go_enter Try.func11, Try.ntmps11
    go_wp2_with fail
    rw [EQ.out]
    exact ⟨none, 0, 0, by rw [if_pos H.out]; rfl, fun h => absurd H.out h, fun _ => rfl, Below.refl _ _⟩
  · have ix0 : ¬ (256 : Int) < (n : Int) := by omega
    have H := Lib.hid h256
    go_enter Try.func11, Try.ntmps11
    go_wp2_with fail
    go_loopg [8, 9] n (fun gk s8 s9 wr => ∃ (j : Nat) (aj : Option Addr) (cj : Nat), j ≤ n ∧ gk = n - j ∧ s8 = .slice aj j cj ∧ s9 = .int .i64 ((j : Int)) ∧ (l.take j).all okR = true ∧ OwnW wr w.heap.size 43 3 aj j cj (((l.take j).map woF).flatMap Wo.vals) ∧ Below w.heap.size w wr)
    case atStart => exact ⟨0, none, 0, by omega, by omega, rfl, rfl, by simp, OwnW.nil _ _ _ _, Below.refl _ _⟩
    case round =>
      obtain ⟨j, aj, cj, hj, rfl, rfl, rfl, hall, o1, hB⟩ := hrel
      have hsB := hB.size
      have hsh := o1.shape
      by_cases hjk : j < n
      · have ix : (j : Int) < (n : Int) := by omega
        have hjl : j < l.length := by rw [HL.out]; exact hjk
        obtain ⟨g1, o1', rfl, hg1, h0⟩ := row1 (HW.out.below hB) hjk
        obtain ⟨g2, o2', rfl, hg2, h1⟩ := row1 (HS.out.below hB) hjk
        obtain ⟨g3, o3', rfl, hg3, h2⟩ := row1 (HBo.out.below hB) hjk
        rw [map_at _ rw0 hjl] at h0 h1 h2
        have hwf : (l.getD j rw0).Wf := by
          have e : l.getD j rw0 = l[j] := by simp [List.getD, hjl]
          rw [e]; exact HF.out _ (List.getElem_mem hjl)
        have hat := all_take hjl
        have hno := fun h => all_no hjl h
        have hmp : ((l.take (j + 1)).map woF).flatMap Wo.vals = ((l.take j).map woF).flatMap Wo.vals ++ (woF (l.getD j rw0)).vals := by
          rw [List.take_succ_eq_append_getElem hjl, List.map_append, List.flatMap_append]
          congr 1
          simp [List.getD, hjl]
        obtain ⟨x, ex⟩ : ∃ x, l.getD j rw0 = x := ⟨_, rfl⟩
        rw [ex] at h0 h1 h2 hwf hat hno hmp
        rw [hall, Bool.true_and] at hat
        have G1 := fun W => ref3_grid x.w hwf.1 64 0 1073741824 (by unfold IFit; omega) (by unfold IFit; omega) (by unfold IFit; omega) W
        have G2 := fun W => ref3_grid x.s hwf.2 64 0 1073741824 (by unfold IFit; omega) (by unfold IFit; omega) (by unfold IFit; omega) W
        have hok := okR_e x
        have hwv : (woF x).vals = [.int .i64 (gW x.w), .int .i64 (gW x.s), .bool x.br] := rfl
        rw [hwv] at hmp
        simp only [eW_is, show ∀ b, (gridR b 64 0 1073741824).1 = gW b from fun _ => rfl] at G1 G2
        obtain ⟨n1, en1⟩ : ∃ v, gW x.w = v := ⟨_, rfl⟩
        obtain ⟨n2, en2⟩ : ∃ v, gW x.s = v := ⟨_, rfl⟩
        obtain ⟨e1, ee1⟩ : ∃ v, eW x.w = v := ⟨_, rfl⟩
        obtain ⟨e2, ee2⟩ : ∃ v, eW x.s = v := ⟨_, rfl⟩
        rw [en1, en2] at hmp
        simp only [en1, ee1] at G1
        simp only [en2, ee2] at G2
        rw [ee1, ee2] at hok
        have HOK := Lib.hid hok
        have HAT := Lib.hid hat
        have HNO := Lib.hid hno
        have HMP := Lib.hid hmp
        have HB := Lib.hid hB
        have HO := Lib.hid o1
        have B1 := Lib.hid (show ∀ W, Below wr.heap.size wr W → W.cell? ⟨g2, o2' + j, none⟩ = some (.int .u64 (x.s : Int)) from fun W hW => (hW.cell (p := ⟨g2, o2' + j, none⟩) hg2).trans h1)
        have B2 := Lib.hid (show ∀ W, Below wr.heap.size wr W → W.cell? ⟨g3, o3' + j, none⟩ = some (.bool x.br) from fun W hW => (hW.cell (p := ⟨g3, o3' + j, none⟩) hg3).trans h2)
        clear hwf hat hno hmp ex hok hwv en1 en2 ee1 ee2 h256 h1 h2
        cases hk : okR x
        · have q := HOK.out.2 hk
          have HK := Lib.hid hk
          by_cases z1 : e1 = 0
          · subst z1
            rw [if_neg (by simp)] at q
            subst q
            clear hk
            go_wp2_with (first
              | (go_at_call 29; with_reducible refine (G1 _).mono ?_; rintro e w1 ⟨rfl, hb1⟩; have h1 := B1.out w1 hb1)
              | (go_at_call 29; with_reducible refine (G2 _).mono ?_; rintro e w2 ⟨rfl, hb2⟩))
            rw [EQ.out]
            exact ⟨none, 0, 0, by rw [if_neg H.out, if_neg (by rw [HNO.out HK.out]; simp)]; rfl, fun _ h => absurd (h.symm.trans (HNO.out HK.out)) (by simp), fun _ => rfl, (HB.out.trans (hb1.mono hsB)).trans (hb2.mono (by have := hb1.size; omega))⟩
          · have zb : (e1 != 0) = true := by simp [z1]
            clear hk q
            go_wp2_with (first
              | (go_at_call 29; with_reducible refine (G1 _).mono ?_; rintro e w1 ⟨rfl, hb1⟩; have h1 := B1.out w1 hb1)
              | (go_at_call 29; with_reducible refine (G2 _).mono ?_; rintro e w2 ⟨rfl, hb2⟩))
            rw [EQ.out]
            exact ⟨none, 0, 0, by rw [if_neg H.out, if_neg (by rw [HNO.out HK.out]; simp)]; rfl, fun _ h => absurd (h.symm.trans (HNO.out HK.out)) (by simp), fun _ => rfl, (HB.out.trans (hb1.mono hsB)).trans (hb2.mono (by have := hb1.size; omega))⟩
        · obtain ⟨q1, q2⟩ := HOK.out.1 hk
          subst q1 q2
          rw [hk] at HAT
          clear hk
          go_upto_region 11 with (first
            | (go_at_call 29; with_reducible refine (G1 _).mono ?_; rintro e w1 ⟨rfl, hb1⟩; have h1 := B1.out w1 hb1)
            | (go_at_call 29; with_reducible refine (G2 _).mono ?_; rintro e w2 ⟨rfl, hb2⟩))
          have hb3 : Below wr.heap.size wr w2 := hb1.trans (hb2.mono hb1.size)
          have hB2 := HB.out.trans (hb3.mono hsB)
          have h2 := B2.out w2 hb3
          have o5 := HO.out.below hb3
          have hz5 := hB2.size
          clear hb3 hb1 hb2 h1 HOK HNO B1 B2 G1 G2 h0
          obtain ⟨ys, eys⟩ : ∃ ys, ((l.take j).map woF).flatMap Wo.vals = ys := ⟨_, rfl⟩
          rw [eys] at o5 HMP
          clear eys
          go_wp2_with (at_builtin; refine wpList_append_own _ rfl _ _ 39 rfl w.heap.size 43 i0 (.agg #[.int .i64 0, .int .i64 0, .bool false]) 3 24 Try.underlying39 hi hz0 hz1 hz2 rfl (by decide) _ _ _ rfl (o5.alloc _) ⟨w2.heap.size, 0, none⟩ 1 1 [.int .i64 n1, .int .i64 n2, .bool x.br] rfl rfl (fun j u hj => by match j, hj with | 0, hj => (simp at hj; subst hj; simp [Addr.add]) | 1, hj => (simp at hj; subst hj; simp [Addr.add]) | 2, hj => (simp at hj; subst hj; simp [Addr.add])) (fun u hu => by simp at hu; rcases hu with rfl | rfl | rfl <;> rfl) (by unfold maxLen; omega) (by omega) (by simp; omega) ?_)
          intro v' w6 hown' hgrow _
          obtain ⟨ao', cap', rfl, ho', _, hB'⟩ := OwnW.grown o5 hown' hgrow (by omega)
          have hB6 := hB' _ _ (Nat.le_refl _) hB2
          have HO6 := Lib.hid ho'
          have HB6 := Lib.hid hB6
          clear hown' hgrow hB' ho' hB6 o5 hB2 h2
          go_wp2_with fail
          go_roundg (n - (j + 1))
          case measure => omega
          case rel => exact ⟨j + 1, ao', cap', by omega, rfl, rfl, by go_num, HAT.out, by rw [HMP.out]; exact HO6.out, HB6.out⟩
      · obtain rfl : n = j := by omega
        have ix : ¬ (n : Int) < (n : Int) := by omega
        have htk : l.take n = l := List.take_of_length_le (by rw [HL.out]; omega)
        rw [htk] at hall o1
        have HA := Lib.hid hall
        clear htk hall
        go_wp2_with fail
        rw [EQ.out]
        exact ⟨aj, n, cj, by rw [if_neg H.out, if_pos HA.out], fun _ _ => ⟨rfl, o1⟩, fun h => absurd h (by simp [H.out, HA.out]), hB⟩
end Go.Proofs.Ytgmnboacehopfaa
