/-
  Layer 13: small items, their width.
-/
import Derived.Test.YthofammjbicogaaYLnF
import Derived.Test.YthofammjbicogaaYOpenC
namespace Go.Proofs.Ythofammjbicogaa
open Go.RowKit
set_option linter.unusedSimpArgs false
set_option linter.unusedVariables false

def itS (x : Sm) : It := ⟨x.w, x.s, x.w % 50, x.b⟩
theorem itS_get {l : List Sm} {i : Nat} (h : i < l.length) : (l.map itS).getD i it0 = itS (l.getD i sm0) := by
  simp [List.getD, List.getElem?_map, List.getElem?_eq_getElem h]
def ItemsAns (k : Nat) (l : List It) (w : World) (e : Ending) (w' : World) : Prop :=
  ∃ a1 c1, e = .returned (.slice a1 k c1) ∧ OwnW w' w.heap.size 47 4 a1 k c1 (itV l) ∧ Below w.heap.size w w'
set_option maxRecDepth 100000 in
set_option maxHeartbeats 3200000 in
theorem law13_items (ao : Option Addr) (n cap k : Nat) (l : List Sm) (hn : n ≤ maxLen) (ek : k = min n 40) (hl : l.length = n) (hf : SmFit l) (w : World) (hr : RowV w ao n 3 (smV l)) :
    Calls Try.prog 20 #[.slice ao n cap] w (ItemsAns k ((l.take k).map itS) w) := by
  obtain ⟨i0, hi, hz0, hz1, hz2⟩ := info_parts (show (Try.prog.info? 47).map (fun i => (i.zero, i.size, i.bytes)) = some (some (.agg #[.int .i64 0, .int .i64 0, .int .i64 0, .bool false]), 4, 32) by kernel_rfl)
  obtain ⟨Q, eQ⟩ : ∃ Q : Ending → World → Prop, Q = ItemsAns k ((l.take k).map itS) w := ⟨_, rfl⟩
  rw [← eQ]
  have EQ := Lib.hid eQ
  have hk40 : k ≤ 40 := by omega
  have hkn : k ≤ n := by omega
  have EK := Lib.hid ek
  have HL := Lib.hid hl
  have HR := Lib.hid hr
  have HF := Lib.hid hf
  clear eQ ek hl hr hf
  go_enter Try.func20, Try.ntmps20
  go_wp2_with fail
  go_loopg [3, 4] k (fun gk s3 s4 wr => ∃ (j : Nat) (a1 : Option Addr) (c1 : Nat), j ≤ k ∧ gk = k - j ∧ s3 = .slice a1 j c1 ∧ s4 = .int .i64 ((j : Int)) ∧ OwnW wr w.heap.size 47 4 a1 j c1 (itV ((l.take j).map itS)) ∧ Below w.heap.size w wr)
  case atStart => exact ⟨0, none, 0, by omega, by omega, rfl, rfl, OwnW.nil _ _ _ _, Below.refl _ _⟩
  case round =>
    obtain ⟨j, a1, c1, hj, rfl, rfl, rfl, o1, hB⟩ := hrel
    have hsB := hB.size
    by_cases hjk : j < k
    · have ix : (j : Int) < (n : Int) := by omega
      have ix2 : (j : Int) < 40 := by omega
      obtain ⟨g, off, rfl, hg, hcx⟩ := HR.out.at (show j < n by omega)
      have hgv := smV_get l j (by rw [HL.out]; omega)
      have hlm : ((l.take k).map itS).length = k := by rw [List.length_map, List.length_take, HL.out]; omega
      have esn : itV ((l.take (j + 1)).map itS) = itV ((l.take j).map itS) ++ [.int .i64 ((l.getD j sm0).w), .int .i64 ((l.getD j sm0).s), .int .i64 ((l.getD j sm0).w % 50), .bool (l.getD j sm0).b] := by
        have hjl : j < l.length := by rw [HL.out]; omega
        rw [List.take_succ_eq_append_getElem hjl, List.map_append, itV_app]
        have e : l.getD j sm0 = l[j] := by simp [List.getD, hjl]
        rw [e]; rfl
      have q0 := hcx 0 (by omega)
      have q1 := hcx 1 (by omega)
      have q2 := hcx 2 (by omega)
      rw [hgv.1, Nat.add_zero] at q0
      rw [hgv.2.1] at q1
      rw [hgv.2.2] at q2
      have hfj := HF.out j
      obtain ⟨x, ex⟩ : ∃ x, (l.getD j sm0).w = x := ⟨_, rfl⟩
      obtain ⟨y, ey⟩ : ∃ x, (l.getD j sm0).s = x := ⟨_, rfl⟩
      obtain ⟨b, eb⟩ : ∃ x, (l.getD j sm0).b = x := ⟨_, rfl⟩
      rw [ex] at q0 esn hfj
      rw [ey] at q1 esn hfj
      rw [eb] at q2 esn
      obtain ⟨⟨x0, x1⟩, y0, y1⟩ := hfj
      obtain ⟨z, ez⟩ : ∃ z, x % 50 = z := ⟨_, rfl⟩
      rw [ez] at esn
      have z0 : 0 ≤ z := by omega
      have z1 : z ≤ 50 := by omega
      have ezt : x.tmod 50 = z := by rw [Int.tmod_eq_emod_of_nonneg x0, ez]
      have wx : IntKind.i64.wrap x = x := by simp [IntKind.wrap, IntKind.bits, IntKind.signed]; omega
      have wy : IntKind.i64.wrap y = y := by simp [IntKind.wrap, IntKind.bits, IntKind.signed]; omega
      have wz : IntKind.i64.wrap z = z := by simp [IntKind.wrap, IntKind.bits, IntKind.signed]; omega
      have wz2 : IntKind.u16.wrap z = z := by simp [IntKind.wrap, IntKind.bits, IntKind.signed]; omega
      have HC0 := Lib.hid (fun W (h : Below w.heap.size w W) => (h.cell (p := ⟨g, off + j * 3, none⟩) hg).trans q0)
      have HC1 := Lib.hid (fun W (h : Below w.heap.size w W) => (h.cell (p := ⟨g, off + j * 3 + 1, none⟩) hg).trans q1)
      have HC2 := Lib.hid (fun W (h : Below w.heap.size w W) => (h.cell (p := ⟨g, off + j * 3 + 2, none⟩) hg).trans q2)
      have hg1 : ∀ g, (Value.slice a1 j c1).ownBlock = some g → g < wr.heap.size := fun g h => (o1.ge h).2
      have HG1 := Lib.hid hg1
      obtain ⟨ys, eys⟩ : ∃ ys, itV ((l.take j).map itS) = ys := ⟨_, rfl⟩
      have hysl : ys.length = j * 4 := by rw [← eys, itV_len, List.length_map, List.length_take, HL.out]; omega
      rw [eys] at o1 esn
      have ESN := Lib.hid esn
      clear hcx hgv esn q0 q1 q2 ex ey eb hg1 eys ez hlm
      go_wp2_with fail
      go_upto_region 5 with (fail)
      rename_i K1 hK1
      refine wp_region_calm (fun w' => Below w.heap.size w w' ∧ OwnW w' w.heap.size 47 4 a1 j c1 ys ∧ wr.heap.size ≤ w'.heap.size) [27] (fun w' => OwnW w' w.heap.size 47 4 a1 j c1 ys) [Is (.slice a1 j c1), Is (.slice (some ⟨g, off, none⟩) n cap), Is (.int .i64 ((j : Int))), Is (.pointer (some ⟨g, off + j * 3, none⟩)), Is (.pointer (some ⟨g, off + j * 3, none⟩)), Is (.int .u16 x), Is (.int .i64 x), Is (.slice (some ⟨g, off, none⟩) n cap), Is (.int .i64 ((j : Int))), Is (.pointer (some ⟨g, off + j * 3, none⟩)), Is (.pointer (some ⟨g, off + j * 3 + 1, none⟩)), Is (.int .u16 y), Is (.int .i64 y), Is (.slice (some ⟨g, off, none⟩) n cap), Is (.int .i64 ((j : Int))), Is (.pointer (some ⟨g, off + j * 3, none⟩)), Is (.pointer (some ⟨g, off + j * 3, none⟩)), Is (.int .u16 x), Is (.int .u16 z), Is (.int .i64 z), Is (.slice (some ⟨g, off, none⟩) n cap), Is (.int .i64 ((j : Int))), Is (.pointer (some ⟨g, off + j * 3, none⟩)), Is (.pointer (some ⟨g, off + j * 3 + 2, none⟩)), Is (.bool b), Is (.agg #[.int .i64 x, .int .i64 y, .int .i64 z, .bool b]), sliW wr.heap.size 47 [.int .i64 x, .int .i64 y, .int .i64 z, .bool b], ownW w.heap.size 47 4 (j + 1) (ys ++ [.int .i64 x, .int .i64 y, .int .i64 z, .bool b]), ownW w.heap.size 47 4 (j + 1) (ys ++ [.int .i64 x, .int .i64 y, .int .i64 z, .bool b])] [] (by kernel_rfl) (by kernel_rfl) (by kernel_rfl) (by kernel_rfl) ⟨hB.drew, o1.drew, Nat.le_refl _⟩ o1.drew ?_ ?_ ?_ ?_ ?_
      · rintro W W' ⟨hBB, o1, hl⟩ hb
        exact ⟨hBB.trans (hb.mono hBB.size), o1.below hb, Nat.le_trans hl hb.size⟩
      · intro W W' hB h0 hb; exact h0.below hb
      · intro k vs W hk h
        exact absurd hk (by simp)
      · intro Q; clear hK1 hB o1
        refine ⟨?_, ?_, ?_, ?_, ?_, ?_, ?_, ?_, ?_, ?_, ?_, ?_, ?_, ?_, ?_, ?_, ?_, ?_, ?_, ?_, ?_, ?_, ?_, ?_, ?_, ?_, ?_, ?_, ?_, trivial⟩
        · intro vs W hW hW0 hd hne hold K hK hA hL; clear hne hA hL; have hBB := hW.1; have o1 := hW.2.1; have hl := hW.2.2; simp only [puts, Act.put, List.setIfInBounds_toArray, List.set_cons_zero, List.set_cons_succ, Nat.zero_add, Nat.reduceAdd] at hK ⊢; have e28 : vs 28 = _ := hold 28 (by kernel_rfl); clear hd hold; simp only [e28] at hK; go_simp; exact hK.out rfl _ _ (Below.refl _ _) rfl
        · intro vs W hW hW0 hd hne hold K hK hA hL; clear hne hA hL; have hBB := hW.1; have o1 := hW.2.1; have hl := hW.2.2; simp only [puts, Act.put, List.setIfInBounds_toArray, List.set_cons_zero, List.set_cons_succ, Nat.zero_add, Nat.reduceAdd] at hK ⊢; clear hd hold; go_simp; exact hK.out rfl _ _ (Below.refl _ _) rfl
        · intro vs W hW hW0 hd hne hold K hK hA hL; clear hne hA hL; have hBB := hW.1; have o1 := hW.2.1; have hl := hW.2.2; simp only [puts, Act.put, List.setIfInBounds_toArray, List.set_cons_zero, List.set_cons_succ, Nat.zero_add, Nat.reduceAdd] at hK ⊢; clear hd hold; go_simp; exact hK.out rfl _ _ (Below.refl _ _) rfl
        · intro vs W hW hW0 hd hne hold K hK hA hL; clear hne hA hL; have hBB := hW.1; have o1 := hW.2.1; have hl := hW.2.2; simp only [puts, Act.put, List.setIfInBounds_toArray, List.set_cons_zero, List.set_cons_succ, Nat.zero_add, Nat.reduceAdd] at hK ⊢; have e1 : vs 1 = _ := hd 1 (by kernel_rfl); have e2 : vs 2 = _ := hd 2 (by kernel_rfl); clear hd hold; simp only [e1, e2] at hK; go_simp; exact hK.out rfl _ _ (Below.refl _ _) rfl
        · intro vs W hW hW0 hd hne hold K hK hA hL; clear hne hA hL; have hBB := hW.1; have o1 := hW.2.1; have hl := hW.2.2; simp only [puts, Act.put, List.setIfInBounds_toArray, List.set_cons_zero, List.set_cons_succ, Nat.zero_add, Nat.reduceAdd] at hK ⊢; have e3 : vs 3 = _ := hd 3 (by kernel_rfl); clear hd hold; simp only [e3] at hK; go_simp; exact hK.out rfl _ _ (Below.refl _ _) rfl
        · intro vs W hW hW0 hd hne hold K hK hA hL; clear hne hA hL; have hBB := hW.1; have o1 := hW.2.1; have hl := hW.2.2; simp only [puts, Act.put, List.setIfInBounds_toArray, List.set_cons_zero, List.set_cons_succ, Nat.zero_add, Nat.reduceAdd] at hK ⊢; have q := HC0.out W hBB; have eb : vs 4 = _ := hd 4 (by kernel_rfl); clear hd hold; simp only [eb] at hK; go_simp; exact hK.out rfl _ _ (Below.refl _ _) rfl
        · intro vs W hW hW0 hd hne hold K hK hA hL; clear hne hA hL; have hBB := hW.1; have o1 := hW.2.1; have hl := hW.2.2; simp only [puts, Act.put, List.setIfInBounds_toArray, List.set_cons_zero, List.set_cons_succ, Nat.zero_add, Nat.reduceAdd] at hK ⊢; have e5 : vs 5 = _ := hd 5 (by kernel_rfl); clear hd hold; simp only [e5] at hK; go_simp; exact hK.out rfl _ _ (Below.refl _ _) rfl
        · intro vs W hW hW0 hd hne hold K hK hA hL; clear hne hA hL; have hBB := hW.1; have o1 := hW.2.1; have hl := hW.2.2; simp only [puts, Act.put, List.setIfInBounds_toArray, List.set_cons_zero, List.set_cons_succ, Nat.zero_add, Nat.reduceAdd] at hK ⊢; clear hd hold; go_simp; exact hK.out rfl _ _ (Below.refl _ _) rfl
        · intro vs W hW hW0 hd hne hold K hK hA hL; clear hne hA hL; have hBB := hW.1; have o1 := hW.2.1; have hl := hW.2.2; simp only [puts, Act.put, List.setIfInBounds_toArray, List.set_cons_zero, List.set_cons_succ, Nat.zero_add, Nat.reduceAdd] at hK ⊢; clear hd hold; go_simp; exact hK.out rfl _ _ (Below.refl _ _) rfl
        · intro vs W hW hW0 hd hne hold K hK hA hL; clear hne hA hL; have hBB := hW.1; have o1 := hW.2.1; have hl := hW.2.2; simp only [puts, Act.put, List.setIfInBounds_toArray, List.set_cons_zero, List.set_cons_succ, Nat.zero_add, Nat.reduceAdd] at hK ⊢; have e7 : vs 7 = _ := hd 7 (by kernel_rfl); have e8 : vs 8 = _ := hd 8 (by kernel_rfl); clear hd hold; simp only [e7, e8] at hK; go_simp; exact hK.out rfl _ _ (Below.refl _ _) rfl
        · intro vs W hW hW0 hd hne hold K hK hA hL; clear hne hA hL; have hBB := hW.1; have o1 := hW.2.1; have hl := hW.2.2; simp only [puts, Act.put, List.setIfInBounds_toArray, List.set_cons_zero, List.set_cons_succ, Nat.zero_add, Nat.reduceAdd] at hK ⊢; have e9 : vs 9 = _ := hd 9 (by kernel_rfl); clear hd hold; simp only [e9] at hK; go_simp; exact hK.out rfl _ _ (Below.refl _ _) rfl
        · intro vs W hW hW0 hd hne hold K hK hA hL; clear hne hA hL; have hBB := hW.1; have o1 := hW.2.1; have hl := hW.2.2; simp only [puts, Act.put, List.setIfInBounds_toArray, List.set_cons_zero, List.set_cons_succ, Nat.zero_add, Nat.reduceAdd] at hK ⊢; have q := HC1.out W hBB; have eb : vs 10 = _ := hd 10 (by kernel_rfl); clear hd hold; simp only [eb] at hK; go_simp; exact hK.out rfl _ _ (Below.refl _ _) rfl
        · intro vs W hW hW0 hd hne hold K hK hA hL; clear hne hA hL; have hBB := hW.1; have o1 := hW.2.1; have hl := hW.2.2; simp only [puts, Act.put, List.setIfInBounds_toArray, List.set_cons_zero, List.set_cons_succ, Nat.zero_add, Nat.reduceAdd] at hK ⊢; have e11 : vs 11 = _ := hd 11 (by kernel_rfl); clear hd hold; simp only [e11] at hK; go_simp; exact hK.out rfl _ _ (Below.refl _ _) rfl
        · intro vs W hW hW0 hd hne hold K hK hA hL; clear hne hA hL; have hBB := hW.1; have o1 := hW.2.1; have hl := hW.2.2; simp only [puts, Act.put, List.setIfInBounds_toArray, List.set_cons_zero, List.set_cons_succ, Nat.zero_add, Nat.reduceAdd] at hK ⊢; clear hd hold; go_simp; exact hK.out rfl _ _ (Below.refl _ _) rfl
        · intro vs W hW hW0 hd hne hold K hK hA hL; clear hne hA hL; have hBB := hW.1; have o1 := hW.2.1; have hl := hW.2.2; simp only [puts, Act.put, List.setIfInBounds_toArray, List.set_cons_zero, List.set_cons_succ, Nat.zero_add, Nat.reduceAdd] at hK ⊢; clear hd hold; go_simp; exact hK.out rfl _ _ (Below.refl _ _) rfl
        · intro vs W hW hW0 hd hne hold K hK hA hL; clear hne hA hL; have hBB := hW.1; have o1 := hW.2.1; have hl := hW.2.2; simp only [puts, Act.put, List.setIfInBounds_toArray, List.set_cons_zero, List.set_cons_succ, Nat.zero_add, Nat.reduceAdd] at hK ⊢; have e13 : vs 13 = _ := hd 13 (by kernel_rfl); have e14 : vs 14 = _ := hd 14 (by kernel_rfl); clear hd hold; simp only [e13, e14] at hK; go_simp; exact hK.out rfl _ _ (Below.refl _ _) rfl
        · intro vs W hW hW0 hd hne hold K hK hA hL; clear hne hA hL; have hBB := hW.1; have o1 := hW.2.1; have hl := hW.2.2; simp only [puts, Act.put, List.setIfInBounds_toArray, List.set_cons_zero, List.set_cons_succ, Nat.zero_add, Nat.reduceAdd] at hK ⊢; have e15 : vs 15 = _ := hd 15 (by kernel_rfl); clear hd hold; simp only [e15] at hK; go_simp; exact hK.out rfl _ _ (Below.refl _ _) rfl
        · intro vs W hW hW0 hd hne hold K hK hA hL; clear hne hA hL; have hBB := hW.1; have o1 := hW.2.1; have hl := hW.2.2; simp only [puts, Act.put, List.setIfInBounds_toArray, List.set_cons_zero, List.set_cons_succ, Nat.zero_add, Nat.reduceAdd] at hK ⊢; have q := HC0.out W hBB; have eb : vs 16 = _ := hd 16 (by kernel_rfl); clear hd hold; simp only [eb] at hK; go_simp; exact hK.out rfl _ _ (Below.refl _ _) rfl
        · intro vs W hW hW0 hd hne hold K hK hA hL; clear hne hA hL; have hBB := hW.1; have o1 := hW.2.1; have hl := hW.2.2; simp only [puts, Act.put, List.setIfInBounds_toArray, List.set_cons_zero, List.set_cons_succ, Nat.zero_add, Nat.reduceAdd] at hK ⊢; have e17 : vs 17 = _ := hd 17 (by kernel_rfl); clear hd hold; simp only [e17] at hK; go_simp; exact hK.out rfl _ _ (Below.refl _ _) rfl
        · intro vs W hW hW0 hd hne hold K hK hA hL; clear hne hA hL; have hBB := hW.1; have o1 := hW.2.1; have hl := hW.2.2; simp only [puts, Act.put, List.setIfInBounds_toArray, List.set_cons_zero, List.set_cons_succ, Nat.zero_add, Nat.reduceAdd] at hK ⊢; have e18 : vs 18 = _ := hd 18 (by kernel_rfl); clear hd hold; simp only [e18] at hK; go_simp; exact hK.out rfl _ _ (Below.refl _ _) rfl
        · intro vs W hW hW0 hd hne hold K hK hA hL; clear hne hA hL; have hBB := hW.1; have o1 := hW.2.1; have hl := hW.2.2; simp only [puts, Act.put, List.setIfInBounds_toArray, List.set_cons_zero, List.set_cons_succ, Nat.zero_add, Nat.reduceAdd] at hK ⊢; clear hd hold; go_simp; exact hK.out rfl _ _ (Below.refl _ _) rfl
        · intro vs W hW hW0 hd hne hold K hK hA hL; clear hne hA hL; have hBB := hW.1; have o1 := hW.2.1; have hl := hW.2.2; simp only [puts, Act.put, List.setIfInBounds_toArray, List.set_cons_zero, List.set_cons_succ, Nat.zero_add, Nat.reduceAdd] at hK ⊢; clear hd hold; go_simp; exact hK.out rfl _ _ (Below.refl _ _) rfl
        · intro vs W hW hW0 hd hne hold K hK hA hL; clear hne hA hL; have hBB := hW.1; have o1 := hW.2.1; have hl := hW.2.2; simp only [puts, Act.put, List.setIfInBounds_toArray, List.set_cons_zero, List.set_cons_succ, Nat.zero_add, Nat.reduceAdd] at hK ⊢; have e20 : vs 20 = _ := hd 20 (by kernel_rfl); have e21 : vs 21 = _ := hd 21 (by kernel_rfl); clear hd hold; simp only [e20, e21] at hK; go_simp; exact hK.out rfl _ _ (Below.refl _ _) rfl
        · intro vs W hW hW0 hd hne hold K hK hA hL; clear hne hA hL; have hBB := hW.1; have o1 := hW.2.1; have hl := hW.2.2; simp only [puts, Act.put, List.setIfInBounds_toArray, List.set_cons_zero, List.set_cons_succ, Nat.zero_add, Nat.reduceAdd] at hK ⊢; have e22 : vs 22 = _ := hd 22 (by kernel_rfl); clear hd hold; simp only [e22] at hK; go_simp; exact hK.out rfl _ _ (Below.refl _ _) rfl
        · intro vs W hW hW0 hd hne hold K hK hA hL; clear hne hA hL; have hBB := hW.1; have o1 := hW.2.1; have hl := hW.2.2; simp only [puts, Act.put, List.setIfInBounds_toArray, List.set_cons_zero, List.set_cons_succ, Nat.zero_add, Nat.reduceAdd] at hK ⊢; have q := HC2.out W hBB; have eb : vs 23 = _ := hd 23 (by kernel_rfl); clear hd hold; simp only [eb] at hK; go_simp; exact hK.out rfl _ _ (Below.refl _ _) rfl
        · intro vs W hW hW0 hd hne hold K hK hA hL; clear hne hA hL; have hBB := hW.1; have o1 := hW.2.1; have hl := hW.2.2; simp only [puts, Act.put, List.setIfInBounds_toArray, List.set_cons_zero, List.set_cons_succ, Nat.zero_add, Nat.reduceAdd] at hK ⊢; have e6 : vs 6 = _ := hd 6 (by kernel_rfl); have e12 : vs 12 = _ := hd 12 (by kernel_rfl); have e19 : vs 19 = _ := hd 19 (by kernel_rfl); have e24 : vs 24 = _ := hd 24 (by kernel_rfl); clear hd hold; simp only [e6, e12, e19, e24] at hK; go_simp; exact hK.out rfl _ _ (Below.refl _ _) rfl
        · intro vs W hW hW0 hd hne hold K hK hA hL; clear hne hA hL; have hBB := hW.1; have o1 := hW.2.1; have hl := hW.2.2; simp only [puts, Act.put, List.setIfInBounds_toArray, List.set_cons_zero, List.set_cons_succ, Nat.zero_add, Nat.reduceAdd] at hK ⊢; have ee : vs 25 = _ := hd 25 (by kernel_rfl); clear hd hold; simp only [ee] at hK; go_simp; exact hK.out rfl _ _ ((Below.refl _ _).alloc (Nat.le_refl _) _) ⟨W.heap.size, rfl, hl, Blk.new _ _ _ _ rfl⟩
        · intro vs W hW hW0 hd hne hold K hK hA hL; clear hK hA; have hBB := hW.1; have o1 := hW.2.1; have hl := hW.2.2; simp only [puts, Act.put, List.setIfInBounds_toArray, List.set_cons_zero, List.set_cons_succ, Nat.zero_add, Nat.reduceAdd] at hL ⊢; have ea : vs 0 = _ := hd 0 (by kernel_rfl); have h5 : SliW wr.heap.size 47 [.int .i64 x, .int .i64 y, .int .i64 z, .bool b] (vs 26) W := hd 26 (by kernel_rfl); obtain ⟨bq, ebq, hlb, tb⟩ := h5; clear hd hold; simp only [ea, ebq] at hL ⊢; rw [if_pos (show Region.wanted _ _ = true from rfl)]; refine wp_append_keep (.tmp 15) (.tmp 41) 26 rfl w.heap.size 47 i0 (.agg #[.int .i64 0, .int .i64 0, .int .i64 0, .bool false]) 4 32 Try.underlying26 hi hz0 hz1 hz2 rfl (by decide) _ _ _ rfl o1 ⟨bq, 0, none⟩ 1 1 [.int .i64 x, .int .i64 y, .int .i64 z, .bool b] rfl rfl (news_blk tb) (cells4 x y z b) (by unfold maxLen; omega) (by omega) (by have := hBB.size; omega) ?_; intro v' w1 ho1 hgr hk1; obtain ⟨a5, c5, rfl, ho2, hbe, hbT, hb2⟩ := OwnW.app o1 ho1 hgr (by omega) (by have := hBB.size; omega); simp only [Act.put, List.setIfInBounds_toArray, List.set_cons_zero, List.set_cons_succ, Nat.zero_add, Nat.reduceAdd]; refine hL.out rfl _ _ ⟨hbe _ _ (Nat.le_refl _) hBB, hk1, Nat.le_trans hl hgr.size⟩ (fun h => absurd h (by decide)) ⟨a5, c5, rfl, ho2⟩ ?_; exact claims_keep_a ⟨.inr (.inr is_keep), .inr (.inr is_keep), .inr (.inr is_keep), .inr (.inr is_keep), .inr (.inr is_keep), .inr (.inr is_keep), .inr (.inr is_keep), .inr (.inr is_keep), .inr (.inr is_keep), .inr (.inr is_keep), .inr (.inr is_keep), .inr (.inr is_keep), .inr (.inr is_keep), .inr (.inr is_keep), .inr (.inr is_keep), .inr (.inr is_keep), .inr (.inr is_keep), .inr (.inr is_keep), .inr (.inr is_keep), .inr (.inr is_keep), .inr (.inr is_keep), .inr (.inr is_keep), .inr (.inr is_keep), .inr (.inr is_keep), .inr (.inr is_keep), .inr (.inr is_keep), .inr (.inr fun h => by obtain ⟨b9, e9, l9, t9⟩ := h; exact ⟨b9, e9, l9, hb2 _ _ _ t9 (fun q hq => by have := HG1.out q hq; omega)⟩), .inl rfl, .inr (.inl (by kernel_rfl)), trivial⟩
        · intro vs W hW hW0 hd hne hold K hK hA hL; clear hne hA hL; have hBB := hW.1; have o1 := hW.2.1; have hl := hW.2.2; simp only [puts, Act.put, List.setIfInBounds_toArray, List.set_cons_zero, List.set_cons_succ, Nat.zero_add, Nat.reduceAdd] at hK ⊢; have h15 : OwnVW w.heap.size 47 4 (j + 1) (ys ++ [.int .i64 x, .int .i64 y, .int .i64 z, .bool b]) (vs 27) W := hd 27 (by kernel_rfl); obtain ⟨a5, c5, e1, ho⟩ := h15; clear hd hold; simp only [e1] at hK; go_simp; exact hK.out rfl _ _ (Below.refl _ _) ⟨a5, c5, rfl, ho⟩
      · intro va WB hW hV _
        clear hB o1
        obtain ⟨hB, _, _⟩ := hW
        have h14 : OwnVW w.heap.size 47 4 (j + 1) (ys ++ [.int .i64 x, .int .i64 y, .int .i64 z, .bool b]) (va 28) WB := hV 28 (by decide)
        obtain ⟨a5, c5, e14, o5⟩ := h14
        clear hV
        simp only [puts, Act.put, List.setIfInBounds_toArray, List.set_cons_zero, List.set_cons_succ, Nat.zero_add, Nat.reduceAdd, e14]
        refine hK1 _ _ ?_
        clear hK1 e14
        go_wp2_with fail
        go_roundg (k - (j + 1))
        case measure => omega
        case rel => exact ⟨j + 1, a5, c5, by omega, rfl, rfl, by go_num, by rw [ESN.out]; exact o5, hB⟩
    · obtain rfl : j = k := by omega
      have hcond : ¬ (j : Int) < (n : Int) ∨ ((j : Int) < (n : Int) ∧ ¬ (j : Int) < 40) := by have := EK.out; omega
      rcases hcond with ix | ⟨ix, ix2⟩
      all_goals
        go_wp2_with fail
        rw [EQ.out]
        exact ⟨a1, c1, rfl, o1, hB⟩
end Go.Proofs.Ythofammjbicogaa
