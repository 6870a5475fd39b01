/-
  The law RealGrid.
-/
import Derived.Test.YtmkblfejoniccaaDoorYReL
namespace Go.Proofs.YtmkblfejoniccaaDoor
open Go.RowKit
set_option linter.unusedSimpArgs false
set_option linter.unusedVariables false

set_option maxRecDepth 100000 in
set_option maxHeartbeats 3200000 in
theorem law_grid (a : Nat) (ha : a < 18446744073709551616) (den low high : Int) (hd : IFit den) (hl : IFit low) (hh : IFit high) (w : World) (hT : TabW w) : Calls Tryd.prog 6 #[.int .u64 (a : Int), .int .i64 den, .agg #[.int .i64 low, .int .i64 high]] w fun e w' => e = .returned (.bool true) ∧ Below w.heap.size w w' := by
  have RG := real_Grid a ha den low high hd hl hh
  have FG := ref3_grid a ha den low high hd hl hh
  have SP := fun W hW => speaks03 W hW
  have FF : ∀ w, (callFunc 16 #[.int .u64 (a : Int)]).run Tryd.prog w = .ok (.value (.float .f64 a)) w := flo_from2 a
  obtain ⟨g1, eg1⟩ : ∃ x, (gridR a den low high).1 = x := ⟨_, rfl⟩
  obtain ⟨g2, eg2⟩ : ∃ x, (gridR a den low high).2 = x := ⟨_, rfl⟩
  rw [eg1, eg2] at RG FG
  have HT := Lib.hid hT
  have t0 := Blk.new w #[.int .i64 low, .int .i64 high] 47 w.heap.size rfl
  have hB0 : Below w.heap.size w (w.alloc (.cells #[.int .i64 low, .int .i64 high] 47)) := (Below.refl _ _).alloc (Nat.le_refl _) _
  clear eg1 eg2 hT hd hl hh
  go_enter Tryd.func6, Tryd.ntmps6
  go_upto_region 2 with (go_at_call 14; with_reducible refine (SP _ (HT.out.below hB0)).mono ?_; rintro e w1 ⟨rfl, hb1⟩; have t1 := t0.below hb1; have hB1 := hB0.trans (hb1.mono hB0.size))
  clear hb1 t0 hB0
  go_upto_region 3 with (fail)
  rename_i K0 hK0
  refine wp_region_calm (fun w' => Below w.heap.size w w' ∧ Blk w' w.heap.size #[.int .i64 low, .int .i64 high] 47) [] (fun w' => True) [Is (.int .u64 (a : Int)), Is (.float .f64 a), Is (.int .i64 den), Is (.pointer (some ⟨w.heap.size, 0, none⟩)), Is (.int .i64 low), Is (.pointer (some ⟨w.heap.size, 1, none⟩)), Is (.int .i64 high), Is (.tuple #[.int .i64 g1, .int .i64 g2]), Is (.tuple #[.int .i64 g1, .int .i64 g2]), Is (.int .i64 g1), Is (.int .i64 g2), Is (.int .i64 g1), Is (.int .i64 g2)] [] (by kernel_rfl) (by kernel_rfl) (by kernel_rfl) (by kernel_rfl) ⟨hB1.drew, t1.drew⟩ trivial ?_ ?_ ?_ ?_ ?_
  · rintro W W' ⟨hB, t⟩ hb
    exact ⟨hB.trans (hb.mono hB.size), t.below hb⟩
  · exact fun _ _ _ _ _ => trivial
  · intro k vs W hk h
    exact absurd hk (by simp)
  · intro Q; clear hK0 hB1 t1
    refine ⟨?_, ?_, ?_, ?_, ?_, ?_, ?_, ?_, ?_, ?_, ?_, ?_, ?_, trivial⟩
    · intro vs W hW hW0 hd hne hold K hK hA hL; clear hne hA hL; have hB := hW.1; have t := hW.2; simp only [puts, Act.put, List.setIfInBounds_toArray, List.set_cons_zero, List.set_cons_succ, Nat.zero_add, Nat.reduceAdd] at hK ⊢; clear hd hold; go_simp; exact hK.out rfl _ _ (Below.refl _ _) rfl
    · intro vs W hW hW0 hd hne hold K hK hA hL; clear hne hA hL; have hB := hW.1; have t := hW.2; simp only [puts, Act.put, List.setIfInBounds_toArray, List.set_cons_zero, List.set_cons_succ, Nat.zero_add, Nat.reduceAdd] at hK ⊢; have e0 : vs 0 = _ := hd 0 (by kernel_rfl); clear hd hold; simp only [e0] at hK; go_simp; exact hK.out rfl _ _ (Below.refl _ _) rfl
    · intro vs W hW hW0 hd hne hold K hK hA hL; clear hne hA hL; have hB := hW.1; have t := hW.2; simp only [puts, Act.put, List.setIfInBounds_toArray, List.set_cons_zero, List.set_cons_succ, Nat.zero_add, Nat.reduceAdd] at hK ⊢; clear hd hold; go_simp; exact hK.out rfl _ _ (Below.refl _ _) rfl
    · intro vs W hW hW0 hd hne hold K hK hA hL; clear hne hA hL; have hB := hW.1; have t := hW.2; simp only [puts, Act.put, List.setIfInBounds_toArray, List.set_cons_zero, List.set_cons_succ, Nat.zero_add, Nat.reduceAdd] at hK ⊢; clear hd hold; go_simp; exact hK.out rfl _ _ (Below.refl _ _) rfl
    · intro vs W hW hW0 hd hne hold K hK hA hL; clear hne hA hL; have hB := hW.1; have t := hW.2; simp only [puts, Act.put, List.setIfInBounds_toArray, List.set_cons_zero, List.set_cons_succ, Nat.zero_add, Nat.reduceAdd] at hK ⊢; have q1 := t.cell 0 _ rfl; have eb : vs 3 = _ := hd 3 (by kernel_rfl); clear hd hold; simp only [eb] at hK; go_simp; exact hK.out rfl _ _ (Below.refl _ _) rfl
    · intro vs W hW hW0 hd hne hold K hK hA hL; clear hne hA hL; have hB := hW.1; have t := hW.2; simp only [puts, Act.put, List.setIfInBounds_toArray, List.set_cons_zero, List.set_cons_succ, Nat.zero_add, Nat.reduceAdd] at hK ⊢; clear hd hold; go_simp; exact hK.out rfl _ _ (Below.refl _ _) rfl
    · intro vs W hW hW0 hd hne hold K hK hA hL; clear hne hA hL; have hB := hW.1; have t := hW.2; simp only [puts, Act.put, List.setIfInBounds_toArray, List.set_cons_zero, List.set_cons_succ, Nat.zero_add, Nat.reduceAdd] at hK ⊢; have q1 := t.cell 1 _ rfl; have eb : vs 5 = _ := hd 5 (by kernel_rfl); clear hd hold; simp only [eb] at hK; go_simp; exact hK.out rfl _ _ (Below.refl _ _) rfl
    · intro vs W hW hW0 hd hne hold K hK hA hL; clear hne hA hL; have hB := hW.1; have t := hW.2; simp only [puts, Act.put, List.setIfInBounds_toArray, List.set_cons_zero, List.set_cons_succ, Nat.zero_add, Nat.reduceAdd] at hK ⊢; have eb : vs 1 = _ := hd 1 (by kernel_rfl); have ec : vs 2 = _ := hd 2 (by kernel_rfl); have ed : vs 4 = _ := hd 4 (by kernel_rfl); have ef : vs 6 = _ := hd 6 (by kernel_rfl); clear hd hold; simp only [eb, ec, ed, ef] at hK; go_simp; refine (RG _).mono ?_; (rintro e wx ⟨rfl, hbx⟩); go_simp; exact hK.out rfl _ _ hbx rfl
    · intro vs W hW hW0 hd hne hold K hK hA hL; clear hne hA hL; have hB := hW.1; have t := hW.2; simp only [puts, Act.put, List.setIfInBounds_toArray, List.set_cons_zero, List.set_cons_succ, Nat.zero_add, Nat.reduceAdd] at hK ⊢; have e7 : vs 7 = _ := hd 7 (by kernel_rfl); clear hd hold; simp only [e7] at hK; go_simp; exact hK.out rfl _ _ (Below.refl _ _) rfl
    · intro vs W hW hW0 hd hne hold K hK hA hL; clear hne hA hL; have hB := hW.1; have t := hW.2; simp only [puts, Act.put, List.setIfInBounds_toArray, List.set_cons_zero, List.set_cons_succ, Nat.zero_add, Nat.reduceAdd] at hK ⊢; have e8 : vs 8 = _ := hd 8 (by kernel_rfl); clear hd hold; simp only [e8] at hK; go_simp; exact hK.out rfl _ _ (Below.refl _ _) rfl
    · intro vs W hW hW0 hd hne hold K hK hA hL; clear hne hA hL; have hB := hW.1; have t := hW.2; simp only [puts, Act.put, List.setIfInBounds_toArray, List.set_cons_zero, List.set_cons_succ, Nat.zero_add, Nat.reduceAdd] at hK ⊢; have e8 : vs 8 = _ := hd 8 (by kernel_rfl); clear hd hold; simp only [e8] at hK; go_simp; exact hK.out rfl _ _ (Below.refl _ _) rfl
    · intro vs W hW hW0 hd hne hold K hK hA hL; clear hne hA hL; have hB := hW.1; have t := hW.2; simp only [puts, Act.put, List.setIfInBounds_toArray, List.set_cons_zero, List.set_cons_succ, Nat.zero_add, Nat.reduceAdd] at hK ⊢; have e9 : vs 9 = _ := hd 9 (by kernel_rfl); clear hd hold; simp only [e9] at hK; go_simp; exact hK.out rfl _ _ (Below.refl _ _) rfl
    · intro vs W hW hW0 hd hne hold K hK hA hL; clear hne hA hL; have hB := hW.1; have t := hW.2; simp only [puts, Act.put, List.setIfInBounds_toArray, List.set_cons_zero, List.set_cons_succ, Nat.zero_add, Nat.reduceAdd] at hK ⊢; have e10 : vs 10 = _ := hd 10 (by kernel_rfl); clear hd hold; simp only [e10] at hK; go_simp; exact hK.out rfl _ _ (Below.refl _ _) rfl
  · intro va WA hW hV _
    obtain ⟨hB2, t2⟩ := hW
    have e11 : va 11 = .int .i64 g1 := hV 11 (by decide)
    have e12 : va 12 = .int .i64 g2 := hV 12 (by decide)
    clear hV
    simp only [puts, Act.put, List.setIfInBounds_toArray, List.set_cons_zero, List.set_cons_succ, Nat.zero_add, Nat.reduceAdd, e11, e12]
    refine hK0 _ _ ?_
    clear hK0 e11 e12
    have q1 := t2.cell 0 _ rfl
    have q2 := t2.cell 1 _ rfl
    go_wp2_with (go_at_call 27; with_reducible refine (FG _).mono ?_; rintro e w3 ⟨rfl, hb3⟩)
    go_ret
    exact ⟨rfl, hB2.trans (hb3.mono hB2.size)⟩
end Go.Proofs.YtmkblfejoniccaaDoor
