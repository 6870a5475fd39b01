/-
  The statement ShareSplits.
-/
import Derived.Test.YthffphcgkmjhbaaShS
import Derived.Test.YthffphcgkmjhbaaLaw
namespace Go.Proofs.Ythffphcgkmjhbaa
open Go.RowKit
set_option linter.unusedSimpArgs false
set_option linter.unusedVariables false

set_option maxRecDepth 100000 in
set_option maxHeartbeats 3200000 in
theorem law_splits_tail (t : Int) (v : Value) (ao : Option Addr) (m cap : Nat) (xs : List Int) (hm : m ≤ 30) (ht : IFit t) (hf : Fits xs) (w : World) (hx : RowI w ao m xs)
    (hv : (v = .slice none 0 0 ∧ ao = none ∧ m = 0 ∧ cap = 0) ∨ ∃ g off k, v = .slice (some ⟨g, off, none⟩) k cap ∧ ao = some ⟨g, off, none⟩ ∧ min (k : Int) 30 = (m : Int) ∧ (m : Int) ≤ (cap : Int) ∧ (k : Int) ≤ (cap : Int) ∧ (cap : Int) ≤ 9223372036854775807) :
    Calls Try.prog 18 #[.int .i64 t, v] w fun e w' => e = .returned (.bool true) ∧ Below w.heap.size w w' := by
  have S1 := fun W hx' => sh_split t ao m cap xs (by omega) ht hf W hx'
  have S2 := fun W hx' => ref5_split t ao m cap xs (by omega) ht hf W hx'
  unfold SplitAns at S1 S2
  obtain ⟨E, eE⟩ : ∃ E, shE t xs m = E := ⟨_, rfl⟩
  rw [eE] at S1 S2
  obtain ⟨ps, eps⟩ : ∃ p, partsN t (pre xs m) xs m = p := ⟨_, rfl⟩
  rw [eps] at S1 S2
  have HX := Lib.hid hx
  clear eE eps hx ht hf
  have key : ∀ (a1 a2 : Option Addr) (k1 c1 k2 c2 : Nat) (y1 y2 : List Int), (E = 0 → k1 = m ∧ y1 = ps) → (E ≠ 0 → k1 = 0 ∧ y1 = []) → (E = 0 → k2 = m ∧ y2 = ps) → (E ≠ 0 → k2 = 0 ∧ y2 = []) → k1 = k2 ∧ y1 = y2 ∧ k1 ≤ 30 := by
    intro a1 a2 k1 c1 k2 c2 y1 y2 h1 h2 h3 h4
    by_cases h : E = 0
    · obtain ⟨rfl, rfl⟩ := h1 h
      obtain ⟨rfl, rfl⟩ := h3 h
      exact ⟨rfl, rfl, hm⟩
    · obtain ⟨rfl, rfl⟩ := h2 h
      obtain ⟨rfl, rfl⟩ := h4 h
      exact ⟨rfl, rfl, by omega⟩
  have HKEY := Lib.hid key
  clear key
  rcases hv with ⟨rfl, rfl, rfl, rfl⟩ | ⟨g, off, k, rfl, rfl, hm1, hm2, hm3, hm4⟩
  · have hm0 : min (0 : Int) 30 = 0 := by decide
    go_enter Try.func18, Try.ntmps18
    go_wp2_with fail
    refine (speaks05 _).mono ?_
    rintro e w1 ⟨rfl, hB⟩
    go_wp2_with fail
    refine (S1 _ (HX.out.below hB)).mono ?_
    rintro e w2 ⟨a1, k1, c1, y1, rfl, r1, -, -, x1, x2, hb⟩
    replace hB := hB.trans (hb.mono hB.size)
    clear hb S1
    go_wp2_with fail
    refine (S2 _ (HX.out.below hB)).mono ?_
    rintro e w3 ⟨a2, k2, c2, y2, rfl, r2, -, -, x3, x4, hb⟩
    replace hB := hB.trans (hb.mono hB.size)
    replace r1 := r1.below hb
    obtain ⟨rfl, rfl, hk30⟩ := HKEY.out a1 a2 k1 c1 k2 c2 y1 y2 x1 x2 x3 x4
    clear hb S2 x1 x2 x3 x4
    have SA := sh_same a1 a2 k1 c1 c2 y1 (by omega) w3 r1 r2
    go_wp2_with fail
    refine SA.mono ?_
    rintro e w4 ⟨rfl, hb⟩
    go_wp2_with fail
    go_ret
    exact ⟨rfl, hB.trans (hb.mono hB.size)⟩
  · go_enter Try.func18, Try.ntmps18
    go_wp2_with fail
    refine (speaks05 _).mono ?_
    rintro e w1 ⟨rfl, hB⟩
    go_wp2_with fail
    refine (S1 _ (HX.out.below hB)).mono ?_
    rintro e w2 ⟨a1, k1, c1, y1, rfl, r1, -, -, x1, x2, hb⟩
    replace hB := hB.trans (hb.mono hB.size)
    clear hb S1
    go_wp2_with fail
    refine (S2 _ (HX.out.below hB)).mono ?_
    rintro e w3 ⟨a2, k2, c2, y2, rfl, r2, -, -, x3, x4, hb⟩
    replace hB := hB.trans (hb.mono hB.size)
    replace r1 := r1.below hb
    obtain ⟨rfl, rfl, hk30⟩ := HKEY.out a1 a2 k1 c1 k2 c2 y1 y2 x1 x2 x3 x4
    clear hb S2 x1 x2 x3 x4
    have SA := sh_same a1 a2 k1 c1 c2 y1 (by omega) w3 r1 r2
    go_wp2_with fail
    refine SA.mono ?_
    rintro e w4 ⟨rfl, hb⟩
    go_wp2_with fail
    go_ret
    exact ⟨rfl, hB.trans (hb.mono hB.size)⟩
theorem law_splits (t : Int) (v : Value) (ht : IFit t) (w : World) (hv : SlV .i64 w v) :
    Calls Try.prog 18 #[.int .i64 t, v] w fun e w' => e = .returned (.bool true) ∧ Below w.heap.size w w' := by
  rcases hv with rfl | ⟨g, off, n, cap, xs, rfl, h1, h2, h3, h4, h5, h6⟩
  · exact law_splits_tail t _ none 0 0 [] (by omega) ht (fits_list (by simp)) w (RowI.nil _ _) (.inl ⟨rfl, rfl, rfl, rfl⟩)
  · have hc : (cap : Int) ≤ 9223372036854775807 := by unfold maxLen at h3; omega
    refine law_splits_tail t _ (some ⟨g, off, none⟩) (min n 30) cap (xs.take (min n 30)) (by omega) ht (fits_list fun x hx => fit_of_wf (h6 x (List.mem_of_mem_take hx))) w ⟨by rw [List.length_take]; omega, fun _ => ⟨g, off, rfl, h4, fun i hi => ?_⟩⟩ (.inr ⟨g, off, n, rfl, rfl, by omega, by omega, by omega, hc⟩)
    have e : (xs.take (min n 30)).getD i 0 = xs.getD i 0 := by
      simp only [List.getD]
      rw [List.getElem?_take_of_lt hi]
    rw [e]
    exact h5 i (by omega)
end Go.Proofs.Ythffphcgkmjhbaa
