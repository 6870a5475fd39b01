/-
  The statement StyleSets, of what came in.
-/
import Derived.Test.YtmkblfejoniccaaDoorYOpenS
import Derived.Test.YtmkblfejoniccaaDoorYSyV0
import Derived.Test.YtmkblfejoniccaaDoorYSyV1
import Derived.Test.YtmkblfejoniccaaDoorYSyV2
namespace Go.Proofs.YtmkblfejoniccaaDoor
open Go Go.RowKit
set_option linter.unusedSimpArgs false
set_option linter.unusedVariables false

theorem tm_at (a L : Int) (h1 : 0 < L) (h2 : L ≤ 100) : -L < a.tmod L ∧ a.tmod L < L := by
  by_cases h : 0 ≤ a
  · rw [Int.tmod_eq_emod_of_nonneg h]
    have := Int.emod_nonneg a (show L ≠ 0 by omega)
    have := Int.emod_lt_of_pos a h1
    omega
  · obtain ⟨b, rfl⟩ : ∃ b, a = -b := ⟨-a, by omega⟩
    rw [Int.neg_tmod, Int.tmod_eq_emod_of_nonneg (by omega)]
    have := Int.emod_nonneg b (show L ≠ 0 by omega)
    have := Int.emod_lt_of_pos b h1
    omega
theorem at_of (a L : Int) (h1 : 0 < L) (h2 : L ≤ 100) : ∃ (t : Int) (k : Nat), a.tmod L = t ∧ (k : Int) < L ∧ IntKind.i64.wrap (t + L) = t + L ∧ (t + L).tmod L = (k : Int) := by
  have := tm_at a L h1 h2
  obtain ⟨t, et⟩ : ∃ t, a.tmod L = t := ⟨_, rfl⟩
  rw [et] at this
  have h3 := Int.emod_nonneg (t + L) (show L ≠ 0 by omega)
  have h4 := Int.emod_lt_of_pos (t + L) h1
  refine ⟨t, ((t + L) % L).toNat, et, by omega, ?_, ?_⟩
  · simp only [IntKind.wrap_i64, wrap64]
    omega
  · rw [Int.tmod_eq_emod_of_nonneg (by omega), Int.toNat_of_nonneg h3]
theorem law_sets_in (v : Value) (w : World) (h : SetIn w v) (hT : StyW w) : Calls Tryd.prog 9 #[v] w fun e w' => e = .returned (.bool true) ∧ Below w.heap.size w w' := by
  obtain ⟨wh, aw, b, p, n, B, hwh, haw, hb, hn, rfl⟩ := h
  obtain ⟨r, er⟩ : ∃ r, wh.tmod 3 = r := ⟨_, rfl⟩
  by_cases h0 : r = 0
  · obtain ⟨t, k, e1, ek, e2, e3⟩ := at_of aw 19 (by omega) (by omega)
    exact law_sets0 wh aw b p n B k (by omega) hb hn r er h0 t e1 e2 e3 w hT
  · by_cases h1 : r = 1
    · obtain ⟨t, k, e1, ek, e2, e3⟩ := at_of aw 10 (by omega) (by omega)
      exact law_sets1 wh aw b p n B k (by omega) hb hn r er h1 t e1 e2 e3 w hT
    · obtain ⟨t, k, e1, ek, e2, e3⟩ := at_of aw 12 (by omega) (by omega)
      exact law_sets2 wh aw b p n B k (by omega) hb hn r er ⟨h0, h1⟩ t e1 e2 e3 w hT
end Go.Proofs.YtmkblfejoniccaaDoor
