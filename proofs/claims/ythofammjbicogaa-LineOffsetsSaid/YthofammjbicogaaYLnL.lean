/-
  The law LineFills, of items that came in.
-/
import Derived.Test.YthofammjbicogaaYLnK
import Derived.Test.YthofammjbicogaaYOpenB
namespace Go.Proofs.Ythofammjbicogaa
open Go.RowKit
set_option linter.unusedSimpArgs false
set_option linter.unusedVariables false

theorem itP_of {w : World} {v : Value} (h : ItIn w v) : ∃ k l, ItP w v k l := by
  obtain ⟨ao, n, cap, l, e, hn, hl, hr, hf⟩ := h
  have h4 := hr.take (m := min n 30) (by omega)
  rw [itV_take] at h4
  refine ⟨min n 30, l.take (min n 30), ao, n, cap, e, hn, rfl, by rw [List.length_take]; omega, h4, fun i => ?_⟩
  by_cases hi : i < min n 30
  · have : (l.take (min n 30)).getD i it0 = l.getD i it0 := by simp [List.getD, List.getElem?_take, hi]
    rw [this]; exact hf i
  · have : (l.take (min n 30)).getD i it0 = it0 := by simp [List.getD, List.getElem?_take, hi]
    rw [this]; simp [it0, IFit]
theorem law_fills_in (v : Value) (avail low : Int) (w : World) (hv : ItIn w v) :
    Calls Try.prog 5 #[v, .int .i64 avail, .int .i64 low] w fun e w' => e = .returned (.bool true) ∧ Below w.heap.size w w' := by
  obtain ⟨k, l, h⟩ := itP_of hv
  exact law_fills v k l avail low w h
end Go.Proofs.Ythofammjbicogaa
