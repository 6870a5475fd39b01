/-
  The law FlexboxSpends, of a slice that came in.
-/
import Derived.Test.YthofammjbicogaaYFlW
namespace Go.Proofs.Ythofammjbicogaa
open Go.RowKit
set_option linter.unusedSimpArgs false
set_option linter.unusedVariables false

theorem slU_row {w : World} {ao : Option Addr} {n c : Nat} {xs : List Int} (hn : n ≤ maxLen) (hr : RowV w ao n 1 (xs.map fun x => .int .u16 x)) (hw : ∀ x ∈ xs, (Lit.int .u16 x).wf = true) : SlU w (.slice ao n c) (min n 30) (xs.take (min n 30)) := by
  refine ⟨ao, n, c, rfl, hn, rfl, ?_, fun i => ?_⟩
  · have := hr.take (m := min n 30) (by omega)
    rw [Nat.mul_one, ← List.map_take] at this
    exact this
  · simp only [List.getD]
    cases e : (xs.take (min n 30))[i]? with
    | none => simp
    | some x => exact u16_of_wf (hw x (List.mem_of_mem_take (List.mem_of_getElem? e)))
theorem u8_wf {a : Int} (h : (Lit.int .u8 a).wf = true) : 0 ≤ a ∧ a ≤ 255 := by
  simp [Lit.wf, IntKind.min, IntKind.max, IntKind.signed, IntKind.bits] at h
  omega
theorem law_spends_row {ao : Option Addr} {n c : Nat} {xs : List Int} (gp mr wy : Int) (hn : n ≤ maxLen) (hw : ∀ x ∈ xs, (Lit.int .u16 x).wf = true) (h1 : (Lit.int .u8 gp).wf = true) (h2 : (Lit.int .u16 mr).wf = true) (h3 : (Lit.int .u8 wy).wf = true) (w : World) (hr : RowV w ao n 1 (xs.map fun x => .int .u16 x)) :
    Calls Try.prog 8 #[.agg #[.slice ao n c, .int .u8 gp, .int .u16 mr, .int .u8 wy]] w fun e w' => e = .returned (.bool true) ∧ Below w.heap.size w w' :=
  law_spends _ _ _ gp mr wy (u8_wf h1).1 (u8_wf h1).2 (u16_of_wf h2).1 (u16_of_wf h2).2 (u8_wf h3).1 (u8_wf h3).2 w (slU_row hn hr hw)
end Go.Proofs.Ythofammjbicogaa
