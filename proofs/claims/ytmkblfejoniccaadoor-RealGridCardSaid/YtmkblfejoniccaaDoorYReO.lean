/-
  The laws of layer 3, of what came in: RealGrid, RealKinds, RealOrders.
-/
import Derived.Test.YtmkblfejoniccaaDoorYReM
import Derived.Test.YtmkblfejoniccaaDoorYReN
import Derived.Test.YtmkblfejoniccaaDoorYOpenF
namespace Go.Proofs.YtmkblfejoniccaaDoor
open Go.ChangeShapes Go.WideShapes Go.ChangeAt Go.RowKit Go.Joins Go.Deep
set_option linter.unusedVariables false

section
variable {H : Type} {enc : TypeId × Value → H} {P : Program} {w : World} {base b0 : Nat} {spare : Nat → Bool} {held : Bool} {r : Reach}
/-- Two ints that came in. -/
def Ar2i (w : World) (v : Value) : Prop := ∃ x y : Int, v = .agg #[.int .i64 x, .int .i64 y] ∧ IFit x ∧ IFit y
theorem ar2i_dir {t e : TypeId} {v : Value} {d : DataW H} {p : List MemPlace} (hs : P.underlying t = some (.array 2 e)) (he : P.underlying e = some (.int .i64)) (hE : P.cellsOf e = 1) (hC : P.cellsOf t = 2)
    (hv : Value.okWide P w r b0 t v) (h : DataW.Trod enc P w base spare held t v d p) : Ar2i w v := by
  obtain ⟨xs, rfl, hl, hw⟩ := open_arr_ints hs he hE hC hv h
  match xs, hl, hw with
  | [x, y], _, hw => exact ⟨x, y, rfl, fit_of_wf (hw x (by simp)), fit_of_wf (hw y (by simp))⟩
end
theorem law_grid_in (a den : Int) (v : Value) (ha : 0 ≤ a ∧ a ≤ 18446744073709551615) (hd : IFit den) (w : World) (hT : TabW w) (hv : Ar2i w v) :
    Calls Tryd.prog 6 #[.int .u64 a, .int .i64 den, v] w fun e w' => e = .returned (.bool true) ∧ Below w.heap.size w w' := by
  obtain ⟨x, y, rfl, hx, hy⟩ := hv
  obtain ⟨a', rfl⟩ := Int.eq_ofNat_of_zero_le ha.1
  exact law_grid a' (by have := ha.2; omega) den x y hd hx hy w hT
theorem law_kinds_in (a b : Int) (ha : 0 ≤ a ∧ a ≤ 18446744073709551615) (hb : 0 ≤ b ∧ b ≤ 18446744073709551615) (w : World) (hT : TabW w) :
    Calls Tryd.prog 12 #[.int .u64 a, .int .u64 b] w fun e w' => e = .returned (.bool true) ∧ Below w.heap.size w w' := by
  obtain ⟨a', rfl⟩ := Int.eq_ofNat_of_zero_le ha.1
  obtain ⟨b', rfl⟩ := Int.eq_ofNat_of_zero_le hb.1
  exact law_kinds a' b' (by have := ha.2; omega) (by have := hb.2; omega) w hT
theorem law_orders_in (a b c : Int) (ha : 0 ≤ a ∧ a ≤ 18446744073709551615) (hb : 0 ≤ b ∧ b ≤ 18446744073709551615) (hc : 0 ≤ c ∧ c ≤ 18446744073709551615) (w : World) (hT : TabW w) :
    Calls Tryd.prog 13 #[.int .u64 a, .int .u64 b, .int .u64 c] w fun e w' => e = .returned (.bool true) ∧ Below w.heap.size w w' := by
  obtain ⟨a', rfl⟩ := Int.eq_ofNat_of_zero_le ha.1
  obtain ⟨b', rfl⟩ := Int.eq_ofNat_of_zero_le hb.1
  obtain ⟨c', rfl⟩ := Int.eq_ofNat_of_zero_le hc.1
  exact law_orders a' b' c' (by have := ha.2; omega) (by have := hb.2; omega) (by have := hc.2; omega) w hT
end Go.Proofs.YtmkblfejoniccaaDoor
