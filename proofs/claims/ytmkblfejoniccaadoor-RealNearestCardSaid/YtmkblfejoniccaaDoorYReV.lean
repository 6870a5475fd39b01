/-
  The laws RealExact, RealBack, RealMonotone, RealNearest, of what came in.
-/
import Derived.Test.YtmkblfejoniccaaDoorYReR
import Derived.Test.YtmkblfejoniccaaDoorYReU
import Derived.Test.YtmkblfejoniccaaDoorZ1
namespace Go.Proofs.YtmkblfejoniccaaDoor
open Go.RowKit
set_option linter.unusedVariables false

theorem i32_of_wfV {x : Int} (h : (Lit.int .i32 x).wf = true) : -2147483648 ≤ x ∧ x ≤ 2147483647 := by
  have e1 : IntKind.i32.min = -2147483648 := rfl
  have e2 : IntKind.i32.max = 2147483647 := rfl
  simp [Lit.wf, e1, e2] at h
  omega
theorem law_exact_in (a : Int) (ha : 0 ≤ a ∧ a ≤ 18446744073709551615) (w : World) (hT : TabW w) :
    Calls Tryd.prog 3 #[.int .u64 a] w fun e w' => e = .returned (.bool true) ∧ Below w.heap.size w w' := by
  obtain ⟨a', rfl⟩ := Int.eq_ofNat_of_zero_le ha.1
  exact law_exact a' (by have := ha.2; omega) w hT
theorem law_back_in (a : Int) (ha : 0 ≤ a ∧ a ≤ 18446744073709551615) (w : World) (hT : TabW w) :
    Calls Tryd.prog 5 #[.int .u64 a] w fun e w' => e = .returned (.bool true) ∧ Below w.heap.size w w' := by
  obtain ⟨a', rfl⟩ := Int.eq_ofNat_of_zero_le ha.1
  exact law_back a' (by have := ha.2; omega) w hT
theorem law_mono_in (a b n : Int) (ha : 0 ≤ a ∧ a ≤ 18446744073709551615) (hb : 0 ≤ b ∧ b ≤ 18446744073709551615) (hn : -2147483648 ≤ n ∧ n ≤ 2147483647) (w : World) (hT : TabW w) :
    Calls Tryd.prog 7 #[.int .u64 a, .int .u64 b, .int .i32 n] w fun e w' => e = .returned (.bool true) ∧ Below w.heap.size w w' := by
  obtain ⟨a', rfl⟩ := Int.eq_ofNat_of_zero_le ha.1
  obtain ⟨b', rfl⟩ := Int.eq_ofNat_of_zero_le hb.1
  exact law_mono a' b' n (by have := ha.2; omega) (by have := hb.2; omega) hn.1 hn.2 w hT
theorem law_nearest (n d : Int) (hn : IFit n) (hd : IFit d) (w : World) (hT : TabW w) :
    Calls Tryd.prog 4 #[.int .i64 n, .int .i64 d] w fun e w' => e = .returned (.bool true) ∧ Below w.heap.size w w' := by
  by_cases h : ofE n d = 0
  · exact law_nearest_yes n d hn hd h w hT
  · exact law_nearest_no n d hn hd h w hT
end Go.Proofs.YtmkblfejoniccaaDoor
