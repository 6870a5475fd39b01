/-
  From what a row lists of the table of package math/bits to what the walks ask.
-/
import Derived.Test.YtmkblfejoniccaaDoorRows
import Derived.Test.YtmkblfejoniccaaDoorZ9
import Derived.Lib.LaidTab
import Derived.LaidMore
import Derived.Stop.Joined
import Derived.ProofKit
import Derived.OpenShut
namespace Go.Proofs.YtmkblfejoniccaaDoor
open Go.RowKit

def laidB : List (String × DataW Unit) := [("math/bits.deBruijn64tab", Rows.laid_math_bits_deBruijn64tab)]
theorem tab_global : Tryd.prog.globalNamed "math/bits.deBruijn64tab" = some 2 := by kernel_rfl
theorem tab_type : (Tryd.prog.globals[2]?).map (·.type) = some 151 := by kernel_rfl
theorem tab_data : laidB = [("math/bits.deBruijn64tab", Lib.tabData .u8 (Lib.deBruijn64tab.map Int.ofNat))] := by rfl
theorem tab_of_laid {W : World} (h : laidMetH Tryd.prog laidB W) : TabW W := by
  rw [MakeChecks.laidMetH_plain _ _ _ (by kernel_rfl), tab_data] at h
  have hT := Lib.tabIs_of_head tab_global tab_type Tryd.underlying151 Tryd.underlying5 (by kernel_rfl) (by kernel_rfl) h
  have hc : ∀ i, i < 64 → W.cell? ⟨2, i, none⟩ = some (.int .u8 ((Lib.deBruijn64tab.map Int.ofNat).getD i 0)) := fun i hi => hT.cell tab_global i (by rw [List.length_map]; exact hi)
  refine ⟨?_, fun j hj => ?_⟩
  · have h0 := hc 0 (by decide)
    unfold World.cell? at h0
    apply Nat.lt_of_not_le
    intro hle
    simp only at h0
    rw [Array.getElem?_eq_none hle] at h0
    cases h0
  · have hj64 : j < 64 := hj
    rw [hc j hj64]
    refine congrArg (fun n => some (Value.int IntKind.u8 n)) ?_
    rw [List.getD_eq_getElem?_getD, List.getD_eq_getElem?_getD, List.getElem?_map]
    have : j < Lib.deBruijn64tab.length := hj
    rw [List.getElem?_eq_getElem this]
    rfl
/-- The door's own heap meets the condition. -/
theorem tab_door (os : Os) (args : Array Value) : laidMetH Tryd.prog laidB ((World.doorLaid Tryd.prog 46 os).forCall (fun _ _ => 0) ⟨#[], args, []⟩).memory :=
  laidMetH_of_parts3 (fuel := 8) (laidMet_of_run' 8 (by kernel_rfl) (by kernel_rfl)) (by kernel_rfl) (by kernel_rfl)
end Go.Proofs.YtmkblfejoniccaaDoor
