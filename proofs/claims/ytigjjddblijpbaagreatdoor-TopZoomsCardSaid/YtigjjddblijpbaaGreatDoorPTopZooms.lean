/-
  The card Rows.TopZoomsCardSaid: for whatever input the function returns true, and each argument reads as it did; under: package-level variables start as the program's text lays them (the card ties them).
-/
import Derived.Test.YtigjjddblijpbaaGreatDoorRows
import Derived.Test.YtigjjddblijpbaaGreatDoorZ1
import Derived.Test.YtigjjddblijpbaaGreatDoorFacts
import Derived.Test.YtigjjddblijpbaaGreatDoorYTabZ
import Derived.Test.YtigjjddblijpbaaGreatDoorCards
import Derived.Test.YtigjjddblijpbaaGreatDoorTie
import Derived.SevenTiedAt
import Derived.Test.YtigjjddblijpbaaGreatDoorYOpenZ
import Derived.Test.YtigjjddblijpbaaGreatDoorQaTopZooms
import Derived.Test.YtigjjddblijpbaaGreatDoorQbTopZooms
import Derived.Test.YtigjjddblijpbaaGreatDoorQcTopZooms
import Derived.Test.YtigjjddblijpbaaGreatDoorQdTopZooms
namespace Go.Proofs.YtigjjddblijpbaaGreatDoor.topZooms
open Go.ChangeShapes Go.WideShapes Go.ChangeAt Go.RowKit Go.Joins Go.Deep
set_option linter.unusedVariables false

set_option maxRecDepth 100000 in
theorem closed : joinedFacts Tryz.prog 3 Tryz.f3 Rows.topZoomsSpec Rows.topZoomsRow = true := by
  unfold joinedFacts
  exact and2 (and2 (and2 (and2 (and2 (and2 (and2 (and2 (and2 (and2 (and2 (and2 (and2 (and2 (and2 (and2 (and2 (and2 (and2 (and2 (and2 (and2 (and2 (and2 (and2 (and2 (and2 (and2 (and2 (and2 (and2 (c1) fact_laidOut) fact_mapsRowed) c4) c5) c6) fact_stops) c8) fact_stopKnobs) c10) c11) c12) c13) c14) c15) c16) c17) c18) c19) c20) c21) c22) c23) c24) fact_stopsHeard) fact_mayEnter) c27) c28) c29) c30) c31) c32
theorem named : Tryz.prog.funcNamed Rows.topZoomsRow.func = some 3 := by kernel_rfl
theorem inst : Tryz.f3.isInstance Tryz.prog Rows.topZoomsRow.origin Rows.topZoomsRow.targs := of_decide_eq_true (by kernel_rfl)
theorem wrap : Tryz.f3.isWrapper Tryz.prog Rows.topZoomsRow.wrapper Rows.topZoomsRow.mainSum := by unfold Func.isWrapper; rw [if_neg (of_decide_eq_false (by kernel_rfl))]; exact ⟨rfl, rfl⟩

theorem over : Rows.topZoomsRow.holds Tryz.pinned (OpenSpec.ofChange Rows.topZoomsSpec) :=
  OpenClaim.holds_of_wide 3 Tryz.f3 rfl rfl rfl rfl rfl rfl rfl ⟨rfl, rfl, rfl, rfl, rfl⟩ rfl rfl rfl rfl rfl named Tryz.func3 closed inst wrap
    (fun os started H enc _ => lifted os started H enc)

theorem proved : Rows.TopZoomsCardSaid :=
  Claim7.holds_tied_plain_at .later [] [.data, .data] true (true, "8c26eed72ee710a42cc47b9fd7f3a3cf2fb761580c33ea638df0729a95f910f6") true
    over (fun _ h => by cases h) (by kernel_rfl) (fun _ h => by cases h) topZooms_row_tie rfl ⟨rfl, rfl⟩ (by kernel_rfl) rfl
    (fun f fn hf hfn => by
      obtain rfl : f = 3 := Option.some.inj ((show Tryz.prog.funcNamed "clapboard/clapboardtop.TopZooms" = some 3 by kernel_rfl).symm.trans hf) |>.symm
      obtain rfl : fn = Tryz.f3 := (Option.some.inj (Tryz.func3.symm.trans hfn)).symm
      exact ⟨by kernel_rfl, fun j t ht => by
        rw [Tryz.params3] at ht
        have hm : t ∈ [25] := by
          have := Array.mem_of_getElem? ht
          simp at this ⊢
          first | exact this | omega
        have hall : ([25].all fun u => !Tryz.prog.wantsStandIn u) = true := by kernel_rfl
        exact (show Tryz.prog.wantsStandIn t = false by simpa using List.all_eq_true.1 hall t hm)⟩)
    goes
#print axioms proved
end Go.Proofs.YtigjjddblijpbaaGreatDoor.topZooms
