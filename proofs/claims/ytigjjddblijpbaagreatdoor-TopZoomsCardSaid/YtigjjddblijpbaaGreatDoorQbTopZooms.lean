/-
  Closed facts of TopZooms, the first ones.
-/
import Derived.Test.YtigjjddblijpbaaGreatDoorRows
import Derived.Test.YtigjjddblijpbaaGreatDoorZ1
import Derived.Test.YtigjjddblijpbaaGreatDoorFacts
import Derived.Test.YtigjjddblijpbaaGreatDoorYTabZ
import Derived.Test.YtigjjddblijpbaaGreatDoorCards
import Derived.Test.YtigjjddblijpbaaGreatDoorTie
import Derived.SevenTiedAt
import Derived.Test.YtigjjddblijpbaaGreatDoorYOpenZ
namespace Go.Proofs.YtigjjddblijpbaaGreatDoor.topZooms
open Go.ChangeShapes Go.WideShapes Go.ChangeAt Go.RowKit Go.Joins Go.Deep
set_option linter.unusedVariables false

theorem c1 : Rows.topZoomsRow.wf (OpenSpec.ofChange Rows.topZoomsSpec) = true := by kernel_rfl
theorem c4 : Tryz.f3.params.all (Tryz.prog.readableRec ·) = true := by kernel_rfl
theorem c5 : namedTie Tryz.prog Rows.topZoomsRow.named Rows.topZoomsSpec.vars = true := by kernel_rfl
theorem c6 : (Rows.topZoomsRow.stops == []) = true := by kernel_rfl
theorem c8 : (Rows.topZoomsRow.knobs == []) = true := by kernel_rfl
theorem c10 : (Rows.topZoomsRow.inPlace == Tryz.prog.inPlace 3) = true := by kernel_rfl
theorem c11 : (Rows.topZoomsRow.unfollowed == Tryz.prog.unfollowed 3) = true := by kernel_rfl
theorem c12 : (Rows.topZoomsRow.recurses == Tryz.prog.recurses 3) = true := by kernel_rfl
theorem c13 : (Rows.topZoomsRow.named == Tryz.prog.varsNamed 3) = true := by kernel_rfl
end Go.Proofs.YtigjjddblijpbaaGreatDoor.topZooms
