/-
  Closed facts of TopZooms: it starts no other strand.
-/
import Derived.Test.YtigjjddblijpbaaGreatDoorRows
import Derived.Test.YtigjjddblijpbaaGreatDoorZ1
import Derived.Test.YtigjjddblijpbaaGreatDoorFacts
import Derived.Test.YtigjjddblijpbaaGreatDoorYTabZ
import Derived.Test.YtigjjddblijpbaaGreatDoorCards
import Derived.Test.YtigjjddblijpbaaGreatDoorTie
import Derived.SevenTiedAt
import Derived.Test.YtigjjddblijpbaaGreatDoorYOpenZ
namespace Go.Proofs.YtigjjddblijpbaaGreatDoor.topZooms
open Go.ChangeShapes Go.WideShapes Go.ChangeAt Go.RowKit Go.Joins Go.Deep
set_option linter.unusedVariables false

theorem goes : false = Rows.topZoomsRow.goesBy Tryz.pinned.checked.prog := by kernel_rfl
end Go.Proofs.YtigjjddblijpbaaGreatDoor.topZooms
