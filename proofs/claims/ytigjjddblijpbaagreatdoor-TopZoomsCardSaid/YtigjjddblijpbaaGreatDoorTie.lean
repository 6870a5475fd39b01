/-
  DERIVED. GIVEN WITH THE SEED: THE PROGRAM's TIES (one call each: nine closed facts by the kernel) AND EACH ROW's TIE, after the 31st guide's Derived/Test/Toyas{Tie, Card}.lean. No idea stands in it: it is a product of the set-up. Laid BY PROGRAM, IN A SANDBOX (cutbox-door.mjs). By AI agents, Wed Nov 11 2026. No macro, syntax, notation, axiom, sorry.
-/
import Derived.Test.YtigjjddblijpbaaGreatDoorRows
import Derived.LaidByTextLater
import Derived.SevenTiedAt
import Derived.LaidSub
import Derived.LaidOnce
namespace Go.Proofs.YtigjjddblijpbaaGreatDoor
open Go
set_option maxRecDepth 100000
theorem seatTie1 : Tryz.prog.laidByTextLater [("clapboard/style.numbers", Rows.laid_clapboard_style_numbers), ("clapboard/style.words", Rows.laid_clapboard_style_words)] [.data, .data] true :=
  Program.laidByTextLater_by_one 41 8 37 (by kernel_rfl) (by kernel_rfl) (by kernel_rfl) (by kernel_rfl) (by kernel_rfl) (by kernel_rfl) (fun _ _ => by kernel_rfl)
theorem noOwnUnsafe : Tryz.pinned.checked.prog.headLifts.contains "ownunsafe" = false := by kernel_rfl
theorem tie : Tryz.prog.laidByTextLater [("clapboard/style.numbers", Rows.laid_clapboard_style_numbers), ("clapboard/style.words", Rows.laid_clapboard_style_words)] [.data, .data] true :=
  Program.laidByTextLater.sub seatTie1 ["clapboard/style.numbers", "clapboard/style.words"] (by kernel_rfl) (by kernel_rfl)
theorem topZooms_row_tie : Rows.topZoomsRow.laidByTextAt .later Tryz.pinned [.data, .data] true :=
  OpenClaim.laidByTextAt_later rfl rfl tie noOwnUnsafe
theorem topZoomsUpto_row_tie : Rows.topZoomsUptoRow.laidByTextAt .later Tryz.pinned [.data, .data] true :=
  OpenClaim.laidByTextAt_later rfl rfl tie noOwnUnsafe
end Go.Proofs.YtigjjddblijpbaaGreatDoor
