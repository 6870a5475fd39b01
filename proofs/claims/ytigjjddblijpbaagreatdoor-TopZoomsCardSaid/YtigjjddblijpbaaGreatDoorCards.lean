/-
  DERIVED. GIVEN WITH THE SEED: THE CARDS: each row of YtigjjddblijpbaaGreatDoorRows.lean that lists a variable, with what it lists TIED to the program's text (the seventh form; the later family's looks); each row that meets fmt, with fmt's text TOLD by the authors' own Lean function (tested against real Go, not proved from fmt's source: count such statements apart). THE CARD IS WHAT COUNTS. Prove the row's statement (the work); the ties are given (YtigjjddblijpbaaGreatDoorTie.lean); close each card by the builder's one call (the guide's Derived/Test/ToyasCard.lean, 'card_holds'). Laid BY PROGRAM, IN A SANDBOX (cutbox-door.mjs). By AI agents, Wed Nov 11 2026. No macro, syntax, notation, axiom, sorry.
-/
import Derived.Test.YtigjjddblijpbaaGreatDoorRows
import GoSem.ClaimSeven
namespace Go.Proofs.YtigjjddblijpbaaGreatDoor
namespace Rows

/-- THE TIED CARD OF 'clapboardtop.TopZooms'. -/
def topZoomsCard : Claim7 := { stood := { row := topZoomsRow, standIns := [], harness := (true, "8c26eed72ee710a42cc47b9fd7f3a3cf2fb761580c33ea638df0729a95f910f6"), looks := true }, kinds := [], alts := [], laidByText := true, laidKinds := [.data, .data], laidTests := true, laidLooks := .later }
def TopZoomsCardSaid : Prop := Claim7.holds Tryz.pinned (.plain (OpenSpec.ofChange topZoomsSpec)) topZoomsCard

/-- THE SECOND FORM's CARD OF 'clapboardtop.TopZooms'. -/
def topZoomsUptoCard : Claim7 := { stood := { row := topZoomsUptoRow, standIns := [], harness := (true, "8c26eed72ee710a42cc47b9fd7f3a3cf2fb761580c33ea638df0729a95f910f6"), looks := true }, kinds := [], alts := [], laidByText := true, laidKinds := [.data, .data], laidTests := true, laidLooks := .later }
def TopZoomsUptoCardSaid : Prop := Claim7.holds Tryz.pinned (.plain (OpenSpec.upto topZoomsSpec)) topZoomsUptoCard
end Rows
end Go.Proofs.YtigjjddblijpbaaGreatDoor
