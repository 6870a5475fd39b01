/-
  DERIVED. GIVEN WITH THE SEED: THE CARDS: each row of YtmkblfejoniccaaDoorRows.lean that lists a variable, with what it lists TIED to the program's text (the seventh form; the later family's looks); each row that meets fmt, with fmt's text TOLD by the authors' own Lean function (tested against real Go, not proved from fmt's source: count such statements apart). THE CARD IS WHAT COUNTS. Prove the row's statement (the work); the ties are given (YtmkblfejoniccaaDoorTie.lean); close each card by the builder's one call (the guide's Derived/Test/ToyasCard.lean, 'card_holds'). Laid BY PROGRAM, IN A SANDBOX (cutbox-door.mjs). By AI agents, Wed Nov 11 2026. No macro, syntax, notation, axiom, sorry.
-/
import Derived.Test.YtmkblfejoniccaaDoorRows
import GoSem.ClaimSeven
namespace Go.Proofs.YtmkblfejoniccaaDoor
namespace Rows

/-- THE TIED CARD OF 'clapboardlaw03.RealExact'. -/
def realExactCard : Claim7 := { stood := { row := realExactRow, standIns := [], harness := (true, "e872c10d00843f547bdcd28453896e67338f1c10a6c1c046268c4084fca633a0"), looks := true }, kinds := [], alts := [], laidByText := true, laidKinds := [.data], laidTests := true, laidLooks := .later }
def RealExactCardSaid : Prop := Claim7.holds Tryd.pinned (.plain (OpenSpec.ofChange realExactSpec)) realExactCard

/-- THE TIED CARD OF 'clapboardlaw03.RealNearest'. -/
def realNearestCard : Claim7 := { stood := { row := realNearestRow, standIns := [], harness := (true, "e872c10d00843f547bdcd28453896e67338f1c10a6c1c046268c4084fca633a0"), looks := true }, kinds := [], alts := [], laidByText := true, laidKinds := [.data], laidTests := true, laidLooks := .later }
def RealNearestCardSaid : Prop := Claim7.holds Tryd.pinned (.plain (OpenSpec.ofChange realNearestSpec)) realNearestCard

/-- THE TIED CARD OF 'clapboardlaw03.RealBack'. -/
def realBackCard : Claim7 := { stood := { row := realBackRow, standIns := [], harness := (true, "e872c10d00843f547bdcd28453896e67338f1c10a6c1c046268c4084fca633a0"), looks := true }, kinds := [], alts := [], laidByText := true, laidKinds := [.data], laidTests := true, laidLooks := .later }
def RealBackCardSaid : Prop := Claim7.holds Tryd.pinned (.plain (OpenSpec.ofChange realBackSpec)) realBackCard

/-- THE TIED CARD OF 'clapboardlaw03.RealGrid'. -/
def realGridCard : Claim7 := { stood := { row := realGridRow, standIns := [], harness := (true, "e872c10d00843f547bdcd28453896e67338f1c10a6c1c046268c4084fca633a0"), looks := true }, kinds := [], alts := [], laidByText := true, laidKinds := [.data], laidTests := true, laidLooks := .later }
def RealGridCardSaid : Prop := Claim7.holds Tryd.pinned (.plain (OpenSpec.ofChange realGridSpec)) realGridCard

/-- THE TIED CARD OF 'clapboardlaw03.RealMonotone'. -/
def realMonotoneCard : Claim7 := { stood := { row := realMonotoneRow, standIns := [], harness := (true, "e872c10d00843f547bdcd28453896e67338f1c10a6c1c046268c4084fca633a0"), looks := true }, kinds := [], alts := [], laidByText := true, laidKinds := [.data], laidTests := true, laidLooks := .later }
def RealMonotoneCardSaid : Prop := Claim7.holds Tryd.pinned (.plain (OpenSpec.ofChange realMonotoneSpec)) realMonotoneCard

/-- THE TIED CARD OF 'clapboardlaw11.StyleComputes'. -/
def styleComputesCard : Claim7 := { stood := { row := styleComputesRow, standIns := [], harness := (true, "e872c10d00843f547bdcd28453896e67338f1c10a6c1c046268c4084fca633a0"), looks := true }, kinds := [], alts := [], laidByText := true, laidKinds := [.data, .data], laidTests := true, laidLooks := .later }
def StyleComputesCardSaid : Prop := Claim7.holds Tryd.pinned (.plain (OpenSpec.ofChange styleComputesSpec)) styleComputesCard

/-- THE TIED CARD OF 'clapboardlaw11.StyleSets'. -/
def styleSetsCard : Claim7 := { stood := { row := styleSetsRow, standIns := [], harness := (true, "e872c10d00843f547bdcd28453896e67338f1c10a6c1c046268c4084fca633a0"), looks := true }, kinds := [], alts := [], laidByText := true, laidKinds := [.data, .data], laidTests := true, laidLooks := .later }
def StyleSetsCardSaid : Prop := Claim7.holds Tryd.pinned (.plain (OpenSpec.ofChange styleSetsSpec)) styleSetsCard

/-- THE TIED CARD OF 'clapboardlaw11.StyleBorders'. -/
def styleBordersCard : Claim7 := { stood := { row := styleBordersRow, standIns := [], harness := (true, "e872c10d00843f547bdcd28453896e67338f1c10a6c1c046268c4084fca633a0"), looks := true }, kinds := [], alts := [], laidByText := true, laidKinds := [.data, .data], laidTests := true, laidLooks := .later }
def StyleBordersCardSaid : Prop := Claim7.holds Tryd.pinned (.plain (OpenSpec.ofChange styleBordersSpec)) styleBordersCard

/-- THE TIED CARD OF 'clapboardlaw11.StyleHairlines'. -/
def styleHairlinesCard : Claim7 := { stood := { row := styleHairlinesRow, standIns := [], harness := (true, "e872c10d00843f547bdcd28453896e67338f1c10a6c1c046268c4084fca633a0"), looks := true }, kinds := [], alts := [], laidByText := true, laidKinds := [.data, .data], laidTests := true, laidLooks := .later }
def StyleHairlinesCardSaid : Prop := Claim7.holds Tryd.pinned (.plain (OpenSpec.ofChange styleHairlinesSpec)) styleHairlinesCard

/-- THE TIED CARD OF 'clapboardlaw03.RealKinds'. -/
def realKindsCard : Claim7 := { stood := { row := realKindsRow, standIns := [], harness := (true, "e872c10d00843f547bdcd28453896e67338f1c10a6c1c046268c4084fca633a0"), looks := true }, kinds := [], alts := [], laidByText := true, laidKinds := [.data], laidTests := true, laidLooks := .later }
def RealKindsCardSaid : Prop := Claim7.holds Tryd.pinned (.plain (OpenSpec.ofChange realKindsSpec)) realKindsCard

/-- THE TIED CARD OF 'clapboardlaw03.RealOrders'. -/
def realOrdersCard : Claim7 := { stood := { row := realOrdersRow, standIns := [], harness := (true, "e872c10d00843f547bdcd28453896e67338f1c10a6c1c046268c4084fca633a0"), looks := true }, kinds := [], alts := [], laidByText := true, laidKinds := [.data], laidTests := true, laidLooks := .later }
def RealOrdersCardSaid : Prop := Claim7.holds Tryd.pinned (.plain (OpenSpec.ofChange realOrdersSpec)) realOrdersCard

/-- THE SECOND FORM's CARD OF 'clapboardlaw03.RealExact'. -/
def realExactUptoCard : Claim7 := { stood := { row := realExactUptoRow, standIns := [], harness := (true, "e872c10d00843f547bdcd28453896e67338f1c10a6c1c046268c4084fca633a0"), looks := true }, kinds := [], alts := [], laidByText := true, laidKinds := [.data], laidTests := true, laidLooks := .later }
def RealExactUptoCardSaid : Prop := Claim7.holds Tryd.pinned (.plain (OpenSpec.upto realExactSpec)) realExactUptoCard

/-- THE SECOND FORM's CARD OF 'clapboardlaw03.RealNearest'. -/
def realNearestUptoCard : Claim7 := { stood := { row := realNearestUptoRow, standIns := [], harness := (true, "e872c10d00843f547bdcd28453896e67338f1c10a6c1c046268c4084fca633a0"), looks := true }, kinds := [], alts := [], laidByText := true, laidKinds := [.data], laidTests := true, laidLooks := .later }
def RealNearestUptoCardSaid : Prop := Claim7.holds Tryd.pinned (.plain (OpenSpec.upto realNearestSpec)) realNearestUptoCard

/-- THE SECOND FORM's CARD OF 'clapboardlaw03.RealBack'. -/
def realBackUptoCard : Claim7 := { stood := { row := realBackUptoRow, standIns := [], harness := (true, "e872c10d00843f547bdcd28453896e67338f1c10a6c1c046268c4084fca633a0"), looks := true }, kinds := [], alts := [], laidByText := true, laidKinds := [.data], laidTests := true, laidLooks := .later }
def RealBackUptoCardSaid : Prop := Claim7.holds Tryd.pinned (.plain (OpenSpec.upto realBackSpec)) realBackUptoCard

/-- THE SECOND FORM's CARD OF 'clapboardlaw03.RealGrid'. -/
def realGridUptoCard : Claim7 := { stood := { row := realGridUptoRow, standIns := [], harness := (true, "e872c10d00843f547bdcd28453896e67338f1c10a6c1c046268c4084fca633a0"), looks := true }, kinds := [], alts := [], laidByText := true, laidKinds := [.data], laidTests := true, laidLooks := .later }
def RealGridUptoCardSaid : Prop := Claim7.holds Tryd.pinned (.plain (OpenSpec.upto realGridSpec)) realGridUptoCard

/-- THE SECOND FORM's CARD OF 'clapboardlaw03.RealMonotone'. -/
def realMonotoneUptoCard : Claim7 := { stood := { row := realMonotoneUptoRow, standIns := [], harness := (true, "e872c10d00843f547bdcd28453896e67338f1c10a6c1c046268c4084fca633a0"), looks := true }, kinds := [], alts := [], laidByText := true, laidKinds := [.data], laidTests := true, laidLooks := .later }
def RealMonotoneUptoCardSaid : Prop := Claim7.holds Tryd.pinned (.plain (OpenSpec.upto realMonotoneSpec)) realMonotoneUptoCard

/-- THE SECOND FORM's CARD OF 'clapboardlaw11.StyleComputes'. -/
def styleComputesUptoCard : Claim7 := { stood := { row := styleComputesUptoRow, standIns := [], harness := (true, "e872c10d00843f547bdcd28453896e67338f1c10a6c1c046268c4084fca633a0"), looks := true }, kinds := [], alts := [], laidByText := true, laidKinds := [.data, .data], laidTests := true, laidLooks := .later }
def StyleComputesUptoCardSaid : Prop := Claim7.holds Tryd.pinned (.plain (OpenSpec.upto styleComputesSpec)) styleComputesUptoCard

/-- THE SECOND FORM's CARD OF 'clapboardlaw11.StyleSets'. -/
def styleSetsUptoCard : Claim7 := { stood := { row := styleSetsUptoRow, standIns := [], harness := (true, "e872c10d00843f547bdcd28453896e67338f1c10a6c1c046268c4084fca633a0"), looks := true }, kinds := [], alts := [], laidByText := true, laidKinds := [.data, .data], laidTests := true, laidLooks := .later }
def StyleSetsUptoCardSaid : Prop := Claim7.holds Tryd.pinned (.plain (OpenSpec.upto styleSetsSpec)) styleSetsUptoCard

/-- THE SECOND FORM's CARD OF 'clapboardlaw11.StyleBorders'. -/
def styleBordersUptoCard : Claim7 := { stood := { row := styleBordersUptoRow, standIns := [], harness := (true, "e872c10d00843f547bdcd28453896e67338f1c10a6c1c046268c4084fca633a0"), looks := true }, kinds := [], alts := [], laidByText := true, laidKinds := [.data, .data], laidTests := true, laidLooks := .later }
def StyleBordersUptoCardSaid : Prop := Claim7.holds Tryd.pinned (.plain (OpenSpec.upto styleBordersSpec)) styleBordersUptoCard

/-- THE SECOND FORM's CARD OF 'clapboardlaw11.StyleHairlines'. -/
def styleHairlinesUptoCard : Claim7 := { stood := { row := styleHairlinesUptoRow, standIns := [], harness := (true, "e872c10d00843f547bdcd28453896e67338f1c10a6c1c046268c4084fca633a0"), looks := true }, kinds := [], alts := [], laidByText := true, laidKinds := [.data, .data], laidTests := true, laidLooks := .later }
def StyleHairlinesUptoCardSaid : Prop := Claim7.holds Tryd.pinned (.plain (OpenSpec.upto styleHairlinesSpec)) styleHairlinesUptoCard

/-- THE SECOND FORM's CARD OF 'clapboardlaw03.RealKinds'. -/
def realKindsUptoCard : Claim7 := { stood := { row := realKindsUptoRow, standIns := [], harness := (true, "e872c10d00843f547bdcd28453896e67338f1c10a6c1c046268c4084fca633a0"), looks := true }, kinds := [], alts := [], laidByText := true, laidKinds := [.data], laidTests := true, laidLooks := .later }
def RealKindsUptoCardSaid : Prop := Claim7.holds Tryd.pinned (.plain (OpenSpec.upto realKindsSpec)) realKindsUptoCard

/-- THE SECOND FORM's CARD OF 'clapboardlaw03.RealOrders'. -/
def realOrdersUptoCard : Claim7 := { stood := { row := realOrdersUptoRow, standIns := [], harness := (true, "e872c10d00843f547bdcd28453896e67338f1c10a6c1c046268c4084fca633a0"), looks := true }, kinds := [], alts := [], laidByText := true, laidKinds := [.data], laidTests := true, laidLooks := .later }
def RealOrdersUptoCardSaid : Prop := Claim7.holds Tryd.pinned (.plain (OpenSpec.upto realOrdersSpec)) realOrdersUptoCard
end Rows
end Go.Proofs.YtmkblfejoniccaaDoor
