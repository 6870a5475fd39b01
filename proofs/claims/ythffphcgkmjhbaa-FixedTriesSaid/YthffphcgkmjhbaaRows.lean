/-
  No cell of these rows narrows 'for every input' (looked for: loops, veiled, ifaces, maps, wideKeys, modest, calm, conditions, laid).
  DERIVED. THE GIVEN ROWS OF THIS SEAT. 21 by the template 'for every input the law returns true; each argument reads behind the call as it read before'; 0 by the template 'total and deterministic' (their statements: YthffphcgkmjhbaaTotals.lean).
  GIVEN WITH THE SEED: the statements are not yours to turn. If you find one false, say at which input.
  Laid BY PROGRAM, IN A SANDBOX (cutbox-rows.mjs): the forced cells as the released guide's own fill.sh prints them over the translation 11f0800faa3f6d5d… (all of the seat's roots in one cut). By AI agents, Wed Nov 11 2026. No macro, syntax, notation, axiom, sorry.
-/
import Derived.Test.YthffphcgkmjhbaaChecked
import GoSem.Claim
import GoSem.ClaimJoined
import GoSem.ClaimMapViews
import Derived.JoinedTies
import Derived.KernelRfl
namespace Go.Proofs.Ythffphcgkmjhbaa
/- THE CELL 'sum', in the pinned program and in every row, IS THE sha256 OF THE DUMP (.gsa) THAT YthffphcgkmjhbaaProg.lean LOADS. Nothing in Lean hashes anything: it is a label: what it is worth is what the hold of that sum in a sandbox is worth. -/
noncomputable def Try.pinned : Pinned := { name := "ythffphcgkmjhbaa", sum := "11f0800faa3f6d5d5da375d687fa8fbb83dd8a057592b8afdc12800cf261ee89", checked := Try.checked }
namespace Rows
def none {H : Type} : Left H := { results := [], args := [] }

/-- 'clapboardlaw01.WideMuls': WHATEVER THE INPUT: true; the input reads as it did. -/
def wideMulsSpec : ChangeSpec := { name := "wideMuls", fn := fun _ => fun
  | [d1, d2] => { results := [.lit (.bool true)], args := [d1, d2] }
  | _ => none }
def wideMulsRow : OpenClaim := { program := "ythffphcgkmjhbaa", sum := "11f0800faa3f6d5d5da375d687fa8fbb83dd8a057592b8afdc12800cf261ee89", func := "clapboard/clapboardlaw01.WideMuls", spec := "wideMuls", inPlace := ["math/bits.Add64"], recurses := true, named := ["math/bits.divideError", "math/bits.overflowError"], apart := false }
def WideMulsSaid : Prop := wideMulsRow.holds Try.pinned (OpenSpec.ofChange wideMulsSpec)

/-- ITS FALSE NEIGHBOUR: 'it returns false'. Refute it at one input. -/
def wideMulsWrong : ChangeSpec := { name := "wideMuls", fn := fun _ => fun
  | [d1, d2] => { results := [.lit (.bool false)], args := [d1, d2] }
  | _ => none }
def WideMulsWrongFalsely : Prop := wideMulsRow.holds Try.pinned (OpenSpec.ofChange wideMulsWrong)

/-- 'clapboardlaw01.WideDivides': WHATEVER THE INPUT: true; the input reads as it did. -/
def wideDividesSpec : ChangeSpec := { name := "wideDivides", fn := fun _ => fun
  | [d1, d2] => { results := [.lit (.bool true)], args := [d1, d2] }
  | _ => none }
def wideDividesRow : OpenClaim := { program := "ythffphcgkmjhbaa", sum := "11f0800faa3f6d5d5da375d687fa8fbb83dd8a057592b8afdc12800cf261ee89", func := "clapboard/clapboardlaw01.WideDivides", spec := "wideDivides", inPlace := ["math/bits.Add64"], recurses := true, named := ["math/bits.divideError", "math/bits.overflowError"], apart := false }
def WideDividesSaid : Prop := wideDividesRow.holds Try.pinned (OpenSpec.ofChange wideDividesSpec)

/-- ITS FALSE NEIGHBOUR: 'it returns false'. Refute it at one input. -/
def wideDividesWrong : ChangeSpec := { name := "wideDivides", fn := fun _ => fun
  | [d1, d2] => { results := [.lit (.bool false)], args := [d1, d2] }
  | _ => none }
def WideDividesWrongFalsely : Prop := wideDividesRow.holds Try.pinned (OpenSpec.ofChange wideDividesWrong)

/-- 'clapboardlaw01.WideMulDivs': WHATEVER THE INPUT: true; the input reads as it did. -/
def wideMulDivsSpec : ChangeSpec := { name := "wideMulDivs", fn := fun _ => fun
  | [d1, d2, d3] => { results := [.lit (.bool true)], args := [d1, d2, d3] }
  | _ => none }
def wideMulDivsRow : OpenClaim := { program := "ythffphcgkmjhbaa", sum := "11f0800faa3f6d5d5da375d687fa8fbb83dd8a057592b8afdc12800cf261ee89", func := "clapboard/clapboardlaw01.WideMulDivs", spec := "wideMulDivs", inPlace := ["math/bits.Add64"], named := ["math/bits.divideError", "math/bits.overflowError"], apart := false }
def WideMulDivsSaid : Prop := wideMulDivsRow.holds Try.pinned (OpenSpec.ofChange wideMulDivsSpec)

/-- ITS FALSE NEIGHBOUR: 'it returns false'. Refute it at one input. -/
def wideMulDivsWrong : ChangeSpec := { name := "wideMulDivs", fn := fun _ => fun
  | [d1, d2, d3] => { results := [.lit (.bool false)], args := [d1, d2, d3] }
  | _ => none }
def WideMulDivsWrongFalsely : Prop := wideMulDivsRow.holds Try.pinned (OpenSpec.ofChange wideMulDivsWrong)

/-- 'clapboardlaw01.WideSums': WHATEVER THE INPUT: true; the input reads as it did. -/
def wideSumsSpec : ChangeSpec := { name := "wideSums", fn := fun _ => fun
  | [d1, d2] => { results := [.lit (.bool true)], args := [d1, d2] }
  | _ => none }
def wideSumsRow : OpenClaim := { program := "ythffphcgkmjhbaa", sum := "11f0800faa3f6d5d5da375d687fa8fbb83dd8a057592b8afdc12800cf261ee89", func := "clapboard/clapboardlaw01.WideSums", spec := "wideSums", inPlace := ["math/bits.Add64"], recurses := true, named := ["math/bits.divideError", "math/bits.overflowError"], apart := false }
def WideSumsSaid : Prop := wideSumsRow.holds Try.pinned (OpenSpec.ofChange wideSumsSpec)

/-- ITS FALSE NEIGHBOUR: 'it returns false'. Refute it at one input. -/
def wideSumsWrong : ChangeSpec := { name := "wideSums", fn := fun _ => fun
  | [d1, d2] => { results := [.lit (.bool false)], args := [d1, d2] }
  | _ => none }
def WideSumsWrongFalsely : Prop := wideSumsRow.holds Try.pinned (OpenSpec.ofChange wideSumsWrong)

/-- 'clapboardlaw01.WideOrder': WHATEVER THE INPUT: true; the input reads as it did. -/
def wideOrderSpec : ChangeSpec := { name := "wideOrder", fn := fun _ => fun
  | [d1, d2, d3] => { results := [.lit (.bool true)], args := [d1, d2, d3] }
  | _ => none }
def wideOrderRow : OpenClaim := { program := "ythffphcgkmjhbaa", sum := "11f0800faa3f6d5d5da375d687fa8fbb83dd8a057592b8afdc12800cf261ee89", func := "clapboard/clapboardlaw01.WideOrder", spec := "wideOrder", inPlace := ["math/bits.Add64"], named := ["math/bits.divideError", "math/bits.overflowError"], apart := false }
def WideOrderSaid : Prop := wideOrderRow.holds Try.pinned (OpenSpec.ofChange wideOrderSpec)

/-- ITS FALSE NEIGHBOUR: 'it returns false'. Refute it at one input. -/
def wideOrderWrong : ChangeSpec := { name := "wideOrder", fn := fun _ => fun
  | [d1, d2, d3] => { results := [.lit (.bool false)], args := [d1, d2, d3] }
  | _ => none }
def WideOrderWrongFalsely : Prop := wideOrderRow.holds Try.pinned (OpenSpec.ofChange wideOrderWrong)

/-- 'clapboardlaw02.RatioMakes': WHATEVER THE INPUT: true; the input reads as it did. -/
def ratioMakesSpec : ChangeSpec := { name := "ratioMakes", fn := fun _ => fun
  | [d1, d2] => { results := [.lit (.bool true)], args := [d1, d2] }
  | _ => none }
def ratioMakesRow : OpenClaim := { program := "ythffphcgkmjhbaa", sum := "11f0800faa3f6d5d5da375d687fa8fbb83dd8a057592b8afdc12800cf261ee89", func := "clapboard/clapboardlaw02.RatioMakes", spec := "ratioMakes", inPlace := ["math/bits.Add64"], recurses := true, named := ["math/bits.divideError", "math/bits.overflowError"], apart := false }
def RatioMakesSaid : Prop := ratioMakesRow.holds Try.pinned (OpenSpec.ofChange ratioMakesSpec)

/-- ITS FALSE NEIGHBOUR: 'it returns false'. Refute it at one input. -/
def ratioMakesWrong : ChangeSpec := { name := "ratioMakes", fn := fun _ => fun
  | [d1, d2] => { results := [.lit (.bool false)], args := [d1, d2] }
  | _ => none }
def RatioMakesWrongFalsely : Prop := ratioMakesRow.holds Try.pinned (OpenSpec.ofChange ratioMakesWrong)

/-- 'clapboardlaw02.RatioRounds': WHATEVER THE INPUT: true; the input reads as it did. -/
def ratioRoundsSpec : ChangeSpec := { name := "ratioRounds", fn := fun _ => fun
  | [d1, d2, d3] => { results := [.lit (.bool true)], args := [d1, d2, d3] }
  | _ => none }
def ratioRoundsRow : OpenClaim := { program := "ythffphcgkmjhbaa", sum := "11f0800faa3f6d5d5da375d687fa8fbb83dd8a057592b8afdc12800cf261ee89", func := "clapboard/clapboardlaw02.RatioRounds", spec := "ratioRounds", inPlace := ["math/bits.Add64"], recurses := true, named := ["math/bits.divideError", "math/bits.overflowError"], apart := false }
def RatioRoundsSaid : Prop := ratioRoundsRow.holds Try.pinned (OpenSpec.ofChange ratioRoundsSpec)

/-- ITS FALSE NEIGHBOUR: 'it returns false'. Refute it at one input. -/
def ratioRoundsWrong : ChangeSpec := { name := "ratioRounds", fn := fun _ => fun
  | [d1, d2, d3] => { results := [.lit (.bool false)], args := [d1, d2, d3] }
  | _ => none }
def RatioRoundsWrongFalsely : Prop := ratioRoundsRow.holds Try.pinned (OpenSpec.ofChange ratioRoundsWrong)

/-- 'clapboardlaw02.RatioScales': WHATEVER THE INPUT: true; the input reads as it did. -/
def ratioScalesSpec : ChangeSpec := { name := "ratioScales", fn := fun _ => fun
  | [d] => { results := [.lit (.bool true)], args := [d] }
  | _ => none }
def ratioScalesRow : OpenClaim := { program := "ythffphcgkmjhbaa", sum := "11f0800faa3f6d5d5da375d687fa8fbb83dd8a057592b8afdc12800cf261ee89", func := "clapboard/clapboardlaw02.RatioScales", spec := "ratioScales", inPlace := ["math/bits.Add64"], named := ["math/bits.divideError", "math/bits.overflowError"], apart := false }
def RatioScalesSaid : Prop := ratioScalesRow.holds Try.pinned (OpenSpec.ofChange ratioScalesSpec)

/-- ITS FALSE NEIGHBOUR: 'it returns false'. Refute it at one input. -/
def ratioScalesWrong : ChangeSpec := { name := "ratioScales", fn := fun _ => fun
  | [d] => { results := [.lit (.bool false)], args := [d] }
  | _ => none }
def RatioScalesWrongFalsely : Prop := ratioScalesRow.holds Try.pinned (OpenSpec.ofChange ratioScalesWrong)

/-- 'clapboardlaw04.FixedPixels': WHATEVER THE INPUT: true; the input reads as it did. -/
def fixedPixelsSpec : ChangeSpec := { name := "fixedPixels", fn := fun _ => fun
  | [d] => { results := [.lit (.bool true)], args := [d] }
  | _ => none }
def fixedPixelsRow : OpenClaim := { program := "ythffphcgkmjhbaa", sum := "11f0800faa3f6d5d5da375d687fa8fbb83dd8a057592b8afdc12800cf261ee89", func := "clapboard/clapboardlaw04.FixedPixels", spec := "fixedPixels", inPlace := ["math/bits.Add64"], unfollowed := true, recurses := true, named := ["math/bits.divideError", "math/bits.overflowError"], apart := false }
def FixedPixelsSaid : Prop := fixedPixelsRow.holds Try.pinned (OpenSpec.ofChange fixedPixelsSpec)

/-- ITS FALSE NEIGHBOUR: 'it returns false'. Refute it at one input. -/
def fixedPixelsWrong : ChangeSpec := { name := "fixedPixels", fn := fun _ => fun
  | [d] => { results := [.lit (.bool false)], args := [d] }
  | _ => none }
def FixedPixelsWrongFalsely : Prop := fixedPixelsRow.holds Try.pinned (OpenSpec.ofChange fixedPixelsWrong)

/-- 'clapboardlaw04.FixedOrder': WHATEVER THE INPUT: true; the input reads as it did. -/
def fixedOrderSpec : ChangeSpec := { name := "fixedOrder", fn := fun _ => fun
  | [d1, d2, d3] => { results := [.lit (.bool true)], args := [d1, d2, d3] }
  | _ => none }
def fixedOrderRow : OpenClaim := { program := "ythffphcgkmjhbaa", sum := "11f0800faa3f6d5d5da375d687fa8fbb83dd8a057592b8afdc12800cf261ee89", func := "clapboard/clapboardlaw04.FixedOrder", spec := "fixedOrder", inPlace := ["math/bits.Add64"], unfollowed := true, recurses := true, named := ["math/bits.divideError", "math/bits.overflowError"], apart := false }
def FixedOrderSaid : Prop := fixedOrderRow.holds Try.pinned (OpenSpec.ofChange fixedOrderSpec)

/-- ITS FALSE NEIGHBOUR: 'it returns false'. Refute it at one input. -/
def fixedOrderWrong : ChangeSpec := { name := "fixedOrder", fn := fun _ => fun
  | [d1, d2, d3] => { results := [.lit (.bool false)], args := [d1, d2, d3] }
  | _ => none }
def FixedOrderWrongFalsely : Prop := fixedOrderRow.holds Try.pinned (OpenSpec.ofChange fixedOrderWrong)

/-- 'clapboardlaw04.FixedTries': WHATEVER THE INPUT: true; the input reads as it did. -/
def fixedTriesSpec : ChangeSpec := { name := "fixedTries", fn := fun _ => fun
  | [d] => { results := [.lit (.bool true)], args := [d] }
  | _ => none }
def fixedTriesRow : OpenClaim := { program := "ythffphcgkmjhbaa", sum := "11f0800faa3f6d5d5da375d687fa8fbb83dd8a057592b8afdc12800cf261ee89", func := "clapboard/clapboardlaw04.FixedTries", spec := "fixedTries", inPlace := ["math/bits.Add64"], unfollowed := true, recurses := true, named := ["math/bits.divideError", "math/bits.overflowError"], apart := false }
def FixedTriesSaid : Prop := fixedTriesRow.holds Try.pinned (OpenSpec.ofChange fixedTriesSpec)

/-- ITS FALSE NEIGHBOUR: 'it returns false'. Refute it at one input. -/
def fixedTriesWrong : ChangeSpec := { name := "fixedTries", fn := fun _ => fun
  | [d] => { results := [.lit (.bool false)], args := [d] }
  | _ => none }
def FixedTriesWrongFalsely : Prop := fixedTriesRow.holds Try.pinned (OpenSpec.ofChange fixedTriesWrong)

/-- 'clapboardlaw04.FixedSums': WHATEVER THE INPUT: true; the input reads as it did. -/
def fixedSumsSpec : ChangeSpec := { name := "fixedSums", fn := fun _ => fun
  | [d1, d2, d3] => { results := [.lit (.bool true)], args := [d1, d2, d3] }
  | _ => none }
def fixedSumsRow : OpenClaim := { program := "ythffphcgkmjhbaa", sum := "11f0800faa3f6d5d5da375d687fa8fbb83dd8a057592b8afdc12800cf261ee89", func := "clapboard/clapboardlaw04.FixedSums", spec := "fixedSums", inPlace := ["math/bits.Add64"], unfollowed := true, recurses := true, named := ["math/bits.divideError", "math/bits.overflowError"], apart := false }
def FixedSumsSaid : Prop := fixedSumsRow.holds Try.pinned (OpenSpec.ofChange fixedSumsSpec)

/-- ITS FALSE NEIGHBOUR: 'it returns false'. Refute it at one input. -/
def fixedSumsWrong : ChangeSpec := { name := "fixedSums", fn := fun _ => fun
  | [d1, d2, d3] => { results := [.lit (.bool false)], args := [d1, d2, d3] }
  | _ => none }
def FixedSumsWrongFalsely : Prop := fixedSumsRow.holds Try.pinned (OpenSpec.ofChange fixedSumsWrong)

/-- 'clapboardlaw04.FixedParts': WHATEVER THE INPUT: true; the input reads as it did. -/
def fixedPartsSpec : ChangeSpec := { name := "fixedParts", fn := fun _ => fun
  | [d] => { results := [.lit (.bool true)], args := [d] }
  | _ => none }
def fixedPartsRow : OpenClaim := { program := "ythffphcgkmjhbaa", sum := "11f0800faa3f6d5d5da375d687fa8fbb83dd8a057592b8afdc12800cf261ee89", func := "clapboard/clapboardlaw04.FixedParts", spec := "fixedParts", inPlace := ["math/bits.Add64"], unfollowed := true, recurses := true, named := ["math/bits.divideError", "math/bits.overflowError"], apart := false }
def FixedPartsSaid : Prop := fixedPartsRow.holds Try.pinned (OpenSpec.ofChange fixedPartsSpec)

/-- ITS FALSE NEIGHBOUR: 'it returns false'. Refute it at one input. -/
def fixedPartsWrong : ChangeSpec := { name := "fixedParts", fn := fun _ => fun
  | [d] => { results := [.lit (.bool false)], args := [d] }
  | _ => none }
def FixedPartsWrongFalsely : Prop := fixedPartsRow.holds Try.pinned (OpenSpec.ofChange fixedPartsWrong)

/-- 'clapboardlaw14.SizingOf': WHATEVER THE INPUT: true; the input reads as it did. -/
def sizingOfSpec : ChangeSpec := { name := "sizingOf", fn := fun _ => fun
  | [d1, d2] => { results := [.lit (.bool true)], args := [d1, d2] }
  | _ => none }
def sizingOfRow : OpenClaim := { program := "ythffphcgkmjhbaa", sum := "11f0800faa3f6d5d5da375d687fa8fbb83dd8a057592b8afdc12800cf261ee89", func := "clapboard/clapboardlaw14.SizingOf", spec := "sizingOf", inPlace := ["math/bits.Add64"], unfollowed := true, recurses := true, named := ["math/bits.divideError", "math/bits.overflowError"], apart := false }
def SizingOfSaid : Prop := sizingOfRow.holds Try.pinned (OpenSpec.ofChange sizingOfSpec)

/-- ITS FALSE NEIGHBOUR: 'it returns false'. Refute it at one input. -/
def sizingOfWrong : ChangeSpec := { name := "sizingOf", fn := fun _ => fun
  | [d1, d2] => { results := [.lit (.bool false)], args := [d1, d2] }
  | _ => none }
def SizingOfWrongFalsely : Prop := sizingOfRow.holds Try.pinned (OpenSpec.ofChange sizingOfWrong)

/-- 'clapboardlaw14.SizingFits': WHATEVER THE INPUT: true; the input reads as it did. -/
def sizingFitsSpec : ChangeSpec := { name := "sizingFits", fn := fun _ => fun
  | [d] => { results := [.lit (.bool true)], args := [d] }
  | _ => none }
def sizingFitsRow : OpenClaim := { program := "ythffphcgkmjhbaa", sum := "11f0800faa3f6d5d5da375d687fa8fbb83dd8a057592b8afdc12800cf261ee89", func := "clapboard/clapboardlaw14.SizingFits", spec := "sizingFits", inPlace := ["math/bits.Add64"], unfollowed := true, recurses := true, named := ["math/bits.divideError", "math/bits.overflowError"], apart := false }
def SizingFitsSaid : Prop := sizingFitsRow.holds Try.pinned (OpenSpec.ofChange sizingFitsSpec)

/-- ITS FALSE NEIGHBOUR: 'it returns false'. Refute it at one input. -/
def sizingFitsWrong : ChangeSpec := { name := "sizingFits", fn := fun _ => fun
  | [d] => { results := [.lit (.bool false)], args := [d] }
  | _ => none }
def SizingFitsWrongFalsely : Prop := sizingFitsRow.holds Try.pinned (OpenSpec.ofChange sizingFitsWrong)

/-- 'clapboardlaw05.ShareSplits': WHATEVER THE INPUT: true; the input reads as it did. -/
def shareSplitsSpec : ChangeSpec := { name := "shareSplits", fn := fun _ => fun
  | [d1, d2] => { results := [.lit (.bool true)], args := [d1, d2] }
  | _ => none }
def shareSplitsRow : OpenClaim := { program := "ythffphcgkmjhbaa", sum := "11f0800faa3f6d5d5da375d687fa8fbb83dd8a057592b8afdc12800cf261ee89", func := "clapboard/clapboardlaw05.ShareSplits", spec := "shareSplits", inPlace := ["math/bits.Add64"], unfollowed := true, recurses := true, named := ["math/bits.divideError", "math/bits.overflowError"], apart := false }
def ShareSplitsSaid : Prop := shareSplitsRow.holds Try.pinned (OpenSpec.ofChange shareSplitsSpec)

/-- ITS FALSE NEIGHBOUR: 'it returns false'. Refute it at one input. -/
def shareSplitsWrong : ChangeSpec := { name := "shareSplits", fn := fun _ => fun
  | [d1, d2] => { results := [.lit (.bool false)], args := [d1, d2] }
  | _ => none }
def ShareSplitsWrongFalsely : Prop := shareSplitsRow.holds Try.pinned (OpenSpec.ofChange shareSplitsWrong)

/-- 'clapboardlaw05.ShareCounts': WHATEVER THE INPUT: true; the input reads as it did. -/
def shareCountsSpec : ChangeSpec := { name := "shareCounts", fn := fun _ => fun
  | [d1, d2] => { results := [.lit (.bool true)], args := [d1, d2] }
  | _ => none }
def shareCountsRow : OpenClaim := { program := "ythffphcgkmjhbaa", sum := "11f0800faa3f6d5d5da375d687fa8fbb83dd8a057592b8afdc12800cf261ee89", func := "clapboard/clapboardlaw05.ShareCounts", spec := "shareCounts", inPlace := ["math/bits.Add64"], unfollowed := true, recurses := true, named := ["math/bits.divideError", "math/bits.overflowError"], apart := false }
def ShareCountsSaid : Prop := shareCountsRow.holds Try.pinned (OpenSpec.ofChange shareCountsSpec)

/-- ITS FALSE NEIGHBOUR: 'it returns false'. Refute it at one input. -/
def shareCountsWrong : ChangeSpec := { name := "shareCounts", fn := fun _ => fun
  | [d1, d2] => { results := [.lit (.bool false)], args := [d1, d2] }
  | _ => none }
def ShareCountsWrongFalsely : Prop := shareCountsRow.holds Try.pinned (OpenSpec.ofChange shareCountsWrong)

/-- 'clapboardlaw05.ShareFair': WHATEVER THE INPUT: true; the input reads as it did. -/
def shareFairSpec : ChangeSpec := { name := "shareFair", fn := fun _ => fun
  | [d1, d2] => { results := [.lit (.bool true)], args := [d1, d2] }
  | _ => none }
def shareFairRow : OpenClaim := { program := "ythffphcgkmjhbaa", sum := "11f0800faa3f6d5d5da375d687fa8fbb83dd8a057592b8afdc12800cf261ee89", func := "clapboard/clapboardlaw05.ShareFair", spec := "shareFair", inPlace := ["math/bits.Add64"], unfollowed := true, recurses := true, named := ["math/bits.divideError", "math/bits.overflowError"], apart := false }
def ShareFairSaid : Prop := shareFairRow.holds Try.pinned (OpenSpec.ofChange shareFairSpec)

/-- ITS FALSE NEIGHBOUR: 'it returns false'. Refute it at one input. -/
def shareFairWrong : ChangeSpec := { name := "shareFair", fn := fun _ => fun
  | [d1, d2] => { results := [.lit (.bool false)], args := [d1, d2] }
  | _ => none }
def ShareFairWrongFalsely : Prop := shareFairRow.holds Try.pinned (OpenSpec.ofChange shareFairWrong)

/-- 'clapboardlaw05.ShareMerged': WHATEVER THE INPUT: true; the input reads as it did. -/
def shareMergedSpec : ChangeSpec := { name := "shareMerged", fn := fun _ => fun
  | [d1, d2, d3] => { results := [.lit (.bool true)], args := [d1, d2, d3] }
  | _ => none }
def shareMergedRow : OpenClaim := { program := "ythffphcgkmjhbaa", sum := "11f0800faa3f6d5d5da375d687fa8fbb83dd8a057592b8afdc12800cf261ee89", func := "clapboard/clapboardlaw05.ShareMerged", spec := "shareMerged", inPlace := ["math/bits.Add64"], unfollowed := true, recurses := true, named := ["math/bits.divideError", "math/bits.overflowError"], apart := false }
def ShareMergedSaid : Prop := shareMergedRow.holds Try.pinned (OpenSpec.ofChange shareMergedSpec)

/-- ITS FALSE NEIGHBOUR: 'it returns false'. Refute it at one input. -/
def shareMergedWrong : ChangeSpec := { name := "shareMerged", fn := fun _ => fun
  | [d1, d2, d3] => { results := [.lit (.bool false)], args := [d1, d2, d3] }
  | _ => none }
def ShareMergedWrongFalsely : Prop := shareMergedRow.holds Try.pinned (OpenSpec.ofChange shareMergedWrong)

/-- 'clapboardlaw14.SizingLimits': WHATEVER THE INPUT: true; the input reads as it did. -/
def sizingLimitsSpec : ChangeSpec := { name := "sizingLimits", fn := fun _ => fun
  | [d1, d2, d3] => { results := [.lit (.bool true)], args := [d1, d2, d3] }
  | _ => none }
def sizingLimitsRow : OpenClaim := { program := "ythffphcgkmjhbaa", sum := "11f0800faa3f6d5d5da375d687fa8fbb83dd8a057592b8afdc12800cf261ee89", func := "clapboard/clapboardlaw14.SizingLimits", spec := "sizingLimits", inPlace := ["math/bits.Add64"], unfollowed := true, recurses := true, named := ["math/bits.divideError", "math/bits.overflowError"], apart := false }
def SizingLimitsSaid : Prop := sizingLimitsRow.holds Try.pinned (OpenSpec.ofChange sizingLimitsSpec)

/-- ITS FALSE NEIGHBOUR: 'it returns false'. Refute it at one input. -/
def sizingLimitsWrong : ChangeSpec := { name := "sizingLimits", fn := fun _ => fun
  | [d1, d2, d3] => { results := [.lit (.bool false)], args := [d1, d2, d3] }
  | _ => none }
def SizingLimitsWrongFalsely : Prop := sizingLimitsRow.holds Try.pinned (OpenSpec.ofChange sizingLimitsWrong)

/-- 'clapboardlaw02.RatioPairs': WHATEVER THE INPUT: true; the input reads as it did. -/
def ratioPairsSpec : ChangeSpec := { name := "ratioPairs", fn := fun _ => fun
  | [d] => { results := [.lit (.bool true)], args := [d] }
  | _ => none }
def ratioPairsRow : OpenClaim := { program := "ythffphcgkmjhbaa", sum := "11f0800faa3f6d5d5da375d687fa8fbb83dd8a057592b8afdc12800cf261ee89", func := "clapboard/clapboardlaw02.RatioPairs", spec := "ratioPairs", inPlace := ["math/bits.Add64"], recurses := true, named := ["math/bits.divideError", "math/bits.overflowError"], apart := false }
def RatioPairsSaid : Prop := ratioPairsRow.holds Try.pinned (OpenSpec.ofChange ratioPairsSpec)

/-- ITS FALSE NEIGHBOUR: 'it returns false'. Refute it at one input. -/
def ratioPairsWrong : ChangeSpec := { name := "ratioPairs", fn := fun _ => fun
  | [d] => { results := [.lit (.bool false)], args := [d] }
  | _ => none }
def RatioPairsWrongFalsely : Prop := ratioPairsRow.holds Try.pinned (OpenSpec.ofChange ratioPairsWrong)

/- THE SECOND FORM. 'bulk': how many values and letters a reading holds, each counted each time it is reached (what is shared counts as often as it is met; a slice's spare places count too). A statement '..UptoSaid' is the law's where the arguments, and the package variables that the reading takes, are together of bulk at most 1048576: NARROWER than '..Said'. Prove '..Said' where nothing that the law and all that it calls make is longer than what came in: it says more and counts as full. Else prove '..UptoSaid'. A law counts once. -/
mutual
def uptoBulk {H : Type} : DataW H → Nat
  | .lit (.string bytes) => bytes.length + 1
  | .lit _ => 1
  | .nil => 1
  | .ptr d => uptoBulk d + 1
  | .slice elems spare => uptoBulkAll elems + uptoBulkAll spare + 1
  | .agg parts => uptoBulkAll parts + 1
  | .iface _ d => uptoBulk d + 1
  | .map entries => uptoBulkEntries entries + 1
  | .held _ => 1
def uptoBulkAll {H : Type} : List (DataW H) → Nat
  | [] => 0
  | d :: r => uptoBulk d + uptoBulkAll r
def uptoBulkEntries {H : Type} : List (Lit × DataW H) → Nat
  | [] => 0
  | x :: r => uptoBulkEntry x + uptoBulkEntries r
def uptoBulkEntry {H : Type} : Lit × DataW H → Nat
  | (.string bytes, d) => bytes.length + uptoBulk d + 1
  | (_, d) => uptoBulk d + 1
 end
def uptoSmall : (H : Type) → List (DataW H) → Bool := fun _ ds => decide (uptoBulkAll ds ≤ 1048576)
def OpenSpec.upto (s : _root_.Go.ChangeSpec) : _root_.Go.OpenSpec := { _root_.Go.OpenSpec.ofChange s with cond := some uptoSmall }

/-- 'clapboardlaw01.WideMuls', WHERE WHAT IT READS IS OF BULK AT MOST 1048576: true; the input reads as it did. -/
def wideMulsUptoRow : OpenClaim := { program := "ythffphcgkmjhbaa", sum := "11f0800faa3f6d5d5da375d687fa8fbb83dd8a057592b8afdc12800cf261ee89", func := "clapboard/clapboardlaw01.WideMuls", spec := "wideMuls", inPlace := ["math/bits.Add64"], recurses := true, named := ["math/bits.divideError", "math/bits.overflowError"], apart := false, narrowed := true }
def WideMulsUptoSaid : Prop := wideMulsUptoRow.holds Try.pinned (OpenSpec.upto wideMulsSpec)

/-- 'clapboardlaw01.WideDivides', WHERE WHAT IT READS IS OF BULK AT MOST 1048576: true; the input reads as it did. -/
def wideDividesUptoRow : OpenClaim := { program := "ythffphcgkmjhbaa", sum := "11f0800faa3f6d5d5da375d687fa8fbb83dd8a057592b8afdc12800cf261ee89", func := "clapboard/clapboardlaw01.WideDivides", spec := "wideDivides", inPlace := ["math/bits.Add64"], recurses := true, named := ["math/bits.divideError", "math/bits.overflowError"], apart := false, narrowed := true }
def WideDividesUptoSaid : Prop := wideDividesUptoRow.holds Try.pinned (OpenSpec.upto wideDividesSpec)

/-- 'clapboardlaw01.WideMulDivs', WHERE WHAT IT READS IS OF BULK AT MOST 1048576: true; the input reads as it did. -/
def wideMulDivsUptoRow : OpenClaim := { program := "ythffphcgkmjhbaa", sum := "11f0800faa3f6d5d5da375d687fa8fbb83dd8a057592b8afdc12800cf261ee89", func := "clapboard/clapboardlaw01.WideMulDivs", spec := "wideMulDivs", inPlace := ["math/bits.Add64"], named := ["math/bits.divideError", "math/bits.overflowError"], apart := false, narrowed := true }
def WideMulDivsUptoSaid : Prop := wideMulDivsUptoRow.holds Try.pinned (OpenSpec.upto wideMulDivsSpec)

/-- 'clapboardlaw01.WideSums', WHERE WHAT IT READS IS OF BULK AT MOST 1048576: true; the input reads as it did. -/
def wideSumsUptoRow : OpenClaim := { program := "ythffphcgkmjhbaa", sum := "11f0800faa3f6d5d5da375d687fa8fbb83dd8a057592b8afdc12800cf261ee89", func := "clapboard/clapboardlaw01.WideSums", spec := "wideSums", inPlace := ["math/bits.Add64"], recurses := true, named := ["math/bits.divideError", "math/bits.overflowError"], apart := false, narrowed := true }
def WideSumsUptoSaid : Prop := wideSumsUptoRow.holds Try.pinned (OpenSpec.upto wideSumsSpec)

/-- 'clapboardlaw01.WideOrder', WHERE WHAT IT READS IS OF BULK AT MOST 1048576: true; the input reads as it did. -/
def wideOrderUptoRow : OpenClaim := { program := "ythffphcgkmjhbaa", sum := "11f0800faa3f6d5d5da375d687fa8fbb83dd8a057592b8afdc12800cf261ee89", func := "clapboard/clapboardlaw01.WideOrder", spec := "wideOrder", inPlace := ["math/bits.Add64"], named := ["math/bits.divideError", "math/bits.overflowError"], apart := false, narrowed := true }
def WideOrderUptoSaid : Prop := wideOrderUptoRow.holds Try.pinned (OpenSpec.upto wideOrderSpec)

/-- 'clapboardlaw02.RatioMakes', WHERE WHAT IT READS IS OF BULK AT MOST 1048576: true; the input reads as it did. -/
def ratioMakesUptoRow : OpenClaim := { program := "ythffphcgkmjhbaa", sum := "11f0800faa3f6d5d5da375d687fa8fbb83dd8a057592b8afdc12800cf261ee89", func := "clapboard/clapboardlaw02.RatioMakes", spec := "ratioMakes", inPlace := ["math/bits.Add64"], recurses := true, named := ["math/bits.divideError", "math/bits.overflowError"], apart := false, narrowed := true }
def RatioMakesUptoSaid : Prop := ratioMakesUptoRow.holds Try.pinned (OpenSpec.upto ratioMakesSpec)

/-- 'clapboardlaw02.RatioRounds', WHERE WHAT IT READS IS OF BULK AT MOST 1048576: true; the input reads as it did. -/
def ratioRoundsUptoRow : OpenClaim := { program := "ythffphcgkmjhbaa", sum := "11f0800faa3f6d5d5da375d687fa8fbb83dd8a057592b8afdc12800cf261ee89", func := "clapboard/clapboardlaw02.RatioRounds", spec := "ratioRounds", inPlace := ["math/bits.Add64"], recurses := true, named := ["math/bits.divideError", "math/bits.overflowError"], apart := false, narrowed := true }
def RatioRoundsUptoSaid : Prop := ratioRoundsUptoRow.holds Try.pinned (OpenSpec.upto ratioRoundsSpec)

/-- 'clapboardlaw02.RatioScales', WHERE WHAT IT READS IS OF BULK AT MOST 1048576: true; the input reads as it did. -/
def ratioScalesUptoRow : OpenClaim := { program := "ythffphcgkmjhbaa", sum := "11f0800faa3f6d5d5da375d687fa8fbb83dd8a057592b8afdc12800cf261ee89", func := "clapboard/clapboardlaw02.RatioScales", spec := "ratioScales", inPlace := ["math/bits.Add64"], named := ["math/bits.divideError", "math/bits.overflowError"], apart := false, narrowed := true }
def RatioScalesUptoSaid : Prop := ratioScalesUptoRow.holds Try.pinned (OpenSpec.upto ratioScalesSpec)

/-- 'clapboardlaw04.FixedPixels', WHERE WHAT IT READS IS OF BULK AT MOST 1048576: true; the input reads as it did. -/
def fixedPixelsUptoRow : OpenClaim := { program := "ythffphcgkmjhbaa", sum := "11f0800faa3f6d5d5da375d687fa8fbb83dd8a057592b8afdc12800cf261ee89", func := "clapboard/clapboardlaw04.FixedPixels", spec := "fixedPixels", inPlace := ["math/bits.Add64"], unfollowed := true, recurses := true, named := ["math/bits.divideError", "math/bits.overflowError"], apart := false, narrowed := true }
def FixedPixelsUptoSaid : Prop := fixedPixelsUptoRow.holds Try.pinned (OpenSpec.upto fixedPixelsSpec)

/-- 'clapboardlaw04.FixedOrder', WHERE WHAT IT READS IS OF BULK AT MOST 1048576: true; the input reads as it did. -/
def fixedOrderUptoRow : OpenClaim := { program := "ythffphcgkmjhbaa", sum := "11f0800faa3f6d5d5da375d687fa8fbb83dd8a057592b8afdc12800cf261ee89", func := "clapboard/clapboardlaw04.FixedOrder", spec := "fixedOrder", inPlace := ["math/bits.Add64"], unfollowed := true, recurses := true, named := ["math/bits.divideError", "math/bits.overflowError"], apart := false, narrowed := true }
def FixedOrderUptoSaid : Prop := fixedOrderUptoRow.holds Try.pinned (OpenSpec.upto fixedOrderSpec)

/-- 'clapboardlaw04.FixedTries', WHERE WHAT IT READS IS OF BULK AT MOST 1048576: true; the input reads as it did. -/
def fixedTriesUptoRow : OpenClaim := { program := "ythffphcgkmjhbaa", sum := "11f0800faa3f6d5d5da375d687fa8fbb83dd8a057592b8afdc12800cf261ee89", func := "clapboard/clapboardlaw04.FixedTries", spec := "fixedTries", inPlace := ["math/bits.Add64"], unfollowed := true, recurses := true, named := ["math/bits.divideError", "math/bits.overflowError"], apart := false, narrowed := true }
def FixedTriesUptoSaid : Prop := fixedTriesUptoRow.holds Try.pinned (OpenSpec.upto fixedTriesSpec)

/-- 'clapboardlaw04.FixedSums', WHERE WHAT IT READS IS OF BULK AT MOST 1048576: true; the input reads as it did. -/
def fixedSumsUptoRow : OpenClaim := { program := "ythffphcgkmjhbaa", sum := "11f0800faa3f6d5d5da375d687fa8fbb83dd8a057592b8afdc12800cf261ee89", func := "clapboard/clapboardlaw04.FixedSums", spec := "fixedSums", inPlace := ["math/bits.Add64"], unfollowed := true, recurses := true, named := ["math/bits.divideError", "math/bits.overflowError"], apart := false, narrowed := true }
def FixedSumsUptoSaid : Prop := fixedSumsUptoRow.holds Try.pinned (OpenSpec.upto fixedSumsSpec)

/-- 'clapboardlaw04.FixedParts', WHERE WHAT IT READS IS OF BULK AT MOST 1048576: true; the input reads as it did. -/
def fixedPartsUptoRow : OpenClaim := { program := "ythffphcgkmjhbaa", sum := "11f0800faa3f6d5d5da375d687fa8fbb83dd8a057592b8afdc12800cf261ee89", func := "clapboard/clapboardlaw04.FixedParts", spec := "fixedParts", inPlace := ["math/bits.Add64"], unfollowed := true, recurses := true, named := ["math/bits.divideError", "math/bits.overflowError"], apart := false, narrowed := true }
def FixedPartsUptoSaid : Prop := fixedPartsUptoRow.holds Try.pinned (OpenSpec.upto fixedPartsSpec)

/-- 'clapboardlaw14.SizingOf', WHERE WHAT IT READS IS OF BULK AT MOST 1048576: true; the input reads as it did. -/
def sizingOfUptoRow : OpenClaim := { program := "ythffphcgkmjhbaa", sum := "11f0800faa3f6d5d5da375d687fa8fbb83dd8a057592b8afdc12800cf261ee89", func := "clapboard/clapboardlaw14.SizingOf", spec := "sizingOf", inPlace := ["math/bits.Add64"], unfollowed := true, recurses := true, named := ["math/bits.divideError", "math/bits.overflowError"], apart := false, narrowed := true }
def SizingOfUptoSaid : Prop := sizingOfUptoRow.holds Try.pinned (OpenSpec.upto sizingOfSpec)

/-- 'clapboardlaw14.SizingFits', WHERE WHAT IT READS IS OF BULK AT MOST 1048576: true; the input reads as it did. -/
def sizingFitsUptoRow : OpenClaim := { program := "ythffphcgkmjhbaa", sum := "11f0800faa3f6d5d5da375d687fa8fbb83dd8a057592b8afdc12800cf261ee89", func := "clapboard/clapboardlaw14.SizingFits", spec := "sizingFits", inPlace := ["math/bits.Add64"], unfollowed := true, recurses := true, named := ["math/bits.divideError", "math/bits.overflowError"], apart := false, narrowed := true }
def SizingFitsUptoSaid : Prop := sizingFitsUptoRow.holds Try.pinned (OpenSpec.upto sizingFitsSpec)

/-- 'clapboardlaw05.ShareSplits', WHERE WHAT IT READS IS OF BULK AT MOST 1048576: true; the input reads as it did. -/
def shareSplitsUptoRow : OpenClaim := { program := "ythffphcgkmjhbaa", sum := "11f0800faa3f6d5d5da375d687fa8fbb83dd8a057592b8afdc12800cf261ee89", func := "clapboard/clapboardlaw05.ShareSplits", spec := "shareSplits", inPlace := ["math/bits.Add64"], unfollowed := true, recurses := true, named := ["math/bits.divideError", "math/bits.overflowError"], apart := false, narrowed := true }
def ShareSplitsUptoSaid : Prop := shareSplitsUptoRow.holds Try.pinned (OpenSpec.upto shareSplitsSpec)

/-- 'clapboardlaw05.ShareCounts', WHERE WHAT IT READS IS OF BULK AT MOST 1048576: true; the input reads as it did. -/
def shareCountsUptoRow : OpenClaim := { program := "ythffphcgkmjhbaa", sum := "11f0800faa3f6d5d5da375d687fa8fbb83dd8a057592b8afdc12800cf261ee89", func := "clapboard/clapboardlaw05.ShareCounts", spec := "shareCounts", inPlace := ["math/bits.Add64"], unfollowed := true, recurses := true, named := ["math/bits.divideError", "math/bits.overflowError"], apart := false, narrowed := true }
def ShareCountsUptoSaid : Prop := shareCountsUptoRow.holds Try.pinned (OpenSpec.upto shareCountsSpec)

/-- 'clapboardlaw05.ShareFair', WHERE WHAT IT READS IS OF BULK AT MOST 1048576: true; the input reads as it did. -/
def shareFairUptoRow : OpenClaim := { program := "ythffphcgkmjhbaa", sum := "11f0800faa3f6d5d5da375d687fa8fbb83dd8a057592b8afdc12800cf261ee89", func := "clapboard/clapboardlaw05.ShareFair", spec := "shareFair", inPlace := ["math/bits.Add64"], unfollowed := true, recurses := true, named := ["math/bits.divideError", "math/bits.overflowError"], apart := false, narrowed := true }
def ShareFairUptoSaid : Prop := shareFairUptoRow.holds Try.pinned (OpenSpec.upto shareFairSpec)

/-- 'clapboardlaw05.ShareMerged', WHERE WHAT IT READS IS OF BULK AT MOST 1048576: true; the input reads as it did. -/
def shareMergedUptoRow : OpenClaim := { program := "ythffphcgkmjhbaa", sum := "11f0800faa3f6d5d5da375d687fa8fbb83dd8a057592b8afdc12800cf261ee89", func := "clapboard/clapboardlaw05.ShareMerged", spec := "shareMerged", inPlace := ["math/bits.Add64"], unfollowed := true, recurses := true, named := ["math/bits.divideError", "math/bits.overflowError"], apart := false, narrowed := true }
def ShareMergedUptoSaid : Prop := shareMergedUptoRow.holds Try.pinned (OpenSpec.upto shareMergedSpec)

/-- 'clapboardlaw14.SizingLimits', WHERE WHAT IT READS IS OF BULK AT MOST 1048576: true; the input reads as it did. -/
def sizingLimitsUptoRow : OpenClaim := { program := "ythffphcgkmjhbaa", sum := "11f0800faa3f6d5d5da375d687fa8fbb83dd8a057592b8afdc12800cf261ee89", func := "clapboard/clapboardlaw14.SizingLimits", spec := "sizingLimits", inPlace := ["math/bits.Add64"], unfollowed := true, recurses := true, named := ["math/bits.divideError", "math/bits.overflowError"], apart := false, narrowed := true }
def SizingLimitsUptoSaid : Prop := sizingLimitsUptoRow.holds Try.pinned (OpenSpec.upto sizingLimitsSpec)

/-- 'clapboardlaw02.RatioPairs', WHERE WHAT IT READS IS OF BULK AT MOST 1048576: true; the input reads as it did. -/
def ratioPairsUptoRow : OpenClaim := { program := "ythffphcgkmjhbaa", sum := "11f0800faa3f6d5d5da375d687fa8fbb83dd8a057592b8afdc12800cf261ee89", func := "clapboard/clapboardlaw02.RatioPairs", spec := "ratioPairs", inPlace := ["math/bits.Add64"], recurses := true, named := ["math/bits.divideError", "math/bits.overflowError"], apart := false, narrowed := true }
def RatioPairsUptoSaid : Prop := ratioPairsUptoRow.holds Try.pinned (OpenSpec.upto ratioPairsSpec)

end Rows
end Go.Proofs.Ythffphcgkmjhbaa
