/-
  No cell of these rows narrows 'for every input' (looked for: loops, veiled, ifaces, maps, wideKeys, modest, calm, conditions, laid).
  DERIVED. THE GIVEN ROWS OF THIS SEAT. 11 by the template 'for every input the law returns true; each argument reads behind the call as it read before'; 0 by the template 'total and deterministic' (their statements: YthofammjbicogaaTotals.lean).
  GIVEN WITH THE SEED: the statements are not yours to turn. If you find one false, say at which input.
  Laid BY PROGRAM, IN A SANDBOX (cutbox-rows.mjs): the forced cells as the released guide's own fill.sh prints them over the translation f5884ce58e32f39d… (all of the seat's roots in one cut). By AI agents, Wed Nov 11 2026. No macro, syntax, notation, axiom, sorry.
-/
import Derived.Test.YthofammjbicogaaChecked
import GoSem.Claim
import GoSem.ClaimJoined
import GoSem.ClaimMapViews
import Derived.JoinedTies
import Derived.KernelRfl
namespace Go.Proofs.Ythofammjbicogaa
/- THE CELL 'sum', in the pinned program and in every row, IS THE sha256 OF THE DUMP (.gsa) THAT YthofammjbicogaaProg.lean LOADS. Nothing in Lean hashes anything: it is a label: what it is worth is what the hold of that sum in a sandbox is worth. -/
noncomputable def Try.pinned : Pinned := { name := "ythofammjbicogaa", sum := "f5884ce58e32f39df6b14e2beac2d01a2fc2f741237bb5b95296a58aa92513b0", checked := Try.checked }
namespace Rows
def none {H : Type} : Left H := { results := [], args := [] }

/-- 'clapboardlaw13.LineOffsets': WHATEVER THE INPUT: true; the input reads as it did. -/
def lineOffsetsSpec : ChangeSpec := { name := "lineOffsets", fn := fun _ => fun
  | [d] => { results := [.lit (.bool true)], args := [d] }
  | _ => none }
def lineOffsetsRow : OpenClaim := { program := "ythofammjbicogaa", sum := "f5884ce58e32f39df6b14e2beac2d01a2fc2f741237bb5b95296a58aa92513b0", func := "clapboard/clapboardlaw13.LineOffsets", spec := "lineOffsets", inPlace := ["math/bits.Add64"], unfollowed := true, recurses := true, named := ["math/bits.divideError", "math/bits.overflowError"], apart := false }
def LineOffsetsSaid : Prop := lineOffsetsRow.holds Try.pinned (OpenSpec.ofChange lineOffsetsSpec)

/-- ITS FALSE NEIGHBOUR: 'it returns false'. Refute it at one input. -/
def lineOffsetsWrong : ChangeSpec := { name := "lineOffsets", fn := fun _ => fun
  | [d] => { results := [.lit (.bool false)], args := [d] }
  | _ => none }
def LineOffsetsWrongFalsely : Prop := lineOffsetsRow.holds Try.pinned (OpenSpec.ofChange lineOffsetsWrong)

/-- 'clapboardlaw13.LineStands': WHATEVER THE INPUT: true; the input reads as it did. -/
def lineStandsSpec : ChangeSpec := { name := "lineStands", fn := fun _ => fun
  | [d1, d2, d3] => { results := [.lit (.bool true)], args := [d1, d2, d3] }
  | _ => none }
def lineStandsRow : OpenClaim := { program := "ythofammjbicogaa", sum := "f5884ce58e32f39df6b14e2beac2d01a2fc2f741237bb5b95296a58aa92513b0", func := "clapboard/clapboardlaw13.LineStands", spec := "lineStands", inPlace := ["math/bits.Add64"], unfollowed := true, recurses := true, named := ["math/bits.divideError", "math/bits.overflowError"], apart := false }
def LineStandsSaid : Prop := lineStandsRow.holds Try.pinned (OpenSpec.ofChange lineStandsSpec)

/-- ITS FALSE NEIGHBOUR: 'it returns false'. Refute it at one input. -/
def lineStandsWrong : ChangeSpec := { name := "lineStands", fn := fun _ => fun
  | [d1, d2, d3] => { results := [.lit (.bool false)], args := [d1, d2, d3] }
  | _ => none }
def LineStandsWrongFalsely : Prop := lineStandsRow.holds Try.pinned (OpenSpec.ofChange lineStandsWrong)

/-- 'clapboardlaw13.LineFills': WHATEVER THE INPUT: true; the input reads as it did. -/
def lineFillsSpec : ChangeSpec := { name := "lineFills", fn := fun _ => fun
  | [d1, d2, d3] => { results := [.lit (.bool true)], args := [d1, d2, d3] }
  | _ => none }
def lineFillsRow : OpenClaim := { program := "ythofammjbicogaa", sum := "f5884ce58e32f39df6b14e2beac2d01a2fc2f741237bb5b95296a58aa92513b0", func := "clapboard/clapboardlaw13.LineFills", spec := "lineFills", inPlace := ["math/bits.Add64"], unfollowed := true, recurses := true, named := ["math/bits.divideError", "math/bits.overflowError"], apart := false }
def LineFillsSaid : Prop := lineFillsRow.holds Try.pinned (OpenSpec.ofChange lineFillsSpec)

/-- ITS FALSE NEIGHBOUR: 'it returns false'. Refute it at one input. -/
def lineFillsWrong : ChangeSpec := { name := "lineFills", fn := fun _ => fun
  | [d1, d2, d3] => { results := [.lit (.bool false)], args := [d1, d2, d3] }
  | _ => none }
def LineFillsWrongFalsely : Prop := lineFillsRow.holds Try.pinned (OpenSpec.ofChange lineFillsWrong)

/-- 'clapboardlaw13.LineGreedy': WHATEVER THE INPUT: true; the input reads as it did. -/
def lineGreedySpec : ChangeSpec := { name := "lineGreedy", fn := fun _ => fun
  | [d1, d2] => { results := [.lit (.bool true)], args := [d1, d2] }
  | _ => none }
def lineGreedyRow : OpenClaim := { program := "ythofammjbicogaa", sum := "f5884ce58e32f39df6b14e2beac2d01a2fc2f741237bb5b95296a58aa92513b0", func := "clapboard/clapboardlaw13.LineGreedy", spec := "lineGreedy", inPlace := ["math/bits.Add64"], unfollowed := true, recurses := true, named := ["math/bits.divideError", "math/bits.overflowError"], apart := false }
def LineGreedySaid : Prop := lineGreedyRow.holds Try.pinned (OpenSpec.ofChange lineGreedySpec)

/-- ITS FALSE NEIGHBOUR: 'it returns false'. Refute it at one input. -/
def lineGreedyWrong : ChangeSpec := { name := "lineGreedy", fn := fun _ => fun
  | [d1, d2] => { results := [.lit (.bool false)], args := [d1, d2] }
  | _ => none }
def LineGreedyWrongFalsely : Prop := lineGreedyRow.holds Try.pinned (OpenSpec.ofChange lineGreedyWrong)

/-- 'clapboardlaw20.FlexboxMains': WHATEVER THE INPUT: true; the input reads as it did. -/
def flexboxMainsSpec : ChangeSpec := { name := "flexboxMains", fn := fun _ => fun
  | [d] => { results := [.lit (.bool true)], args := [d] }
  | _ => none }
def flexboxMainsRow : OpenClaim := { program := "ythofammjbicogaa", sum := "f5884ce58e32f39df6b14e2beac2d01a2fc2f741237bb5b95296a58aa92513b0", func := "clapboard/clapboardlaw20.FlexboxMains", spec := "flexboxMains", inPlace := ["math/bits.Add64"], unfollowed := true, recurses := true, named := ["math/bits.divideError", "math/bits.overflowError"], apart := false }
def FlexboxMainsSaid : Prop := flexboxMainsRow.holds Try.pinned (OpenSpec.ofChange flexboxMainsSpec)

/-- ITS FALSE NEIGHBOUR: 'it returns false'. Refute it at one input. -/
def flexboxMainsWrong : ChangeSpec := { name := "flexboxMains", fn := fun _ => fun
  | [d] => { results := [.lit (.bool false)], args := [d] }
  | _ => none }
def FlexboxMainsWrongFalsely : Prop := flexboxMainsRow.holds Try.pinned (OpenSpec.ofChange flexboxMainsWrong)

/-- 'clapboardlaw20.FlexboxSpends': WHATEVER THE INPUT: true; the input reads as it did. -/
def flexboxSpendsSpec : ChangeSpec := { name := "flexboxSpends", fn := fun _ => fun
  | [d] => { results := [.lit (.bool true)], args := [d] }
  | _ => none }
def flexboxSpendsRow : OpenClaim := { program := "ythofammjbicogaa", sum := "f5884ce58e32f39df6b14e2beac2d01a2fc2f741237bb5b95296a58aa92513b0", func := "clapboard/clapboardlaw20.FlexboxSpends", spec := "flexboxSpends", inPlace := ["math/bits.Add64"], unfollowed := true, recurses := true, named := ["math/bits.divideError", "math/bits.overflowError"], apart := false }
def FlexboxSpendsSaid : Prop := flexboxSpendsRow.holds Try.pinned (OpenSpec.ofChange flexboxSpendsSpec)

/-- ITS FALSE NEIGHBOUR: 'it returns false'. Refute it at one input. -/
def flexboxSpendsWrong : ChangeSpec := { name := "flexboxSpends", fn := fun _ => fun
  | [d] => { results := [.lit (.bool false)], args := [d] }
  | _ => none }
def FlexboxSpendsWrongFalsely : Prop := flexboxSpendsRow.holds Try.pinned (OpenSpec.ofChange flexboxSpendsWrong)

/-- 'clapboardlaw19.FlexsizeResolves': WHATEVER THE INPUT: true; the input reads as it did. -/
def flexsizeResolvesSpec : ChangeSpec := { name := "flexsizeResolves", fn := fun _ => fun
  | [d1, d2] => { results := [.lit (.bool true)], args := [d1, d2] }
  | _ => none }
def flexsizeResolvesRow : OpenClaim := { program := "ythofammjbicogaa", sum := "f5884ce58e32f39df6b14e2beac2d01a2fc2f741237bb5b95296a58aa92513b0", func := "clapboard/clapboardlaw19.FlexsizeResolves", spec := "flexsizeResolves", inPlace := ["math/bits.Add64"], unfollowed := true, recurses := true, named := ["math/bits.divideError", "math/bits.overflowError"], apart := false }
def FlexsizeResolvesSaid : Prop := flexsizeResolvesRow.holds Try.pinned (OpenSpec.ofChange flexsizeResolvesSpec)

/-- ITS FALSE NEIGHBOUR: 'it returns false'. Refute it at one input. -/
def flexsizeResolvesWrong : ChangeSpec := { name := "flexsizeResolves", fn := fun _ => fun
  | [d1, d2] => { results := [.lit (.bool false)], args := [d1, d2] }
  | _ => none }
def FlexsizeResolvesWrongFalsely : Prop := flexsizeResolvesRow.holds Try.pinned (OpenSpec.ofChange flexsizeResolvesWrong)

/-- 'clapboardlaw19.FlexsizeFills': WHATEVER THE INPUT: true; the input reads as it did. -/
def flexsizeFillsSpec : ChangeSpec := { name := "flexsizeFills", fn := fun _ => fun
  | [d1, d2] => { results := [.lit (.bool true)], args := [d1, d2] }
  | _ => none }
def flexsizeFillsRow : OpenClaim := { program := "ythofammjbicogaa", sum := "f5884ce58e32f39df6b14e2beac2d01a2fc2f741237bb5b95296a58aa92513b0", func := "clapboard/clapboardlaw19.FlexsizeFills", spec := "flexsizeFills", inPlace := ["math/bits.Add64"], unfollowed := true, recurses := true, named := ["math/bits.divideError", "math/bits.overflowError"], apart := false }
def FlexsizeFillsSaid : Prop := flexsizeFillsRow.holds Try.pinned (OpenSpec.ofChange flexsizeFillsSpec)

/-- ITS FALSE NEIGHBOUR: 'it returns false'. Refute it at one input. -/
def flexsizeFillsWrong : ChangeSpec := { name := "flexsizeFills", fn := fun _ => fun
  | [d1, d2] => { results := [.lit (.bool false)], args := [d1, d2] }
  | _ => none }
def FlexsizeFillsWrongFalsely : Prop := flexsizeFillsRow.holds Try.pinned (OpenSpec.ofChange flexsizeFillsWrong)

/-- 'clapboardlaw19.FlexsizeRefuses': WHATEVER THE INPUT: true; the input reads as it did. -/
def flexsizeRefusesSpec : ChangeSpec := { name := "flexsizeRefuses", fn := fun _ => fun
  | [d1, d2] => { results := [.lit (.bool true)], args := [d1, d2] }
  | _ => none }
def flexsizeRefusesRow : OpenClaim := { program := "ythofammjbicogaa", sum := "f5884ce58e32f39df6b14e2beac2d01a2fc2f741237bb5b95296a58aa92513b0", func := "clapboard/clapboardlaw19.FlexsizeRefuses", spec := "flexsizeRefuses", inPlace := ["math/bits.Add64"], unfollowed := true, recurses := true, named := ["math/bits.divideError", "math/bits.overflowError"], apart := false }
def FlexsizeRefusesSaid : Prop := flexsizeRefusesRow.holds Try.pinned (OpenSpec.ofChange flexsizeRefusesSpec)

/-- ITS FALSE NEIGHBOUR: 'it returns false'. Refute it at one input. -/
def flexsizeRefusesWrong : ChangeSpec := { name := "flexsizeRefuses", fn := fun _ => fun
  | [d1, d2] => { results := [.lit (.bool false)], args := [d1, d2] }
  | _ => none }
def FlexsizeRefusesWrongFalsely : Prop := flexsizeRefusesRow.holds Try.pinned (OpenSpec.ofChange flexsizeRefusesWrong)

/-- 'clapboardlaw20.FlexboxAligns': WHATEVER THE INPUT: true; the input reads as it did. -/
def flexboxAlignsSpec : ChangeSpec := { name := "flexboxAligns", fn := fun _ => fun
  | [d1, d2, d3] => { results := [.lit (.bool true)], args := [d1, d2, d3] }
  | _ => none }
def flexboxAlignsRow : OpenClaim := { program := "ythofammjbicogaa", sum := "f5884ce58e32f39df6b14e2beac2d01a2fc2f741237bb5b95296a58aa92513b0", func := "clapboard/clapboardlaw20.FlexboxAligns", spec := "flexboxAligns", inPlace := ["math/bits.Add64"], unfollowed := true, recurses := true, named := ["math/bits.divideError", "math/bits.overflowError"], apart := false }
def FlexboxAlignsSaid : Prop := flexboxAlignsRow.holds Try.pinned (OpenSpec.ofChange flexboxAlignsSpec)

/-- ITS FALSE NEIGHBOUR: 'it returns false'. Refute it at one input. -/
def flexboxAlignsWrong : ChangeSpec := { name := "flexboxAligns", fn := fun _ => fun
  | [d1, d2, d3] => { results := [.lit (.bool false)], args := [d1, d2, d3] }
  | _ => none }
def FlexboxAlignsWrongFalsely : Prop := flexboxAlignsRow.holds Try.pinned (OpenSpec.ofChange flexboxAlignsWrong)

/-- 'clapboardlaw20.FlexboxCrosses': WHATEVER THE INPUT: true; the input reads as it did. -/
def flexboxCrossesSpec : ChangeSpec := { name := "flexboxCrosses", fn := fun _ => fun
  | [d] => { results := [.lit (.bool true)], args := [d] }
  | _ => none }
def flexboxCrossesRow : OpenClaim := { program := "ythofammjbicogaa", sum := "f5884ce58e32f39df6b14e2beac2d01a2fc2f741237bb5b95296a58aa92513b0", func := "clapboard/clapboardlaw20.FlexboxCrosses", spec := "flexboxCrosses", inPlace := ["math/bits.Add64"], unfollowed := true, recurses := true, named := ["math/bits.divideError", "math/bits.overflowError"], apart := false }
def FlexboxCrossesSaid : Prop := flexboxCrossesRow.holds Try.pinned (OpenSpec.ofChange flexboxCrossesSpec)

/-- ITS FALSE NEIGHBOUR: 'it returns false'. Refute it at one input. -/
def flexboxCrossesWrong : ChangeSpec := { name := "flexboxCrosses", fn := fun _ => fun
  | [d] => { results := [.lit (.bool false)], args := [d] }
  | _ => none }
def FlexboxCrossesWrongFalsely : Prop := flexboxCrossesRow.holds Try.pinned (OpenSpec.ofChange flexboxCrossesWrong)

/- THE SECOND FORM. 'bulk': how many values and letters a reading holds, each counted each time it is reached (what is shared counts as often as it is met; a slice's spare places count too). A statement '..UptoSaid' is the law's where the arguments, and the package variables that the reading takes, are together of bulk at most 1048576: NARROWER than '..Said'. Prove '..Said' where nothing that the law and all that it calls make is longer than what came in: it says more and counts as full. Else prove '..UptoSaid'. A law counts once. -/
mutual
def uptoBulk {H : Type} : DataW H → Nat
  | .lit (.string bytes) => bytes.length + 1
  | .lit _ => 1
  | .nil => 1
  | .ptr d => uptoBulk d + 1
  | .slice elems spare => uptoBulkAll elems + uptoBulkAll spare + 1
  | .agg parts => uptoBulkAll parts + 1
  | .iface _ d => uptoBulk d + 1
  | .map entries => uptoBulkEntries entries + 1
  | .held _ => 1
def uptoBulkAll {H : Type} : List (DataW H) → Nat
  | [] => 0
  | d :: r => uptoBulk d + uptoBulkAll r
def uptoBulkEntries {H : Type} : List (Lit × DataW H) → Nat
  | [] => 0
  | x :: r => uptoBulkEntry x + uptoBulkEntries r
def uptoBulkEntry {H : Type} : Lit × DataW H → Nat
  | (.string bytes, d) => bytes.length + uptoBulk d + 1
  | (_, d) => uptoBulk d + 1
 end
def uptoSmall : (H : Type) → List (DataW H) → Bool := fun _ ds => decide (uptoBulkAll ds ≤ 1048576)
def OpenSpec.upto (s : _root_.Go.ChangeSpec) : _root_.Go.OpenSpec := { _root_.Go.OpenSpec.ofChange s with cond := some uptoSmall }

/-- 'clapboardlaw13.LineOffsets', WHERE WHAT IT READS IS OF BULK AT MOST 1048576: true; the input reads as it did. -/
def lineOffsetsUptoRow : OpenClaim := { program := "ythofammjbicogaa", sum := "f5884ce58e32f39df6b14e2beac2d01a2fc2f741237bb5b95296a58aa92513b0", func := "clapboard/clapboardlaw13.LineOffsets", spec := "lineOffsets", inPlace := ["math/bits.Add64"], unfollowed := true, recurses := true, named := ["math/bits.divideError", "math/bits.overflowError"], apart := false, narrowed := true }
def LineOffsetsUptoSaid : Prop := lineOffsetsUptoRow.holds Try.pinned (OpenSpec.upto lineOffsetsSpec)

/-- 'clapboardlaw13.LineStands', WHERE WHAT IT READS IS OF BULK AT MOST 1048576: true; the input reads as it did. -/
def lineStandsUptoRow : OpenClaim := { program := "ythofammjbicogaa", sum := "f5884ce58e32f39df6b14e2beac2d01a2fc2f741237bb5b95296a58aa92513b0", func := "clapboard/clapboardlaw13.LineStands", spec := "lineStands", inPlace := ["math/bits.Add64"], unfollowed := true, recurses := true, named := ["math/bits.divideError", "math/bits.overflowError"], apart := false, narrowed := true }
def LineStandsUptoSaid : Prop := lineStandsUptoRow.holds Try.pinned (OpenSpec.upto lineStandsSpec)

/-- 'clapboardlaw13.LineFills', WHERE WHAT IT READS IS OF BULK AT MOST 1048576: true; the input reads as it did. -/
def lineFillsUptoRow : OpenClaim := { program := "ythofammjbicogaa", sum := "f5884ce58e32f39df6b14e2beac2d01a2fc2f741237bb5b95296a58aa92513b0", func := "clapboard/clapboardlaw13.LineFills", spec := "lineFills", inPlace := ["math/bits.Add64"], unfollowed := true, recurses := true, named := ["math/bits.divideError", "math/bits.overflowError"], apart := false, narrowed := true }
def LineFillsUptoSaid : Prop := lineFillsUptoRow.holds Try.pinned (OpenSpec.upto lineFillsSpec)

/-- 'clapboardlaw13.LineGreedy', WHERE WHAT IT READS IS OF BULK AT MOST 1048576: true; the input reads as it did. -/
def lineGreedyUptoRow : OpenClaim := { program := "ythofammjbicogaa", sum := "f5884ce58e32f39df6b14e2beac2d01a2fc2f741237bb5b95296a58aa92513b0", func := "clapboard/clapboardlaw13.LineGreedy", spec := "lineGreedy", inPlace := ["math/bits.Add64"], unfollowed := true, recurses := true, named := ["math/bits.divideError", "math/bits.overflowError"], apart := false, narrowed := true }
def LineGreedyUptoSaid : Prop := lineGreedyUptoRow.holds Try.pinned (OpenSpec.upto lineGreedySpec)

/-- 'clapboardlaw20.FlexboxMains', WHERE WHAT IT READS IS OF BULK AT MOST 1048576: true; the input reads as it did. -/
def flexboxMainsUptoRow : OpenClaim := { program := "ythofammjbicogaa", sum := "f5884ce58e32f39df6b14e2beac2d01a2fc2f741237bb5b95296a58aa92513b0", func := "clapboard/clapboardlaw20.FlexboxMains", spec := "flexboxMains", inPlace := ["math/bits.Add64"], unfollowed := true, recurses := true, named := ["math/bits.divideError", "math/bits.overflowError"], apart := false, narrowed := true }
def FlexboxMainsUptoSaid : Prop := flexboxMainsUptoRow.holds Try.pinned (OpenSpec.upto flexboxMainsSpec)

/-- 'clapboardlaw20.FlexboxSpends', WHERE WHAT IT READS IS OF BULK AT MOST 1048576: true; the input reads as it did. -/
def flexboxSpendsUptoRow : OpenClaim := { program := "ythofammjbicogaa", sum := "f5884ce58e32f39df6b14e2beac2d01a2fc2f741237bb5b95296a58aa92513b0", func := "clapboard/clapboardlaw20.FlexboxSpends", spec := "flexboxSpends", inPlace := ["math/bits.Add64"], unfollowed := true, recurses := true, named := ["math/bits.divideError", "math/bits.overflowError"], apart := false, narrowed := true }
def FlexboxSpendsUptoSaid : Prop := flexboxSpendsUptoRow.holds Try.pinned (OpenSpec.upto flexboxSpendsSpec)

/-- 'clapboardlaw19.FlexsizeResolves', WHERE WHAT IT READS IS OF BULK AT MOST 1048576: true; the input reads as it did. -/
def flexsizeResolvesUptoRow : OpenClaim := { program := "ythofammjbicogaa", sum := "f5884ce58e32f39df6b14e2beac2d01a2fc2f741237bb5b95296a58aa92513b0", func := "clapboard/clapboardlaw19.FlexsizeResolves", spec := "flexsizeResolves", inPlace := ["math/bits.Add64"], unfollowed := true, recurses := true, named := ["math/bits.divideError", "math/bits.overflowError"], apart := false, narrowed := true }
def FlexsizeResolvesUptoSaid : Prop := flexsizeResolvesUptoRow.holds Try.pinned (OpenSpec.upto flexsizeResolvesSpec)

/-- 'clapboardlaw19.FlexsizeFills', WHERE WHAT IT READS IS OF BULK AT MOST 1048576: true; the input reads as it did. -/
def flexsizeFillsUptoRow : OpenClaim := { program := "ythofammjbicogaa", sum := "f5884ce58e32f39df6b14e2beac2d01a2fc2f741237bb5b95296a58aa92513b0", func := "clapboard/clapboardlaw19.FlexsizeFills", spec := "flexsizeFills", inPlace := ["math/bits.Add64"], unfollowed := true, recurses := true, named := ["math/bits.divideError", "math/bits.overflowError"], apart := false, narrowed := true }
def FlexsizeFillsUptoSaid : Prop := flexsizeFillsUptoRow.holds Try.pinned (OpenSpec.upto flexsizeFillsSpec)

/-- 'clapboardlaw19.FlexsizeRefuses', WHERE WHAT IT READS IS OF BULK AT MOST 1048576: true; the input reads as it did. -/
def flexsizeRefusesUptoRow : OpenClaim := { program := "ythofammjbicogaa", sum := "f5884ce58e32f39df6b14e2beac2d01a2fc2f741237bb5b95296a58aa92513b0", func := "clapboard/clapboardlaw19.FlexsizeRefuses", spec := "flexsizeRefuses", inPlace := ["math/bits.Add64"], unfollowed := true, recurses := true, named := ["math/bits.divideError", "math/bits.overflowError"], apart := false, narrowed := true }
def FlexsizeRefusesUptoSaid : Prop := flexsizeRefusesUptoRow.holds Try.pinned (OpenSpec.upto flexsizeRefusesSpec)

/-- 'clapboardlaw20.FlexboxAligns', WHERE WHAT IT READS IS OF BULK AT MOST 1048576: true; the input reads as it did. -/
def flexboxAlignsUptoRow : OpenClaim := { program := "ythofammjbicogaa", sum := "f5884ce58e32f39df6b14e2beac2d01a2fc2f741237bb5b95296a58aa92513b0", func := "clapboard/clapboardlaw20.FlexboxAligns", spec := "flexboxAligns", inPlace := ["math/bits.Add64"], unfollowed := true, recurses := true, named := ["math/bits.divideError", "math/bits.overflowError"], apart := false, narrowed := true }
def FlexboxAlignsUptoSaid : Prop := flexboxAlignsUptoRow.holds Try.pinned (OpenSpec.upto flexboxAlignsSpec)

/-- 'clapboardlaw20.FlexboxCrosses', WHERE WHAT IT READS IS OF BULK AT MOST 1048576: true; the input reads as it did. -/
def flexboxCrossesUptoRow : OpenClaim := { program := "ythofammjbicogaa", sum := "f5884ce58e32f39df6b14e2beac2d01a2fc2f741237bb5b95296a58aa92513b0", func := "clapboard/clapboardlaw20.FlexboxCrosses", spec := "flexboxCrosses", inPlace := ["math/bits.Add64"], unfollowed := true, recurses := true, named := ["math/bits.divideError", "math/bits.overflowError"], apart := false, narrowed := true }
def FlexboxCrossesUptoSaid : Prop := flexboxCrossesUptoRow.holds Try.pinned (OpenSpec.upto flexboxCrossesSpec)

end Rows
end Go.Proofs.Ythofammjbicogaa
