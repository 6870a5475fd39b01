/-
  No cell of these rows narrows 'for every input' (looked for: loops, veiled, ifaces, maps, wideKeys, modest, calm, conditions, laid).
  DERIVED. THE GIVEN ROWS OF THIS SEAT. 5 by the template 'for every input the law returns true; each argument reads behind the call as it read before'; 0 by the template 'total and deterministic' (their statements: YtgmnboacehopfaaTotals.lean).
  GIVEN WITH THE SEED: the statements are not yours to turn. If you find one false, say at which input.
  Laid BY PROGRAM, IN A SANDBOX (cutbox-rows.mjs): the forced cells as the released guide's own fill.sh prints them over the translation 7fdd1f9f6a7b8858… (all of the seat's roots in one cut). By AI agents, Wed Nov 11 2026. No macro, syntax, notation, axiom, sorry.
-/
import Derived.Test.YtgmnboacehopfaaChecked
import GoSem.Claim
import GoSem.ClaimJoined
import GoSem.ClaimMapViews
import Derived.JoinedTies
import Derived.KernelRfl
namespace Go.Proofs.Ytgmnboacehopfaa
/- THE CELL 'sum', in the pinned program and in every row, IS THE sha256 OF THE DUMP (.gsa) THAT YtgmnboacehopfaaProg.lean LOADS. Nothing in Lean hashes anything: it is a label: what it is worth is what the hold of that sum in a sandbox is worth. -/
noncomputable def Try.pinned : Pinned := { name := "ytgmnboacehopfaa", sum := "7fdd1f9f6a7b8858123a5fd0103b12b273d15bf3e37db118975e1741f9bc8272", checked := Try.checked }
namespace Rows
def none {H : Type} : Left H := { results := [], args := [] }

/-- 'clapboardlaw12.WordsDecode': WHATEVER THE INPUT: true; the input reads as it did. -/
def wordsDecodeSpec : ChangeSpec := { name := "wordsDecode", fn := fun _ => fun
  | [d1, d2] => { results := [.lit (.bool true)], args := [d1, d2] }
  | _ => none }
def wordsDecodeRow : OpenClaim := { program := "ytgmnboacehopfaa", sum := "7fdd1f9f6a7b8858123a5fd0103b12b273d15bf3e37db118975e1741f9bc8272", func := "clapboard/clapboardlaw12.WordsDecode", spec := "wordsDecode", inPlace := ["math.Float64bits", "math.Float64frombits", "math/bits.Add64"], recurses := true, named := ["math/bits.divideError", "math/bits.overflowError"], apart := false }
def WordsDecodeSaid : Prop := wordsDecodeRow.holds Try.pinned (OpenSpec.ofChange wordsDecodeSpec)

/-- ITS FALSE NEIGHBOUR: 'it returns false'. Refute it at one input. -/
def wordsDecodeWrong : ChangeSpec := { name := "wordsDecode", fn := fun _ => fun
  | [d1, d2] => { results := [.lit (.bool false)], args := [d1, d2] }
  | _ => none }
def WordsDecodeWrongFalsely : Prop := wordsDecodeRow.holds Try.pinned (OpenSpec.ofChange wordsDecodeWrong)

/-- 'clapboardlaw12.WordsScale': WHATEVER THE INPUT: true; the input reads as it did. -/
def wordsScaleSpec : ChangeSpec := { name := "wordsScale", fn := fun _ => fun
  | [d1, d2, d3] => { results := [.lit (.bool true)], args := [d1, d2, d3] }
  | _ => none }
def wordsScaleRow : OpenClaim := { program := "ytgmnboacehopfaa", sum := "7fdd1f9f6a7b8858123a5fd0103b12b273d15bf3e37db118975e1741f9bc8272", func := "clapboard/clapboardlaw12.WordsScale", spec := "wordsScale", inPlace := ["math.Float64bits", "math.Float64frombits", "math/bits.Add64"], unfollowed := true, recurses := true, named := ["math/bits.divideError", "math/bits.overflowError"], apart := false }
def WordsScaleSaid : Prop := wordsScaleRow.holds Try.pinned (OpenSpec.ofChange wordsScaleSpec)

/-- ITS FALSE NEIGHBOUR: 'it returns false'. Refute it at one input. -/
def wordsScaleWrong : ChangeSpec := { name := "wordsScale", fn := fun _ => fun
  | [d1, d2, d3] => { results := [.lit (.bool false)], args := [d1, d2, d3] }
  | _ => none }
def WordsScaleWrongFalsely : Prop := wordsScaleRow.holds Try.pinned (OpenSpec.ofChange wordsScaleWrong)

/-- 'clapboardlaw09.ValueDecodes': WHATEVER THE INPUT: true; the input reads as it did. -/
def valueDecodesSpec : ChangeSpec := { name := "valueDecodes", fn := fun _ => fun
  | [d1, d2, d3] => { results := [.lit (.bool true)], args := [d1, d2, d3] }
  | _ => none }
def valueDecodesRow : OpenClaim := { program := "ytgmnboacehopfaa", sum := "7fdd1f9f6a7b8858123a5fd0103b12b273d15bf3e37db118975e1741f9bc8272", func := "clapboard/clapboardlaw09.ValueDecodes", spec := "valueDecodes", inPlace := ["math.Float64bits", "math/bits.Add64", "math.Float64frombits"], recurses := true, named := ["math/bits.divideError", "math/bits.overflowError"], apart := false }
def ValueDecodesSaid : Prop := valueDecodesRow.holds Try.pinned (OpenSpec.ofChange valueDecodesSpec)

/-- ITS FALSE NEIGHBOUR: 'it returns false'. Refute it at one input. -/
def valueDecodesWrong : ChangeSpec := { name := "valueDecodes", fn := fun _ => fun
  | [d1, d2, d3] => { results := [.lit (.bool false)], args := [d1, d2, d3] }
  | _ => none }
def ValueDecodesWrongFalsely : Prop := valueDecodesRow.holds Try.pinned (OpenSpec.ofChange valueDecodesWrong)

/-- 'clapboardlaw09.ValueIns': WHATEVER THE INPUT: true; the input reads as it did. -/
def valueInsSpec : ChangeSpec := { name := "valueIns", fn := fun _ => fun
  | [d] => { results := [.lit (.bool true)], args := [d] }
  | _ => none }
def valueInsRow : OpenClaim := { program := "ytgmnboacehopfaa", sum := "7fdd1f9f6a7b8858123a5fd0103b12b273d15bf3e37db118975e1741f9bc8272", func := "clapboard/clapboardlaw09.ValueIns", spec := "valueIns", inPlace := ["math.Float64bits", "math/bits.Add64", "math.Float64frombits"], unfollowed := true, recurses := true, named := ["math/bits.divideError", "math/bits.overflowError"], apart := false }
def ValueInsSaid : Prop := valueInsRow.holds Try.pinned (OpenSpec.ofChange valueInsSpec)

/-- ITS FALSE NEIGHBOUR: 'it returns false'. Refute it at one input. -/
def valueInsWrong : ChangeSpec := { name := "valueIns", fn := fun _ => fun
  | [d] => { results := [.lit (.bool false)], args := [d] }
  | _ => none }
def ValueInsWrongFalsely : Prop := valueInsRow.holds Try.pinned (OpenSpec.ofChange valueInsWrong)

/-- 'clapboardlaw09.ValueScales': WHATEVER THE INPUT: true; the input reads as it did. -/
def valueScalesSpec : ChangeSpec := { name := "valueScales", fn := fun _ => fun
  | [d1, d2, d3] => { results := [.lit (.bool true)], args := [d1, d2, d3] }
  | _ => none }
def valueScalesRow : OpenClaim := { program := "ytgmnboacehopfaa", sum := "7fdd1f9f6a7b8858123a5fd0103b12b273d15bf3e37db118975e1741f9bc8272", func := "clapboard/clapboardlaw09.ValueScales", spec := "valueScales", inPlace := ["math.Float64bits", "math/bits.Add64", "math.Float64frombits"], unfollowed := true, recurses := true, named := ["math/bits.divideError", "math/bits.overflowError"], apart := false }
def ValueScalesSaid : Prop := valueScalesRow.holds Try.pinned (OpenSpec.ofChange valueScalesSpec)

/-- ITS FALSE NEIGHBOUR: 'it returns false'. Refute it at one input. -/
def valueScalesWrong : ChangeSpec := { name := "valueScales", fn := fun _ => fun
  | [d1, d2, d3] => { results := [.lit (.bool false)], args := [d1, d2, d3] }
  | _ => none }
def ValueScalesWrongFalsely : Prop := valueScalesRow.holds Try.pinned (OpenSpec.ofChange valueScalesWrong)

/- THE SECOND FORM. 'bulk': how many values and letters a reading holds, each counted each time it is reached (what is shared counts as often as it is met; a slice's spare places count too). A statement '..UptoSaid' is the law's where the arguments, and the package variables that the reading takes, are together of bulk at most 1048576: NARROWER than '..Said'. Prove '..Said' where nothing that the law and all that it calls make is longer than what came in: it says more and counts as full. Else prove '..UptoSaid'. A law counts once. -/
mutual
def uptoBulk {H : Type} : DataW H → Nat
  | .lit (.string bytes) => bytes.length + 1
  | .lit _ => 1
  | .nil => 1
  | .ptr d => uptoBulk d + 1
  | .slice elems spare => uptoBulkAll elems + uptoBulkAll spare + 1
  | .agg parts => uptoBulkAll parts + 1
  | .iface _ d => uptoBulk d + 1
  | .map entries => uptoBulkEntries entries + 1
  | .held _ => 1
def uptoBulkAll {H : Type} : List (DataW H) → Nat
  | [] => 0
  | d :: r => uptoBulk d + uptoBulkAll r
def uptoBulkEntries {H : Type} : List (Lit × DataW H) → Nat
  | [] => 0
  | x :: r => uptoBulkEntry x + uptoBulkEntries r
def uptoBulkEntry {H : Type} : Lit × DataW H → Nat
  | (.string bytes, d) => bytes.length + uptoBulk d + 1
  | (_, d) => uptoBulk d + 1
 end
def uptoSmall : (H : Type) → List (DataW H) → Bool := fun _ ds => decide (uptoBulkAll ds ≤ 1048576)
def OpenSpec.upto (s : _root_.Go.ChangeSpec) : _root_.Go.OpenSpec := { _root_.Go.OpenSpec.ofChange s with cond := some uptoSmall }

/-- 'clapboardlaw12.WordsDecode', WHERE WHAT IT READS IS OF BULK AT MOST 1048576: true; the input reads as it did. -/
def wordsDecodeUptoRow : OpenClaim := { program := "ytgmnboacehopfaa", sum := "7fdd1f9f6a7b8858123a5fd0103b12b273d15bf3e37db118975e1741f9bc8272", func := "clapboard/clapboardlaw12.WordsDecode", spec := "wordsDecode", inPlace := ["math.Float64bits", "math.Float64frombits", "math/bits.Add64"], recurses := true, named := ["math/bits.divideError", "math/bits.overflowError"], apart := false, narrowed := true }
def WordsDecodeUptoSaid : Prop := wordsDecodeUptoRow.holds Try.pinned (OpenSpec.upto wordsDecodeSpec)

/-- 'clapboardlaw12.WordsScale', WHERE WHAT IT READS IS OF BULK AT MOST 1048576: true; the input reads as it did. -/
def wordsScaleUptoRow : OpenClaim := { program := "ytgmnboacehopfaa", sum := "7fdd1f9f6a7b8858123a5fd0103b12b273d15bf3e37db118975e1741f9bc8272", func := "clapboard/clapboardlaw12.WordsScale", spec := "wordsScale", inPlace := ["math.Float64bits", "math.Float64frombits", "math/bits.Add64"], unfollowed := true, recurses := true, named := ["math/bits.divideError", "math/bits.overflowError"], apart := false, narrowed := true }
def WordsScaleUptoSaid : Prop := wordsScaleUptoRow.holds Try.pinned (OpenSpec.upto wordsScaleSpec)

/-- 'clapboardlaw09.ValueDecodes', WHERE WHAT IT READS IS OF BULK AT MOST 1048576: true; the input reads as it did. -/
def valueDecodesUptoRow : OpenClaim := { program := "ytgmnboacehopfaa", sum := "7fdd1f9f6a7b8858123a5fd0103b12b273d15bf3e37db118975e1741f9bc8272", func := "clapboard/clapboardlaw09.ValueDecodes", spec := "valueDecodes", inPlace := ["math.Float64bits", "math/bits.Add64", "math.Float64frombits"], recurses := true, named := ["math/bits.divideError", "math/bits.overflowError"], apart := false, narrowed := true }
def ValueDecodesUptoSaid : Prop := valueDecodesUptoRow.holds Try.pinned (OpenSpec.upto valueDecodesSpec)

/-- 'clapboardlaw09.ValueIns', WHERE WHAT IT READS IS OF BULK AT MOST 1048576: true; the input reads as it did. -/
def valueInsUptoRow : OpenClaim := { program := "ytgmnboacehopfaa", sum := "7fdd1f9f6a7b8858123a5fd0103b12b273d15bf3e37db118975e1741f9bc8272", func := "clapboard/clapboardlaw09.ValueIns", spec := "valueIns", inPlace := ["math.Float64bits", "math/bits.Add64", "math.Float64frombits"], unfollowed := true, recurses := true, named := ["math/bits.divideError", "math/bits.overflowError"], apart := false, narrowed := true }
def ValueInsUptoSaid : Prop := valueInsUptoRow.holds Try.pinned (OpenSpec.upto valueInsSpec)

/-- 'clapboardlaw09.ValueScales', WHERE WHAT IT READS IS OF BULK AT MOST 1048576: true; the input reads as it did. -/
def valueScalesUptoRow : OpenClaim := { program := "ytgmnboacehopfaa", sum := "7fdd1f9f6a7b8858123a5fd0103b12b273d15bf3e37db118975e1741f9bc8272", func := "clapboard/clapboardlaw09.ValueScales", spec := "valueScales", inPlace := ["math.Float64bits", "math/bits.Add64", "math.Float64frombits"], unfollowed := true, recurses := true, named := ["math/bits.divideError", "math/bits.overflowError"], apart := false, narrowed := true }
def ValueScalesUptoSaid : Prop := valueScalesUptoRow.holds Try.pinned (OpenSpec.upto valueScalesSpec)

end Rows
end Go.Proofs.Ytgmnboacehopfaa
