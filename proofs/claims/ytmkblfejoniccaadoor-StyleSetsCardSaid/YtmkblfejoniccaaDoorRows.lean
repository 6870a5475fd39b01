/-
  NARROWER THAN 'FOR EVERY INPUT', by the rows' own cells (each row's printed sentence says how): RealExact: laid · RealNearest: laid · RealBack: laid · RealGrid: laid · RealMonotone: laid · StyleComputes: laid · StyleSets: laid · StyleBorders: laid · StyleHairlines: laid · RealKinds: laid · RealOrders: laid.
  DERIVED. THE GIVEN ROWS OF THIS SEAT. 11 by the template 'for every input the law returns true; each argument reads behind the call as it read before'; 0 by the template 'total and deterministic' (their statements: YtmkblfejoniccaaDoorTotals.lean).
  GIVEN WITH THE SEED: the statements are not yours to turn. If you find one false, say at which input.
  Laid BY PROGRAM, IN A SANDBOX (cutbox-rows.mjs): the forced cells as the released guide's own fill.sh prints them over the translation 5118b2045d0b5d7d… (all of the seat's roots in one cut). By AI agents, Wed Nov 11 2026. No macro, syntax, notation, axiom, sorry.
-/
import Derived.Test.YtmkblfejoniccaaDoorChecked
import GoSem.Claim
import GoSem.ClaimJoined
import GoSem.ClaimMapViews
import Derived.JoinedTies
import Derived.KernelRfl
namespace Go.Proofs.YtmkblfejoniccaaDoor
/- THE CELL 'sum', in the pinned program and in every row, IS THE sha256 OF THE DUMP (.gsa) THAT YtmkblfejoniccaaDoorProg.lean LOADS. Nothing in Lean hashes anything: it is a label: what it is worth is what the hold of that sum in a sandbox is worth. -/
noncomputable def Tryd.pinned : Pinned := { name := "ytmkblfejoniccaadoor", sum := "5118b2045d0b5d7de408349ae89871886b1c70e36a97fd46b27c99c2151fe128", checked := Tryd.checked }
namespace Rows
def none {H : Type} : Left H := { results := [], args := [] }

/- WHAT THE LISTED PACKAGE-LEVEL VARIABLES READ AS WHEN THE CALL BEGINS. Each datum BY PROGRAM (the guide's laid-datum.mjs) off the statement by which the dump's own 'gosem.cut.vars' lays the variable. In a bare row this is a premise. The card (YtmkblfejoniccaaDoorCards.lean) ties it to the program's text. -/
def laid_math_bits_deBruijn64tab {H : Type} : DataW H := .agg [.lit (.int .u8 0), .lit (.int .u8 1), .lit (.int .u8 56), .lit (.int .u8 2), .lit (.int .u8 57), .lit (.int .u8 49), .lit (.int .u8 28), .lit (.int .u8 3), .lit (.int .u8 61), .lit (.int .u8 58), .lit (.int .u8 42), .lit (.int .u8 50), .lit (.int .u8 38), .lit (.int .u8 29), .lit (.int .u8 17), .lit (.int .u8 4), .lit (.int .u8 62), .lit (.int .u8 47), .lit (.int .u8 59), .lit (.int .u8 36), .lit (.int .u8 45), .lit (.int .u8 43), .lit (.int .u8 51), .lit (.int .u8 22), .lit (.int .u8 53), .lit (.int .u8 39), .lit (.int .u8 33), .lit (.int .u8 30), .lit (.int .u8 24), .lit (.int .u8 18), .lit (.int .u8 12), .lit (.int .u8 5), .lit (.int .u8 63), .lit (.int .u8 55), .lit (.int .u8 48), .lit (.int .u8 27), .lit (.int .u8 60), .lit (.int .u8 41), .lit (.int .u8 37), .lit (.int .u8 16), .lit (.int .u8 46), .lit (.int .u8 35), .lit (.int .u8 44), .lit (.int .u8 21), .lit (.int .u8 52), .lit (.int .u8 32), .lit (.int .u8 23), .lit (.int .u8 11), .lit (.int .u8 54), .lit (.int .u8 26), .lit (.int .u8 40), .lit (.int .u8 15), .lit (.int .u8 34), .lit (.int .u8 20), .lit (.int .u8 31), .lit (.int .u8 10), .lit (.int .u8 25), .lit (.int .u8 14), .lit (.int .u8 19), .lit (.int .u8 9), .lit (.int .u8 13), .lit (.int .u8 8), .lit (.int .u8 7), .lit (.int .u8 6)]
def laid_clapboard_style_numbers {H : Type} : DataW H := .agg [.agg [.lit (.int .i64 64), .lit (.int .i64 0), .lit (.int .i64 1073741824)], .agg [.lit (.int .i64 64), .lit (.int .i64 0), .lit (.int .i64 1073741824)], .agg [.lit (.int .i64 64), .lit (.int .i64 0), .lit (.int .i64 1073741824)], .agg [.lit (.int .i64 64), .lit (.int .i64 0), .lit (.int .i64 1073741824)], .agg [.lit (.int .i64 1), .lit (.int .i64 (-1000)), .lit (.int .i64 1000)], .agg [.lit (.int .i64 4096), .lit (.int .i64 0), .lit (.int .i64 4096000)], .agg [.lit (.int .i64 4096), .lit (.int .i64 0), .lit (.int .i64 4096000)], .agg [.lit (.int .i64 64), .lit (.int .i64 0), .lit (.int .i64 1073741824)], .agg [.lit (.int .i64 64), .lit (.int .i64 0), .lit (.int .i64 1073741824)], .agg [.lit (.int .i64 64), .lit (.int .i64 0), .lit (.int .i64 1073741824)]]
def laid_clapboard_style_words {H : Type} : DataW H := .agg [.agg [.lit (.int .i64 1), .lit (.int .i64 1), .lit (.int .i64 4)], .agg [.lit (.int .i64 1), .lit (.int .i64 1), .lit (.int .i64 3)], .agg [.lit (.int .i64 1), .lit (.int .i64 1), .lit (.int .i64 3)], .agg [.lit (.int .i64 1), .lit (.int .i64 1), .lit (.int .i64 2)], .agg [.lit (.int .i64 1), .lit (.int .i64 (-1000)), .lit (.int .i64 1000)], .agg [.lit (.int .i64 1), .lit (.int .i64 1), .lit (.int .i64 4)], .agg [.lit (.int .i64 1), .lit (.int .i64 1), .lit (.int .i64 3)], .agg [.lit (.int .i64 1), .lit (.int .i64 1), .lit (.int .i64 6)], .agg [.lit (.int .i64 1), .lit (.int .i64 1), .lit (.int .i64 4)], .agg [.lit (.int .i64 1), .lit (.int .i64 0), .lit (.int .i64 4)], .agg [.lit (.int .i64 1), .lit (.int .i64 1), .lit (.int .i64 7)], .agg [.lit (.int .i64 1), .lit (.int .i64 1), .lit (.int .i64 4)]]

/-- 'clapboardlaw03.RealExact': WHATEVER THE INPUT: true; the input reads as it did. -/
def realExactSpec : ChangeSpec := { name := "realExact", fn := fun _ => fun
  | [d] => { results := [.lit (.bool true)], args := [d] }
  | _ => none }
def realExactRow : OpenClaim := { program := "ytmkblfejoniccaadoor", sum := "5118b2045d0b5d7de408349ae89871886b1c70e36a97fd46b27c99c2151fe128", func := "clapboard/clapboardlaw03.RealExact", spec := "realExact", inPlace := ["math.Float64bits", "math/bits.Add64", "math.Float64frombits"], recurses := true, named := ["math/bits.divideError", "math/bits.overflowError", "math/bits.deBruijn64tab"], apart := false, laid := [("math/bits.deBruijn64tab", laid_math_bits_deBruijn64tab)] }
def RealExactSaid : Prop := realExactRow.holds Tryd.pinned (OpenSpec.ofChange realExactSpec)

/-- ITS FALSE NEIGHBOUR: 'it returns false'. Refute it at one input. -/
def realExactWrong : ChangeSpec := { name := "realExact", fn := fun _ => fun
  | [d] => { results := [.lit (.bool false)], args := [d] }
  | _ => none }
def RealExactWrongFalsely : Prop := realExactRow.holds Tryd.pinned (OpenSpec.ofChange realExactWrong)

/-- 'clapboardlaw03.RealNearest': WHATEVER THE INPUT: true; the input reads as it did. -/
def realNearestSpec : ChangeSpec := { name := "realNearest", fn := fun _ => fun
  | [d1, d2] => { results := [.lit (.bool true)], args := [d1, d2] }
  | _ => none }
def realNearestRow : OpenClaim := { program := "ytmkblfejoniccaadoor", sum := "5118b2045d0b5d7de408349ae89871886b1c70e36a97fd46b27c99c2151fe128", func := "clapboard/clapboardlaw03.RealNearest", spec := "realNearest", inPlace := ["math.Float64bits", "math/bits.Add64", "math.Float64frombits"], recurses := true, named := ["math/bits.divideError", "math/bits.overflowError", "math/bits.deBruijn64tab"], apart := false, laid := [("math/bits.deBruijn64tab", laid_math_bits_deBruijn64tab)] }
def RealNearestSaid : Prop := realNearestRow.holds Tryd.pinned (OpenSpec.ofChange realNearestSpec)

/-- ITS FALSE NEIGHBOUR: 'it returns false'. Refute it at one input. -/
def realNearestWrong : ChangeSpec := { name := "realNearest", fn := fun _ => fun
  | [d1, d2] => { results := [.lit (.bool false)], args := [d1, d2] }
  | _ => none }
def RealNearestWrongFalsely : Prop := realNearestRow.holds Tryd.pinned (OpenSpec.ofChange realNearestWrong)

/-- 'clapboardlaw03.RealBack': WHATEVER THE INPUT: true; the input reads as it did. -/
def realBackSpec : ChangeSpec := { name := "realBack", fn := fun _ => fun
  | [d] => { results := [.lit (.bool true)], args := [d] }
  | _ => none }
def realBackRow : OpenClaim := { program := "ytmkblfejoniccaadoor", sum := "5118b2045d0b5d7de408349ae89871886b1c70e36a97fd46b27c99c2151fe128", func := "clapboard/clapboardlaw03.RealBack", spec := "realBack", inPlace := ["math.Float64bits", "math/bits.Add64", "math.Float64frombits"], named := ["math/bits.divideError", "math/bits.overflowError", "math/bits.deBruijn64tab"], apart := false, laid := [("math/bits.deBruijn64tab", laid_math_bits_deBruijn64tab)] }
def RealBackSaid : Prop := realBackRow.holds Tryd.pinned (OpenSpec.ofChange realBackSpec)

/-- ITS FALSE NEIGHBOUR: 'it returns false'. Refute it at one input. -/
def realBackWrong : ChangeSpec := { name := "realBack", fn := fun _ => fun
  | [d] => { results := [.lit (.bool false)], args := [d] }
  | _ => none }
def RealBackWrongFalsely : Prop := realBackRow.holds Tryd.pinned (OpenSpec.ofChange realBackWrong)

/-- 'clapboardlaw03.RealGrid': WHATEVER THE INPUT: true; the input reads as it did. -/
def realGridSpec : ChangeSpec := { name := "realGrid", fn := fun _ => fun
  | [d1, d2, d3] => { results := [.lit (.bool true)], args := [d1, d2, d3] }
  | _ => none }
def realGridRow : OpenClaim := { program := "ytmkblfejoniccaadoor", sum := "5118b2045d0b5d7de408349ae89871886b1c70e36a97fd46b27c99c2151fe128", func := "clapboard/clapboardlaw03.RealGrid", spec := "realGrid", inPlace := ["math.Float64bits", "math/bits.Add64", "math.Float64frombits"], recurses := true, named := ["math/bits.divideError", "math/bits.overflowError", "math/bits.deBruijn64tab"], apart := false, laid := [("math/bits.deBruijn64tab", laid_math_bits_deBruijn64tab)] }
def RealGridSaid : Prop := realGridRow.holds Tryd.pinned (OpenSpec.ofChange realGridSpec)

/-- ITS FALSE NEIGHBOUR: 'it returns false'. Refute it at one input. -/
def realGridWrong : ChangeSpec := { name := "realGrid", fn := fun _ => fun
  | [d1, d2, d3] => { results := [.lit (.bool false)], args := [d1, d2, d3] }
  | _ => none }
def RealGridWrongFalsely : Prop := realGridRow.holds Tryd.pinned (OpenSpec.ofChange realGridWrong)

/-- 'clapboardlaw03.RealMonotone': WHATEVER THE INPUT: true; the input reads as it did. -/
def realMonotoneSpec : ChangeSpec := { name := "realMonotone", fn := fun _ => fun
  | [d1, d2, d3] => { results := [.lit (.bool true)], args := [d1, d2, d3] }
  | _ => none }
def realMonotoneRow : OpenClaim := { program := "ytmkblfejoniccaadoor", sum := "5118b2045d0b5d7de408349ae89871886b1c70e36a97fd46b27c99c2151fe128", func := "clapboard/clapboardlaw03.RealMonotone", spec := "realMonotone", inPlace := ["math.Float64bits", "math/bits.Add64", "math.Float64frombits"], named := ["math/bits.divideError", "math/bits.overflowError", "math/bits.deBruijn64tab"], apart := false, laid := [("math/bits.deBruijn64tab", laid_math_bits_deBruijn64tab)] }
def RealMonotoneSaid : Prop := realMonotoneRow.holds Tryd.pinned (OpenSpec.ofChange realMonotoneSpec)

/-- ITS FALSE NEIGHBOUR: 'it returns false'. Refute it at one input. -/
def realMonotoneWrong : ChangeSpec := { name := "realMonotone", fn := fun _ => fun
  | [d1, d2, d3] => { results := [.lit (.bool false)], args := [d1, d2, d3] }
  | _ => none }
def RealMonotoneWrongFalsely : Prop := realMonotoneRow.holds Tryd.pinned (OpenSpec.ofChange realMonotoneWrong)

/-- 'clapboardlaw11.StyleComputes': WHATEVER THE INPUT: true; the input reads as it did. -/
def styleComputesSpec : ChangeSpec := { name := "styleComputes", fn := fun _ => fun
  | [d] => { results := [.lit (.bool true)], args := [d] }
  | _ => none }
def styleComputesRow : OpenClaim := { program := "ytmkblfejoniccaadoor", sum := "5118b2045d0b5d7de408349ae89871886b1c70e36a97fd46b27c99c2151fe128", func := "clapboard/clapboardlaw11.StyleComputes", spec := "styleComputes", inPlace := ["math.Float64frombits", "math.Float64bits", "math/bits.Add64"], unfollowed := true, recurses := true, named := ["clapboard/style.words", "math/bits.divideError", "math/bits.overflowError", "clapboard/style.numbers"], apart := false, laid := [("clapboard/style.numbers", laid_clapboard_style_numbers), ("clapboard/style.words", laid_clapboard_style_words)] }
def StyleComputesSaid : Prop := styleComputesRow.holds Tryd.pinned (OpenSpec.ofChange styleComputesSpec)

/-- ITS FALSE NEIGHBOUR: 'it returns false'. Refute it at one input. -/
def styleComputesWrong : ChangeSpec := { name := "styleComputes", fn := fun _ => fun
  | [d] => { results := [.lit (.bool false)], args := [d] }
  | _ => none }
def StyleComputesWrongFalsely : Prop := styleComputesRow.holds Tryd.pinned (OpenSpec.ofChange styleComputesWrong)

/-- 'clapboardlaw11.StyleSets': WHATEVER THE INPUT: true; the input reads as it did. -/
def styleSetsSpec : ChangeSpec := { name := "styleSets", fn := fun _ => fun
  | [d] => { results := [.lit (.bool true)], args := [d] }
  | _ => none }
def styleSetsRow : OpenClaim := { program := "ytmkblfejoniccaadoor", sum := "5118b2045d0b5d7de408349ae89871886b1c70e36a97fd46b27c99c2151fe128", func := "clapboard/clapboardlaw11.StyleSets", spec := "styleSets", inPlace := ["math.Float64frombits", "math.Float64bits", "math/bits.Add64"], unfollowed := true, recurses := true, named := ["clapboard/style.words", "math/bits.divideError", "math/bits.overflowError", "clapboard/style.numbers"], apart := false, laid := [("clapboard/style.numbers", laid_clapboard_style_numbers), ("clapboard/style.words", laid_clapboard_style_words)] }
def StyleSetsSaid : Prop := styleSetsRow.holds Tryd.pinned (OpenSpec.ofChange styleSetsSpec)

/-- ITS FALSE NEIGHBOUR: 'it returns false'. Refute it at one input. -/
def styleSetsWrong : ChangeSpec := { name := "styleSets", fn := fun _ => fun
  | [d] => { results := [.lit (.bool false)], args := [d] }
  | _ => none }
def StyleSetsWrongFalsely : Prop := styleSetsRow.holds Tryd.pinned (OpenSpec.ofChange styleSetsWrong)

/-- 'clapboardlaw11.StyleBorders': WHATEVER THE INPUT: true; the input reads as it did. -/
def styleBordersSpec : ChangeSpec := { name := "styleBorders", fn := fun _ => fun
  | [d1, d2, d3] => { results := [.lit (.bool true)], args := [d1, d2, d3] }
  | _ => none }
def styleBordersRow : OpenClaim := { program := "ytmkblfejoniccaadoor", sum := "5118b2045d0b5d7de408349ae89871886b1c70e36a97fd46b27c99c2151fe128", func := "clapboard/clapboardlaw11.StyleBorders", spec := "styleBorders", inPlace := ["math.Float64frombits", "math.Float64bits", "math/bits.Add64"], unfollowed := true, recurses := true, named := ["clapboard/style.words", "math/bits.divideError", "math/bits.overflowError", "clapboard/style.numbers"], apart := false, laid := [("clapboard/style.numbers", laid_clapboard_style_numbers), ("clapboard/style.words", laid_clapboard_style_words)] }
def StyleBordersSaid : Prop := styleBordersRow.holds Tryd.pinned (OpenSpec.ofChange styleBordersSpec)

/-- ITS FALSE NEIGHBOUR: 'it returns false'. Refute it at one input. -/
def styleBordersWrong : ChangeSpec := { name := "styleBorders", fn := fun _ => fun
  | [d1, d2, d3] => { results := [.lit (.bool false)], args := [d1, d2, d3] }
  | _ => none }
def StyleBordersWrongFalsely : Prop := styleBordersRow.holds Tryd.pinned (OpenSpec.ofChange styleBordersWrong)

/-- 'clapboardlaw11.StyleHairlines': WHATEVER THE INPUT: true; the input reads as it did. -/
def styleHairlinesSpec : ChangeSpec := { name := "styleHairlines", fn := fun _ => fun
  | [d1, d2, d3] => { results := [.lit (.bool true)], args := [d1, d2, d3] }
  | _ => none }
def styleHairlinesRow : OpenClaim := { program := "ytmkblfejoniccaadoor", sum := "5118b2045d0b5d7de408349ae89871886b1c70e36a97fd46b27c99c2151fe128", func := "clapboard/clapboardlaw11.StyleHairlines", spec := "styleHairlines", inPlace := ["math.Float64frombits", "math.Float64bits", "math/bits.Add64"], unfollowed := true, recurses := true, named := ["clapboard/style.words", "math/bits.divideError", "math/bits.overflowError", "clapboard/style.numbers"], apart := false, laid := [("clapboard/style.numbers", laid_clapboard_style_numbers), ("clapboard/style.words", laid_clapboard_style_words)] }
def StyleHairlinesSaid : Prop := styleHairlinesRow.holds Tryd.pinned (OpenSpec.ofChange styleHairlinesSpec)

/-- ITS FALSE NEIGHBOUR: 'it returns false'. Refute it at one input. -/
def styleHairlinesWrong : ChangeSpec := { name := "styleHairlines", fn := fun _ => fun
  | [d1, d2, d3] => { results := [.lit (.bool false)], args := [d1, d2, d3] }
  | _ => none }
def StyleHairlinesWrongFalsely : Prop := styleHairlinesRow.holds Tryd.pinned (OpenSpec.ofChange styleHairlinesWrong)

/-- 'clapboardlaw03.RealKinds': WHATEVER THE INPUT: true; the input reads as it did. -/
def realKindsSpec : ChangeSpec := { name := "realKinds", fn := fun _ => fun
  | [d1, d2] => { results := [.lit (.bool true)], args := [d1, d2] }
  | _ => none }
def realKindsRow : OpenClaim := { program := "ytmkblfejoniccaadoor", sum := "5118b2045d0b5d7de408349ae89871886b1c70e36a97fd46b27c99c2151fe128", func := "clapboard/clapboardlaw03.RealKinds", spec := "realKinds", inPlace := ["math.Float64bits", "math/bits.Add64", "math.Float64frombits"], named := ["math/bits.divideError", "math/bits.overflowError", "math/bits.deBruijn64tab"], apart := false, laid := [("math/bits.deBruijn64tab", laid_math_bits_deBruijn64tab)] }
def RealKindsSaid : Prop := realKindsRow.holds Tryd.pinned (OpenSpec.ofChange realKindsSpec)

/-- ITS FALSE NEIGHBOUR: 'it returns false'. Refute it at one input. -/
def realKindsWrong : ChangeSpec := { name := "realKinds", fn := fun _ => fun
  | [d1, d2] => { results := [.lit (.bool false)], args := [d1, d2] }
  | _ => none }
def RealKindsWrongFalsely : Prop := realKindsRow.holds Tryd.pinned (OpenSpec.ofChange realKindsWrong)

/-- 'clapboardlaw03.RealOrders': WHATEVER THE INPUT: true; the input reads as it did. -/
def realOrdersSpec : ChangeSpec := { name := "realOrders", fn := fun _ => fun
  | [d1, d2, d3] => { results := [.lit (.bool true)], args := [d1, d2, d3] }
  | _ => none }
def realOrdersRow : OpenClaim := { program := "ytmkblfejoniccaadoor", sum := "5118b2045d0b5d7de408349ae89871886b1c70e36a97fd46b27c99c2151fe128", func := "clapboard/clapboardlaw03.RealOrders", spec := "realOrders", inPlace := ["math.Float64bits", "math/bits.Add64", "math.Float64frombits"], named := ["math/bits.divideError", "math/bits.overflowError", "math/bits.deBruijn64tab"], apart := false, laid := [("math/bits.deBruijn64tab", laid_math_bits_deBruijn64tab)] }
def RealOrdersSaid : Prop := realOrdersRow.holds Tryd.pinned (OpenSpec.ofChange realOrdersSpec)

/-- ITS FALSE NEIGHBOUR: 'it returns false'. Refute it at one input. -/
def realOrdersWrong : ChangeSpec := { name := "realOrders", fn := fun _ => fun
  | [d1, d2, d3] => { results := [.lit (.bool false)], args := [d1, d2, d3] }
  | _ => none }
def RealOrdersWrongFalsely : Prop := realOrdersRow.holds Tryd.pinned (OpenSpec.ofChange realOrdersWrong)

/- THE SECOND FORM. 'bulk': how many values and letters a reading holds, each counted each time it is reached (what is shared counts as often as it is met; a slice's spare places count too). A statement '..UptoSaid' is the law's where the arguments, and the package variables that the reading takes, are together of bulk at most 1048576: NARROWER than '..Said'. Prove '..Said' where nothing that the law and all that it calls make is longer than what came in: it says more and counts as full. Else prove '..UptoSaid'. A law counts once. -/
mutual
def uptoBulk {H : Type} : DataW H → Nat
  | .lit (.string bytes) => bytes.length + 1
  | .lit _ => 1
  | .nil => 1
  | .ptr d => uptoBulk d + 1
  | .slice elems spare => uptoBulkAll elems + uptoBulkAll spare + 1
  | .agg parts => uptoBulkAll parts + 1
  | .iface _ d => uptoBulk d + 1
  | .map entries => uptoBulkEntries entries + 1
  | .held _ => 1
def uptoBulkAll {H : Type} : List (DataW H) → Nat
  | [] => 0
  | d :: r => uptoBulk d + uptoBulkAll r
def uptoBulkEntries {H : Type} : List (Lit × DataW H) → Nat
  | [] => 0
  | x :: r => uptoBulkEntry x + uptoBulkEntries r
def uptoBulkEntry {H : Type} : Lit × DataW H → Nat
  | (.string bytes, d) => bytes.length + uptoBulk d + 1
  | (_, d) => uptoBulk d + 1
 end
def uptoSmall : (H : Type) → List (DataW H) → Bool := fun _ ds => decide (uptoBulkAll ds ≤ 1048576)
def OpenSpec.upto (s : _root_.Go.ChangeSpec) : _root_.Go.OpenSpec := { _root_.Go.OpenSpec.ofChange s with cond := some uptoSmall }

/-- 'clapboardlaw03.RealExact', WHERE WHAT IT READS IS OF BULK AT MOST 1048576: true; the input reads as it did. -/
def realExactUptoRow : OpenClaim := { program := "ytmkblfejoniccaadoor", sum := "5118b2045d0b5d7de408349ae89871886b1c70e36a97fd46b27c99c2151fe128", func := "clapboard/clapboardlaw03.RealExact", spec := "realExact", inPlace := ["math.Float64bits", "math/bits.Add64", "math.Float64frombits"], recurses := true, named := ["math/bits.divideError", "math/bits.overflowError", "math/bits.deBruijn64tab"], apart := false, laid := [("math/bits.deBruijn64tab", laid_math_bits_deBruijn64tab)], narrowed := true }
def RealExactUptoSaid : Prop := realExactUptoRow.holds Tryd.pinned (OpenSpec.upto realExactSpec)

/-- 'clapboardlaw03.RealNearest', WHERE WHAT IT READS IS OF BULK AT MOST 1048576: true; the input reads as it did. -/
def realNearestUptoRow : OpenClaim := { program := "ytmkblfejoniccaadoor", sum := "5118b2045d0b5d7de408349ae89871886b1c70e36a97fd46b27c99c2151fe128", func := "clapboard/clapboardlaw03.RealNearest", spec := "realNearest", inPlace := ["math.Float64bits", "math/bits.Add64", "math.Float64frombits"], recurses := true, named := ["math/bits.divideError", "math/bits.overflowError", "math/bits.deBruijn64tab"], apart := false, laid := [("math/bits.deBruijn64tab", laid_math_bits_deBruijn64tab)], narrowed := true }
def RealNearestUptoSaid : Prop := realNearestUptoRow.holds Tryd.pinned (OpenSpec.upto realNearestSpec)

/-- 'clapboardlaw03.RealBack', WHERE WHAT IT READS IS OF BULK AT MOST 1048576: true; the input reads as it did. -/
def realBackUptoRow : OpenClaim := { program := "ytmkblfejoniccaadoor", sum := "5118b2045d0b5d7de408349ae89871886b1c70e36a97fd46b27c99c2151fe128", func := "clapboard/clapboardlaw03.RealBack", spec := "realBack", inPlace := ["math.Float64bits", "math/bits.Add64", "math.Float64frombits"], named := ["math/bits.divideError", "math/bits.overflowError", "math/bits.deBruijn64tab"], apart := false, laid := [("math/bits.deBruijn64tab", laid_math_bits_deBruijn64tab)], narrowed := true }
def RealBackUptoSaid : Prop := realBackUptoRow.holds Tryd.pinned (OpenSpec.upto realBackSpec)

/-- 'clapboardlaw03.RealGrid', WHERE WHAT IT READS IS OF BULK AT MOST 1048576: true; the input reads as it did. -/
def realGridUptoRow : OpenClaim := { program := "ytmkblfejoniccaadoor", sum := "5118b2045d0b5d7de408349ae89871886b1c70e36a97fd46b27c99c2151fe128", func := "clapboard/clapboardlaw03.RealGrid", spec := "realGrid", inPlace := ["math.Float64bits", "math/bits.Add64", "math.Float64frombits"], recurses := true, named := ["math/bits.divideError", "math/bits.overflowError", "math/bits.deBruijn64tab"], apart := false, laid := [("math/bits.deBruijn64tab", laid_math_bits_deBruijn64tab)], narrowed := true }
def RealGridUptoSaid : Prop := realGridUptoRow.holds Tryd.pinned (OpenSpec.upto realGridSpec)

/-- 'clapboardlaw03.RealMonotone', WHERE WHAT IT READS IS OF BULK AT MOST 1048576: true; the input reads as it did. -/
def realMonotoneUptoRow : OpenClaim := { program := "ytmkblfejoniccaadoor", sum := "5118b2045d0b5d7de408349ae89871886b1c70e36a97fd46b27c99c2151fe128", func := "clapboard/clapboardlaw03.RealMonotone", spec := "realMonotone", inPlace := ["math.Float64bits", "math/bits.Add64", "math.Float64frombits"], named := ["math/bits.divideError", "math/bits.overflowError", "math/bits.deBruijn64tab"], apart := false, laid := [("math/bits.deBruijn64tab", laid_math_bits_deBruijn64tab)], narrowed := true }
def RealMonotoneUptoSaid : Prop := realMonotoneUptoRow.holds Tryd.pinned (OpenSpec.upto realMonotoneSpec)

/-- 'clapboardlaw11.StyleComputes', WHERE WHAT IT READS IS OF BULK AT MOST 1048576: true; the input reads as it did. -/
def styleComputesUptoRow : OpenClaim := { program := "ytmkblfejoniccaadoor", sum := "5118b2045d0b5d7de408349ae89871886b1c70e36a97fd46b27c99c2151fe128", func := "clapboard/clapboardlaw11.StyleComputes", spec := "styleComputes", inPlace := ["math.Float64frombits", "math.Float64bits", "math/bits.Add64"], unfollowed := true, recurses := true, named := ["clapboard/style.words", "math/bits.divideError", "math/bits.overflowError", "clapboard/style.numbers"], apart := false, laid := [("clapboard/style.numbers", laid_clapboard_style_numbers), ("clapboard/style.words", laid_clapboard_style_words)], narrowed := true }
def StyleComputesUptoSaid : Prop := styleComputesUptoRow.holds Tryd.pinned (OpenSpec.upto styleComputesSpec)

/-- 'clapboardlaw11.StyleSets', WHERE WHAT IT READS IS OF BULK AT MOST 1048576: true; the input reads as it did. -/
def styleSetsUptoRow : OpenClaim := { program := "ytmkblfejoniccaadoor", sum := "5118b2045d0b5d7de408349ae89871886b1c70e36a97fd46b27c99c2151fe128", func := "clapboard/clapboardlaw11.StyleSets", spec := "styleSets", inPlace := ["math.Float64frombits", "math.Float64bits", "math/bits.Add64"], unfollowed := true, recurses := true, named := ["clapboard/style.words", "math/bits.divideError", "math/bits.overflowError", "clapboard/style.numbers"], apart := false, laid := [("clapboard/style.numbers", laid_clapboard_style_numbers), ("clapboard/style.words", laid_clapboard_style_words)], narrowed := true }
def StyleSetsUptoSaid : Prop := styleSetsUptoRow.holds Tryd.pinned (OpenSpec.upto styleSetsSpec)

/-- 'clapboardlaw11.StyleBorders', WHERE WHAT IT READS IS OF BULK AT MOST 1048576: true; the input reads as it did. -/
def styleBordersUptoRow : OpenClaim := { program := "ytmkblfejoniccaadoor", sum := "5118b2045d0b5d7de408349ae89871886b1c70e36a97fd46b27c99c2151fe128", func := "clapboard/clapboardlaw11.StyleBorders", spec := "styleBorders", inPlace := ["math.Float64frombits", "math.Float64bits", "math/bits.Add64"], unfollowed := true, recurses := true, named := ["clapboard/style.words", "math/bits.divideError", "math/bits.overflowError", "clapboard/style.numbers"], apart := false, laid := [("clapboard/style.numbers", laid_clapboard_style_numbers), ("clapboard/style.words", laid_clapboard_style_words)], narrowed := true }
def StyleBordersUptoSaid : Prop := styleBordersUptoRow.holds Tryd.pinned (OpenSpec.upto styleBordersSpec)

/-- 'clapboardlaw11.StyleHairlines', WHERE WHAT IT READS IS OF BULK AT MOST 1048576: true; the input reads as it did. -/
def styleHairlinesUptoRow : OpenClaim := { program := "ytmkblfejoniccaadoor", sum := "5118b2045d0b5d7de408349ae89871886b1c70e36a97fd46b27c99c2151fe128", func := "clapboard/clapboardlaw11.StyleHairlines", spec := "styleHairlines", inPlace := ["math.Float64frombits", "math.Float64bits", "math/bits.Add64"], unfollowed := true, recurses := true, named := ["clapboard/style.words", "math/bits.divideError", "math/bits.overflowError", "clapboard/style.numbers"], apart := false, laid := [("clapboard/style.numbers", laid_clapboard_style_numbers), ("clapboard/style.words", laid_clapboard_style_words)], narrowed := true }
def StyleHairlinesUptoSaid : Prop := styleHairlinesUptoRow.holds Tryd.pinned (OpenSpec.upto styleHairlinesSpec)

/-- 'clapboardlaw03.RealKinds', WHERE WHAT IT READS IS OF BULK AT MOST 1048576: true; the input reads as it did. -/
def realKindsUptoRow : OpenClaim := { program := "ytmkblfejoniccaadoor", sum := "5118b2045d0b5d7de408349ae89871886b1c70e36a97fd46b27c99c2151fe128", func := "clapboard/clapboardlaw03.RealKinds", spec := "realKinds", inPlace := ["math.Float64bits", "math/bits.Add64", "math.Float64frombits"], named := ["math/bits.divideError", "math/bits.overflowError", "math/bits.deBruijn64tab"], apart := false, laid := [("math/bits.deBruijn64tab", laid_math_bits_deBruijn64tab)], narrowed := true }
def RealKindsUptoSaid : Prop := realKindsUptoRow.holds Tryd.pinned (OpenSpec.upto realKindsSpec)

/-- 'clapboardlaw03.RealOrders', WHERE WHAT IT READS IS OF BULK AT MOST 1048576: true; the input reads as it did. -/
def realOrdersUptoRow : OpenClaim := { program := "ytmkblfejoniccaadoor", sum := "5118b2045d0b5d7de408349ae89871886b1c70e36a97fd46b27c99c2151fe128", func := "clapboard/clapboardlaw03.RealOrders", spec := "realOrders", inPlace := ["math.Float64bits", "math/bits.Add64", "math.Float64frombits"], named := ["math/bits.divideError", "math/bits.overflowError", "math/bits.deBruijn64tab"], apart := false, laid := [("math/bits.deBruijn64tab", laid_math_bits_deBruijn64tab)], narrowed := true }
def RealOrdersUptoSaid : Prop := realOrdersUptoRow.holds Tryd.pinned (OpenSpec.upto realOrdersSpec)

end Rows
end Go.Proofs.YtmkblfejoniccaaDoor
