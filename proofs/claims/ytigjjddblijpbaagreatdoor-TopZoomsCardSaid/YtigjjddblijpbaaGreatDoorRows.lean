/-
  NARROWER THAN 'FOR EVERY INPUT', by the rows' own cells (each row's printed sentence says how): TopZooms: laid.
  DERIVED. THE GIVEN ROWS OF THIS SEAT. 1 by the template 'for every input the law returns true; each argument reads behind the call as it read before'; 0 by the template 'total and deterministic' (their statements: YtigjjddblijpbaaGreatDoorTotals.lean).
  GIVEN WITH THE SEED: the statements are not yours to turn. If you find one false, say at which input.
  Laid BY PROGRAM, IN A SANDBOX (cutbox-rows.mjs): the forced cells as the released guide's own fill.sh prints them over the translation 1e889830dd1036c4… (all of the seat's roots in one cut). By AI agents, Wed Nov 11 2026. No macro, syntax, notation, axiom, sorry.
-/
import Derived.Test.YtigjjddblijpbaaGreatDoorChecked
import GoSem.Claim
import GoSem.ClaimJoined
import GoSem.ClaimMapViews
import Derived.JoinedTies
import Derived.KernelRfl
namespace Go.Proofs.YtigjjddblijpbaaGreatDoor
/- THE CELL 'sum', in the pinned program and in every row, IS THE sha256 OF THE DUMP (.gsa) THAT YtigjjddblijpbaaGreatDoorProg.lean LOADS. Nothing in Lean hashes anything: it is a label: what it is worth is what the hold of that sum in a sandbox is worth. -/
noncomputable def Tryz.pinned : Pinned := { name := "ytigjjddblijpbaagreatdoor", sum := "1e889830dd1036c473598b55b1e74b937d62500f0f2c9bfd83ab5b51709d23bc", checked := Tryz.checked }
namespace Rows
def none {H : Type} : Left H := { results := [], args := [] }

/- WHAT THE LISTED PACKAGE-LEVEL VARIABLES READ AS WHEN THE CALL BEGINS. Each datum BY PROGRAM (the guide's laid-datum.mjs) off the statement by which the dump's own 'gosem.cut.vars' lays the variable. In a bare row this is a premise. The card (YtigjjddblijpbaaGreatDoorCards.lean) ties it to the program's text. -/
def laid_clapboard_style_numbers {H : Type} : DataW H := .agg [.agg [.lit (.int .i64 64), .lit (.int .i64 0), .lit (.int .i64 1073741824)], .agg [.lit (.int .i64 64), .lit (.int .i64 0), .lit (.int .i64 1073741824)], .agg [.lit (.int .i64 64), .lit (.int .i64 0), .lit (.int .i64 1073741824)], .agg [.lit (.int .i64 64), .lit (.int .i64 0), .lit (.int .i64 1073741824)], .agg [.lit (.int .i64 1), .lit (.int .i64 (-1000)), .lit (.int .i64 1000)], .agg [.lit (.int .i64 4096), .lit (.int .i64 0), .lit (.int .i64 4096000)], .agg [.lit (.int .i64 4096), .lit (.int .i64 0), .lit (.int .i64 4096000)], .agg [.lit (.int .i64 64), .lit (.int .i64 0), .lit (.int .i64 1073741824)], .agg [.lit (.int .i64 64), .lit (.int .i64 0), .lit (.int .i64 1073741824)], .agg [.lit (.int .i64 64), .lit (.int .i64 0), .lit (.int .i64 1073741824)]]
def laid_clapboard_style_words {H : Type} : DataW H := .agg [.agg [.lit (.int .i64 1), .lit (.int .i64 1), .lit (.int .i64 4)], .agg [.lit (.int .i64 1), .lit (.int .i64 1), .lit (.int .i64 3)], .agg [.lit (.int .i64 1), .lit (.int .i64 1), .lit (.int .i64 3)], .agg [.lit (.int .i64 1), .lit (.int .i64 1), .lit (.int .i64 2)], .agg [.lit (.int .i64 1), .lit (.int .i64 (-1000)), .lit (.int .i64 1000)], .agg [.lit (.int .i64 1), .lit (.int .i64 1), .lit (.int .i64 4)], .agg [.lit (.int .i64 1), .lit (.int .i64 1), .lit (.int .i64 3)], .agg [.lit (.int .i64 1), .lit (.int .i64 1), .lit (.int .i64 6)], .agg [.lit (.int .i64 1), .lit (.int .i64 1), .lit (.int .i64 4)], .agg [.lit (.int .i64 1), .lit (.int .i64 0), .lit (.int .i64 4)], .agg [.lit (.int .i64 1), .lit (.int .i64 1), .lit (.int .i64 7)], .agg [.lit (.int .i64 1), .lit (.int .i64 1), .lit (.int .i64 4)]]

/-- 'clapboardtop.TopZooms': WHATEVER THE INPUT: true; the input reads as it did. -/
def topZoomsSpec : ChangeSpec := { name := "topZooms", fn := fun _ => fun
  | [d] => { results := [.lit (.bool true)], args := [d] }
  | _ => none }
def topZoomsRow : OpenClaim := { program := "ytigjjddblijpbaagreatdoor", sum := "1e889830dd1036c473598b55b1e74b937d62500f0f2c9bfd83ab5b51709d23bc", func := "clapboard/clapboardtop.TopZooms", spec := "topZooms", inPlace := ["math.Float64frombits", "math.Float64bits", "math/bits.Add64", "maps.clone", "slices.overlaps[int]"], unfollowed := true, recurses := true, named := ["clapboard/style.words", "math/bits.divideError", "math/bits.overflowError", "clapboard/style.numbers"], plainKeys := false, apart := false, laid := [("clapboard/style.numbers", laid_clapboard_style_numbers), ("clapboard/style.words", laid_clapboard_style_words)] }
def TopZoomsSaid : Prop := topZoomsRow.holds Tryz.pinned (OpenSpec.ofChange topZoomsSpec)

/-- ITS FALSE NEIGHBOUR: 'it returns false'. Refute it at one input. -/
def topZoomsWrong : ChangeSpec := { name := "topZooms", fn := fun _ => fun
  | [d] => { results := [.lit (.bool false)], args := [d] }
  | _ => none }
def TopZoomsWrongFalsely : Prop := topZoomsRow.holds Tryz.pinned (OpenSpec.ofChange topZoomsWrong)

/- THE SECOND FORM. 'bulk': how many values and letters a reading holds, each counted each time it is reached (what is shared counts as often as it is met; a slice's spare places count too). A statement '..UptoSaid' is the law's where the arguments, and the package variables that the reading takes, are together of bulk at most 1048576: NARROWER than '..Said'. Prove '..Said' where nothing that the law and all that it calls make is longer than what came in: it says more and counts as full. Else prove '..UptoSaid'. A law counts once. -/
mutual
def uptoBulk {H : Type} : DataW H → Nat
  | .lit (.string bytes) => bytes.length + 1
  | .lit _ => 1
  | .nil => 1
  | .ptr d => uptoBulk d + 1
  | .slice elems spare => uptoBulkAll elems + uptoBulkAll spare + 1
  | .agg parts => uptoBulkAll parts + 1
  | .iface _ d => uptoBulk d + 1
  | .map entries => uptoBulkEntries entries + 1
  | .held _ => 1
def uptoBulkAll {H : Type} : List (DataW H) → Nat
  | [] => 0
  | d :: r => uptoBulk d + uptoBulkAll r
def uptoBulkEntries {H : Type} : List (Lit × DataW H) → Nat
  | [] => 0
  | x :: r => uptoBulkEntry x + uptoBulkEntries r
def uptoBulkEntry {H : Type} : Lit × DataW H → Nat
  | (.string bytes, d) => bytes.length + uptoBulk d + 1
  | (_, d) => uptoBulk d + 1
 end
def uptoSmall : (H : Type) → List (DataW H) → Bool := fun _ ds => decide (uptoBulkAll ds ≤ 1048576)
def OpenSpec.upto (s : _root_.Go.ChangeSpec) : _root_.Go.OpenSpec := { _root_.Go.OpenSpec.ofChange s with cond := some uptoSmall }

/-- 'clapboardtop.TopZooms', WHERE WHAT IT READS IS OF BULK AT MOST 1048576: true; the input reads as it did. -/
def topZoomsUptoRow : OpenClaim := { program := "ytigjjddblijpbaagreatdoor", sum := "1e889830dd1036c473598b55b1e74b937d62500f0f2c9bfd83ab5b51709d23bc", func := "clapboard/clapboardtop.TopZooms", spec := "topZooms", inPlace := ["math.Float64frombits", "math.Float64bits", "math/bits.Add64", "maps.clone", "slices.overlaps[int]"], unfollowed := true, recurses := true, named := ["clapboard/style.words", "math/bits.divideError", "math/bits.overflowError", "clapboard/style.numbers"], plainKeys := false, apart := false, laid := [("clapboard/style.numbers", laid_clapboard_style_numbers), ("clapboard/style.words", laid_clapboard_style_words)], narrowed := true }
def TopZoomsUptoSaid : Prop := topZoomsUptoRow.holds Tryz.pinned (OpenSpec.upto topZoomsSpec)

end Rows
end Go.Proofs.YtigjjddblijpbaaGreatDoor
