/-
  Packages value (In) and sizing, each function by its contract, and the references'.
-/
import Derived.Test.YthofammjbicogaaZ6
import Derived.Test.YthofammjbicogaaZ5
namespace Go.Proofs.Ythofammjbicogaa
open Go.RowKit
set_option linter.unusedSimpArgs false
set_option linter.unusedVariables false

/-- A number and whether it is one, or a giving up. -/
def Gives2 (n : Int) (ok : Bool) (c : Int) (w : World) (e : Ending) (w' : World) : Prop := (c = 0 → e = .returned (.tuple #[.int .i64 n, .bool ok])) ∧ (c ≠ 0 → e = .panicked (gave c)) ∧ Below w.heap.size w w'
theorem Gives2.ret {n : Int} {ok : Bool} {c : Int} {w w' : World} (hc : c = 0) (hb : Below w.heap.size w w') : Gives2 n ok c w (.returned (.tuple #[.int .i64 n, .bool ok])) w' := ⟨fun _ => rfl, fun h => absurd hc h, hb⟩
theorem Gives2.pan {n : Int} {ok : Bool} {c : Int} {w w' : World} (hc : c ≠ 0) (hb : Below w.heap.size w w') : Gives2 n ok c w (.panicked (gave c)) w' := ⟨fun h => absurd h hc, fun _ => rfl, hb⟩
theorem Gives.ret {n c : Int} {w w' : World} (hc : c = 0) (hb : Below w.heap.size w w') : Gives n c w (.returned (.int .i64 n)) w' := ⟨fun _ => rfl, fun h => absurd hc h, hb⟩
theorem Gives.pan {n c : Int} {w w' : World} (hc : c ≠ 0) (hb : Below w.heap.size w w') : Gives n c w (.panicked (gave c)) w' := ⟨fun h => absurd h hc, fun _ => rfl, hb⟩
def inE (kind N base p q : Int) : Int := if kind = 3 then scaleE N p q else if kind = 4 then partE base N 6400 else 0
def inN (kind N base p q : Int) : Int := if kind = 3 then scaleN N p q else if kind = 4 then partN base N 6400 else 0
def inOk (kind : Int) : Bool := decide (kind = 3) || decide (kind = 4)
/-- The reference's In: the length, whether it is one, the error. -/
def inR (kind N base p q : Int) : Int × Bool × Int :=
  if kind = 3 then (scaleN N p q, decide (scaleE N p q = 0), scaleE N p q) else if kind = 4 then (partN base N 6400, decide (partE base N 6400 = 0), partE base N 6400) else (0, false, 0)
end Go.Proofs.Ythofammjbicogaa
