/-
  Package sizing: Of, Limits.Of, Fit; and what the laws of layer 14 begin with; SizingFits.
-/
import Derived.Test.YthofammjbicogaaYSizA
namespace Go.Proofs.Ythofammjbicogaa
open Go.RowKit
set_option linter.unusedSimpArgs false
set_option linter.unusedVariables false

/-- The size that a value tells: it, whether it is told, the error. -/
def ofR (kind N base : Int) (known : Bool) (p q : Int) (whole : Bool) (edges : Int) : Int × Bool × Int :=
  if kind = 4 ∧ known = false then (0, false, 0)
  else if inE kind N base p q ≠ 0 then (0, false, inE kind N base p q)
  else if inOk kind = false then (0, false, 0)
  else if whole = false then (max (inN kind N base p q) 0, true, 0)
  else if lenE (inN kind N base p q - edges) ≠ 0 then (0, false, lenE (inN kind N base p q - edges))
  else (max (inN kind N base p q - edges) 0, true, 0)
theorem partN_len {a n d : Int} : LenB (partN a n d) := by
  unfold partN
  by_cases h0 : d = 0
  · simp [h0]; unfold LenB; omega
  · simp only [if_neg h0]
    cases hl : lenB (fq (a * n) d)
    · simp; unfold LenB; omega
    · simp; exact (lenB_iff _).1 hl
theorem scaleN_len {n p q : Int} : LenB (scaleN n p q) := by
  unfold scaleN
  split
  · exact partN_len
  · unfold LenB; omega
theorem inN_len {kind N base p q : Int} : LenB (inN kind N base p q) := by
  unfold inN
  split
  · exact scaleN_len
  · split
    · exact partN_len
    · unfold LenB; omega
section
variable (kind N base : Int) (known : Bool) (p q siz edges : Int) (w : World)
end
def limN (least most : Int) (bound : Bool) (n : Int) : Int := max (if bound then min n most else n) least
set_option maxRecDepth 100000 in
set_option maxHeartbeats 1600000 in
theorem lim_of (least most : Int) (bound : Bool) (n : Int) (w : World) :
    Calls Try.prog 46 #[.agg #[.int .i64 least, .int .i64 most, .bool bound], .int .i64 n] w fun e w' => e = .returned (.int .i64 (limN least most bound n)) ∧ Below w.heap.size w w' := by
  have t1 := Blk.new w #[.int .i64 least, .int .i64 most, .bool bound] 83 _ rfl
  have hB : Below w.heap.size w (w.alloc (.cells #[.int .i64 least, .int .i64 most, .bool bound] 83)) := (by repeat' (first | (with_reducible exact Below.refl _ _) | (with_reducible assumption) | (with_reducible refine below_alloc ?_ _ ?_) | (with_reducible refine below_set _ ?_ ?_) | (with_reducible refine Below.drew ?_) | (with_reducible refine below_dN ?_ _) | (apply below_thenA; assumption) | omega | (simp; done) | (simp; omega) | (simp [*]; done)))
  have c0 := t1.cell 0 _ rfl
  have c1 := t1.cell 1 _ rfl
  have c2 := t1.cell 2 _ rfl
  cases bound
  all_goals
    go_enter Try.func46, Try.ntmps46
    go_wp2_with fail
    go_ret
    exact ⟨rfl, hB⟩
end Go.Proofs.Ythofammjbicogaa
