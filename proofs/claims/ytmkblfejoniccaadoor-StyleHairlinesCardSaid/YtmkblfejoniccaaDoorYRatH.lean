/-
  The functions of package ratio, each by its contract: Times of a ratio that may not be; Of whatever it is given.
-/
import Derived.Test.YtmkblfejoniccaaDoorYRatG
namespace Go.Proofs.YtmkblfejoniccaaDoor
open Go.RowKit
set_option linter.unusedSimpArgs false
set_option linter.unusedVariables false

/-- What Of answers, whatever it is given. -/
def ofB (n d : Int) : Bool := intB (numR n d) && intB (denR n d)
theorem ofB_iff {n d : Int} : ofB n d = true ↔ fitR n d := by
  unfold ofB fitR
  rw [Bool.and_eq_true, intB_iff', intB_iff']
def ofN (n d : Int) : Int := if d = 0 then 0 else if ofB n d then numR n d else 0
def ofD (n d : Int) : Int := if d = 0 then 0 else if ofB n d then denR n d else 0
def ofE (n d : Int) : Int := if d = 0 then 3 else if ofB n d then 0 else 2
theorem rat_of_all (n d : Int) (hn : IFit n) (hd : IFit d) (w : World) :
    Calls Tryd.prog 19 #[.int .i64 n, .int .i64 d] w fun e w' => e = .returned (.tuple #[.agg #[.int .i64 (ofN n d), .int .i64 (ofD n d)], .int .i64 (ofE n d)]) ∧ Below w.heap.size w w' := by
  unfold ofN ofD ofE
  by_cases h0 : d = 0
  · subst h0
    simp only [if_true]
    exact rat_of_zero n w
  · simp only [if_neg h0]
    refine (rat_of_any n d hn hd h0 w).mono fun e w' h => ?_
    by_cases hf : ofB n d = true
    · simp only [if_pos hf]
      exact ⟨h.1 (ofB_iff.1 hf), h.2.2⟩
    · simp only [if_neg hf]
      exact ⟨h.2.1 (fun x => hf (ofB_iff.2 x)), h.2.2⟩
theorem ofE_zero {n d : Int} (h : ofE n d = 0) : IFit (ofN n d) ∧ IFit (ofD n d) ∧ goodB (ofN n d) (ofD n d) = true := by
  unfold ofE at h
  by_cases h0 : d = 0
  · rw [if_pos h0] at h; cases h
  · rw [if_neg h0] at h
    by_cases hf : ofB n d = true
    · unfold ofN ofD
      simp only [if_neg h0, if_pos hf]
      have := ofB_iff.1 hf
      exact ⟨this.1, this.2, good_low n d h0⟩
    · rw [if_neg hf] at h; cases h
end Go.Proofs.YtmkblfejoniccaaDoor
