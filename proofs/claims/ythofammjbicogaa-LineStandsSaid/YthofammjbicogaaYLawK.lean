/-
  The statement FixedParts.
-/
import Derived.Test.YthofammjbicogaaZ5
namespace Go.Proofs.Ythofammjbicogaa
open Go.RowKit
set_option linter.unusedSimpArgs false
set_option linter.unusedVariables false

theorem partN_no {a n d : Int} (h : partE a n d ≠ 0) : partN a n d = 0 := by
  unfold partE at h
  unfold partN
  by_cases h0 : d = 0
  · simp [h0]
  · simp only [if_neg h0] at h ⊢
    cases hl : lenB (fq (a * n) d)
    · rfl
    · rw [hl] at h; exact absurd rfl h
theorem scaleN_no {n p q : Int} (h : scaleE n p q ≠ 0) : scaleN n p q = 0 := by
  unfold scaleE at h
  unfold scaleN
  cases hg : goodB p q
  · rfl
  · rw [hg] at h; exact partN_no h
/-- The number is there, or it was 0 before. -/
theorem try_put (F : Nat) (cap : Array Value) (b off : Nat) (n c : Int) (w : World) (cs : Array Value) (T : TypeId) (hb : Blk w b cs T) (hz : cs[off]? = some (.int .i64 0)) (hn : c ≠ 0 → n = 0) (hen : ∀ w, (callFunc F cap).run Try.prog w = .ok (.enter F cap) w)
    (h : ∀ W, Below w.heap.size w W → Calls Try.prog F cap W (Puts b off n c W)) :
    Calls Try.prog 16 #[.func (.func F) #[] cap] w fun e w' => e = .returned (.int .i64 c) ∧ But b w w' ∧ Blk w' b (cs.setIfInBounds off (.int .i64 n)) T := by
  refine (try_puts F cap b off n c w cs T hb hen h).mono fun e w' x => ⟨x.1, x.2.1, ?_⟩
  by_cases hc : c = 0
  · have := x.2.2; rw [if_pos hc] at this; exact this
  · have h2 := x.2.2
    rw [if_neg hc] at h2
    rw [hn hc]
    have : cs.setIfInBounds off (.int .i64 0) = cs := by
      apply Array.ext_getElem?
      intro i
      rw [Array.getElem?_setIfInBounds]
      split
      · rename_i e; subst e
        rw [hz]
        split
        · rfl
        · rename_i hs; exact absurd (Array.getElem?_eq_some_iff.1 hz).1 hs
      · rfl
    rw [this]; exact h2
section
variable (a n d p q : Int) (b1 b3 : Nat) (cs : Array Value) (W : World)
end
end Go.Proofs.Ythofammjbicogaa
