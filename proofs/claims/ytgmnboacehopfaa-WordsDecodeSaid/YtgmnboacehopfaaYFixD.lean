/-
  The functions of package fixed, each by its contract. Fourth part: Sub; sums with plain numbers; the reference's Add.
-/
import Derived.Test.YtgmnboacehopfaaZ6
import Derived.Deep.LoopGhost
namespace Go.Proofs.Ytgmnboacehopfaa
open Go.RowKit
set_option linter.unusedSimpArgs false
set_option linter.unusedVariables false

def lenE (x : Int) : Int := if lenB x then 0 else 2
def lenN (x : Int) : Int := if lenB x then x else 0
theorem lenN_no {x : Int} (h : lenE x ≠ 0) : lenN x = 0 := by
  unfold lenE at h
  unfold lenN
  cases hl : lenB x
  · rfl
  · rw [hl] at h; exact absurd rfl h
theorem fix_of_any (a : Int) (ha : IFit a) (w : World) : Calls Try.prog 55 #[.int .i64 a] w (Gives (lenN a) (lenE a) w) := by
  unfold Gives lenN lenE
  cases hl : lenB a
  · exact (fix_of_no a ha (fun h => by rw [(lenB_iff _).2 h] at hl; cases hl) w).mono fun e w' h => ⟨fun h => by simp at h, fun _ => h.1, by rw [h.2]; exact Below.refl _ _⟩
  · exact (fix_of a ha ((lenB_iff _).1 hl) w).mono fun e w' h => ⟨fun _ => h.1, fun h => by simp at h, by rw [h.2]; exact Below.refl _ _⟩
/-- The sum, each sum on the way a length. -/
def addP : Int → List Int → Option Int
  | s, [] => some s
  | s, x :: xs => if lenB (s + x) then addP (s + x) xs else none
theorem addS_eq : ∀ (xs : List Int) (s : Int), LenB s → addS s xs = addP s xs
  | [], s, _ => rfl
  | x :: xs, s, hs => by
    unfold addP
    by_cases h : LenB (s + clip x)
    · have e : clip x = x := by unfold LenB clip at *; omega
      rw [e] at h
      rw [addS_cons_yes (by rw [e]; exact h), e, if_pos ((lenB_iff _).2 h)]
      exact addS_eq xs _ h
    · have h2 : ¬ lenB (s + x) = true := fun h3 => h (by
        have h4 := (lenB_iff _).1 h3
        unfold LenB clip at *; omega)
      rw [addS_cons_no h, if_neg h2]
def addN (xs : List Int) : Int := (addP 0 xs).getD 0
def addE (xs : List Int) : Int := if (addP 0 xs).isSome then 0 else 2
theorem addN_no {xs : List Int} (h : addE xs ≠ 0) : addN xs = 0 := by
  unfold addE at h
  unfold addN
  cases hl : addP 0 xs
  · rfl
  · rw [hl] at h; exact absurd rfl h
def heldC (b : Nat) (n : Int) : Cl := .own (fun _ w => ∃ neg ao k cap, Two w b (.bool neg) (.slice ao k cap) ∧ IsBig w neg ao k cap n) (fun _ _ _ h hb => by
  obtain ⟨a, b, c, d, t, i⟩ := h; exact ⟨a, b, c, d, t.below hb, i.keep hb⟩)
def AddRel (w : World) (b4 : Nat) (k : Nat) (xs : List Int) (r : Option Int) (gk : Nat) (s5 : Value) (wr : World) : Prop :=
  ∃ (j : Nat) (s : Int) (neg : Bool) (ao : Option Addr) (kk cap : Nat), j ≤ k ∧ gk = k - j ∧ s5 = .int .i64 ((j : Int)) ∧ Two wr b4 (.bool neg) (.slice ao kk cap) ∧ IsBig wr neg ao kk cap s ∧ lenB s = true ∧ addP s (xs.drop j) = r ∧ Below w.heap.size w wr
theorem len_sz {s : Int} (h : lenB s = true) : BM.Sz s 3 := by
  have := (lenB_iff s).1 h
  have e : (65536 : Nat) ^ 3 = 281474976710656 := by decide
  unfold LenB at this; unfold BM.Sz; omega
/-- Told, by the number. -/
theorem told_n (neg : Bool) (ao : Option Addr) (k cap : Nat) (X : Int) (w : World) (h : IsBig w neg ao k cap X) {K : Nat} (hX : BM.Sz X K) (hK : K ≤ 100000) :
    Calls Try.prog 58 #[.agg #[.bool neg, .slice ao k cap]] w fun e w' => e = .returned (.tuple #[.int .i64 (lenN X), .int .i64 (lenE X)]) ∧ Below w.heap.size w w' := by
  have := h.le hX
  exact ref_told neg ao k cap X w h (by omega)
end Go.Proofs.Ytgmnboacehopfaa
