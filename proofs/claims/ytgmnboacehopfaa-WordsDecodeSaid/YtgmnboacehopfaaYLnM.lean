/-
  Layer 13: items, segments, lines, in plain numbers.
-/
import Derived.Test.YtgmnboacehopfaaYFlG
import Derived.Test.YtgmnboacehopfaaZ7
namespace Go.Proofs.Ytgmnboacehopfaa
open Go.RowKit
set_option linter.unusedSimpArgs false
set_option linter.unusedVariables false

structure It where
  w : Int
  s : Int
  h : Int
  b : Bool
def it0 : It := ⟨0, 0, 0, false⟩
def itV (l : List It) : List Value := l.flatMap fun x => [.int .i64 x.w, .int .i64 x.s, .int .i64 x.h, .bool x.b]
theorem itV_app (a b : List It) : itV (a ++ b) = itV a ++ itV b := by simp [itV]
theorem itV_len : ∀ l : List It, (itV l).length = l.length * 4
  | [] => rfl
  | x :: l => by
    have := itV_len l
    unfold itV at this ⊢
    rw [List.flatMap_cons, List.length_append, this]
    simp; omega
theorem itV_get : ∀ (l : List It) (j : Nat), j < l.length → (itV l)[j * 4 + 0]? = some (.int .i64 ((l.getD j it0).w)) ∧ (itV l)[j * 4 + 1]? = some (.int .i64 ((l.getD j it0).s)) ∧ (itV l)[j * 4 + 2]? = some (.int .i64 ((l.getD j it0).h)) ∧ (itV l)[j * 4 + 3]? = some (.bool (l.getD j it0).b)
  | [], j, h => by simp at h
  | x :: l, 0, _ => ⟨rfl, rfl, rfl, rfl⟩
  | x :: l, j + 1, h => by
    have := itV_get l j (by simpa using h)
    have e : itV (x :: l) = [.int .i64 x.w, .int .i64 x.s, .int .i64 x.h, .bool x.b] ++ itV l := rfl
    rw [e]
    have g : ∀ k, ([.int .i64 x.w, .int .i64 x.s, .int .i64 x.h, .bool x.b] ++ itV l)[(j + 1) * 4 + k]? = (itV l)[j * 4 + k]? := fun k => by
      rw [List.getElem?_append_right (by simp; omega)]
      congr 1
      simp; omega
    rw [g, g, g, g]
    simpa [List.getD] using this
def ItFit (l : List It) : Prop := ∀ i, IFit (l.getD i it0).w ∧ IFit (l.getD i it0).s ∧ IFit (l.getD i it0).h
def subL (l : List It) (a b : Nat) : List It := (l.drop a).take (b - a)
theorem subL_get (l : List It) {a b i : Nat} (h : i < b - a) : (subL l a b).getD i it0 = l.getD (a + i) it0 := by
  unfold subL
  simp [List.getD, List.getElem?_take, h]
theorem subL_len (l : List It) {a b : Nat} (h : b ≤ l.length) : (subL l a b).length = b - a := by
  unfold subL
  simp; omega
theorem subL_fit {l : List It} (h : ItFit l) (a b : Nat) : ItFit (subL l a b) := fun i => by
  by_cases hi : i < b - a
  · rw [subL_get l hi]; exact h _
  · have e : (subL l a b).getD i it0 = it0 := by
      unfold subL
      simp [List.getD, List.getElem?_take, hi]
    rw [e]; simp [it0, IFit]
/-- The numbers that one item adds, of items as far as b. -/
def ptAt (l : List It) (b i : Nat) : List Int := if i + 1 < b then [(l.getD i it0).w, (l.getD i it0).s] else [(l.getD i it0).w]
def pts (l : List It) (a b : Nat) : Nat → List Int
  | 0 => []
  | j + 1 => pts l a b j ++ ptAt l b (a + j)
theorem pts_sub (l : List It) {a b : Nat} (hab : a ≤ b) : ∀ j, j ≤ b - a → pts (subL l a b) 0 (b - a) j = pts l a b j
  | 0, _ => rfl
  | j + 1, h => by
    unfold pts
    rw [pts_sub l hab j (by omega)]
    unfold ptAt
    rw [Nat.zero_add, subL_get l (by omega)]
    by_cases h1 : j + 1 < b - a
    · rw [if_pos h1, if_pos (by omega)]
    · rw [if_neg h1, if_neg (by omega)]
theorem pts_len (l : List It) (a b : Nat) : ∀ j, (pts l a b j).length ≤ 2 * j
  | 0 => by simp [pts]
  | j + 1 => by
    have := pts_len l a b j
    unfold pts ptAt
    rw [List.length_append]
    split <;> simp <;> omega
theorem pts_fit {l : List It} (h : ItFit l) (a b : Nat) : ∀ j, ∀ x ∈ pts l a b j, IFit x
  | 0, x, hx => by simp [pts] at hx
  | j + 1, x, hx => by
    unfold pts at hx
    rcases List.mem_append.1 hx with hx | hx
    · exact pts_fit h a b j x hx
    · have h0 := h (a + j)
      unfold ptAt at hx
      split at hx <;> simp at hx
      · rcases hx with rfl | rfl
        · exact h0.1
        · exact h0.2.1
      · subst hx; exact h0.1
theorem addP_app : ∀ (xs ys : List Int) (s : Int), addP s (xs ++ ys) = (addP s xs).bind fun t => addP t ys
  | [], ys, s => rfl
  | x :: xs, ys, s => by
    rw [List.cons_append]
    show (if lenB (s + x) then addP (s + x) (xs ++ ys) else none) = (if lenB (s + x) then addP (s + x) xs else none).bind fun t => addP t ys
    split
    · exact addP_app xs ys _
    · rfl
theorem addP_lenB : ∀ {xs : List Int} {s t : Int}, lenB s = true → addP s xs = some t → lenB t = true
  | [], s, t, hs, h => by unfold addP at h; obtain rfl := Option.some.inj h; exact hs
  | x :: xs, s, t, hs, h => by
    unfold addP at h
    split at h
    · exact addP_lenB (by assumption) h
    · cases h
/-- How wide items from one on are, as far as another one. -/
def wd (l : List It) (a b : Nat) : Option Int := addP 0 (pts l a b (b - a))
theorem wd_sub (l : List It) {a b : Nat} (hab : a ≤ b) : wd (subL l a b) 0 (b - a) = wd l a b := by
  unfold wd
  rw [Nat.sub_zero, pts_sub l hab _ (Nat.le_refl _)]
/-- A segment's end. -/
def segF (l : List It) : Nat → Nat → Nat
  | 0, _ => l.length
  | d + 1, i => if (l.getD i it0).b then i + 1 else segF l d (i + 1)
def seg (l : List It) (i : Nat) : Nat := segF l (l.length - i) i
theorem seg_brk {l : List It} {i : Nat} (hi : i < l.length) (h : (l.getD i it0).b = true) : seg l i = i + 1 := by
  unfold seg
  rw [show l.length - i = (l.length - (i + 1)) + 1 by omega, segF, if_pos h]
theorem seg_next {l : List It} {i : Nat} (hi : i < l.length) (h : (l.getD i it0).b = false) : seg l i = seg l (i + 1) := by
  unfold seg
  rw [show l.length - i = (l.length - (i + 1)) + 1 by omega, segF, if_neg (by rw [h]; decide)]
theorem seg_end {l : List It} {i : Nat} (hi : l.length ≤ i) : seg l i = l.length := by
  unfold seg
  rw [show l.length - i = 0 by omega]
  rfl
theorem seg_gt (l : List It) : ∀ d i, l.length - i = d → i < l.length → i < seg l i ∧ seg l i ≤ l.length
  | 0, i, hd, h => by omega
  | d + 1, i, hd, h => by
    cases hb : (l.getD i it0).b
    · rw [seg_next h hb]
      by_cases h1 : i + 1 < l.length
      · have := seg_gt l d (i + 1) (by omega) h1; omega
      · rw [seg_end (by omega)]; omega
    · rw [seg_brk h hb]; omega
theorem seg_up {l : List It} {i : Nat} (h : i < l.length) : i < seg l i ∧ seg l i ≤ l.length := seg_gt l _ i rfl h
/-- A line takes more segments. -/
def extF (l : List It) (avail : Int) (a : Nat) : Nat → Nat → Int → Option (Nat × Int)
  | 0, t, w => some (t, w)
  | d + 1, t, w => if t < l.length then (match wd l a (seg l t) with | none => none | some m => if avail < m then some (t, w) else extF l avail a d (seg l t) m) else some (t, w)
def hiF (l : List It) (low : Int) (a : Nat) : Nat → Int
  | 0 => low
  | j + 1 => max (hiF l low a j) (l.getD (a + j) it0).h
theorem hiF_sub (l : List It) (low : Int) (a b : Nat) : ∀ j, j ≤ b - a → hiF (subL l a b) low 0 j = hiF l low a j
  | 0, _ => rfl
  | j + 1, h => by
    unfold hiF
    rw [hiF_sub l low a b j (by omega), Nat.zero_add, subL_get l (by omega)]
structure Ln where
  f : Nat
  t : Nat
  w : Int
  h : Int
def lnV (l : List Ln) : List Value := l.flatMap fun x => [.int .i64 ((x.f : Int)), .int .i64 ((x.t : Int)), .int .i64 x.w, .int .i64 x.h]
theorem lnV_app (a b : List Ln) : lnV (a ++ b) = lnV a ++ lnV b := by simp [lnV]
def ln0 : Ln := ⟨0, 0, 0, 0⟩
theorem lnV_len : ∀ l : List Ln, (lnV l).length = l.length * 4
  | [] => rfl
  | x :: l => by
    have := lnV_len l
    unfold lnV at this ⊢
    rw [List.flatMap_cons, List.length_append, this]
    simp; omega
theorem lnV_get : ∀ (l : List Ln) (j : Nat), j < l.length → (lnV l)[j * 4 + 0]? = some (.int .i64 (((l.getD j ln0).f : Int))) ∧ (lnV l)[j * 4 + 1]? = some (.int .i64 (((l.getD j ln0).t : Int))) ∧ (lnV l)[j * 4 + 2]? = some (.int .i64 ((l.getD j ln0).w)) ∧ (lnV l)[j * 4 + 3]? = some (.int .i64 ((l.getD j ln0).h))
  | [], j, h => by simp at h
  | x :: l, 0, _ => ⟨rfl, rfl, rfl, rfl⟩
  | x :: l, j + 1, h => by
    have := lnV_get l j (by simpa using h)
    have e : lnV (x :: l) = [.int .i64 ((x.f : Int)), .int .i64 ((x.t : Int)), .int .i64 x.w, .int .i64 x.h] ++ lnV l := rfl
    rw [e]
    have g : ∀ k, ([.int .i64 ((x.f : Int)), .int .i64 ((x.t : Int)), .int .i64 x.w, .int .i64 x.h] ++ lnV l)[(j + 1) * 4 + k]? = (lnV l)[j * 4 + k]? := fun k => by
      rw [List.getElem?_append_right (by simp; omega)]
      congr 1
      simp; omega
    rw [g, g, g, g]
    simpa [List.getD] using this
/-- Lines of the items from one on. -/
def fillF (l : List It) (avail low : Int) : Nat → Nat → List Ln → Option (List Ln)
  | 0, _, out => some out
  | d + 1, a, out =>
    if a < l.length then
      (match wd l a (seg l a) with
       | none => none
       | some w =>
         (match extF l avail a l.length (seg l a) w with
          | none => none
          | some (t, w2) => fillF l avail low d t (out ++ [⟨a, t, w2, hiF l low a (t - a)⟩])))
    else some out
def fillR (l : List It) (avail low : Int) : Option (List Ln) := fillF l avail low l.length 0 []
def leastF (l : List It) : Nat → Nat → Int → Option Int
  | 0, _, out => some out
  | d + 1, a, out =>
    if a < l.length then
      (match wd l a (seg l a) with
       | none => none
       | some w => leastF l d (seg l a) (if a = 0 ∨ out < w then w else out))
    else some out
def leastR (l : List It) : Option Int := leastF l l.length 0 0
theorem ext_up {l : List It} {avail : Int} {a : Nat} : ∀ (d t : Nat) (w : Int) (t2 : Nat) (w2 : Int), t ≤ l.length → extF l avail a d t w = some (t2, w2) → t ≤ t2 ∧ t2 ≤ l.length
  | 0, t, w, t2, w2, ht, h => by
    unfold extF at h
    obtain ⟨rfl, rfl⟩ : t = t2 ∧ w = w2 := by simpa using h
    omega
  | d + 1, t, w, t2, w2, ht, h => by
    unfold extF at h
    split at h
    · rename_i hl
      have hs := seg_up hl
      split at h
      · cases h
      · split at h
        · obtain ⟨rfl, rfl⟩ : t = t2 ∧ w = w2 := by simpa using h
          omega
        · have := ext_up d _ _ t2 w2 hs.2 h
          omega
    · obtain ⟨rfl, rfl⟩ : t = t2 ∧ w = w2 := by simpa using h
      omega
/-- The number of an error, the number that is left. -/
def oE (r : Option Int) : Int := if r.isSome then 0 else 2
def oN (r : Option Int) : Int := r.getD 0
/-- The ends of the segments from a place on. -/
def endsF (l : List It) : Nat → Nat → List Int
  | 0, _ => []
  | d + 1, a => if a < l.length then (seg l a : Int) :: endsF l d (seg l a) else []
end Go.Proofs.Ytgmnboacehopfaa
