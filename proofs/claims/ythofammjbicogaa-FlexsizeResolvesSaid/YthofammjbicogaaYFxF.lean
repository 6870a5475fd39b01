/-
  Package flexsize, each function by its contract. Sixth part: what targets needs.
-/
import Derived.Test.YthofammjbicogaaYFxE
import Derived.Test.YthofammjbicogaaZ10
namespace Go.Proofs.Ythofammjbicogaa
open Go.RowKit
set_option linter.unusedSimpArgs false
set_option linter.unusedVariables false

theorem OwnW.put {w : World} {B : Nat} {T : TypeId} {s g k cap i : Nat} {vs : List Value} (h : OwnW w B T s (some ⟨g, 0, none⟩) k cap vs) (v : Value) : OwnW (w.setCell ⟨g, i, none⟩ v) B T s (some ⟨g, 0, none⟩) k cap (vs.set i v) := by
  rcases h.2 with ⟨e, _⟩ | ⟨g', c, cur, e, hb, hg, hl, hm, hs, ht⟩
  · simp at e
  · obtain ⟨rfl, rfl⟩ : g = g' ∧ cap = c := by simpa using e
    refine ⟨by rw [List.length_set]; exact h.1, .inr ⟨g, cap, cur.setIfInBounds i v, rfl, hb, ?_, hl, hm, by simp [hs], ?_⟩⟩
    · simp only [World.setCell, Array.getElem?_modify, if_true, hg]
      rfl
    · rw [Array.toList_setIfInBounds, List.take_set, ht]
theorem OwnW.free {w : World} {B : Nat} {T : TypeId} {s g k cap : Nat} {vs : List Value} (h : OwnW w B T s (some ⟨g, 0, none⟩) k cap vs) (i : Nat) : w.frozen? ⟨g, i, none⟩ = false := by
  rcases h.2 with ⟨e, _⟩ | ⟨g', c, cur, e, hb, hg, hl, hm, hs, ht⟩
  · simp at e
  · obtain ⟨rfl, rfl⟩ : g = g' ∧ cap = c := by simpa using e
    simp [World.frozen?, hg]
theorem OwnW.head {w : World} {B : Nat} {T : TypeId} {s k cap : Nat} {ao : Option Addr} {vs : List Value} (h : OwnW w B T s ao k cap vs) (hk : 0 < k) : ∃ g, ao = some ⟨g, 0, none⟩ ∧ B ≤ g ∧ g < w.heap.size := by
  rcases h.2 with ⟨_, e⟩ | ⟨g', c, cur, e, hb, hg, _⟩
  · omega
  · obtain ⟨rfl, _⟩ : ao = some ⟨g', 0, none⟩ ∧ cap = c := by simpa using e
    exact ⟨g', rfl, hb, (Array.getElem?_eq_some_iff.1 hg).1⟩
theorem flG_set {α : Type} (f : α → List Value) (s : Nat) (hs : ∀ x, (f x).length = s) (d y : α) (v : Value) (c : Nat) (hc : c < s) : ∀ (l : List α) (i : Nat), i < l.length → f y = (f (l.getD i d)).set c v → (l.set i y).flatMap f = (l.flatMap f).set (i * s + c) v
  | [], i, h, _ => by simp at h
  | x :: l, 0, h, e => by
    rw [List.set_cons_zero, List.flatMap_cons, List.flatMap_cons, e, Nat.zero_mul, Nat.zero_add, List.set_append_left _ _ (by rw [hs]; exact hc)]
    rfl
  | x :: l, i + 1, h, e => by
    rw [List.set_cons_succ, List.flatMap_cons, List.flatMap_cons, List.set_append_right _ _ (by rw [hs, Nat.succ_mul]; omega), hs, show (i + 1) * s + c - s = i * s + c by rw [Nat.succ_mul]; omega, flG_set f s hs d y v c hc l i (by simpa using h) e]
theorem flV_tg {st : List Fl} {j : Nat} (hj : j < st.length) (t : Int) : flV (st.set j { st.getD j fl0 with tg := t }) = (flV st).set (j * 10 + 7) (.int .i64 t) :=
  flG_set Fl.vals 10 (fun _ => rfl) fl0 _ _ 7 (by omega) st j hj rfl
theorem flV_fi {st : List Fl} {j : Nat} (hj : j < st.length) (b : Bool) : flV (st.set j { st.getD j fl0 with fi := b }) = (flV st).set (j * 10 + 9) (.bool b) :=
  flG_set Fl.vals 10 (fun _ => rfl) fl0 _ _ 9 (by omega) st j hj rfl
/-- Two numbers together, as Add has them. -/
def addO (a b : Int) : Option Int := if lenB a && lenB (a + b) then some (a + b) else none
def subO (a b : Int) : Option Int := if lenB (a - b) then some (a - b) else none
theorem gives_givo {n c : Int} {r : Option Int} {w : World} {e : Ending} {w' : World} (h : Gives n c w e w') (h1 : c = 0 → r = some n) (h2 : c ≠ 0 → c = 2 ∧ r = none) : GivO r w e w' := by
  by_cases hc : c = 0
  · rw [h1 hc]; exact ⟨h.1 hc, h.2.2⟩
  · obtain ⟨e1, e2⟩ := h2 hc
    rw [e2]
    have := h.2.1 hc
    rw [e1] at this
    exact ⟨this, h.2.2⟩
theorem fix_add_o (g : Nat) (a b : Int) (ha : IFit a) (hb : IFit b) (w : World) (h : Blk w g #[.int .i64 a, .int .i64 b] 2) :
    Calls Try.prog 57 #[.slice (some ⟨g, 0, none⟩) 2 2] w (GivO (addO a b) w) := by
  have ep : addP 0 [a, b] = addO a b := by
    show (if lenB (0 + a) then (if lenB (0 + a + b) then some (0 + a + b) else none) else none) = _
    rw [Int.zero_add]
    unfold addO
    cases lenB a <;> cases lenB (a + b) <;> rfl
  refine (fix_add_any g 0 2 2 [a, b] (by omega) w (ints_blk [a, b] rfl h rfl (by intro x hx; simp at hx; rcases hx with rfl | rfl; exact ha; exact hb))).mono fun e w' h => ?_
  refine gives_givo h (fun hc => ?_) (fun hc => ?_)
  · unfold addE at hc
    rw [← ep]
    unfold addN
    cases hp : addP 0 [a, b] with
    | none => rw [hp] at hc; simp at hc
    | some u => rfl
  · unfold addE at hc ⊢
    rw [← ep]
    cases hp : addP 0 [a, b] with
    | none => exact ⟨rfl, rfl⟩
    | some u => rw [hp] at hc; simp at hc
theorem fix_sub_o (a b : Int) (ha : IFit a) (hb : IFit b) (w : World) : Calls Try.prog 81 #[.int .i64 a, .int .i64 b] w fun e w' => (match subO a b with | some t => e = .returned (.int .i64 t) | none => e = .panicked (gave 2)) ∧ w' = w := by
  unfold subO
  cases h : lenB (a - b)
  · exact fix_sub_no a b ha hb (fun q => by rw [(lenB_iff _).2 q] at h; cases h) w
  · exact fix_sub_yes a b ha hb ((lenB_iff _).1 h) w
def Fx.lim (x : Fx) (n : Int) : Int := limN x.least x.most x.bound n
theorem lim_fit {x : Fx} (h : FxFit x) {n : Int} (hn : IFit n) : IFit (x.lim n) := by
  obtain ⟨⟨_, h1, h2⟩, _⟩ := h
  unfold IFit at *
  unfold Fx.lim limN
  split <;> omega
end Go.Proofs.Ythofammjbicogaa
