/-
  Package flexsize, each function by its contract. Seventh part: targets.
-/
import Derived.Test.YthofammjbicogaaYFxF
import Derived.Test.YthofammjbicogaaZ6
namespace Go.Proofs.Ythofammjbicogaa
open Go.RowKit
set_option linter.unusedSimpArgs false
set_option linter.unusedVariables false

def splO (t : Int) (ws : List Int) (n : Nat) : Option (List Int) := if lenB t && decide (pre ws n ≤ 4611686018427387904) then some (partsN t (pre ws n) ws n) else none
theorem shE_small {t : Int} {ws : List Int} {n : Nat} (hn : n ≤ 1024) (hp : Nonneg ws) : shE t ws n = if (splO t ws n).isSome then 0 else 2 := by
  have h1 : negB ws n = false := by
    unfold negB
    rw [decide_eq_false_iff_not]
    intro h
    obtain ⟨i, _, hi⟩ := (minK_neg ws (n - 1)).1 h.2
    have := hp i
    omega
  unfold shE splC allE splO
  rw [if_neg (by omega), h1]
  cases lenB t
  · rfl
  · by_cases h : pre ws n ≤ 4611686018427387904
    · rw [decide_eq_true h]; simp [h]
    · rw [decide_eq_false h]; simp [h]
theorem wgtO_bnd {grows : Bool} {x : Fl} (h : FlMay x) (hb : 0 ≤ x.it.base) {y : Int} (e : wgtO grows x = some y) : 0 ≤ y ∧ y ≤ 9223372036854775807 := by
  unfold wgtO at e
  split at e
  · cases e; omega
  · split at e
    · cases e; have := h.2; omega
    · split at e
      · rename_i hi
        have h1 := inB_yes hi
        cases e
        exact ⟨Int.mul_nonneg h.2.1 hb, h1.2⟩
      · cases e
theorem wgtsO_bnd {grows : Bool} : ∀ {st : List Fl} {ws : List Int}, (∀ x ∈ st, FlMay x ∧ 0 ≤ x.it.base) → wgtsO grows st = some ws → ws.length = st.length ∧ ∀ y ∈ ws, 0 ≤ y ∧ y ≤ 9223372036854775807
  | [], ws, h, e => by cases e; exact ⟨rfl, fun y hy => by simp at hy⟩
  | x :: st, ws, h, e => by
    rw [wgtsO] at e
    cases h1 : wgtO grows x with
    | none => rw [h1] at e; cases e
    | some y =>
      rw [h1, Option.bind_some] at e
      cases h2 : wgtsO grows st with
      | none => rw [h2] at e; cases e
      | some ys =>
        rw [h2] at e
        cases e
        obtain ⟨q1, q2⟩ := wgtsO_bnd (fun z hz => h z (List.mem_cons_of_mem _ hz)) h2
        refine ⟨by simp [q1], fun z hz => ?_⟩
        rcases List.mem_cons.1 hz with rfl | hz
        · exact wgtO_bnd (h x List.mem_cons_self).1 (h x List.mem_cons_self).2 h1
        · exact q2 z hz
theorem nonneg_mem {ws : List Int} (h : ∀ y ∈ ws, 0 ≤ y ∧ y ≤ 9223372036854775807) : Nonneg ws ∧ Fits ws := by
  have k : ∀ i, 0 ≤ ws.getD i 0 ∧ ws.getD i 0 ≤ 9223372036854775807 := fun i => by
    by_cases hi : i < ws.length
    · have e : ws.getD i 0 = ws[i] := by simp [List.getD, hi]
      rw [e]; exact h _ (List.getElem_mem hi)
    · have e : ws.getD i 0 = 0 := by simp only [List.getD]; rw [List.getElem?_eq_none (by omega)]; rfl
      rw [e]; omega
  exact ⟨fun i => (k i).1, fun i => ⟨by have := (k i).1; omega, (k i).2⟩⟩
/-- One item's target, and what its limits add. -/
def tgO (x : Fl) (p s : Int) : Option (Int × Int) := (addO x.it.base p).bind fun t => (subO (x.it.lim t) t).bind fun d => (addO s d).map fun s' => (t, s')
def tgsF : List Fl → List Int → Int → Option (Int × List Fl)
  | [], _, s => some (s, [])
  | x :: l, ps, s => if x.fi then (tgsF l ps.tail s).map fun r => (r.1, x :: r.2) else (tgO x (ps.headD 0) s).bind fun q => (tgsF l ps.tail q.2).map fun r => (r.1, { x with tg := q.1 } :: r.2)
theorem drop_head (ps : List Int) (j : Nat) : (ps.drop j).headD 0 = ps.getD j 0 ∧ (ps.drop j).tail = ps.drop (j + 1) := by
  by_cases h : j < ps.length
  · rw [List.drop_eq_getElem_cons h]
    simp [List.getD, h]
  · rw [List.drop_eq_nil_of_le (by omega), List.drop_eq_nil_of_le (by omega)]
    simp only [List.getD]
    rw [List.getElem?_eq_none (by omega)]
    simp
def targetsO (grows : Bool) (room first : Int) (st : List Fl) : Option (Int × List Fl) :=
  (sharedO grows room first st).bind fun q => (splO q.1 q.2 st.length).bind fun ps => tgsF st ps 0
def TgtAns (B b n : Nat) (ao : Option Addr) (cap : Nat) (bx : Array Value) (r : Option (Int × List Fl)) (w : World) (e : Ending) (w' : World) : Prop :=
  (match r with | some (s, st') => e = .returned (.int .i64 s) ∧ OwnW w' B 147 10 ao n cap (flV st') | none => e = .panicked (gave 2)) ∧ Blk w' b bx 145 ∧ Below B w w'
end Go.Proofs.Ythofammjbicogaa
