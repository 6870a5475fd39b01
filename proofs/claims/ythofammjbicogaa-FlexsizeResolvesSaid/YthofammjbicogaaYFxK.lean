/-
  Package flexsize: what lasts from step to step, in plain numbers.
-/
import Derived.Test.YthofammjbicogaaYFxJ
namespace Go.Proofs.Ythofammjbicogaa
open Go.RowKit
set_option linter.unusedSimpArgs false
set_option linter.unusedVariables false

def FlWf (x : Fl) : Prop := FlMay x ∧ 0 ≤ x.it.base
theorem may_iff {x : Fx} (h : x.may = true) : 0 ≤ x.base ∧ (0 ≤ x.grow ∧ x.grow ≤ 4096000) ∧ 0 ≤ x.shrink ∧ x.shrink ≤ 4096000 := by
  unfold Fx.may at h
  simp only [Bool.and_eq_true, decide_eq_true_eq] at h
  omega
theorem newF_wf (grows : Bool) {x : Fx} (h : FxFit x) (hm : x.may = true) : FlWf (newF grows x) := by
  have := may_iff hm
  refine ⟨⟨newF_fit grows h, ?_⟩, this.1⟩
  unfold newF
  cases grows
  · exact this.2.2
  · exact this.2.1
theorem tgO_fit {x : Fl} {p s : Int} {q : Int × Int} (h : tgO x p s = some q) : LenB q.1 ∧ q.2 = s + (x.it.lim q.1 - q.1) := by
  unfold tgO at h
  cases h1 : addO x.it.base p with
  | none => rw [h1] at h; cases h
  | some t =>
    rw [h1, Option.bind_some] at h
    cases h2 : subO (x.it.lim t) t with
    | none => rw [h2] at h; cases h
    | some d =>
      rw [h2, Option.bind_some] at h
      cases h3 : addO s d with
      | none => rw [h3] at h; cases h
      | some u =>
        rw [h3] at h
        cases h
        refine ⟨addO_len h1, ?_⟩
        unfold subO at h2
        split at h2
        · cases h2
          unfold addO at h3
          split at h3
          · cases h3; rfl
          · cases h3
        · cases h2
/-- What the limits add to the targets of the items that are not fixed. -/
def dS : List Fl → Int
  | [] => 0
  | x :: l => (if x.fi then 0 else x.it.lim x.tg - x.tg) + dS l
/-- Two states of one item: only the target has turned, and that only if it is not fixed. -/
def Tg (x y : Fl) : Prop := y.it = x.it ∧ y.fa = x.fa ∧ y.fi = x.fi ∧ (x.fi = true → y.tg = x.tg) ∧ (x.fi = false → LenB y.tg)
inductive All2 {α : Type} (R : α → α → Prop) : List α → List α → Prop
  | nil : All2 R [] []
  | cons {x y : α} {l m : List α} : R x y → All2 R l m → All2 R (x :: l) (y :: m)
theorem tgsF_spec : ∀ {l : List Fl} {ps : List Int} {s t : Int} {m : List Fl}, tgsF l ps s = some (t, m) → All2 Tg l m ∧ t = s + dS m
  | [], ps, s, t, m, h => by cases h; exact ⟨.nil, by simp [dS]⟩
  | x :: l, ps, s, t, m, h => by
    rw [tgsF] at h
    cases hx : x.fi
    · rw [hx, if_neg (by simp)] at h
      cases h0 : tgO x (ps.headD 0) s with
      | none => rw [h0] at h; cases h
      | some r =>
        rw [h0, Option.bind_some] at h
        cases h1 : tgsF l ps.tail r.2 with
        | none => rw [h1] at h; cases h
        | some q =>
          obtain ⟨q1, q2⟩ := q
          rw [h1] at h
          cases h
          obtain ⟨i1, i2⟩ := tgsF_spec h1
          obtain ⟨i3, i4⟩ := tgO_fit h0
          refine ⟨.cons ⟨rfl, rfl, hx.symm, fun e => absurd (hx.symm.trans e) (by simp), fun _ => i3⟩ i1, ?_⟩
          show q1 = s + (x.it.lim r.1 - r.1 + dS q2)
          omega
    · rw [hx, if_pos rfl] at h
      cases h1 : tgsF l ps.tail s with
      | none => rw [h1] at h; cases h
      | some q =>
        obtain ⟨q1, q2⟩ := q
        rw [h1] at h
        cases h
        obtain ⟨i1, i2⟩ := tgsF_spec h1
        refine ⟨.cons ⟨rfl, rfl, rfl, fun _ => rfl, fun e => absurd (hx.symm.trans e) (by simp)⟩ i1, ?_⟩
        unfold dS
        rw [hx, if_pos rfl]
        show q1 = s + (0 + dS q2)
        omega
theorem targetsO_spec {grows : Bool} {room first t : Int} {st m : List Fl} (h : targetsO grows room first st = some (t, m)) : All2 Tg st m ∧ t = dS m := by
  unfold targetsO at h
  cases h1 : sharedO grows room first st with
  | none => rw [h1] at h; cases h
  | some q =>
    rw [h1, Option.bind_some] at h
    cases h2 : splO q.1 q.2 st.length with
    | none => rw [h2] at h; cases h
    | some ps =>
      rw [h2, Option.bind_some] at h
      obtain ⟨i1, i2⟩ := tgsF_spec h
      exact ⟨i1, by omega⟩
theorem Tg.wf {x y : Fl} (h : Tg x y) (hx : FlWf x) : FlWf y := by
  obtain ⟨h1, h2, h3, h4, h5⟩ := h
  obtain ⟨⟨⟨a1, a2, a3⟩, a4⟩, a5⟩ := hx
  refine ⟨⟨⟨by rw [h1]; exact a1, ?_, by rw [h2]; exact a3⟩, by rw [h2]; exact a4⟩, by rw [h1]; exact a5⟩
  cases e : x.fi
  · exact (h5 e).fit
  · rw [h4 e]; exact a2
theorem all2_wf : ∀ {l m : List Fl}, All2 Tg l m → (∀ x ∈ l, FlWf x) → ∀ y ∈ m, FlWf y
  | _, _, .nil, _ => fun y hy => by simp at hy
  | _, _, .cons h t, hw => fun y hy => by
    rcases List.mem_cons.1 hy with rfl | hy
    · exact h.wf (hw _ List.mem_cons_self)
    · exact all2_wf t (fun z hz => hw z (List.mem_cons_of_mem _ hz)) y hy
theorem stpF_wf (s : Int) {x : Fl} (h : FlWf x) : FlWf (stpF s x) := by
  unfold stpF
  split
  · exact h
  · split
    · exact ⟨⟨⟨h.1.1.1, lim_fit h.1.1.1 h.1.1.2.1, h.1.1.2.2⟩, h.1.2⟩, h.2⟩
    · exact h
theorem stepO_wf {grows : Bool} {room first : Int} {st m : List Fl} (h : stepO grows room first st = some m) (hw : ∀ x ∈ st, FlWf x) : (∀ y ∈ m, FlWf y) ∧ m.length = st.length := by
  unfold stepO at h
  cases h1 : targetsO grows room first st with
  | none => rw [h1] at h; cases h
  | some q =>
    obtain ⟨t, k⟩ := q
    rw [h1] at h
    cases h
    refine ⟨fun y hy => ?_, by rw [List.length_map]; exact targetsO_len h1⟩
    obtain ⟨x, hx, rfl⟩ := List.mem_map.1 hy
    exact stpF_wf t (all2_wf (targetsO_spec h1).1 hw x hx)
/-- How many items are not fixed. -/
def cntF : List Fl → Nat
  | [] => 0
  | x :: l => (if x.fi then 0 else 1) + cntF l
theorem all2_cnt : ∀ {l m : List Fl}, All2 Tg l m → cntF m = cntF l
  | _, _, .nil => rfl
  | _, _, .cons h t => by
    unfold cntF
    rw [h.2.2.1, all2_cnt t]
theorem stp_le (s : Int) : ∀ m : List Fl, cntF (m.map (stpF s)) ≤ cntF m
  | [] => Nat.le_refl _
  | x :: m => by
    have := stp_le s m
    rw [List.map_cons]
    unfold cntF
    have h : (if (stpF s x).fi then 0 else 1) ≤ (if x.fi then 0 else 1) := by
      unfold stpF
      cases hx : x.fi
      · simp only [Bool.false_eq_true, if_false]
        split <;> simp [hx]
      · simp [hx]
    omega
theorem stp_lt (s : Int) : ∀ (m : List Fl), (∃ x ∈ m, x.fi = false ∧ fixB s (x.it.lim x.tg) x.tg = true) → cntF (m.map (stpF s)) < cntF m
  | [], ⟨x, hx, _⟩ => by simp at hx
  | x :: m, ⟨z, hz, h1, h2⟩ => by
    rw [List.map_cons]
    unfold cntF
    rcases List.mem_cons.1 hz with rfl | hz
    · have := stp_le s m
      have e : stpF s z = { z with tg := z.it.lim z.tg, fi := true } := by unfold stpF; rw [h1, h2]; rfl
      rw [e, h1]
      simp only [if_true, Bool.false_eq_true, if_false]
      omega
    · have := stp_lt s m ⟨z, hz, h1, h2⟩
      have h : (if (stpF s x).fi then 0 else 1) ≤ (if x.fi then 0 else 1) := by
        unfold stpF
        cases hx : x.fi
        · simp only [Bool.false_eq_true, if_false]
          split <;> simp [hx]
        · simp [hx]
      omega
theorem dS_pos : ∀ (m : List Fl), 0 < dS m → ∃ x ∈ m, x.fi = false ∧ x.tg < x.it.lim x.tg
  | [], h => by simp [dS] at h
  | x :: m, h => by
    unfold dS at h
    by_cases hx : x.fi = false ∧ x.tg < x.it.lim x.tg
    · exact ⟨x, List.mem_cons_self, hx⟩
    · have : 0 < dS m := by
        cases e : x.fi
        · rw [e, if_neg (by simp)] at h
          have : ¬ x.tg < x.it.lim x.tg := fun q => hx ⟨e, q⟩
          omega
        · rw [e, if_pos rfl] at h; omega
      obtain ⟨z, hz, h1⟩ := dS_pos m this
      exact ⟨z, List.mem_cons_of_mem _ hz, h1⟩
theorem dS_neg : ∀ (m : List Fl), dS m < 0 → ∃ x ∈ m, x.fi = false ∧ x.it.lim x.tg < x.tg
  | [], h => by simp [dS] at h
  | x :: m, h => by
    unfold dS at h
    by_cases hx : x.fi = false ∧ x.it.lim x.tg < x.tg
    · exact ⟨x, List.mem_cons_self, hx⟩
    · have : dS m < 0 := by
        cases e : x.fi
        · rw [e, if_neg (by simp)] at h
          have : ¬ x.it.lim x.tg < x.tg := fun q => hx ⟨e, q⟩
          omega
        · rw [e, if_pos rfl] at h; omega
      obtain ⟨z, hz, h1⟩ := dS_neg m this
      exact ⟨z, List.mem_cons_of_mem _ hz, h1⟩
theorem not_done : ∀ {m : List Fl}, doneF m = false → ∃ x ∈ m, x.fi = false
  | [], h => by simp [doneF] at h
  | x :: m, h => by
    cases hx : x.fi
    · exact ⟨x, List.mem_cons_self, hx⟩
    · have : doneF m = false := by
        unfold doneF at h ⊢
        rw [List.all_cons, hx, Bool.true_and] at h
        exact h
      obtain ⟨z, hz, h1⟩ := not_done this
      exact ⟨z, List.mem_cons_of_mem _ hz, h1⟩
theorem done_cnt : ∀ {m : List Fl}, doneF m = false ↔ 0 < cntF m
  | [] => by simp [doneF, cntF]
  | x :: m => by
    unfold doneF cntF
    rw [List.all_cons]
    cases hx : x.fi
    · simp; omega
    · rw [Bool.true_and, if_pos rfl, Nat.zero_add]; exact done_cnt
theorem all2_done {l m : List Fl} (h : All2 Tg l m) : doneF m = doneF l := by
  have h1 := all2_cnt h
  have h2 := done_cnt (m := m)
  have h3 := done_cnt (m := l)
  rw [h1] at h2
  cases e : doneF l <;> cases e2 : doneF m
  · rfl
  · have := h3.1 e; have := h2.2 this; rw [e2] at this; cases this
  · have := h2.1 e2; have := h3.2 this; rw [e] at this; cases this
  · rfl
/-- Each step fixes an item more. -/
theorem stepO_lt {grows : Bool} {room first : Int} {st m : List Fl} (h : stepO grows room first st = some m) (hd : doneF st = false) : cntF m < cntF st := by
  unfold stepO at h
  cases h1 : targetsO grows room first st with
  | none => rw [h1] at h; cases h
  | some q =>
    obtain ⟨t, k⟩ := q
    rw [h1] at h
    cases h
    obtain ⟨i1, i2⟩ := targetsO_spec h1
    rw [← all2_cnt i1]
    show cntF (k.map (stpF t)) < _
    refine stp_lt t k ?_
    rcases Int.lt_trichotomy t 0 with h0 | h0 | h0
    · obtain ⟨x, hx, h2, h3⟩ := dS_neg k (by omega)
      refine ⟨x, hx, h2, ?_⟩
      unfold fixB
      rw [decide_eq_true h0, decide_eq_true h3]
      simp
    · have hk : doneF k = false := by rw [all2_done i1]; exact hd
      obtain ⟨x, hx, h2⟩ := not_done hk
      refine ⟨x, hx, h2, ?_⟩
      unfold fixB
      rw [h0]
      simp
    · obtain ⟨x, hx, h2, h3⟩ := dS_pos k (by omega)
      refine ⟨x, hx, h2, ?_⟩
      unfold fixB
      rw [decide_eq_true h0, decide_eq_true h3]
      simp
def loopF (grows : Bool) (room first : Int) : Nat → List Fl → Option (List Fl)
  | 0, st => some st
  | k + 1, st => if doneF st then some st else (stepO grows room first st).bind (loopF grows room first k)
/-- The sizes, if each may be. -/
def outF : List Fl → Option (List Int)
  | [] => some []
  | x :: l => if lenB x.tg then (outF l).map (x.tg :: ·) else none
def resO (avail : Int) (l : List Fx) : Option (List Int) :=
  if lenB avail then (laidO avail l).bind fun q => (loopF q.1 q.2.1 q.2.2.1 l.length q.2.2.2).bind outF else none
theorem cnt_len : ∀ l : List Fl, cntF l ≤ l.length
  | [] => Nat.le_refl _
  | x :: l => by have := cnt_len l; unfold cntF; rw [List.length_cons]; split <;> omega
theorem outF_app : ∀ (l : List Fl) (x : Fl), outF (l ++ [x]) = (outF l).bind fun ys => if lenB x.tg then some (ys ++ [x.tg]) else none
  | [], x => by simp [outF]
  | y :: l, x => by
    rw [List.cons_append, outF, outF_app l x, outF]
    cases lenB y.tg <;> simp
    cases outF l <;> simp
    all_goals (cases lenB x.tg <;> simp)
theorem outF_take {st : List Fl} {j : Nat} (hj : j < st.length) : outF (st.take (j + 1)) = (outF (st.take j)).bind fun ys => if lenB (st.getD j fl0).tg then some (ys ++ [(st.getD j fl0).tg]) else none := by
  rw [List.take_succ_eq_append_getElem hj, outF_app]
  simp [List.getD, hj]
theorem outF_none {st : List Fl} {j : Nat} (h : outF (st.take j) = none) : ∀ d, outF (st.take (j + d)) = none
  | 0 => h
  | d + 1 => by
    have h1 := outF_none h d
    by_cases hj : j + d < st.length
    · rw [show j + (d + 1) = j + d + 1 by omega, outF_take hj, h1]; rfl
    · rw [List.take_of_length_le (by omega)]
      rw [List.take_of_length_le (by omega)] at h1
      exact h1
end Go.Proofs.Ythofammjbicogaa
