/-
  Flex sizes: what holds from step to step, growing and shrinking, in plain numbers.
-/
import Derived.Test.YthofammjbicogaaYFxK
namespace Go.Proofs.Ythofammjbicogaa
open Go.RowKit
set_option linter.unusedSimpArgs false
set_option linter.unusedVariables false

def sm {α : Type} (f : α → Int) : List α → Int
  | [] => 0
  | x :: l => f x + sm f l
theorem sm_le {α : Type} {f g : α → Int} : ∀ {l : List α}, (∀ x ∈ l, f x ≤ g x) → sm f l ≤ sm g l
  | [], _ => Int.le_refl _
  | x :: l, h => by
    have h1 := h x List.mem_cons_self
    have h2 := sm_le (l := l) (fun y hy => h y (List.mem_cons_of_mem _ hy))
    unfold sm
    omega
theorem sm_map {α β : Type} (f : β → Int) (g : α → β) : ∀ l : List α, sm f (l.map g) = sm (fun x => f (g x)) l
  | [] => rfl
  | x :: l => by rw [List.map_cons]; unfold sm; rw [sm_map f g l]
theorem sm_add {α : Type} (f g : α → Int) : ∀ l : List α, sm (fun x => f x + g x) l = sm f l + sm g l
  | [] => rfl
  | x :: l => by unfold sm; rw [sm_add f g l]; omega
theorem all2_sm {R : Fl → Fl → Prop} {f g : Fl → Int} (hR : ∀ x y, R x y → f x = g y) : ∀ {l m : List Fl}, All2 R l m → sm f l = sm g m
  | _, _, .nil => rfl
  | _, _, .cons h t => by unfold sm; rw [hR _ _ h, all2_sm hR t]
theorem all2_mem {R : Fl → Fl → Prop} : ∀ {l m : List Fl}, All2 R l m → ∀ y ∈ m, ∃ x ∈ l, R x y
  | _, _, .nil => fun y hy => by simp at hy
  | _, _, .cons h t => fun y hy => by
    rcases List.mem_cons.1 hy with rfl | hy
    · exact ⟨_, List.mem_cons_self, h⟩
    · obtain ⟨x, hx, hr⟩ := all2_mem t y hy
      exact ⟨x, List.mem_cons_of_mem _ hx, hr⟩
theorem freeF_val : ∀ {st : List Fl} {o t : Int}, freeF o st = some t → t = o - sm Fl.now st
  | [], o, t, h => by cases h; simp [sm]
  | x :: st, o, t, h => by
    rw [freeF] at h
    split at h
    · have := freeF_val h
      unfold sm
      omega
    · cases h
theorem pre_hd (ps : List Int) : ∀ n, pre ps (n + 1) = ps.headD 0 + pre ps.tail n
  | 0 => by cases ps <;> simp [pre, List.getD]
  | n + 1 => by
    show pre ps (n + 1) + ps.getD (n + 1) 0 = ps.headD 0 + (pre ps.tail n + ps.tail.getD n 0)
    rw [pre_hd ps n]
    have e : ps.getD (n + 1) 0 = ps.tail.getD n 0 := by cases ps <;> simp [List.getD]
    rw [e]
    omega
def tgU (x : Fl) : Int := if x.fi then 0 else x.tg
def baU (x : Fl) : Int := if x.fi then 0 else x.it.base
def sumU : List Fl → List Int → Int
  | [], _ => 0
  | x :: l, ps => (if x.fi then 0 else ps.headD 0) + sumU l ps.tail
/-- The targets by the parts. -/
theorem tgsF_sum : ∀ {l : List Fl} {ps : List Int} {s t : Int} {m : List Fl}, tgsF l ps s = some (t, m) → sm tgU m = sm baU l + sumU l ps
  | [], ps, s, t, m, h => by cases h; rfl
  | x :: l, ps, s, t, m, h => by
    rw [tgsF] at h
    cases hx : x.fi
    · rw [hx, if_neg (by simp)] at h
      cases h0 : tgO x (ps.headD 0) s with
      | none => rw [h0] at h; cases h
      | some r =>
        rw [h0, Option.bind_some] at h
        cases h1 : tgsF l ps.tail r.2 with
        | none => rw [h1] at h; cases h
        | some q =>
          obtain ⟨q1, q2⟩ := q
          rw [h1] at h
          cases h
          have i := tgsF_sum h1
          have e : r.1 = x.it.base + ps.headD 0 := by
            unfold tgO at h0
            cases h2 : addO x.it.base (ps.headD 0) with
            | none => rw [h2] at h0; cases h0
            | some t =>
              rw [h2, Option.bind_some] at h0
              cases h3 : subO (x.it.lim t) t with
              | none => rw [h3] at h0; cases h0
              | some d =>
                rw [h3, Option.bind_some] at h0
                cases h4 : addO s d with
                | none => rw [h4] at h0; cases h0
                | some u =>
                  rw [h4] at h0
                  cases h0
                  unfold addO at h2
                  split at h2
                  · cases h2; rfl
                  · cases h2
          show r.1 + sm tgU q2 = ((if x.fi then 0 else x.it.base) + sm baU l) + ((if x.fi then 0 else ps.headD 0) + sumU l ps.tail)
          rw [hx, i, e]
          simp only [Bool.false_eq_true, if_false]
          omega
    · rw [hx, if_pos rfl] at h
      cases h1 : tgsF l ps.tail s with
      | none => rw [h1] at h; cases h
      | some q =>
        obtain ⟨q1, q2⟩ := q
        rw [h1] at h
        cases h
        have i := tgsF_sum h1
        show (if x.fi then 0 else x.tg) + sm tgU q2 = ((if x.fi then 0 else x.it.base) + sm baU l) + ((if x.fi then 0 else ps.headD 0) + sumU l ps.tail)
        rw [hx, i]
        simp only [if_true]
        omega
theorem tgO_at {x : Fl} {p s : Int} {r : Int × Int} (h0 : tgO x p s = some r) : r.1 = x.it.base + p := by
  unfold tgO at h0
  cases h2 : addO x.it.base p with
  | none => rw [h2] at h0; cases h0
  | some t =>
    rw [h2, Option.bind_some] at h0
    cases h3 : subO (x.it.lim t) t with
    | none => rw [h3] at h0; cases h0
    | some d =>
      rw [h3, Option.bind_some] at h0
      cases h4 : addO s d with
      | none => rw [h4] at h0; cases h0
      | some u =>
        rw [h4] at h0
        cases h0
        unfold addO at h2
        split at h2
        · cases h2; rfl
        · cases h2
theorem head_in {ps : List Int} {P : Int → Prop} (h0 : P 0) (h : ∀ p ∈ ps, P p) : P (ps.headD 0) ∧ ∀ p ∈ ps.tail, P p := by
  cases ps with
  | nil => exact ⟨h0, fun p hp => by simp at hp⟩
  | cons a l => exact ⟨h a List.mem_cons_self, fun p hp => h p (List.mem_cons_of_mem _ hp)⟩
/-- Each target that is not fixed is its base and a part. -/
theorem tgsF_at {P : Int → Prop} (h0 : P 0) : ∀ {l : List Fl} {ps : List Int} {s t : Int} {m : List Fl}, (∀ p ∈ ps, P p) → tgsF l ps s = some (t, m) → ∀ y ∈ m, y.fi = false → P (y.tg - y.it.base)
  | [], ps, s, t, m, _, h => fun y hy => by cases h; simp at hy
  | x :: l, ps, s, t, m, hp, h => fun y hy hyf => by
    obtain ⟨p1, p2⟩ := head_in h0 hp
    rw [tgsF] at h
    cases hx : x.fi
    · rw [hx, if_neg (by simp)] at h
      cases h2 : tgO x (ps.headD 0) s with
      | none => rw [h2] at h; cases h
      | some r =>
        rw [h2, Option.bind_some] at h
        cases h1 : tgsF l ps.tail r.2 with
        | none => rw [h1] at h; cases h
        | some q =>
          obtain ⟨q1, q2⟩ := q
          rw [h1] at h
          cases h
          rcases List.mem_cons.1 hy with rfl | hy
          · have e := tgO_at h2
            show P (r.1 - x.it.base)
            rw [e, show x.it.base + ps.headD 0 - x.it.base = ps.headD 0 by omega]
            exact p1
          · exact tgsF_at h0 p2 h1 y hy hyf
    · rw [hx, if_pos rfl] at h
      cases h1 : tgsF l ps.tail s with
      | none => rw [h1] at h; cases h
      | some q =>
        obtain ⟨q1, q2⟩ := q
        rw [h1] at h
        cases h
        rcases List.mem_cons.1 hy with rfl | hy
        · rw [hx] at hyf; cases hyf
        · exact tgsF_at h0 p2 h1 y hy hyf
theorem sumU_up : ∀ (l : List Fl) (ps : List Int), (∀ p ∈ ps, 0 ≤ p) → sumU l ps ≤ pre ps l.length
  | [], ps, _ => by simp [sumU, pre]
  | x :: l, ps, h => by
    obtain ⟨p1, p2⟩ := head_in (P := fun p => 0 ≤ p) (by omega) h
    have i := sumU_up l ps.tail p2
    rw [List.length_cons, pre_hd ps l.length]
    unfold sumU
    split <;> omega
theorem sumU_dn : ∀ (l : List Fl) (ps : List Int), (∀ p ∈ ps, p ≤ 0) → pre ps l.length ≤ sumU l ps
  | [], ps, _ => by simp [sumU, pre]
  | x :: l, ps, h => by
    obtain ⟨p1, p2⟩ := head_in (P := fun p => p ≤ 0) (by omega) h
    have i := sumU_dn l ps.tail p2
    rw [List.length_cons, pre_hd ps l.length]
    unfold sumU
    split <;> omega
theorem lim_mono {x : Fx} {a b : Int} (h : a ≤ b) : x.lim a ≤ x.lim b := by
  unfold Fx.lim limN
  split <;> omega
theorem lim_up {x : Fx} {a b : Int} (h : a ≤ b) (hb : b < x.lim b) : x.lim a = x.lim b := by
  cases hq : x.bound
  all_goals
    simp only [Fx.lim, limN, hq, if_true, Bool.false_eq_true, if_false] at *
    omega
theorem lim_dn {x : Fx} {a b : Int} (h : b ≤ a) (hb : x.lim b < b) : x.lim a = x.lim b := by
  cases hq : x.bound
  all_goals
    simp only [Fx.lim, limN, hq, if_true, Bool.false_eq_true, if_false] at *
    omega
theorem lim_idem {x : Fx} {a : Int} : x.lim (x.lim a) = x.lim a := by
  unfold Fx.lim limN
  split <;> omega
def firV (x : Fl) : Int := if x.fi then x.tg else x.it.lim x.it.base
/-- What holds while items grow. -/
def GI (room : Int) (st : List Fl) : Prop := (∀ x ∈ st, FlWf x ∧ (x.fi = false → x.it.base ≤ x.it.lim x.it.base) ∧ (x.fi = true → x.it.lim x.it.base ≤ x.tg)) ∧ sm firV st ≤ room
/-- What holds while items shrink. -/
def SI (room : Int) (st : List Fl) : Prop := (∀ x ∈ st, FlWf x ∧ (x.fi = false → x.it.lim x.it.base ≤ x.it.base) ∧ (x.fi = true → x.tg ≤ x.it.lim x.it.base)) ∧ room ≤ sm firV st
theorem stp_fixed {s : Int} {x : Fl} (h : x.fi = true) : stpF s x = x := by unfold stpF; rw [if_pos h]
theorem stp_now {s : Int} {x : Fl} (h : x.fi = false) (hb : fixB s (x.it.lim x.tg) x.tg = true) : stpF s x = { x with tg := x.it.lim x.tg, fi := true } := by unfold stpF; rw [h, hb]; rfl
theorem stp_not {s : Int} {x : Fl} (h : x.fi = false) (hb : fixB s (x.it.lim x.tg) x.tg = false) : stpF s x = x := by unfold stpF; rw [h, hb]; rfl
end Go.Proofs.Ythofammjbicogaa
