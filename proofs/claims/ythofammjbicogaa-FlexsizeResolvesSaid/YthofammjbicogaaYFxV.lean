/-
  Flex sizes: of items that are cut, what Resolve answers, in plain numbers.
-/
import Derived.Test.YthofammjbicogaaYFxU
import Derived.Test.YthofammjbicogaaYFxL
namespace Go.Proofs.Ythofammjbicogaa
open Go.RowKit
set_option linter.unusedSimpArgs false
set_option linter.unusedVariables false

def facX (g : Bool) (x : Fx) : Int := if g then x.grow else x.shrink
/-- What of an item lasts from the beginning: what it is; its factor; what is fixed has a size within its limits; what may not turn stays its first size. -/
def Last (g : Bool) (x : Fl) : Prop := x.fa = facX g x.it ∧ (x.fi = true → x.it.lim x.tg = x.tg) ∧ (facX g x.it = 0 → x.fi = true ∧ x.tg = x.it.lim x.it.base)
theorem newF_last (g : Bool) (x : Fx) : Last g (newF g x) := by
  refine ⟨rfl, fun _ => lim_idem, fun h => ⟨?_, rfl⟩⟩
  have h2 : (if g = true then x.grow else x.shrink) = 0 := h
  unfold newF
  rw [h2]
  rfl
theorem newF_fi {g : Bool} {x : Fx} : (newF g x).fi = false ↔ (facX g x ≠ 0 ∧ (g = true → x.base ≤ x.lim x.base) ∧ (g = false → x.lim x.base ≤ x.base)) := by
  unfold newF facX
  cases g
  · simp
  · simp
theorem Tg.last {g : Bool} {x y : Fl} (h : Tg x y) (hx : Last g x) : y.fa = facX g y.it ∧ (y.fi = true → y.it.lim y.tg = y.tg) ∧ (facX g y.it = 0 → y.fi = true ∧ y.tg = y.it.lim y.it.base) := by
  obtain ⟨h1, h2, h3, h4, _⟩ := h
  obtain ⟨a1, a2, a3⟩ := hx
  rw [h1, h2, h3]
  refine ⟨a1, fun e => by rw [h4 e]; exact a2 e, fun e => ?_⟩
  obtain ⟨b1, b2⟩ := a3 e
  exact ⟨b1, by rw [h4 b1]; exact b2⟩
theorem stpF_last {g : Bool} {s : Int} {y : Fl} (h : Last g y) : Last g (stpF s y) ∧ (stpF s y).it = y.it := by
  cases hf : y.fi
  · cases hb : fixB s (y.it.lim y.tg) y.tg
    · rw [stp_not hf hb]; exact ⟨h, rfl⟩
    · rw [stp_now hf hb]
      refine ⟨⟨h.1, fun _ => lim_idem, fun e => ?_⟩, rfl⟩
      have := (h.2.2 e).1
      rw [hf] at this
      cases this
  · rw [stp_fixed hf]; exact ⟨h, rfl⟩
theorem all2_its : ∀ {l m : List Fl}, All2 Tg l m → m.map Fl.it = l.map Fl.it
  | _, _, .nil => rfl
  | _, _, .cons h t => by rw [List.map_cons, List.map_cons, h.1, all2_its t]
theorem stepO_last {g : Bool} {room first : Int} {st m : List Fl} (h : stepO g room first st = some m) (hl : ∀ x ∈ st, Last g x) : (∀ y ∈ m, Last g y) ∧ m.map Fl.it = st.map Fl.it := by
  unfold stepO at h
  cases h1 : targetsO g room first st with
  | none => rw [h1] at h; cases h
  | some q =>
    obtain ⟨t, k⟩ := q
    rw [h1] at h
    cases h
    have A := (targetsO_spec h1).1
    have hk : ∀ y ∈ k, Last g y := fun y hy => by
      obtain ⟨x, hx, hR⟩ := all2_mem A y hy
      exact hR.last (hl x hx)
    refine ⟨fun z hz => ?_, ?_⟩
    · obtain ⟨y, hy, rfl⟩ := List.mem_map.1 hz
      exact (stpF_last (hk y hy)).1
    · rw [← all2_its A]
      show (k.map (stpF t)).map Fl.it = _
      rw [List.map_map]
      refine List.map_congr_left fun y hy => ?_
      exact (stpF_last (hk y hy)).2
def Dir (g : Bool) (room : Int) (st : List Fl) : Prop := if g then GI room st else SI room st
theorem sm_nn {α : Type} {f : α → Int} {M : Int} : ∀ {l : List α}, (∀ x ∈ l, 0 ≤ f x ∧ f x ≤ M) → 0 ≤ sm f l ∧ sm f l ≤ M * (l.length : Int)
  | [], _ => by simp [sm]
  | x :: l, h => by
    have h1 := h x List.mem_cons_self
    have h2 := sm_nn (l := l) (fun y hy => h y (List.mem_cons_of_mem _ hy))
    rw [sm_cons, List.length_cons]
    push_cast
    rw [Int.mul_add]
    omega
theorem now_room {g : Bool} {room : Int} {st : List Fl} (hb : BI st) (hn : st.length ≤ 25) (hr : -137438953472 ≤ room ∧ room ≤ 137438953472) (hd : Dir g room st) : -274877906944 ≤ room - sm Fl.now st ∧ room - sm Fl.now st ≤ 274877906944 ∧ (g = true → 0 ≤ room - sm Fl.now st) ∧ (g = false → room - sm Fl.now st ≤ 0) := by
  cases g
  · have h : SI room st := hd
    have h1 := now_fir_shrink h
    have h2 := h.2
    have h3 : 0 ≤ sm Fl.now st ∧ sm Fl.now st ≤ 1073741823 * (st.length : Int) := sm_nn fun x hx => by
      obtain ⟨_, i2, i3⟩ := hb x hx
      obtain ⟨_, _, j3⟩ := h.1 x hx
      have := i2.1
      have := i2.lim
      unfold Fl.now
      cases e : x.fi
      · simp only [Bool.false_eq_true, if_false]; omega
      · simp only [if_true]
        have := i3 e
        have := j3 e
        omega
    refine ⟨by omega, by omega, (fun e => by cases e), (fun _ => by omega)⟩
  · have h : GI room st := hd
    have h1 := now_fir_grow h
    have h2 := h.2
    have h3 := (sm_nn hb.now).1
    refine ⟨by omega, by omega, (fun _ => by omega), (fun e => by cases e)⟩
theorem loop_ok {g : Bool} {room first : Int} (hr : -137438953472 ≤ room ∧ room ≤ 137438953472) (hf : -274877906944 ≤ first ∧ first ≤ 274877906944) (hs : (g = true → 0 ≤ first) ∧ (g = false → first ≤ 0)) (k : Nat) : ∀ st : List Fl, cntF st ≤ k → st.length ≤ 25 → BI st → Dir g room st → (∀ x ∈ st, Last g x) → ∃ m, loopF g room first k st = some m ∧ doneF m = true ∧ BI m ∧ Dir g room m ∧ (∀ x ∈ m, Last g x) ∧ m.map Fl.it = st.map Fl.it := by
  induction k with
  | zero =>
    intro st hc hn hb hd hl
    refine ⟨st, rfl, ?_, hb, hd, hl, rfl⟩
    cases e : doneF st
    · have := (done_cnt (m := st)).1 e; omega
    · rfl
  | succ k ih =>
    intro st hc hn hb hd hl
    rw [loopF]
    cases e : doneF st
    · rw [if_neg (by simp)]
      have hnr := now_room hb hn hr hd
      obtain ⟨m, e1, hb2⟩ := step_ok (grows := g) (room := room) (first := first) hb hn (by omega) (by omega) ⟨hnr.1, hnr.2.1⟩
      have hlt := stepO_lt e1 e
      have hwf := stepO_wf e1 (fun x hx => (hb x hx).1)
      obtain ⟨hl2, hit⟩ := stepO_last e1 hl
      have hd2 : Dir g room m := by
        cases g
        · exact step_shrink e1 hd (hs.2 rfl)
        · exact step_grow e1 hd (hs.1 rfl)
      rw [e1, Option.bind_some]
      obtain ⟨m2, q1, q2, q3, q4, q5, q6⟩ := ih m (by omega) (by rw [hwf.2]; exact hn) hb2 hd2 hl2
      exact ⟨m2, q1, q2, q3, q4, q5, q6.trans hit⟩
    · rw [if_pos rfl]
      exact ⟨st, rfl, e, hb, hd, hl, rfl⟩
theorem outF_ok : ∀ {m : List Fl}, doneF m = true → BI m → outF m = some (m.map Fl.tg)
  | [], _, _ => rfl
  | x :: m, hd, hb => by
    unfold doneF at hd
    rw [List.all_cons, Bool.and_eq_true] at hd
    have h1 := (hb x List.mem_cons_self).2.2 hd.1
    rw [outF, if_pos (lenB_of (by omega) (by omega)), outF_ok (m := m) hd.2 (fun y hy => hb y (List.mem_cons_of_mem _ hy))]
    rfl
/-- What Resolve answers of items that are cut: nothing is given up; each size is within its limits, and goes but one way. -/
theorem flex_ok {l : List Fx} (hc : ∀ x ∈ l, Cut x) (hn : l.length ≤ 25) {avail : Int} (ha : -68719476736 ≤ avail ∧ avail ≤ 68719476736) : ∃ (g : Bool) (first : Int) (m : List Fl), g = decide (sm (fun x => x.lim x.base) l < avail - sm Fx.extra l) ∧
    laidO avail l = some (g, avail - sm Fx.extra l, first, l.map (newF g)) ∧ first = (avail - sm Fx.extra l) - sm Fl.now (l.map (newF g)) ∧ loopF g (avail - sm Fx.extra l) first l.length (l.map (newF g)) = some m ∧ resO avail l = some (m.map Fl.tg) ∧ rsC avail l = 0 ∧
    doneF m = true ∧ BI m ∧ Dir g (avail - sm Fx.extra l) m ∧ (∀ x ∈ m, Last g x) ∧ m.map Fl.it = l ∧ BI (l.map (newF g)) ∧ Dir g (avail - sm Fx.extra l) (l.map (newF g)) := by
  have hE : -26843545575 ≤ sm Fx.extra l ∧ sm Fx.extra l ≤ 26843545575 := by
    have h1 : 0 ≤ sm (fun x : Fx => x.extra + 1073741823) l ∧ sm (fun x : Fx => x.extra + 1073741823) l ≤ 2147483646 * (l.length : Int) := sm_nn fun x hx => by
      have := (hc x hx).2.2.2.1
      show 0 ≤ x.extra + 1073741823 ∧ x.extra + 1073741823 ≤ 2147483646
      omega
    have h2 : sm (fun x : Fx => x.extra + 1073741823) l = sm Fx.extra l + 1073741823 * (l.length : Int) := by
      rw [sm_add]
      congr 1
      clear h1 hc hn
      induction l with
      | nil => rfl
      | cons x l ih => rw [sm_cons, ih, List.length_cons]; push_cast; rw [Int.mul_add]; omega
    omega
  have hS : 0 ≤ sm (fun x : Fx => x.lim x.base) l ∧ sm (fun x : Fx => x.lim x.base) l ≤ 1073741823 * (l.length : Int) := sm_nn fun x hx => (hc x hx).lim
  have hlf : lenB avail = true := lenB_of (by omega) (by omega)
  have hroom := roomF_ok l avail 0 hc (by omega) (by omega) (by omega) (by omega)
  rw [Int.zero_add] at hroom
  obtain ⟨R, eR⟩ : ∃ R, avail - sm Fx.extra l = R := ⟨_, rfl⟩
  rw [eR] at hroom ⊢
  obtain ⟨S0, eS⟩ : ∃ R, sm (fun x : Fx => x.lim x.base) l = R := ⟨_, rfl⟩
  rw [eS] at hroom hS ⊢
  obtain ⟨g, eg⟩ : ∃ g, decide (S0 < R) = g := ⟨_, rfl⟩
  have hb0 : BI (l.map (newF g)) := fun y hy => by
    obtain ⟨x, hx, rfl⟩ := List.mem_map.1 hy
    have h1 := hc x hx
    have h2 := h1.lim
    exact ⟨newF_wf g h1.fit h1.may, h1, fun _ => by show 0 ≤ x.lim x.base ∧ x.lim x.base ≤ 549755813888; omega⟩
  have hfir : sm firV (l.map (newF g)) = S0 := by
    rw [sm_map, ← eS]
    congr 1
    funext x
    unfold firV
    split <;> rfl
  have hd0 : Dir g R (l.map (newF g)) := by
    cases g
    · have hle : ¬ S0 < R := of_decide_eq_false eg
      refine ⟨fun y hy => ?_, by rw [hfir]; omega⟩
      obtain ⟨x, hx, rfl⟩ := List.mem_map.1 hy
      exact ⟨(hb0 _ hy).1, fun e => (newF_fi.1 e).2.2 rfl, fun _ => Int.le_refl _⟩
    · have hle : S0 < R := of_decide_eq_true eg
      refine ⟨fun y hy => ?_, by rw [hfir]; omega⟩
      obtain ⟨x, hx, rfl⟩ := List.mem_map.1 hy
      exact ⟨(hb0 _ hy).1, fun e => (newF_fi.1 e).2.1 rfl, fun _ => Int.le_refl _⟩
  have hl0 : (l.map (newF g)).length ≤ 25 := by rw [List.length_map]; exact hn
  have hnr := now_room hb0 hl0 (by omega) hd0
  have hfree := freeF_ok (l.map (newF g)) R hb0.now (by omega) (by omega)
  have hlaid : laidO avail l = some (g, R, R - sm Fl.now (l.map (newF g)), l.map (newF g)) := by
    unfold laidO
    rw [hroom, Option.bind_some]
    simp only []
    rw [eg, hfree]
    rfl
  have hlast : ∀ x ∈ l.map (newF g), Last g x := fun y hy => by
    obtain ⟨x, hx, rfl⟩ := List.mem_map.1 hy
    exact newF_last g x
  obtain ⟨m, q1, q2, q3, q4, q5, q6⟩ := loop_ok (g := g) (room := R) (first := R - sm Fl.now (l.map (newF g))) (by omega) (by omega) ⟨hnr.2.2.1, hnr.2.2.2⟩ l.length (l.map (newF g)) (by have := cnt_len (l.map (newF g)); rw [List.length_map] at this; exact this) hl0 hb0 hd0 hlast
  have hres : resO avail l = some (m.map Fl.tg) := by
    unfold resO
    rw [hlf, if_pos rfl, hlaid, Option.bind_some]
    simp only []
    rw [q1, Option.bind_some]
    exact outF_ok q2 q3
  refine ⟨g, _, m, eg.symm, hlaid, rfl, q1, hres, ?_, q2, q3, q4, q5, ?_, hb0, hd0⟩
  · unfold rsC
    rw [if_neg (by omega), List.all_eq_true.2 (fun x hx => (hc x hx).may), if_pos rfl, hres]
    rfl
  · rw [q6, List.map_map]
    have : (Fl.it ∘ newF g) = id := by funext x; rfl
    rw [this, List.map_id]
end Go.Proofs.Ythofammjbicogaa
