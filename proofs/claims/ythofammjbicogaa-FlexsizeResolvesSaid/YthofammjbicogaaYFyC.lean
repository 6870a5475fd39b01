/-
  The reference of layer 19, plain: what a round does.
-/
import Derived.Test.YthofammjbicogaaYFyB
namespace Go.Proofs.Ythofammjbicogaa
open Go.RowKit
set_option linter.unusedSimpArgs false
set_option linter.unusedVariables false

theorem FxAt.below {w w' : World} {g o : Nat} {x : Fx} (h : FxAt w g o x) (hg : g < w.heap.size) (hb : Below w.heap.size w w') : FxAt w' g o x := by
  obtain ⟨h0, h1, h2, h3, h4, h5, h6⟩ := h
  have k : ∀ {p : Nat} {v : Value}, w.cell? ⟨g, p, none⟩ = some v → w'.cell? ⟨g, p, none⟩ = some v := fun {p v} h => (hb.cell (p := ⟨g, p, none⟩) hg).trans h
  exact ⟨k h0, k h1, k h2, k h3, k h4, k h5, k h6⟩
def s0F (x : Fx) : Fl := ⟨x, 0, 0, false⟩
def s1F (x : Fx) : Fl := ⟨x, x.lim x.base, 0, false⟩
theorem getD_map {α β : Type} (f : α → β) (l : List α) (d : α) (e : β) {j : Nat} (hj : j < l.length) : (l.map f).getD j e = f (l.getD j d) := by
  simp [List.getD, hj]
theorem out_split : ∀ (st : List Fl), sm outV st = sm Fx.extra (st.map Fl.it) + sm Fl.now st
  | [] => rfl
  | x :: st => by
    rw [List.map_cons, sm_cons, sm_cons, sm_cons, out_split st]
    unfold outV
    omega
/-- What one round does. -/
theorem round_shape {g : Bool} {room first : Int} {st : List Fl} (hb : BI st) (hn : st.length ≤ 25) (hr : -137438953472 ≤ room ∧ room ≤ 137438953472) (hf : -274877906944 ≤ first ∧ first ≤ 274877906944) (hd : Dir g room st) :
    ∃ t k, tgsF st (partsN (shR first (facS st) (room - sm Fl.now st)) (pre (st.map (wR g)) st.length) (st.map (wR g)) st.length) 0 = some (t, k) ∧ stepO g room first st = some (k.map (stpF t)) ∧ k.length = st.length ∧
      (∀ y ∈ k, (-1099511627776 ≤ y.tg ∧ y.tg ≤ 1099511627776) ∧ Cut y.it) ∧ (-274877906944 ≤ shR first (facS st) (room - sm Fl.now st) ∧ shR first (facS st) (room - sm Fl.now st) ≤ 274877906944) ∧
      (∀ p ∈ partsN (shR first (facS st) (room - sm Fl.now st)) (pre (st.map (wR g)) st.length) (st.map (wR g)) st.length, -274877906944 ≤ p ∧ p ≤ 274877906944) ∧
      (0 ≤ facS st ∧ facS st ≤ 102400000) ∧ (-274877906944 ≤ room - sm Fl.now st ∧ room - sm Fl.now st ≤ 274877906944) := by
  have hwf : ∀ x ∈ st, FlWf x := fun x hx => (hb x hx).1
  have ho := now_room hb hn hr hd
  have e1 := freeF_ok st room hb.now (by omega) (by omega)
  have e2 := wgts_map (g := g) hb
  have hfs := facS_nn (may_all hwf)
  obtain ⟨e3, b4⟩ := part_shR (first := first) (F := facS st) (out := room - sm Fl.now st) (by omega) hfs.1 ⟨ho.1, ho.2.1⟩
  obtain ⟨hnn, hft, hpre⟩ := wR_split (g := g) hb rfl hn
  obtain ⟨tt, ett⟩ : ∃ tt, shR first (facS st) (room - sm Fl.now st) = tt := ⟨_, rfl⟩
  obtain ⟨ws, ews⟩ : ∃ ws, st.map (wR g) = ws := ⟨_, rfl⟩
  rw [ett] at e3 b4 ⊢
  rw [ews] at e2 hnn hft hpre ⊢
  have e4 : splO tt ws st.length = some (partsN tt (pre ws st.length) ws st.length) := by
    unfold splO
    rw [lenB_of (by omega) (by omega), decide_eq_true hpre]
    rfl
  have hps := parts_abs (n := st.length) b4 hnn
  obtain ⟨t, k, e5, b5⟩ := tgsF_ok st _ 0 hb hps (by omega) (by omega)
  have e6 : targetsO g room first st = some (t, k) := by
    unfold targetsO sharedO
    rw [e1, Option.bind_some, e2, Option.bind_some, e3, Option.map_some, Option.bind_some, e4, Option.bind_some, e5]
  refine ⟨t, k, e5, by unfold stepO; rw [e6]; rfl, tgsF_len e5, fun y hy => ?_, b4, hps, ⟨hfs.1, by omega⟩, ho.1, ho.2.1⟩
  obtain ⟨x, hx, hR⟩ := all2_mem (targetsO_spec e6).1 y hy
  obtain ⟨r1, r2, r3, r4, _⟩ := hR
  obtain ⟨_, i2, i3⟩ := hb x hx
  have hcy : Cut y.it := by rw [r1]; exact i2
  refine ⟨?_, hcy⟩
  cases hyf : y.fi
  · have q2 := b5 y hy hyf
    have q3 := hcy.1
    omega
  · have e := r4 (by rw [← r3]; exact hyf)
    have q := i3 (by rw [← r3]; exact hyf)
    omega
end Go.Proofs.Ythofammjbicogaa
