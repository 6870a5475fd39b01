/-
  The reference of layer 19, plain: two lists joined at an index; the state in three blocks; what a round does.
-/
import Derived.Test.YthofammjbicogaaYFyA
import Derived.Test.YthofammjbicogaaZ9
namespace Go.Proofs.Ythofammjbicogaa
open Go.RowKit
set_option linter.unusedSimpArgs false
set_option linter.unusedVariables false

/-- The first list's things before an index, the second one's from it on. -/
def mix {α : Type} (m k : List α) (j : Nat) : List α := m.take j ++ k.drop j
section
variable {α : Type} {m k : List α} {j : Nat}
theorem mix_zero : mix m k 0 = k := by simp [mix]
theorem mix_all (h : m.length = k.length) : mix m k m.length = m := by unfold mix; rw [List.take_length, List.drop_eq_nil_of_le (by omega), List.append_nil]
theorem mix_len (h : m.length = k.length) : (mix m k j).length = k.length := by
  unfold mix
  rw [List.length_append, List.length_take, List.length_drop]
  omega
theorem mix_get (h : m.length = k.length) (d : α) (hj : j < k.length) : (mix m k j).getD j d = k.getD j d := by
  unfold mix
  simp only [List.getD]
  rw [List.getElem?_append_right (by rw [List.length_take]; omega), List.length_take, show j - min j m.length = 0 by omega, List.getElem?_drop]
  rfl
theorem mix_set (h : m.length = k.length) (d : α) (hj : j < k.length) : (mix m k j).set j (m.getD j d) = mix m k (j + 1) := by
  unfold mix
  rw [List.set_append_right _ _ (by rw [List.length_take]; omega), List.length_take, show j - min j m.length = 0 by omega, List.drop_eq_getElem_cons hj, List.set_cons_zero, List.take_succ_eq_append_getElem (by omega), List.append_assoc]
  have e : m.getD j d = m[j]'(by omega) := by simp [List.getD, show j < m.length by omega]
  rw [e]
  rfl
theorem mix_same (h : m.length = k.length) (d : α) (hj : j < k.length) (e : m.getD j d = k.getD j d) : mix m k j = mix m k (j + 1) := by
  rw [← mix_set h d hj, e, ← mix_get h d hj]
  apply List.ext_getElem?
  intro i
  rw [List.getElem?_set]
  split
  · rename_i hi
    subst hi
    have hl : j < (mix m k j).length := by rw [mix_len h]; exact hj
    rw [if_pos hl]
    simp [List.getD, hl]
  · rfl
end
theorem map_set {α β : Type} (f : α → β) (l : List α) (j : Nat) (x : α) : (l.set j x).map f = (l.map f).set j (f x) := by rw [List.map_set]
/-- The state: sizes, factors, what is fixed, in three blocks. -/
def R19 (w : World) (s f b : Nat) (st : List Fl) : Prop := BlkI w s (st.map Fl.tg) ∧ BlkI w f (st.map Fl.fa) ∧ Blk w b (bolV st).toArray 4 ∧ s ≠ f ∧ s ≠ b ∧ f ≠ b
section
variable {w w' : World} {s f b j : Nat} {st : List Fl}
theorem R19.below (h : R19 w s f b st) (hb : Below w.heap.size w w') : R19 w' s f b st := ⟨h.1.below hb, h.2.1.below hb, h.2.2.1.below hb, h.2.2.2⟩
theorem R19.lts (h : R19 w s f b st) : s < w.heap.size := h.1.lt
theorem R19.ltf (h : R19 w s f b st) : f < w.heap.size := h.2.1.lt
theorem R19.ltb (h : R19 w s f b st) : b < w.heap.size := h.2.2.1.lt
theorem R19.tg (h : R19 w s f b st) (hj : j < st.length) : w.cell? ⟨s, j, none⟩ = some (.int .i64 ((st.getD j fl0).tg)) := by
  have := h.1.cell (i := j) (by rw [List.length_map]; exact hj)
  rw [this]; simp [List.getD, hj]
theorem R19.fa (h : R19 w s f b st) (hj : j < st.length) : w.cell? ⟨f, j, none⟩ = some (.int .i64 ((st.getD j fl0).fa)) := by
  have := h.2.1.cell (i := j) (by rw [List.length_map]; exact hj)
  rw [this]; simp [List.getD, hj]
theorem R19.fi (h : R19 w s f b st) (hj : j < st.length) : w.cell? ⟨b, j, none⟩ = some (.bool (st.getD j fl0).fi) := by
  have := h.2.2.1.cell j (.bool (st.getD j fl0).fi) (by simp [bolV, List.getD, hj])
  exact this
theorem R19.sizes (h : R19 w s f b st) : RowI w (some ⟨s, 0, none⟩) st.length (st.map Fl.tg) := h.1.row (by rw [List.length_map])
theorem R19.bools (h : R19 w s f b st) : RowV w (some ⟨b, 0, none⟩) st.length 1 (bolV st) := by
  refine ⟨by simp [bolV], fun _ => ⟨b, 0, rfl, h.ltb, fun i hi => ?_⟩⟩
  rw [Nat.zero_add]
  have := h.fi (j := i) (by omega)
  rw [this]
  simp [bolV, List.getD, show i < st.length by omega]
theorem R19.setTg (h : R19 w s f b st) (d : Fl) (t : Int) (hj : j < st.length) : R19 (w.setCell ⟨s, j, none⟩ (.int .i64 t)) s f b (st.set j { st.getD j d with tg := t }) := by
  obtain ⟨h1, h2, h3, h4, h5, h6⟩ := h
  refine ⟨by rw [map_set]; exact h1.put j t, ?_, ?_, h4, h5, h6⟩
  · have e : (st.set j { st.getD j d with tg := t }).map Fl.fa = st.map Fl.fa := by
      apply List.ext_getElem?
      intro i
      rw [map_set, List.getElem?_set]
      split
      · rename_i hi; subst hi; simp [List.getD, hj]
      · rfl
    rw [e]; exact Blk.other h2 (fun x => h4 x.symm) _ _
  · have e : bolV (st.set j { st.getD j d with tg := t }) = bolV st := by
      apply List.ext_getElem?
      intro i
      unfold bolV
      rw [map_set, List.getElem?_set]
      split
      · rename_i hi; subst hi; simp [List.getD, hj]
      · rfl
    rw [e]; exact Blk.other h3 (fun x => h5 x.symm) _ _
theorem R19.setFa (h : R19 w s f b st) (d : Fl) (t : Int) (hj : j < st.length) : R19 (w.setCell ⟨f, j, none⟩ (.int .i64 t)) s f b (st.set j { st.getD j d with fa := t }) := by
  obtain ⟨h1, h2, h3, h4, h5, h6⟩ := h
  refine ⟨?_, by rw [map_set]; exact h2.put j t, ?_, h4, h5, h6⟩
  · have e : (st.set j { st.getD j d with fa := t }).map Fl.tg = st.map Fl.tg := by
      apply List.ext_getElem?
      intro i
      rw [map_set, List.getElem?_set]
      split
      · rename_i hi; subst hi; simp [List.getD, hj]
      · rfl
    rw [e]; exact Blk.other h1 h4 _ _
  · have e : bolV (st.set j { st.getD j d with fa := t }) = bolV st := by
      apply List.ext_getElem?
      intro i
      unfold bolV
      rw [map_set, List.getElem?_set]
      split
      · rename_i hi; subst hi; simp [List.getD, hj]
      · rfl
    rw [e]; exact Blk.other h3 (fun x => h6 x.symm) _ _
theorem R19.setFi (h : R19 w s f b st) (d : Fl) (t : Bool) (hj : j < st.length) : R19 (w.setCell ⟨b, j, none⟩ (.bool t)) s f b (st.set j { st.getD j d with fi := t }) := by
  obtain ⟨h1, h2, h3, h4, h5, h6⟩ := h
  refine ⟨?_, ?_, ?_, h4, h5, h6⟩
  · have e : (st.set j { st.getD j d with fi := t }).map Fl.tg = st.map Fl.tg := by
      apply List.ext_getElem?
      intro i
      rw [map_set, List.getElem?_set]
      split
      · rename_i hi; subst hi; simp [List.getD, hj]
      · rfl
    rw [e]; exact Blk.other h1 h5 _ _
  · have e : (st.set j { st.getD j d with fi := t }).map Fl.fa = st.map Fl.fa := by
      apply List.ext_getElem?
      intro i
      rw [map_set, List.getElem?_set]
      split
      · rename_i hi; subst hi; simp [List.getD, hj]
      · rfl
    rw [e]; exact Blk.other h2 h6 _ _
  · have q := h3.set j (.bool t)
    have e : (bolV st).toArray.setIfInBounds j (.bool t) = (bolV (st.set j { st.getD j d with fi := t })).toArray := by
      unfold bolV
      rw [List.setIfInBounds_toArray, map_set]
    rw [e] at q
    exact q
end
/-- The weight of an item. -/
def wR (g : Bool) (y : Fl) : Int := if y.fi then 0 else if g then y.fa else y.fa * y.it.base
theorem wR_bnd {g : Bool} {y : Fl} (h : FlWf y) (hc : Cut y.it) : 0 ≤ wR g y ∧ wR g y ≤ 4398046511104000 ∧ wgtO g y = some (wR g y) := by
  have h1 := Int.mul_nonneg h.1.2.1 h.2
  have h2 := Int.mul_le_mul (show y.fa ≤ 4096000 from h.1.2.2) (show y.it.base ≤ 1073741823 from hc.1.2) h.2 (by omega)
  have h3 := h.1.2
  have hi : inB (y.fa * y.it.base) = true := by unfold inB; simp; omega
  unfold wR wgtO
  cases y.fi
  · cases g
    · simp only [Bool.false_eq_true, if_false, hi, if_true]
      exact ⟨h1, by omega, trivial⟩
    · simp only [Bool.false_eq_true, if_false, if_true]
      exact ⟨h3.1, by omega, trivial⟩
  · simp only [if_true]
    exact ⟨by omega, by omega, trivial⟩
theorem wgts_map {g : Bool} : ∀ {st : List Fl}, BI st → wgtsO g st = some (st.map (wR g))
  | [], _ => rfl
  | x :: st, h => by
    obtain ⟨h1, h2, _⟩ := h x List.mem_cons_self
    rw [wgtsO, (wR_bnd h1 h2).2.2, Option.bind_some, wgts_map (fun y hy => h y (List.mem_cons_of_mem _ hy))]
    rfl
theorem wR_split {g : Bool} {st : List Fl} {n : Nat} (hb : BI st) (hl : st.length = n) (hn : n ≤ 25) : Nonneg (st.map (wR g)) ∧ Fits (st.map (wR g)) ∧ pre (st.map (wR g)) n ≤ 4611686018427387904 := by
  have hm : ∀ y ∈ st.map (wR g), 0 ≤ y ∧ y ≤ 9223372036854775807 := fun y hy => by
    obtain ⟨x, hx, rfl⟩ := List.mem_map.1 hy
    obtain ⟨h1, h2, _⟩ := hb x hx
    have := wR_bnd (g := g) h1 h2
    omega
  have h := nonneg_mem hm
  refine ⟨h.1, h.2, ?_⟩
  obtain ⟨ws, e, h1, _⟩ := wgtsO_ok (grows := g) hb
  rw [wgts_map hb] at e
  cases e
  subst hl
  omega
/-- What is shared. -/
def shR (first f out : Int) : Int := if f < 4096 then (if absI (first * f / 4096) < absI out then first * f / 4096 else out) else out
theorem part_shR {first F out : Int} (hf : -8796093022208 ≤ first ∧ first ≤ 8796093022208) (hF : 0 ≤ F) (ho : -274877906944 ≤ out ∧ out ≤ 274877906944) : partO first F out = some (shR first F out) ∧ -274877906944 ≤ shR first F out ∧ shR first F out ≤ 274877906944 := by
  obtain ⟨t, e, h⟩ := partO_ok hf hF ho
  have e2 : partO first F out = some (shR first F out) := by
    rw [e]
    have e3 : fq (first * F) 4096 = first * F / 4096 := by unfold fq; rw [if_neg (by omega)]
    unfold partO at e
    rw [e3] at e
    unfold shR
    by_cases h1 : F < 4096
    · rw [if_pos h1] at e ⊢
      by_cases h2 : lenB (first * F / 4096) = true
      · rw [if_pos h2] at e
        exact e.symm
      · rw [if_neg h2] at e; cases e
    · rw [if_neg h1] at e ⊢
      exact e.symm
  rw [e] at e2
  cases e2
  exact ⟨e, h⟩
/-- One item's target. -/
theorem tgs_at {st : List Fl} {ps : List Int} {s t : Int} {k : List Fl} {j : Nat} (hj : j < st.length) (hk : k.length = st.length) (h : tgsF (st.drop j) (ps.drop j) s = some (t, k.drop j)) :
    ((st.getD j fl0).fi = true → k.getD j fl0 = st.getD j fl0 ∧ tgsF (st.drop (j + 1)) (ps.drop (j + 1)) s = some (t, k.drop (j + 1))) ∧
    ((st.getD j fl0).fi = false → LenB ((st.getD j fl0).it.base + ps.getD j 0) ∧ LenB ((st.getD j fl0).it.lim ((st.getD j fl0).it.base + ps.getD j 0) - ((st.getD j fl0).it.base + ps.getD j 0)) ∧ LenB (s + ((st.getD j fl0).it.lim ((st.getD j fl0).it.base + ps.getD j 0) - ((st.getD j fl0).it.base + ps.getD j 0))) ∧
      k.getD j fl0 = { st.getD j fl0 with tg := (st.getD j fl0).it.base + ps.getD j 0 } ∧ tgsF (st.drop (j + 1)) (ps.drop (j + 1)) (s + ((st.getD j fl0).it.lim ((st.getD j fl0).it.base + ps.getD j 0) - ((st.getD j fl0).it.base + ps.getD j 0))) = some (t, k.drop (j + 1))) := by
  rw [drop_at fl0 hj, drop_at fl0 (l := k) (j := j) (by omega), tgsF, (drop_head ps j).1, (drop_head ps j).2] at h
  obtain ⟨x, ex⟩ : ∃ x, st.getD j fl0 = x := ⟨_, rfl⟩
  obtain ⟨y, ey⟩ : ∃ x, k.getD j fl0 = x := ⟨_, rfl⟩
  obtain ⟨p, ep⟩ : ∃ x, ps.getD j 0 = x := ⟨_, rfl⟩
  rw [ex, ey, ep] at h
  rw [ex, ey, ep]
  clear ex ey ep
  refine ⟨fun hf => ?_, fun hf => ?_⟩
  · rw [hf, if_pos rfl] at h
    cases h1 : tgsF (st.drop (j + 1)) (ps.drop (j + 1)) s with
    | none => rw [h1] at h; cases h
    | some q =>
      rw [h1] at h
      obtain ⟨q1, q2⟩ := q
      simp only [Option.map_some, Option.some.injEq, Prod.mk.injEq, List.cons.injEq] at h
      obtain ⟨rfl, rfl, rfl⟩ := h
      exact ⟨rfl, rfl⟩
  · rw [hf, if_neg (by simp)] at h
    unfold tgO addO subO at h
    by_cases h1 : (lenB x.it.base && lenB (x.it.base + p)) = true
    · rw [if_pos h1, Option.bind_some] at h
      rw [Bool.and_eq_true] at h1
      by_cases h2 : lenB (x.it.lim (x.it.base + p) - (x.it.base + p)) = true
      · rw [if_pos h2, Option.bind_some] at h
        by_cases h3 : (lenB s && lenB (s + (x.it.lim (x.it.base + p) - (x.it.base + p)))) = true
        · rw [if_pos h3, Option.map_some, Option.bind_some] at h
          rw [Bool.and_eq_true] at h3
          refine ⟨(lenB_iff _).1 h1.2, (lenB_iff _).1 h2, (lenB_iff _).1 h3.2, ?_⟩
          cases h4 : tgsF (st.drop (j + 1)) (ps.drop (j + 1)) (s + (x.it.lim (x.it.base + p) - (x.it.base + p))) with
          | none => rw [h4] at h; cases h
          | some q =>
            rw [h4] at h
            obtain ⟨q1, q2⟩ := q
            simp only [Option.map_some, Option.some.injEq, Prod.mk.injEq, List.cons.injEq] at h
            obtain ⟨rfl, rfl, rfl⟩ := h
            exact ⟨by rw [← hf], rfl⟩
        · rw [if_neg h3] at h; simp at h
      · rw [if_neg h2] at h; simp at h
    · rw [if_neg h1] at h; simp at h
end Go.Proofs.Ythofammjbicogaa
