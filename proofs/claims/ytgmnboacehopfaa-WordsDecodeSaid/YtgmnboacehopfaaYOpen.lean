/-
  What came in, opened: slices of flat things, by themselves or in structs.
-/
import Derived.Test.YtgmnboacehopfaaZ6
import Derived.Test.YtgmnboacehopfaaZ7
import Derived.DataReads
namespace Go.Proofs.Ytgmnboacehopfaa
open Go.ChangeShapes Go.WideShapes Go.ChangeAt Go.RowKit Go.Joins Go.Deep
set_option linter.unusedVariables false

theorem flat_len {f : Nat → List Value} {s : Nat} : ∀ n, (∀ i, i < n → (f i).length = s) → ((List.range n).flatMap f).length = n * s
  | 0, _ => by simp
  | n + 1, h => by
    rw [List.range_succ, List.flatMap_append, List.length_append, flat_len n (fun i hi => h i (by omega)), Nat.succ_mul]
    simp [h n (by omega)]
theorem flat_get {f : Nat → List Value} {s : Nat} : ∀ n, (∀ i, i < n → (f i).length = s) → ∀ i j, i < n → j < s → ((List.range n).flatMap f)[i * s + j]? = (f i)[j]?
  | 0, _, _, _, hi, _ => by omega
  | n + 1, h, i, j, hi, hj => by
    rw [List.range_succ, List.flatMap_append]
    have hl := flat_len (f := f) (s := s) n (fun i hi => h i (by omega))
    by_cases e : i = n
    · subst e
      rw [List.getElem?_append_right (by omega), hl]
      simp
    · have hlt : i * s + s ≤ n * s := by rw [← Nat.succ_mul]; exact Nat.mul_le_mul_right _ (by omega)
      rw [List.getElem?_append_left (by omega)]
      exact flat_get n (fun i hi => h i (by omega)) i j (by omega) hj
theorem flat_part {f : Nat → List Value} {s n : Nat} (h : ∀ i, i < n → (f i).length = s) {i : Nat} (hi : i < n) : (((List.range n).flatMap f).drop (i * s)).take s = f i := by
  apply List.ext_getElem?
  intro j
  by_cases hj : j < s
  · rw [List.getElem?_take_of_lt hj, List.getElem?_drop, flat_get n h i j hi hj]
  · rw [List.getElem?_eq_none (by rw [List.length_take]; omega), List.getElem?_eq_none (by rw [h i hi]; omega)]
section
variable {H : Type} {enc : TypeId × Value → H} {P : Program} {w : World} {base b0 : Nat} {spare : Nat → Bool} {held : Bool} {r : Reach}
/-- A field's own reading of its cell, out of the struct's. -/
theorem cell_ok {t tu : TypeId} {fs : Array Field} {l : List Value} {ts : List TypeId} {i : Nat} {u : Value} (hs : P.underlying t = some (.struct fs)) (hv : Value.okWide P w r b0 t (.agg l.toArray)) (hts : P.cellTypes P.depth t = some ts) (hi : ts[i]? = some tu) (hl : l[i]? = some u) : Cell.okWide P w r b0 tu u := by
  simp only [Value.okWide, hs] at hv
  obtain ⟨cs, e, _, hrow⟩ := hv
  obtain rfl : l.toArray = cs := by simpa using e
  obtain ⟨ts', h1, _, h2⟩ := hrow
  obtain rfl : ts = ts' := by rw [hts] at h1; simpa using h1
  have hlt : i < ts.length := (List.getElem?_eq_some_iff.1 hi).1
  obtain ⟨tu', h3, h4⟩ := h2 i u (by simpa using hl)
  rw [Nat.mod_eq_of_lt hlt, hi] at h3
  obtain rfl : tu = tu' := by simpa using h3
  exact h4
/-- A slice of things of s cells each that came in. -/
theorem open_row {t e : TypeId} {s n0 : Nat} {u : Value} {y : DataW H × List MemPlace} (ht : P.underlying t = some (.slice e)) (hc : P.cellsOf e = s) (hs : 0 < s) (hok : Cell.okWide P w r b0 t u) (h : DataW.trod enc P w base spare held n0 t [u] = some y) :
    u = .slice none 0 0 ∨ ∃ g off n cap vs, u = .slice (some ⟨g, off, none⟩) n cap ∧ n ≤ cap ∧ cap ≤ maxLen ∧ g < w.heap.size ∧ RowV w (some ⟨g, off, none⟩) n s vs ∧ ∀ i, i < n → ∃ m z, DataW.trod enc P w base spare held m e ((vs.drop (i * s)).take s) = some z := by
  rcases DataW.trod_slice ht h with ⟨h0, _⟩ | ⟨a, len, cap, elems, rest, n, _, hu, _, hb, hl, hm, hlen, hel, _, _⟩
  · left; simpa using h0
  · right
    obtain rfl : u = .slice (some a) len cap := by simpa using hu
    simp only [Cell.okWide, Cell.ok, ht] at hok
    obtain ⟨_, _, _, hspot, row, cells, hshape, _⟩ := hok
    obtain ⟨g, off, spot⟩ := a
    simp only at hspot hshape
    subst hspot
    have hg : g < w.heap.size := by
      rcases Nat.lt_or_ge g w.heap.size with h | h
      · exact h
      · unfold World.shape? at hshape
        rw [Array.getElem?_eq_none h] at hshape
        cases hshape
    have hadd : ∀ i, (⟨g, off, none⟩ : Addr).add i = ⟨g, off + i, none⟩ := fun i => by unfold Addr.add; split <;> simp_all
    have hadd2 : ∀ i j, ((⟨g, off, none⟩ : Addr).add i).add j = ⟨g, off + (i + j), none⟩ := fun i j => by rw [hadd]; unfold Addr.add; split <;> simp_all <;> omega
    obtain ⟨f, ef⟩ : ∃ f : Nat → List Value, f = fun i => (w.cells? base ((⟨g, off, none⟩ : Addr).add (i * s)) s).getD [] := ⟨_, rfl⟩
    have key : ∀ i, i < len → (w.cells? base ((⟨g, off, none⟩ : Addr).add (i * s)) s) = some (f i) ∧ ∃ z, DataW.trod enc P w base spare held n e (f i) = some z := by
      intro i hi
      have h1 := hel i hi
      rw [hc, List.getElem?_eq_getElem (by omega), Option.bind_eq_some_iff] at h1
      obtain ⟨cs, hcs, h2⟩ := h1
      have : f i = cs := by rw [ef]; simp [hcs]
      rw [this]
      exact ⟨hcs, _, h2⟩
    have hfl : ∀ i, i < len → (f i).length = s := fun i hi => (World.cells?_some (key i hi).1).2.1
    refine ⟨g, off, len, cap, (List.range len).flatMap f, rfl, hl, hm, hg, ⟨flat_len len hfl, fun _ => ⟨g, off, rfl, hg, fun i hi => ?_⟩⟩, fun i hi => ?_⟩
    · have hq : i / s < len := by rw [Nat.div_lt_iff_lt_mul hs]; exact hi
      have hr : i % s < s := Nat.mod_lt _ hs
      have e1 : i = i / s * s + i % s := by rw [Nat.mul_comm]; exact (Nat.div_add_mod i s).symm
      have h1 := (World.cells?_some (key (i / s) hq).1).2.2 (i % s) hr
      rw [hadd2, ← e1] at h1
      rw [h1]
      conv => rhs; rw [e1]
      exact (flat_get len hfl _ _ hq hr).symm
    · rw [flat_part hfl hi]
      obtain ⟨z, hz⟩ := (key i hi).2
      exact ⟨n, z, hz⟩
/-- .. of ints. -/
theorem open_row_ints {t e : TypeId} {k : IntKind} {n0 : Nat} {u : Value} {y : DataW H × List MemPlace} (ht : P.underlying t = some (.slice e)) (he : P.underlying e = some (.int k)) (hc : P.cellsOf e = 1) (hok : Cell.okWide P w r b0 t u) (h : DataW.trod enc P w base spare held n0 t [u] = some y) :
    ∃ (ao : Option Addr) (n cap : Nat) (xs : List Int), u = .slice ao n cap ∧ n ≤ maxLen ∧ RowV w ao n 1 (xs.map fun x => .int k x) ∧ ∀ x ∈ xs, (Lit.int k x).wf = true := by
  rcases open_row ht hc (by decide) hok h with rfl | ⟨g, off, n, cap, vs, rfl, h1, h2, h3, h4, h5⟩
  · exact ⟨none, 0, 0, [], rfl, Nat.zero_le _, RowV.nil _ _ _, by intro x hx; cases hx⟩
  · have hl : vs.length = n := by rw [h4.1, Nat.mul_one]
    have each : ∀ i, i < vs.length → ∃ a : Int, vs[i]? = some (.int k a) ∧ (Lit.int k a).wf = true := by
      intro i hi
      obtain ⟨m, z, hz⟩ := h5 i (by omega)
      obtain ⟨a, e1, _, hw⟩ := DataW.trod_int he hz
      have e2 : ((vs.drop (i * 1)).take 1)[0]? = some (.int k a) := by rw [e1]; rfl
      rw [List.getElem?_take_of_lt (by decide), List.getElem?_drop, Nat.mul_one, Nat.add_zero] at e2
      exact ⟨a, e2, hw⟩
    have : ∃ xs : List Int, vs = (xs.map fun x => .int k x) ∧ ∀ x ∈ xs, (Lit.int k x).wf = true := by
      clear h4 h5 hl
      induction vs with
      | nil => exact ⟨[], rfl, by simp⟩
      | cons v vs ih =>
        obtain ⟨a, e1, hw⟩ := each 0 (by simp)
        obtain ⟨xs, e2, hw2⟩ := ih (fun i hi => by
          have := each (i + 1) (by simpa using hi)
          simpa using this)
        obtain rfl : v = .int k a := by simpa using e1
        refine ⟨a :: xs, by rw [e2]; rfl, fun x hx => ?_⟩
        rcases List.mem_cons.1 hx with rfl | hx
        · exact hw
        · exact hw2 x hx
    obtain ⟨xs, e, hw⟩ := this
    exact ⟨_, n, cap, xs, rfl, by omega, by rw [← e]; exact h4, hw⟩
/-- .. of pairs of marks. -/
theorem open_row_marks {t e b : TypeId} {n0 : Nat} {u : Value} {y : DataW H × List MemPlace} (ht : P.underlying t = some (.slice e)) (he : P.underlying e = some (.array 2 b)) (hb : P.underlying b = some .bool) (hc : P.cellsOf e = 2) (hcb : P.cellsOf b = 1) (hok : Cell.okWide P w r b0 t u) (h : DataW.trod enc P w base spare held n0 t [u] = some y) :
    ∃ (m : Nat) (bs : List Bool), bs.length = m * 2 ∧ (u = .slice none 0 0 ∧ m = 0 ∨ ∃ g off cap, u = .slice (some ⟨g, off, none⟩) m cap ∧ m ≤ cap ∧ cap ≤ maxLen ∧ g < w.heap.size ∧ RowV w (some ⟨g, off, none⟩) m 2 (bs.map fun x => .bool x)) := by
  rcases open_row ht hc (by decide) hok h with rfl | ⟨g, off, n, cap, vs, rfl, h1, h2, h3, h4, h5⟩
  · exact ⟨0, [], rfl, .inl ⟨rfl, rfl⟩⟩
  · have each : ∀ i, i < vs.length → ∃ a : Bool, vs[i]? = some (.bool a) := by
      intro i hi
      have hl := h4.1
      obtain ⟨m, z, hz⟩ := h5 (i / 2) (by omega)
      obtain ⟨xs, m', _, _, _, hxl, hg⟩ := DataW.trod_array he hz
      have h6 := hg (i % 2) (Nat.mod_lt _ (by decide))
      rw [List.getElem?_eq_getElem (show i % 2 < xs.length by omega), hcb] at h6
      obtain ⟨a, e1, _⟩ := DataW.trod_bool hb h6
      have e2 : ((((vs.drop (i / 2 * 2)).take 2).drop (i % 2 * 1)).take 1)[0]? = some (.bool a) := by rw [e1]; rfl
      rw [List.getElem?_take_of_lt (by decide), List.getElem?_drop, List.getElem?_take_of_lt (by omega), List.getElem?_drop] at e2
      refine ⟨a, ?_⟩
      rw [← e2]
      congr 1
      omega
    have : ∃ xs : List Bool, vs = (xs.map fun x => .bool x) := by
      clear h4 h5
      induction vs with
      | nil => exact ⟨[], rfl⟩
      | cons v vs ih =>
        obtain ⟨a, e1⟩ := each 0 (by simp)
        obtain ⟨xs, e2⟩ := ih (fun i hi => by
          have := each (i + 1) (by simpa using hi)
          simpa using this)
        obtain rfl : v = .bool a := by simpa using e1
        exact ⟨a :: xs, by rw [e2]; rfl⟩
    obtain ⟨bs, e⟩ := this
    refine ⟨n, bs, ?_, .inr ⟨g, off, cap, rfl, h1, h2, h3, by rw [← e]; exact h4⟩⟩
    have := h4.1
    rw [e, List.length_map] at this
    exact this
end
theorem RowV.ints {w : World} {ao : Option Addr} {n : Nat} {xs : List Int} (h : RowV w ao n 1 (xs.map fun x => .int .i64 x)) : RowI w ao n xs := by
  have hl : xs.length = n := by have := h.1; simpa using this
  refine ⟨hl, fun hn => ?_⟩
  obtain ⟨g, off, e, hg, hc⟩ := h.2 hn
  refine ⟨g, off, e, hg, fun i hi => ?_⟩
  rw [hc i (by omega)]
  have : i < xs.length := by omega
  simp [List.getD, this]
end Go.Proofs.Ytgmnboacehopfaa
