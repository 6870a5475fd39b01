/-
  From a walk that leaves all old memory as it was to a law's own words, whatever its parameters: each argument reads as it did. And: structs of one-cell fields by value, opened.
-/
import Derived.Test.YthffphcgkmjhbaaLift
import Derived.Test.YthffphcgkmjhbaaBlk
import Derived.ReadAgain
import Derived.Lib.SmallJoins
namespace Go.Proofs.Ythffphcgkmjhbaa
open Go.ChangeShapes Go.WideShapes Go.ChangeAt Go.RowKit Go.Joins Go.Deep
set_option linter.unusedVariables false
section
variable {H : Type} {enc : TypeId × Value → H} {P : Program}
theorem trodAll_carry {w w' : World} {base : Nat} {spare : Nat → Bool} {held : Bool} : ∀ {ts : List TypeId} {vs : List Value} {ds : List (DataW H)} {ps : List MemPlace},
    DataW.TrodAll enc P w base spare held ts vs ds ps → (∀ p ∈ ps, w.sameAt w' p) → DataW.TrodAll enc P w' base spare held ts vs ds ps
  | [], [], [], _, h, _ => h
  | _ :: _, _ :: _, _ :: _, _, ⟨p, q, ⟨n, h1⟩, h2, e⟩, hs =>
    ⟨p, q, ⟨n, DataW.trod_carry n _ _ _ h1 fun x hx => hs x (by rw [e]; exact List.mem_append_left _ hx)⟩, trodAll_carry h2 fun x hx => hs x (by rw [e]; exact List.mem_append_right _ hx), e⟩
/-- Behind a walk of a law: true; the arguments read as they did. -/
theorem post_law (hl : laidOutB P = true) (hm : mapsRowed P = true) (hz : ∀ t e, t < P.types.size → P.underlying t = some (.slice e) → 0 < P.cellsOf e)
    {f : Func} {s : ChangeSpec} {tb : TypeId} {W W' : World} {args : Array Value} {ds : List (DataW H)} {before : List MemPlace}
    (hW : DataW.Whole enc P f.params.toList s.vars false W args.toList ds [] before) (hv : s.vars = []) (ht : ∀ t ∈ f.params.toList, t < P.types.size)
    (hr : f.resultTypes = #[tb]) (hb : P.underlying tb = some .bool) (hf : s.fn H (ds ++ []) = { results := [.lit (.bool true)], args := ds }) (hB : Below W.heap.size W W') :
    s.post enc P f false true false false W args (.bool true) W' := by
  have hlt := hW.lt
  obtain ⟨p, q, hA, hV, rfl, hfz, hnd⟩ := hW
  rw [hv] at hV
  obtain ⟨_, rfl⟩ := trodVars_none hV
  rw [List.append_nil] at hlt hfz
  refine post_below (ds := ds) (gs := []) (pa := p) (pv := []) ⟨p, [], hA, by rw [hv]; rfl, rfl, by rw [List.append_nil]; exact hfz, hnd⟩ ?_ ?_ ?_ rfl hB
  · intro b sp hd
    rw [hf, hr]
    exact trodAll_cons_mk (shut_bool hb _) trodAll_mk0
  · intro sp hsp
    rw [hf]
    refine trodAll_carry (DataW.TrodAll.respare (kids_rows hl hm) hz ht hA fun x hx => hsp x (by rw [List.append_nil]; exact hx)) fun x hx => ?_
    exact hB.same (hlt x hx)
  · intro sp _
    rw [hf, hv]
    rfl
end
section
variable {H : Type} {enc : TypeId × Value → H} {P : Program} {w : World} {base : Nat} {spare : Nat → Bool} {held : Bool}
/-- A struct of one-cell fields, by value: each field by its own reading. -/
theorem open_flat {r : Reach} {b0 : Nat} {t : TypeId} {fs : Array Field} {v : Value} {d : DataW H} {p : List MemPlace} (hs : P.underlying t = some (.struct fs)) (hone : oneCellFields P fs = true) (hC : P.cellsOf t = fs.size)
    (hv : Value.okWide P w r b0 t v) (h : DataW.Trod enc P w base spare held t v d p) :
    ∃ l : List Value, v = .agg l.toArray ∧ l.length = fs.size ∧ ∀ (i : Nat) (f : Field), fs[i]? = some f → ∃ u y n, l[i]? = some u ∧ DataW.trod enc P w base spare held n f.type [u] = some y := by
  obtain ⟨⟨l⟩, rfl, hsz⟩ := okWide_struct hs hv
  obtain ⟨fuel, hf⟩ := h
  obtain ⟨xs, n, _, _, _, hlen, hg⟩ := DataW.trod_struct hs hf
  refine ⟨l, rfl, by rw [← hC, ← hsz]; rfl, fun i f hi => ?_⟩
  obtain ⟨ho, hk⟩ := hone_of hone i f hi
  have h1 := hg i f hi
  have hil : i < fs.size := (Array.getElem?_eq_some_iff.1 hi).1
  have hll : i < l.length := by rw [hC] at hsz; simp at hsz; omega
  have hxl : i < xs.length := by omega
  rw [ho, hk] at h1
  have e : (l.drop i).take 1 = [l[i]] := by rw [List.drop_eq_getElem_cons hll]; rfl
  rw [show (Value.agg { toList := l }).cells.toList = l from rfl, e, List.getElem?_eq_getElem hxl] at h1
  exact ⟨l[i], xs[i], n, List.getElem?_eq_getElem hll, h1⟩
/-- An array of structs of one-cell fields, by value: each field by its own reading. -/
theorem open_arr_flat {r : Reach} {b0 n : Nat} {t e : TypeId} {fs : Array Field} {v : Value} {d : DataW H} {p : List MemPlace} (hs : P.underlying t = some (.array n e)) (he : P.underlying e = some (.struct fs)) (hone : oneCellFields P fs = true) (hE : P.cellsOf e = fs.size) (hC : P.cellsOf t = n * fs.size)
    (hv : Value.okWide P w r b0 t v) (h : DataW.Trod enc P w base spare held t v d p) :
    ∃ l : List Value, v = .agg l.toArray ∧ l.length = n * fs.size ∧ ∀ (i j : Nat) (f : Field), i < n → fs[j]? = some f → ∃ u y m, l[i * fs.size + j]? = some u ∧ DataW.trod enc P w base spare held m f.type [u] = some y := by
  simp only [Value.okWide, hs] at hv
  obtain ⟨⟨l⟩, rfl, hsz, _⟩ := hv
  obtain ⟨fuel, hf⟩ := h
  obtain ⟨xs, m, _, _, _, hxl, hg⟩ := DataW.trod_array hs hf
  have hl : l.length = n * fs.size := by rw [← hC, ← hsz]; rfl
  refine ⟨l, rfl, hl, fun i j f hi hj => ?_⟩
  have hjl : j < fs.size := (Array.getElem?_eq_some_iff.1 hj).1
  have h1 := hg i hi
  rw [List.getElem?_eq_getElem (by omega), show (Value.agg { toList := l }).cells.toList = l from rfl, hE] at h1
  obtain ⟨ys, m', _, _, _, hyl, hg2⟩ := DataW.trod_struct he h1
  have h2 := hg2 j f hj
  obtain ⟨ho, hk⟩ := hone_of hone j f hj
  have hin : i * fs.size + j < l.length := by
    rw [hl]
    have : (i + 1) * fs.size ≤ n * fs.size := Nat.mul_le_mul_right _ hi
    rw [Nat.add_mul] at this
    omega
  rw [ho, hk, List.getElem?_eq_getElem (show j < ys.length by omega)] at h2
  have e : (((l.drop (i * fs.size)).take fs.size).drop j).take 1 = [l[i * fs.size + j]] := by
    rw [List.drop_take, List.take_take, List.drop_drop, show min 1 (fs.size - j) = 1 by omega, List.drop_eq_getElem_cons hin]
    rfl
  rw [e] at h2
  exact ⟨_, _, m', List.getElem?_eq_getElem hin, h2⟩
theorem flat_int {t : TypeId} {k : IntKind} (ht : P.underlying t = some (.int k)) {l : List Value} {i : Nat} (h : ∃ u y n, l[i]? = some u ∧ DataW.trod enc P w base spare held n t [u] = some y) :
    ∃ a : Int, l[i]? = some (.int k a) ∧ (Lit.int k a).wf = true := by
  obtain ⟨u, y, n, h1, h2⟩ := h
  obtain ⟨a, e, _, hw⟩ := DataW.trod_int ht h2
  obtain rfl : u = .int k a := by simpa using e
  exact ⟨a, h1, hw⟩
theorem flat_bool {t : TypeId} (ht : P.underlying t = some .bool) {l : List Value} {i : Nat} (h : ∃ u y n, l[i]? = some u ∧ DataW.trod enc P w base spare held n t [u] = some y) :
    ∃ a : Bool, l[i]? = some (.bool a) := by
  obtain ⟨u, y, n, h1, h2⟩ := h
  obtain ⟨a, e, _⟩ := DataW.trod_bool ht h2
  obtain rfl : u = .bool a := by simpa using e
  exact ⟨a, h1⟩
theorem flat_string {t : TypeId} (ht : P.underlying t = some .string) {l : List Value} {i : Nat} (h : ∃ u y n, l[i]? = some u ∧ DataW.trod enc P w base spare held n t [u] = some y) :
    ∃ a : ByteArray, l[i]? = some (.string a) ∧ a.size ≤ maxLen := by
  obtain ⟨u, y, n, h1, h2⟩ := h
  obtain ⟨a, e, _, hm⟩ := DataW.trod_string ht h2
  obtain rfl : u = .string a := by simpa using e
  exact ⟨a, h1, hm⟩
end
theorem open_sl {H : Type} {enc : TypeId × Value → H} {P : Program} {w : World} {r : Reach} {b0 base : Nat} {spare : Nat → Bool} {held : Bool} {t e : TypeId} {k : IntKind} {v : Value} {d : DataW H} {p : List MemPlace} (ht : P.underlying t = some (.slice e)) (he : P.underlying e = some (.int k)) (hc : P.cellsOf e = 1)
    (hsp : spare = fun _ => true) (hv : Value.okWide P w r b0 t v) (h : DataW.Trod enc P w base spare held t v d p) : SlV k w v := by
  obtain ⟨fuel, hf⟩ := h
  have hv' := hv
  simp only [Value.okWide, ht] at hv'
  obtain ⟨a, l, c, rfl⟩ := okWide_slice ht hv
  rcases open_ints ht he hc hf with ⟨hcs, _⟩ | ⟨a', len, cap, zs, hcs, _, hl, hm, hz, _, hcell, hwz⟩
  · left
    have : (Value.slice a l c).cells.toList = [.slice a l c] := rfl
    rw [this] at hcs
    simpa using hcs
  · have : (Value.slice a l c).cells.toList = [.slice a l c] := rfl
    rw [this] at hcs
    obtain ⟨rfl, rfl, rfl⟩ : a = some a' ∧ l = len ∧ c = cap := by simpa using hcs
    simp only [Cell.okWide, Cell.ok, ht] at hv'
    obtain ⟨_, _, _, hspot, row, cells, hshape, _⟩ := hv'
    obtain ⟨g, off, spot⟩ := a'
    simp only at hspot hshape
    subst hspot
    have hg : g < w.heap.size := by
      rcases Nat.lt_or_ge g w.heap.size with h | h
      · exact h
      · unfold World.shape? at hshape
        rw [Array.getElem?_eq_none h] at hshape
        cases hshape
    right
    rw [hsp] at hz
    simp only [if_true] at hz
    refine ⟨g, off, l, c, zs, rfl, hz, hl, hm, hg, fun i hi => ?_, hwz⟩
    have := hcell i (by omega)
    have hadd : (⟨g, off, none⟩ : Addr).add i = ⟨g, off + i, none⟩ := by unfold Addr.add; split <;> simp_all
    rwa [hadd] at this
def listAt (l : List Value) : Nat → List Value → Prop
  | _, [] => True
  | k, x :: xs => l[k]? = some x ∧ listAt l (k + 1) xs
theorem list_end {l : List Value} {k : Nat} : listAt l k [] := trivial
theorem list_step {l : List Value} {k : Nat} {x : Value} {xs : List Value} (h : l[k]? = some x) (hs : listAt l (k + 1) xs) : listAt l k (x :: xs) := ⟨h, hs⟩
theorem listAt.get {l : List Value} : ∀ {xs : List Value} {k : Nat}, listAt l k xs → ∀ i, i < xs.length → l[k + i]? = xs[i]?
  | x :: xs, k, h, i, hi => by
    cases i with
    | zero => simpa using h.1
    | succ i =>
      have := listAt.get h.2 i (by simpa using hi)
      rw [List.getElem?_cons_succ, ← this]; congr 1; omega
theorem list_by {l xs : List Value} {n : Nat} (hl : l.length = n) (h : listAt l 0 xs) (hn : xs.length = n := by rfl) : l = xs := by
  apply List.ext_getElem?
  intro i
  by_cases hi : i < xs.length
  · have := h.get i hi; rwa [Nat.zero_add] at this
  · rw [List.getElem?_eq_none (by omega), List.getElem?_eq_none (by omega)]
theorem u32_of_wf {x : Int} (h : (Lit.int .u32 x).wf = true) : 0 ≤ x ∧ x ≤ 4294967295 := by
  simp [Lit.wf, IntKind.min, IntKind.max, IntKind.signed, IntKind.bits] at h
  exact ⟨by omega, by omega⟩
theorem u16_of_wf {x : Int} (h : (Lit.int .u16 x).wf = true) : 0 ≤ x ∧ x ≤ 65535 := by
  simp [Lit.wf, IntKind.min, IntKind.max, IntKind.signed, IntKind.bits] at h
  exact ⟨by omega, by omega⟩
theorem u8_of_wf {x : Int} (h : (Lit.int .u8 x).wf = true) : 0 ≤ x ∧ x ≤ 255 := by
  simp [Lit.wf, IntKind.min, IntKind.max, IntKind.signed, IntKind.bits] at h
  exact ⟨by omega, by omega⟩
theorem i32_of_wf {x : Int} (h : (Lit.int .i32 x).wf = true) : -2147483648 ≤ x ∧ x ≤ 2147483647 := by
  simp [Lit.wf, IntKind.min, IntKind.max, IntKind.signed, IntKind.bits] at h
  exact ⟨by omega, by omega⟩
theorem slices_full : ∀ t e, t < Try.prog.types.size → Try.prog.underlying t = some (.slice e) → 0 < Try.prog.cellsOf e := slices_full_of Try.prog (by kernel_rfl)
end Go.Proofs.Ythffphcgkmjhbaa
