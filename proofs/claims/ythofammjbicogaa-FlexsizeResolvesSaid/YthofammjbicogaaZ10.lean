/-
  From a walk that leaves all old memory as it was to a law's own words, whatever its parameters: each argument reads as it did. And: structs of one-cell fields by value, opened.
-/
/-
  Packages value (In) and sizing, each function by its contract, and the references'.
-/
/-
  Package sizing: Of, Limits.Of, Fit; and what the laws of layer 14 begin with; SizingFits.
-/
/-
  What the laws of layer 14 begin with; SizingFits.
-/
/-
  What the laws of layer 14 are told by: 'told', by its contract.
-/
/-
  The reference of layer 14: Of, by its contract.
-/
/-
  The statement SizingOf.
-/
/-
  Package sizing: Between; the reference's Within.
-/
/-
  clapboardref05.Split: the parts are the call's own.
-/
/-
  Regions that draw their order, whose operations only read, but for the last, which waits for all the others (a store, a call): one walk in the order of the text serves.
-/
/-
  Regions whose order is left open and that make slices, by claims.
-/
import Derived.Test.YthofammjbicogaaZ9
import Derived.Test.YthofammjbicogaaZ1
import Derived.ReadAgain
import Derived.Lib.SmallJoins
import Derived.Test.YthofammjbicogaaZ6
import Derived.Test.YthofammjbicogaaZ5
import Derived.Test.YthofammjbicogaaZ8
import Derived.BigQuiet
namespace Go.Proofs.Ythofammjbicogaa
open Go.ChangeShapes Go.WideShapes Go.ChangeAt Go.RowKit Go.Joins Go.Deep
set_option linter.unusedVariables false
section
variable {H : Type} {enc : TypeId × Value → H} {P : Program}
theorem trodAll_carry {w w' : World} {base : Nat} {spare : Nat → Bool} {held : Bool} : ∀ {ts : List TypeId} {vs : List Value} {ds : List (DataW H)} {ps : List MemPlace},
    DataW.TrodAll enc P w base spare held ts vs ds ps → (∀ p ∈ ps, w.sameAt w' p) → DataW.TrodAll enc P w' base spare held ts vs ds ps
  | [], [], [], _, h, _ => h
  | _ :: _, _ :: _, _ :: _, _, ⟨p, q, ⟨n, h1⟩, h2, e⟩, hs =>
    ⟨p, q, ⟨n, DataW.trod_carry n _ _ _ h1 fun x hx => hs x (by rw [e]; exact List.mem_append_left _ hx)⟩, trodAll_carry h2 fun x hx => hs x (by rw [e]; exact List.mem_append_right _ hx), e⟩
/-- Behind a walk of a law: true; the arguments read as they did. -/
theorem post_law (hl : laidOutB P = true) (hm : mapsRowed P = true) (hz : ∀ t e, t < P.types.size → P.underlying t = some (.slice e) → 0 < P.cellsOf e)
    {f : Func} {s : ChangeSpec} {tb : TypeId} {W W' : World} {args : Array Value} {ds : List (DataW H)} {before : List MemPlace}
    (hW : DataW.Whole enc P f.params.toList s.vars false W args.toList ds [] before) (hv : s.vars = []) (ht : ∀ t ∈ f.params.toList, t < P.types.size)
    (hr : f.resultTypes = #[tb]) (hb : P.underlying tb = some .bool) (hf : s.fn H (ds ++ []) = { results := [.lit (.bool true)], args := ds }) (hB : Below W.heap.size W W') :
    s.post enc P f false true false false W args (.bool true) W' := by
  have hlt := hW.lt
  obtain ⟨p, q, hA, hV, rfl, hfz, hnd⟩ := hW
  rw [hv] at hV
  obtain ⟨_, rfl⟩ := trodVars_none hV
  rw [List.append_nil] at hlt hfz
  refine post_below (ds := ds) (gs := []) (pa := p) (pv := []) ⟨p, [], hA, by rw [hv]; rfl, rfl, by rw [List.append_nil]; exact hfz, hnd⟩ ?_ ?_ ?_ rfl hB
  · intro b sp hd
    rw [hf, hr]
    exact trodAll_cons_mk (shut_bool hb _) trodAll_mk0
  · intro sp hsp
    rw [hf]
    refine trodAll_carry (DataW.TrodAll.respare (kids_rows hl hm) hz ht hA fun x hx => hsp x (by rw [List.append_nil]; exact hx)) fun x hx => ?_
    exact hB.same (hlt x hx)
  · intro sp _
    rw [hf, hv]
    rfl
end
section
variable {H : Type} {enc : TypeId × Value → H} {P : Program} {w : World} {base : Nat} {spare : Nat → Bool} {held : Bool}
/-- A struct of one-cell fields, by value: each field by its own reading. -/
theorem open_flat {r : Reach} {b0 : Nat} {t : TypeId} {fs : Array Field} {v : Value} {d : DataW H} {p : List MemPlace} (hs : P.underlying t = some (.struct fs)) (hone : oneCellFields P fs = true) (hC : P.cellsOf t = fs.size)
    (hv : Value.okWide P w r b0 t v) (h : DataW.Trod enc P w base spare held t v d p) :
    ∃ l : List Value, v = .agg l.toArray ∧ l.length = fs.size ∧ ∀ (i : Nat) (f : Field), fs[i]? = some f → ∃ u y n, l[i]? = some u ∧ DataW.trod enc P w base spare held n f.type [u] = some y := by
  obtain ⟨⟨l⟩, rfl, hsz⟩ := okWide_struct hs hv
  obtain ⟨fuel, hf⟩ := h
  obtain ⟨xs, n, _, _, _, hlen, hg⟩ := DataW.trod_struct hs hf
  refine ⟨l, rfl, by rw [← hC, ← hsz]; rfl, fun i f hi => ?_⟩
  obtain ⟨ho, hk⟩ := hone_of hone i f hi
  have h1 := hg i f hi
  have hil : i < fs.size := (Array.getElem?_eq_some_iff.1 hi).1
  have hll : i < l.length := by rw [hC] at hsz; simp at hsz; omega
  have hxl : i < xs.length := by omega
  rw [ho, hk] at h1
  have e : (l.drop i).take 1 = [l[i]] := by rw [List.drop_eq_getElem_cons hll]; rfl
  rw [show (Value.agg { toList := l }).cells.toList = l from rfl, e, List.getElem?_eq_getElem hxl] at h1
  exact ⟨l[i], xs[i], n, List.getElem?_eq_getElem hll, h1⟩
/-- An array of structs of one-cell fields, by value: each field by its own reading. -/
theorem open_arr_flat {r : Reach} {b0 n : Nat} {t e : TypeId} {fs : Array Field} {v : Value} {d : DataW H} {p : List MemPlace} (hs : P.underlying t = some (.array n e)) (he : P.underlying e = some (.struct fs)) (hone : oneCellFields P fs = true) (hE : P.cellsOf e = fs.size) (hC : P.cellsOf t = n * fs.size)
    (hv : Value.okWide P w r b0 t v) (h : DataW.Trod enc P w base spare held t v d p) :
    ∃ l : List Value, v = .agg l.toArray ∧ l.length = n * fs.size ∧ ∀ (i j : Nat) (f : Field), i < n → fs[j]? = some f → ∃ u y m, l[i * fs.size + j]? = some u ∧ DataW.trod enc P w base spare held m f.type [u] = some y := by
  simp only [Value.okWide, hs] at hv
  obtain ⟨⟨l⟩, rfl, hsz, _⟩ := hv
  obtain ⟨fuel, hf⟩ := h
  obtain ⟨xs, m, _, _, _, hxl, hg⟩ := DataW.trod_array hs hf
  have hl : l.length = n * fs.size := by rw [← hC, ← hsz]; rfl
  refine ⟨l, rfl, hl, fun i j f hi hj => ?_⟩
  have hjl : j < fs.size := (Array.getElem?_eq_some_iff.1 hj).1
  have h1 := hg i hi
  rw [List.getElem?_eq_getElem (by omega), show (Value.agg { toList := l }).cells.toList = l from rfl, hE] at h1
  obtain ⟨ys, m', _, _, _, hyl, hg2⟩ := DataW.trod_struct he h1
  have h2 := hg2 j f hj
  obtain ⟨ho, hk⟩ := hone_of hone j f hj
  have hin : i * fs.size + j < l.length := by
    rw [hl]
    have : (i + 1) * fs.size ≤ n * fs.size := Nat.mul_le_mul_right _ hi
    rw [Nat.add_mul] at this
    omega
  rw [ho, hk, List.getElem?_eq_getElem (show j < ys.length by omega)] at h2
  have e : (((l.drop (i * fs.size)).take fs.size).drop j).take 1 = [l[i * fs.size + j]] := by
    rw [List.drop_take, List.take_take, List.drop_drop, show min 1 (fs.size - j) = 1 by omega, List.drop_eq_getElem_cons hin]
    rfl
  rw [e] at h2
  exact ⟨_, _, m', List.getElem?_eq_getElem hin, h2⟩
theorem flat_int {t : TypeId} {k : IntKind} (ht : P.underlying t = some (.int k)) {l : List Value} {i : Nat} (h : ∃ u y n, l[i]? = some u ∧ DataW.trod enc P w base spare held n t [u] = some y) :
    ∃ a : Int, l[i]? = some (.int k a) ∧ (Lit.int k a).wf = true := by
  obtain ⟨u, y, n, h1, h2⟩ := h
  obtain ⟨a, e, _, hw⟩ := DataW.trod_int ht h2
  obtain rfl : u = .int k a := by simpa using e
  exact ⟨a, h1, hw⟩
theorem flat_bool {t : TypeId} (ht : P.underlying t = some .bool) {l : List Value} {i : Nat} (h : ∃ u y n, l[i]? = some u ∧ DataW.trod enc P w base spare held n t [u] = some y) :
    ∃ a : Bool, l[i]? = some (.bool a) := by
  obtain ⟨u, y, n, h1, h2⟩ := h
  obtain ⟨a, e, _⟩ := DataW.trod_bool ht h2
  obtain rfl : u = .bool a := by simpa using e
  exact ⟨a, h1⟩
theorem flat_string {t : TypeId} (ht : P.underlying t = some .string) {l : List Value} {i : Nat} (h : ∃ u y n, l[i]? = some u ∧ DataW.trod enc P w base spare held n t [u] = some y) :
    ∃ a : ByteArray, l[i]? = some (.string a) ∧ a.size ≤ maxLen := by
  obtain ⟨u, y, n, h1, h2⟩ := h
  obtain ⟨a, e, _, hm⟩ := DataW.trod_string ht h2
  obtain rfl : u = .string a := by simpa using e
  exact ⟨a, h1, hm⟩
end
theorem open_sl {H : Type} {enc : TypeId × Value → H} {P : Program} {w : World} {r : Reach} {b0 base : Nat} {spare : Nat → Bool} {held : Bool} {t e : TypeId} {k : IntKind} {v : Value} {d : DataW H} {p : List MemPlace} (ht : P.underlying t = some (.slice e)) (he : P.underlying e = some (.int k)) (hc : P.cellsOf e = 1)
    (hsp : spare = fun _ => true) (hv : Value.okWide P w r b0 t v) (h : DataW.Trod enc P w base spare held t v d p) : SlV k w v := by
  obtain ⟨fuel, hf⟩ := h
  have hv' := hv
  simp only [Value.okWide, ht] at hv'
  obtain ⟨a, l, c, rfl⟩ := okWide_slice ht hv
  rcases open_ints ht he hc hf with ⟨hcs, _⟩ | ⟨a', len, cap, zs, hcs, _, hl, hm, hz, _, hcell, hwz⟩
  · left
    have : (Value.slice a l c).cells.toList = [.slice a l c] := rfl
    rw [this] at hcs
    simpa using hcs
  · have : (Value.slice a l c).cells.toList = [.slice a l c] := rfl
    rw [this] at hcs
    obtain ⟨rfl, rfl, rfl⟩ : a = some a' ∧ l = len ∧ c = cap := by simpa using hcs
    simp only [Cell.okWide, Cell.ok, ht] at hv'
    obtain ⟨_, _, _, hspot, row, cells, hshape, _⟩ := hv'
    obtain ⟨g, off, spot⟩ := a'
    simp only at hspot hshape
    subst hspot
    have hg : g < w.heap.size := by
      rcases Nat.lt_or_ge g w.heap.size with h | h
      · exact h
      · unfold World.shape? at hshape
        rw [Array.getElem?_eq_none h] at hshape
        cases hshape
    right
    rw [hsp] at hz
    simp only [if_true] at hz
    refine ⟨g, off, l, c, zs, rfl, hz, hl, hm, hg, fun i hi => ?_, hwz⟩
    have := hcell i (by omega)
    have hadd : (⟨g, off, none⟩ : Addr).add i = ⟨g, off + i, none⟩ := by unfold Addr.add; split <;> simp_all
    rwa [hadd] at this
def listAt (l : List Value) : Nat → List Value → Prop
  | _, [] => True
  | k, x :: xs => l[k]? = some x ∧ listAt l (k + 1) xs
theorem list_end {l : List Value} {k : Nat} : listAt l k [] := trivial
theorem list_step {l : List Value} {k : Nat} {x : Value} {xs : List Value} (h : l[k]? = some x) (hs : listAt l (k + 1) xs) : listAt l k (x :: xs) := ⟨h, hs⟩
theorem listAt.get {l : List Value} : ∀ {xs : List Value} {k : Nat}, listAt l k xs → ∀ i, i < xs.length → l[k + i]? = xs[i]?
  | x :: xs, k, h, i, hi => by
    cases i with
    | zero => simpa using h.1
    | succ i =>
      have := listAt.get h.2 i (by simpa using hi)
      rw [List.getElem?_cons_succ, ← this]; congr 1; omega
theorem list_by {l xs : List Value} {n : Nat} (hl : l.length = n) (h : listAt l 0 xs) (hn : xs.length = n := by rfl) : l = xs := by
  apply List.ext_getElem?
  intro i
  by_cases hi : i < xs.length
  · have := h.get i hi; rwa [Nat.zero_add] at this
  · rw [List.getElem?_eq_none (by omega), List.getElem?_eq_none (by omega)]
theorem u32_of_wf {x : Int} (h : (Lit.int .u32 x).wf = true) : 0 ≤ x ∧ x ≤ 4294967295 := by
  simp [Lit.wf, IntKind.min, IntKind.max, IntKind.signed, IntKind.bits] at h
  exact ⟨by omega, by omega⟩
theorem u16_of_wf {x : Int} (h : (Lit.int .u16 x).wf = true) : 0 ≤ x ∧ x ≤ 65535 := by
  simp [Lit.wf, IntKind.min, IntKind.max, IntKind.signed, IntKind.bits] at h
  exact ⟨by omega, by omega⟩
theorem u8_of_wf {x : Int} (h : (Lit.int .u8 x).wf = true) : 0 ≤ x ∧ x ≤ 255 := by
  simp [Lit.wf, IntKind.min, IntKind.max, IntKind.signed, IntKind.bits] at h
  exact ⟨by omega, by omega⟩
theorem i32_of_wf {x : Int} (h : (Lit.int .i32 x).wf = true) : -2147483648 ≤ x ∧ x ≤ 2147483647 := by
  simp [Lit.wf, IntKind.min, IntKind.max, IntKind.signed, IntKind.bits] at h
  exact ⟨by omega, by omega⟩
theorem slices_full : ∀ t e, t < Try.prog.types.size → Try.prog.underlying t = some (.slice e) → 0 < Try.prog.cellsOf e := slices_full_of Try.prog (by kernel_rfl)
end Go.Proofs.Ythofammjbicogaa
namespace Go.Proofs.Ythofammjbicogaa
open Go.RowKit
set_option linter.unusedSimpArgs false
set_option linter.unusedVariables false

/-- A number and whether it is one, or a giving up. -/
def Gives2 (n : Int) (ok : Bool) (c : Int) (w : World) (e : Ending) (w' : World) : Prop := (c = 0 → e = .returned (.tuple #[.int .i64 n, .bool ok])) ∧ (c ≠ 0 → e = .panicked (gave c)) ∧ Below w.heap.size w w'
theorem Gives2.ret {n : Int} {ok : Bool} {c : Int} {w w' : World} (hc : c = 0) (hb : Below w.heap.size w w') : Gives2 n ok c w (.returned (.tuple #[.int .i64 n, .bool ok])) w' := ⟨fun _ => rfl, fun h => absurd hc h, hb⟩
theorem Gives2.pan {n : Int} {ok : Bool} {c : Int} {w w' : World} (hc : c ≠ 0) (hb : Below w.heap.size w w') : Gives2 n ok c w (.panicked (gave c)) w' := ⟨fun h => absurd h hc, fun _ => rfl, hb⟩
theorem Gives.ret {n c : Int} {w w' : World} (hc : c = 0) (hb : Below w.heap.size w w') : Gives n c w (.returned (.int .i64 n)) w' := ⟨fun _ => rfl, fun h => absurd hc h, hb⟩
theorem Gives.pan {n c : Int} {w w' : World} (hc : c ≠ 0) (hb : Below w.heap.size w w') : Gives n c w (.panicked (gave c)) w' := ⟨fun h => absurd h hc, fun _ => rfl, hb⟩
def inE (kind N base p q : Int) : Int := if kind = 3 then scaleE N p q else if kind = 4 then partE base N 6400 else 0
def inN (kind N base p q : Int) : Int := if kind = 3 then scaleN N p q else if kind = 4 then partN base N 6400 else 0
def inOk (kind : Int) : Bool := decide (kind = 3) || decide (kind = 4)
/-- The reference's In: the length, whether it is one, the error. -/
def inR (kind N base p q : Int) : Int × Bool × Int :=
  if kind = 3 then (scaleN N p q, decide (scaleE N p q = 0), scaleE N p q) else if kind = 4 then (partN base N 6400, decide (partE base N 6400 = 0), partE base N 6400) else (0, false, 0)
end Go.Proofs.Ythofammjbicogaa
namespace Go.Proofs.Ythofammjbicogaa
open Go.RowKit
set_option linter.unusedSimpArgs false
set_option linter.unusedVariables false

/-- The size that a value tells: it, whether it is told, the error. -/
def ofR (kind N base : Int) (known : Bool) (p q : Int) (whole : Bool) (edges : Int) : Int × Bool × Int :=
  if kind = 4 ∧ known = false then (0, false, 0)
  else if inE kind N base p q ≠ 0 then (0, false, inE kind N base p q)
  else if inOk kind = false then (0, false, 0)
  else if whole = false then (max (inN kind N base p q) 0, true, 0)
  else if lenE (inN kind N base p q - edges) ≠ 0 then (0, false, lenE (inN kind N base p q - edges))
  else (max (inN kind N base p q - edges) 0, true, 0)
theorem partN_len {a n d : Int} : LenB (partN a n d) := by
  unfold partN
  by_cases h0 : d = 0
  · simp [h0]; unfold LenB; omega
  · simp only [if_neg h0]
    cases hl : lenB (fq (a * n) d)
    · simp; unfold LenB; omega
    · simp; exact (lenB_iff _).1 hl
theorem scaleN_len {n p q : Int} : LenB (scaleN n p q) := by
  unfold scaleN
  split
  · exact partN_len
  · unfold LenB; omega
theorem inN_len {kind N base p q : Int} : LenB (inN kind N base p q) := by
  unfold inN
  split
  · exact scaleN_len
  · split
    · exact partN_len
    · unfold LenB; omega
section
variable (kind N base : Int) (known : Bool) (p q siz edges : Int) (w : World)
end
def limN (least most : Int) (bound : Bool) (n : Int) : Int := max (if bound then min n most else n) least
set_option maxRecDepth 100000 in
set_option maxHeartbeats 1600000 in
theorem lim_of (least most : Int) (bound : Bool) (n : Int) (w : World) :
    Calls Try.prog 46 #[.agg #[.int .i64 least, .int .i64 most, .bool bound], .int .i64 n] w fun e w' => e = .returned (.int .i64 (limN least most bound n)) ∧ Below w.heap.size w w' := by
  have t1 := Blk.new w #[.int .i64 least, .int .i64 most, .bool bound] 83 _ rfl
  have hB : Below w.heap.size w (w.alloc (.cells #[.int .i64 least, .int .i64 most, .bool bound] 83)) := (by repeat' (first | (with_reducible exact Below.refl _ _) | (with_reducible assumption) | (with_reducible refine below_alloc ?_ _ ?_) | (with_reducible refine below_set _ ?_ ?_) | (with_reducible refine Below.drew ?_) | (with_reducible refine below_dN ?_ _) | (apply below_thenA; assumption) | omega | (simp; done) | (simp; omega) | (simp [*]; done)))
  have c0 := t1.cell 0 _ rfl
  have c1 := t1.cell 1 _ rfl
  have c2 := t1.cell 2 _ rfl
  cases bound
  all_goals
    go_enter Try.func46, Try.ntmps46
    go_wp2_with fail
    go_ret
    exact ⟨rfl, hB⟩
end Go.Proofs.Ythofammjbicogaa
namespace Go.Proofs.Ythofammjbicogaa
open Go.RowKit
set_option linter.unusedSimpArgs false
set_option linter.unusedVariables false

end Go.Proofs.Ythofammjbicogaa
namespace Go.Proofs.Ythofammjbicogaa
open Go.RowKit
set_option linter.unusedSimpArgs false
set_option linter.unusedVariables false

def heldW (R : World → Prop) (h : ∀ w w', R w → Below w.heap.size w w' → R w') : Cl := .own (fun _ w => R w) (fun _ w w' x hb => h w w' x hb)
def toldS (whole : Bool) : Int := if whole then 2 else 1
end Go.Proofs.Ythofammjbicogaa
namespace Go.Proofs.Ythofammjbicogaa
open Go.RowKit
set_option linter.unusedSimpArgs false
set_option linter.unusedVariables false

def Ans3 (r : Int × Bool × Int) (w : World) (e : Ending) (w' : World) : Prop := e = .returned (.tuple #[.int .i64 r.1, .bool r.2.1, .int .i64 r.2.2]) ∧ Below w.heap.size w w'
theorem inR_eq {kind N base p q : Int} (h : kind = 3 ∨ kind = 4) : inR kind N base p q = (inN kind N base p q, decide (inE kind N base p q = 0), inE kind N base p q) := by
  unfold inR inN inE
  rcases h with rfl | rfl
  · simp
  · simp
section
variable (N base p q edges : Int) (w : World)
end
end Go.Proofs.Ythofammjbicogaa
namespace Go.Proofs.Ythofammjbicogaa
open Go.RowKit
set_option linter.unusedSimpArgs false
set_option linter.unusedVariables false

theorem ofR_err {kind N base : Int} {known : Bool} {p q : Int} {whole : Bool} {edges : Int} (h : (ofR kind N base known p q whole edges).2.2 ≠ 0) :
    (ofR kind N base known p q whole edges).1 = 0 ∧ (ofR kind N base known p q whole edges).2.1 = false := by
  unfold ofR at h ⊢
  split at h
  · exact absurd rfl h
  · split at h
    · rename_i h1 h2; rw [if_neg h1, if_pos h2]; exact ⟨rfl, rfl⟩
    · split at h
      · exact absurd rfl h
      · split at h
        · exact absurd rfl h
        · split at h
          · rename_i h1 h2 h3 h4 h5; rw [if_neg h1, if_neg h2, if_neg h3, if_neg h4, if_pos h5]; exact ⟨rfl, rfl⟩
          · exact absurd rfl h
end Go.Proofs.Ythofammjbicogaa
namespace Go.Proofs.Ythofammjbicogaa
open Go.RowKit
set_option linter.unusedSimpArgs false
set_option linter.unusedVariables false

set_option maxRecDepth 100000 in
set_option maxHeartbeats 1600000 in
theorem ref14_within (n least most : Int) (bound : Bool) (w : World) :
    Calls Try.prog 101 #[.int .i64 n, .int .i64 least, .int .i64 most, .bool bound] w fun e w' => e = .returned (.int .i64 (limN least most bound n)) ∧ w' = w := by
  unfold limN
  cases bound
  · rw [if_neg (by decide)]
    by_cases h : n < least
    · have HM := Lib.hid (show max n least = least by omega)
      have h' : decide (n < least) = true := by simp [h]
      clear h
      go_enter Try.func101, Try.ntmps101
      go_wp2_with fail
      go_ret
      exact ⟨by rw [HM.out]; rfl, rfl⟩
    · have HM := Lib.hid (show max n least = n by omega)
      have h' : decide (n < least) = false := by simp; omega
      clear h
      go_enter Try.func101, Try.ntmps101
      go_wp2_with fail
      go_ret
      exact ⟨by rw [HM.out]; rfl, rfl⟩
  · rw [if_pos rfl]
    by_cases hm : most < n
    · have hm' : decide (most < n) = true := by simp [hm]
      by_cases h : most < least
      · have HM := Lib.hid (show max (min n most) least = least by omega)
        have h' : decide (most < least) = true := by simp [h]
        clear h hm
        go_enter Try.func101, Try.ntmps101
        go_wp2_with fail
        go_ret
        exact ⟨by rw [HM.out]; rfl, rfl⟩
      · have HM := Lib.hid (show max (min n most) least = most by omega)
        have h' : decide (most < least) = false := by simp; omega
        clear h hm
        go_enter Try.func101, Try.ntmps101
        go_wp2_with fail
        go_ret
        exact ⟨by rw [HM.out]; rfl, rfl⟩
    · have hm' : decide (most < n) = false := by simp; omega
      by_cases h : n < least
      · have HM := Lib.hid (show max (min n most) least = least by omega)
        have h' : decide (n < least) = true := by simp [h]
        clear h hm
        go_enter Try.func101, Try.ntmps101
        go_wp2_with fail
        go_ret
        exact ⟨by rw [HM.out]; rfl, rfl⟩
      · have HM := Lib.hid (show max (min n most) least = n by omega)
        have h' : decide (n < least) = false := by simp; omega
        clear h hm
        go_enter Try.func101, Try.ntmps101
        go_wp2_with fail
        go_ret
        exact ⟨by rw [HM.out]; rfl, rfl⟩
section
variable (k0 N0 k1 N1 base : Int) (known : Bool) (p q siz edges : Int) (w : World)
/-- What two values tell: three cells, or the first error. -/
def BetAns (n1 n2 : Int) (ok2 : Bool) (c1 c2 : Int) (w : World) (e : Ending) (w' : World) : Prop :=
  (c1 = 0 ∧ c2 = 0 → e = .returned (.agg #[.int .i64 n1, .int .i64 n2, .bool ok2])) ∧ (¬ (c1 = 0 ∧ c2 = 0) → e = .panicked (gave (if c1 = 0 then c2 else c1))) ∧ Below w.heap.size w w'
end
end Go.Proofs.Ythofammjbicogaa
namespace Go.Proofs.Ythofammjbicogaa
open Go.RowKit
set_option linter.unusedSimpArgs false
set_option linter.unusedVariables false

def SplitOwn (t : Int) (xs : List Int) (k : Nat) (w : World) (e : Ending) (w' : World) : Prop :=
  ∃ ao m cap ys, e = .returned (.tuple #[.slice ao m cap, .int .i64 (shE t xs k)]) ∧ OwnI w' w.heap.size ao m cap ys ∧ (shE t xs k = 0 → m = k ∧ ys = partsN t (pre xs k) xs k) ∧ (shE t xs k ≠ 0 → m = 0 ∧ ys = []) ∧ Below w.heap.size w w'
set_option maxRecDepth 100000 in
set_option maxHeartbeats 6400000 in
theorem ref5_split_own (t : Int) (ao : Option Addr) (k cap : Nat) (xs : List Int) (hk2 : k ≤ 1000000) (ht : IFit t) (hf : Fits xs) (w : World) (hx : RowI w ao k xs) :
    Calls Try.prog 59 #[.int .i64 t, .slice ao k cap] w (SplitOwn t xs k w) := by
  obtain ⟨i0, hi, hz0, hz1, hz2⟩ := info_parts (show (Try.prog.info? 2).map (fun i => (i.zero, i.size, i.bytes)) = some (some (.int .i64 0), 1, 8) by kernel_rfl)
  obtain ⟨Q, eQ⟩ : ∃ Q, Q = SplitOwn t xs k w := ⟨_, rfl⟩
  rw [← eQ]
  have EQ := Lib.hid eQ
  have HX := Lib.hid hx
  have HF := Lib.hid hf
  clear eQ hx hf
  by_cases hk : 1024 < k
  · have hE : shE t xs k = 8 := by unfold shE; rw [if_pos hk]
    have HE := Lib.hid hE
    have ix : (1024 : Int) < (k : Int) := by omega
    clear hE hk
    go_enter Try.func59, Try.ntmps59
    go_wp2_with fail
    rw [EQ.out]
    unfold SplitOwn
    rw [HE.out]
    exact ⟨none, 0, 0, [], rfl, OwnI.nil _ _, (fun h => absurd h (by decide)), (fun _ => ⟨rfl, rfl⟩), Below.refl _ _⟩
  · have ix : ¬ (1024 : Int) < (k : Int) := by omega
    have hk3 : k ≤ 1024 := by omega
    have HK := Lib.hid hk
    clear hk
    have SM := fun n W (hn : n ≤ k) hx' => ref5_sum ao k cap n xs hk3 hn HF.out W hx'
    go_enter Try.func59, Try.ntmps59
    go_wp2_with fail
    go_loopg [6] k (fun gk s6 wr => ∃ (j : Nat), j ≤ k ∧ gk = k - j ∧ s6 = .int .i64 ((j : Int)) ∧ (∀ i, i < j → 0 ≤ xs.getD i 0) ∧ w = wr)
    case atStart => exact ⟨0, by omega, by omega, rfl, fun i hi => by omega, rfl⟩
    case round =>
      obtain ⟨j, hj, rfl, rfl, hpos, rfl⟩ := hrel
      have HPS := Lib.hid hpos
      clear hpos
      by_cases hjk : j < k
      · have ixj : (j : Int) < (k : Int) := by omega
        obtain ⟨g, off, rfl, hg, hcx⟩ := HX.out.at hjk
        obtain ⟨x, ex⟩ : ∃ x, xs.getD j 0 = x := ⟨_, rfl⟩
        rw [ex] at hcx
        have EX := Lib.hid ex
        clear ex
        by_cases hx0 : x < 0
        · have hE : shE t xs k = 1 := by
            unfold shE
            rw [if_neg HK.out]
            have : negB xs k = true := by
              unfold negB
              rw [decide_eq_true_iff]
              exact ⟨by omega, (minK_neg xs _).2 ⟨j, by omega, by rw [EX.out]; exact hx0⟩⟩
            rw [this]; rfl
          have HE := Lib.hid hE
          clear hE
          go_wp2_with fail
          rw [EQ.out]
          unfold SplitOwn
          rw [HE.out]
          exact ⟨none, 0, 0, [], rfl, OwnI.nil _ _, (fun h => absurd h (by decide)), (fun _ => ⟨rfl, rfl⟩), Below.refl _ _⟩
        · go_wp2_with fail
          go_roundg (k - (j + 1))
          case measure => omega
          case rel => exact ⟨j + 1, by omega, rfl, by go_num, (fun i hi => by
            by_cases e : i = j
            · subst e; rw [EX.out]; omega
            · exact HPS.out i (by omega)), rfl⟩
      · obtain rfl : j = k := by omega
        have ixj : ¬ (j : Int) < (j : Int) := by omega
        have hng : negB xs j = false := by
          unfold negB
          rw [decide_eq_false_iff_not]
          rintro ⟨h0, h1⟩
          obtain ⟨i, hi, h2⟩ := (minK_neg xs _).1 h1
          have := HPS.out i (by omega)
          omega
        have hn := nonneg_of HX.out.1 hng
        have hE : shE t xs j = splC t xs j := by unfold shE; rw [if_neg HK.out, hng]; rfl
        have HN := Lib.hid hn
        have HE := Lib.hid hE
        clear HPS hng hn hE
        have sS := pre_sz HF.out hk3
        have hS0 := pre_nonneg HN.out j
        have SMj := SM j w (Nat.le_refl _) HX.out
        have SP1 := fun W hx' i (hi : i + 1 ≤ j) => SM (i + 1) W hi hx'
        have SP0 := fun W hx' i (hi : i ≤ j) => SM i W hi hx'
        have hcm : cmpI (pre xs j) 4611686018427387904 > 0 ↔ 4611686018427387904 < pre xs j := by
          unfold cmpI
          by_cases h1 : pre xs j < 4611686018427387904
          · rw [if_pos h1]; omega
          · rw [if_neg h1]
            by_cases h2 : 4611686018427387904 < pre xs j
            · rw [if_pos h2]; omega
            · rw [if_neg h2]; omega
        obtain ⟨S, eS⟩ : ∃ S, pre xs j = S := ⟨_, rfl⟩
        rw [eS] at sS hS0 SMj hcm
        have ES := Lib.hid eS
        have HCM := Lib.hid hcm
        clear eS hcm SM
        go_wp2_with fail
        refine SMj.mono ?_
        rintro e w1 ⟨n1, n2, n3, n4, rfl, I7, hb1⟩
        have hb0 : Below w1.heap.size w1 (w1.alloc (.cells #[.bool n1, .slice n2 n3 n4] 128)) := (by repeat' (first | (with_reducible exact Below.refl _ _) | (with_reducible assumption) | (with_reducible refine below_alloc ?_ _ ?_) | (with_reducible refine below_set _ ?_ ?_) | (with_reducible refine Below.drew ?_) | (with_reducible refine below_dN ?_ _) | (apply below_thenA; assumption) | omega | (simp; done) | (simp; omega) | (simp [*]; done)))
        have t7 := Blk.new w1 #[.bool n1, .slice n2 n3 n4] 128 _ rfl
        replace I7 := I7.keep hb0
        have hB := hb1.trans (hb0.mono hb1.size)
        have hsz7 := hb1.size
        obtain ⟨b7, eb7⟩ : ∃ b, w1.heap.size = b := ⟨_, rfl⟩
        rw [eb7] at t7 hsz7
        have ht' := ht
        obtain ⟨t1, t2⟩ := ht'
        have st := BM.Sz.i64 t1 t2
        have P62 := fun W => big_power_lit 62 62 rfl (by omega) 4611686018427387904 (by decide) W
        have sP : BM.Sz 4611686018427387904 5 := by unfold BM.Sz; decide
        clear SMj hb1 hb0
        cases hl : lenB t
        · have LN := fun neg ao k cap W h hk => ref_length neg ao k cap t W h hk
          rw [hl] at LN
          have ec : splC t xs j = 2 := by unfold splC; rw [hl]; rfl
          have EC := Lib.hid ec
          clear hl ec
          go_upto_region 9 with (fail)
          rename_i K0 hK0
          refine wp_region_calm (fun w' => Below w.heap.size w w') [] (fun w' => True) [Is (.int .i64 t), bigC t, Is (.bool false), Is (.bool true), Is (.bool true), Cl.any, Cl.any, Cl.any, Cl.any, Is (.bool true)] [] (by kernel_rfl) (by kernel_rfl) (by kernel_rfl) (by kernel_rfl) hB.drew trivial ?_ ?_ ?_ ?_ ?_
          · rintro W W' hBB hb
            exact hBB.trans (hb.mono hBB.size)
          · exact fun _ _ _ _ _ => trivial
          · intro k vs W hk h
            exact absurd hk (by simp)
          · intro Q; clear hK0 hB I7 t7 P62
            refine ⟨?_, ?_, ?_, ?_, ?_, ?_, ?_, ?_, ?_, ?_, trivial⟩
            · intro vs W hW hW0 hd hne hold K hK hA hL; clear hne hA hL; have hBB := hW; simp only [puts, Act.put, List.setIfInBounds_toArray, List.set_cons_zero, List.set_cons_succ, Nat.zero_add, Nat.reduceAdd] at hK ⊢; clear hd hold; go_simp; exact hK.out rfl _ _ (Below.refl _ _) rfl
            · intro vs W hW hW0 hd hne hold K hK hA hL; clear hne hA hL; have hBB := hW; simp only [puts, Act.put, List.setIfInBounds_toArray, List.set_cons_zero, List.set_cons_succ, Nat.zero_add, Nat.reduceAdd] at hK ⊢; have eb : vs 0 = _ := hd 0 (by kernel_rfl); clear hd hold; simp only [eb] at hK; go_simp; refine (big_of t t1 t2 _).mono ?_; (rintro e wx ⟨f1, f2, f3, f4, rfl, If, hbx⟩); go_simp; exact hK.out rfl _ _ hbx ⟨f1, f2, f3, f4, rfl, If⟩
            · intro vs W hW hW0 hd hne hold K hK hA hL; clear hne hA hL; have hBB := hW; simp only [puts, Act.put, List.setIfInBounds_toArray, List.set_cons_zero, List.set_cons_succ, Nat.zero_add, Nat.reduceAdd] at hK ⊢; (have hxb : BigV t (vs 1) W := hd 1 (by kernel_rfl)); obtain ⟨b1, b2, b3, b4, eb, Ib⟩ := hxb; have z1 := Ib.le st; clear hd hold; simp only [eb] at hK; go_simp; refine (LN b1 b2 b3 b4 _ Ib (by omega)).mono ?_; (rintro e wx ⟨rfl, hbx⟩); go_simp; exact hK.out rfl _ _ hbx rfl
            · intro vs W hW hW0 hd hne hold K hK hA hL; clear hne hA hL; have hBB := hW; simp only [puts, Act.put, List.setIfInBounds_toArray, List.set_cons_zero, List.set_cons_succ, Nat.zero_add, Nat.reduceAdd] at hK ⊢; have e2 : vs 2 = _ := hd 2 (by kernel_rfl); clear hd hold; simp only [e2] at hK; go_simp; exact hK.out rfl _ _ (Below.refl _ _) rfl
            · intro vs W hW hW0 hd hne hold K hK hA hL; clear hne hA hL; have hBB := hW; simp only [puts, Act.put, List.setIfInBounds_toArray, List.set_cons_zero, List.set_cons_succ, Nat.zero_add, Nat.reduceAdd] at hK ⊢; have e3 : vs 3 = _ := hd 3 (by kernel_rfl); clear hd hold; simp only [e3] at hK; go_simp; exact hK.out rfl _ _ (Below.refl _ _) rfl
            · intro vs W hW hW0 hd hne hold K hK hA hL; clear hne hA hL; have hBB := hW; simp only [puts, Act.put, List.setIfInBounds_toArray, List.set_cons_zero, List.set_cons_succ, Nat.zero_add, Nat.reduceAdd] at hK ⊢; have eb : vs 4 = _ := hd 4 (by kernel_rfl); clear hd hold; simp only [eb] at hK; go_simp; exact hK.out rfl _ _ (Below.refl _ _) trivial
            · intro vs W hW hW0 hd hne hold K hK hA hL; clear hne hA hL; have hBB := hW; simp only [puts, Act.put, List.setIfInBounds_toArray, List.set_cons_zero, List.set_cons_succ, Nat.zero_add, Nat.reduceAdd] at hK ⊢; have eb : vs 4 = _ := hd 4 (by kernel_rfl); clear hd hold; simp only [eb] at hK; go_simp; exact hK.out rfl _ _ (Below.refl _ _) trivial
            · intro vs W hW hW0 hd hne hold K hK hA hL; clear hne hA hL; have hBB := hW; simp only [puts, Act.put, List.setIfInBounds_toArray, List.set_cons_zero, List.set_cons_succ, Nat.zero_add, Nat.reduceAdd] at hK ⊢; have eb : vs 4 = _ := hd 4 (by kernel_rfl); clear hd hold; simp only [eb] at hK; go_simp; exact hK.out rfl _ _ (Below.refl _ _) trivial
            · intro vs W hW hW0 hd hne hold K hK hA hL; clear hne hA hL; have hBB := hW; simp only [puts, Act.put, List.setIfInBounds_toArray, List.set_cons_zero, List.set_cons_succ, Nat.zero_add, Nat.reduceAdd] at hK ⊢; have eb : vs 4 = _ := hd 4 (by kernel_rfl); clear hd hold; simp only [eb] at hK; go_simp; exact hK.out rfl _ _ (Below.refl _ _) trivial
            · intro vs W hW hW0 hd hne hold K hK hA hL; clear hne hA hL; have hBB := hW; simp only [puts, Act.put, List.setIfInBounds_toArray, List.set_cons_zero, List.set_cons_succ, Nat.zero_add, Nat.reduceAdd] at hK ⊢; have e4 : vs 4 = _ := hd 4 (by kernel_rfl); clear hd hold; simp only [e4] at hK; go_simp; exact hK.out rfl _ _ (Below.refl _ _) rfl
          · intro va WA hW hV _
            have e9 : va 9 = .bool true := hV 9 (by decide)
            clear hV
            simp only [puts, Act.put, List.setIfInBounds_toArray, List.set_cons_zero, List.set_cons_succ, Nat.zero_add, Nat.reduceAdd, e9]
            refine hK0 _ _ ?_
            clear hK0
            go_wp2_with fail
            rw [EQ.out]
            unfold SplitOwn
            rw [HE.out, EC.out]
            exact ⟨none, 0, 0, [], rfl, OwnI.nil _ _, (fun h => absurd h (by decide)), (fun _ => ⟨rfl, rfl⟩), hW⟩
        · have LN := fun neg ao k cap W h hk => ref_length neg ao k cap t W h hk
          rw [hl] at LN
          have hL := (lenB_iff t).1 hl
          have ec : splC t xs j = allE xs j := by unfold splC; rw [hl]; rfl
          have EC := Lib.hid ec
          have HL := Lib.hid hL
          have CB := fun na nb ax bx k m ca cb W h1 h2 h3 h4 => big_cmp na nb ax bx k m ca cb S 4611686018427387904 W h1 h2 h3 h4
          obtain ⟨c, hc⟩ : ∃ c, cmpI S 4611686018427387904 = c := ⟨_, rfl⟩
          rw [hc] at CB
          have hcm := HCM.out
          rw [hc] at hcm
          obtain ⟨cb, ecb⟩ : ∃ cb, decide (0 < c) = cb := ⟨_, rfl⟩
          have hcb : cb = true ↔ 4611686018427387904 < S := by rw [← ecb, decide_eq_true_iff]; exact hcm
          have HCB := Lib.hid hcb
          clear hl ec hL hc hcm hcb HCM
          go_upto_region 9 with (fail)
          rename_i K0 hK0
          refine wp_region_calm (fun w' => Below w.heap.size w w' ∧ Blk w' b7 #[.bool n1, .slice n2 n3 n4] 128 ∧ IsBig w' n1 n2 n3 n4 S) [] (fun w' => True) [Is (.int .i64 t), bigC t, Is (.bool true), Is (.bool false), Is (.bool false), bigC S, bigC 4611686018427387904, Is (.int .i64 c), Is (.bool cb), Is (.bool cb)] [] (by kernel_rfl) (by kernel_rfl) (by kernel_rfl) (by kernel_rfl) ⟨hB.drew, t7, I7.drewd⟩ trivial ?_ ?_ ?_ ?_ ?_
          · rintro W W' ⟨hBB, t7, I7⟩ hb
            exact ⟨hBB.trans (hb.mono hBB.size), t7.below hb, I7.keep hb⟩
          · exact fun _ _ _ _ _ => trivial
          · intro k vs W hk h
            exact absurd hk (by simp)
          · intro Q; clear hK0 hB I7 t7
            refine ⟨?_, ?_, ?_, ?_, ?_, ?_, ?_, ?_, ?_, ?_, trivial⟩
            · intro vs W hW hW0 hd hne hold K hK hA hL; clear hne hA hL; have hBB := hW.1; have t7 := hW.2.1; have I7 := hW.2.2; simp only [puts, Act.put, List.setIfInBounds_toArray, List.set_cons_zero, List.set_cons_succ, Nat.zero_add, Nat.reduceAdd] at hK ⊢; clear hd hold; go_simp; exact hK.out rfl _ _ (Below.refl _ _) rfl
            · intro vs W hW hW0 hd hne hold K hK hA hL; clear hne hA hL; have hBB := hW.1; have t7 := hW.2.1; have I7 := hW.2.2; simp only [puts, Act.put, List.setIfInBounds_toArray, List.set_cons_zero, List.set_cons_succ, Nat.zero_add, Nat.reduceAdd] at hK ⊢; have eb : vs 0 = _ := hd 0 (by kernel_rfl); clear hd hold; simp only [eb] at hK; go_simp; refine (big_of t t1 t2 _).mono ?_; (rintro e wx ⟨f1, f2, f3, f4, rfl, If, hbx⟩); go_simp; exact hK.out rfl _ _ hbx ⟨f1, f2, f3, f4, rfl, If⟩
            · intro vs W hW hW0 hd hne hold K hK hA hL; clear hne hA hL; have hBB := hW.1; have t7 := hW.2.1; have I7 := hW.2.2; simp only [puts, Act.put, List.setIfInBounds_toArray, List.set_cons_zero, List.set_cons_succ, Nat.zero_add, Nat.reduceAdd] at hK ⊢; (have hxb : BigV t (vs 1) W := hd 1 (by kernel_rfl)); obtain ⟨b1, b2, b3, b4, eb, Ib⟩ := hxb; have z1 := Ib.le st; clear hd hold; simp only [eb] at hK; go_simp; refine (LN b1 b2 b3 b4 _ Ib (by omega)).mono ?_; (rintro e wx ⟨rfl, hbx⟩); go_simp; exact hK.out rfl _ _ hbx rfl
            · intro vs W hW hW0 hd hne hold K hK hA hL; clear hne hA hL; have hBB := hW.1; have t7 := hW.2.1; have I7 := hW.2.2; simp only [puts, Act.put, List.setIfInBounds_toArray, List.set_cons_zero, List.set_cons_succ, Nat.zero_add, Nat.reduceAdd] at hK ⊢; have e2 : vs 2 = _ := hd 2 (by kernel_rfl); clear hd hold; simp only [e2] at hK; go_simp; exact hK.out rfl _ _ (Below.refl _ _) rfl
            · intro vs W hW hW0 hd hne hold K hK hA hL; clear hne hA hL; have hBB := hW.1; have t7 := hW.2.1; have I7 := hW.2.2; simp only [puts, Act.put, List.setIfInBounds_toArray, List.set_cons_zero, List.set_cons_succ, Nat.zero_add, Nat.reduceAdd] at hK ⊢; have e3 : vs 3 = _ := hd 3 (by kernel_rfl); clear hd hold; simp only [e3] at hK; go_simp; exact hK.out rfl _ _ (Below.refl _ _) rfl
            · intro vs W hW hW0 hd hne hold K hK hA hL; clear hne hA hL; have hBB := hW.1; have t7 := hW.2.1; have I7 := hW.2.2; simp only [puts, Act.put, List.setIfInBounds_toArray, List.set_cons_zero, List.set_cons_succ, Nat.zero_add, Nat.reduceAdd] at hK ⊢; have eb : vs 4 = _ := hd 4 (by kernel_rfl); have q1 := t7.cell 0 _ rfl; have q2 := t7.cell 1 _ rfl; clear hd hold; simp only [eb] at hK; go_simp; exact hK.out rfl _ _ (Below.refl _ _) ⟨n1, n2, n3, n4, rfl, I7⟩
            · intro vs W hW hW0 hd hne hold K hK hA hL; clear hne hA hL; have hBB := hW.1; have t7 := hW.2.1; have I7 := hW.2.2; simp only [puts, Act.put, List.setIfInBounds_toArray, List.set_cons_zero, List.set_cons_succ, Nat.zero_add, Nat.reduceAdd] at hK ⊢; have eb : vs 4 = _ := hd 4 (by kernel_rfl); clear hd hold; simp only [eb] at hK; go_simp; refine (P62 _).mono ?_; (rintro e wx ⟨f1, f2, f3, f4, rfl, If, hbx⟩); go_simp; exact hK.out rfl _ _ hbx ⟨f1, f2, f3, f4, rfl, If⟩
            · intro vs W hW hW0 hd hne hold K hK hA hL; clear hne hA hL; have hBB := hW.1; have t7 := hW.2.1; have I7 := hW.2.2; simp only [puts, Act.put, List.setIfInBounds_toArray, List.set_cons_zero, List.set_cons_succ, Nat.zero_add, Nat.reduceAdd] at hK ⊢; have ea : vs 4 = _ := hd 4 (by kernel_rfl); (have hxb : BigV S (vs 5) W := hd 5 (by kernel_rfl)); obtain ⟨b1, b2, b3, b4, eb, Ib⟩ := hxb; (have hxc : BigV 4611686018427387904 (vs 6) W := hd 6 (by kernel_rfl)); obtain ⟨c1, c2, c3, c4, ec, Ic⟩ := hxc; have z1 := Ib.le sS; have z2 := Ic.le sP; clear hd hold; simp only [ea, eb, ec] at hK; go_simp; refine (CB b1 c1 b2 c2 b3 c3 b4 c4 _ Ib Ic (by omega) (by omega)).mono ?_; (rintro e wx ⟨rfl, hbx⟩); go_simp; exact hK.out rfl _ _ hbx rfl
            · intro vs W hW hW0 hd hne hold K hK hA hL; clear hne hA hL; have hBB := hW.1; have t7 := hW.2.1; have I7 := hW.2.2; simp only [puts, Act.put, List.setIfInBounds_toArray, List.set_cons_zero, List.set_cons_succ, Nat.zero_add, Nat.reduceAdd] at hK ⊢; have e4 : vs 4 = _ := hd 4 (by kernel_rfl); have e7 : vs 7 = _ := hd 7 (by kernel_rfl); clear hd hold; simp only [e4, e7] at hK; go_simp; exact hK.out rfl _ _ (Below.refl _ _) rfl
            · intro vs W hW hW0 hd hne hold K hK hA hL; clear hne hA hL; have hBB := hW.1; have t7 := hW.2.1; have I7 := hW.2.2; simp only [puts, Act.put, List.setIfInBounds_toArray, List.set_cons_zero, List.set_cons_succ, Nat.zero_add, Nat.reduceAdd] at hK ⊢; have e4 : vs 4 = _ := hd 4 (by kernel_rfl); have e8 : vs 8 = _ := hd 8 (by kernel_rfl); clear hd hold; simp only [e4, e8] at hK; go_simp; exact hK.out rfl _ _ (Below.refl _ _) rfl
          · intro va WA hW hV _
            clear hB t7 I7
            obtain ⟨hB, t7, I7⟩ := hW
            have e9 : va 9 = .bool cb := hV 9 (by decide)
            clear hV
            simp only [puts, Act.put, List.setIfInBounds_toArray, List.set_cons_zero, List.set_cons_succ, Nat.zero_add, Nat.reduceAdd, e9]
            refine hK0 _ _ ?_
            clear hK0 e9 ecb
            cases cb
            · have hSL : S ≤ 4611686018427387904 := by
                have := HCB.out
                by_cases h : S ≤ 4611686018427387904
                · exact h
                · exact absurd (this.2 (by omega)) (by decide)
              have e1 : allE xs j = 0 := by unfold allE; rw [ES.out, if_pos hSL]
              have E1 := Lib.hid e1
              clear e1 HCB CB LN P62
              have hr := HX.out.below hB
              have HR := Lib.hid hr
              have hlt7 := t7.lt
              have hsz := hB.size
              clear hr
              go_wp2_with fail
              go_loopg [8, 9] j (fun gk s8 s9 wr => RSplRel w b7 n1 n2 n3 n4 t S xs j gk s8 s9 wr)
              case atStart => exact ⟨0, none, 0, by omega, by omega, rfl, rfl, OwnI.nil _ _, hB, t7, I7⟩
              case round =>
                clear hB t7 I7 hlt7 hsz
                obtain ⟨i, aj, cj, hi1, rfl, rfl, rfl, ho, hB, t7, I7⟩ := hrel
                have hsz := hB.size
                have hsh := ho.shape
                have q1 := t7.cell 1 _ rfl
                by_cases hij : i < j
                · have ixi : (i : Int) < (j : Int) := by omega
                  by_cases hS00 : S = 0
                  · have hn3 := I7.zero_iff.2 hS00
                    subst hn3
                    have HS00 := Lib.hid hS00
                    clear hS00
                    go_wp2_with (at_builtin; refine wpList_append_own _ rfl _ _ 31 rfl w.heap.size 2 i0 (.int .i64 0) 1 8 Try.underlying31 hi hz0 hz1 hz2 rfl (by decide) _ _ _ rfl (ho.1.alloc _) ⟨wr.heap.size, 0, none⟩ 1 1 (i64s [0]) rfl rfl (cell_one_new _ _ _) (i64s_one _) (by unfold maxLen; omega) (by omega) (by simp; omega) ?_)
                    intro v' w2 hown' hgrow _
                    obtain ⟨a1, c1, rfl, ho2, hbe, hke, hbl, _⟩ := (ho.alloc _).app (ys := [0]) hown' hgrow rfl (by simp; omega)
                    have hb0 : Below w.heap.size w (wr.alloc (.cells #[.int .i64 0] 2)) := hB.alloc hsz _
                    have hke0 : Keeps wr (wr.alloc (.cells #[.int .i64 0] 2)) := (Keeps.refl _).alloc _
                    replace hB := hbe _ _ (Nat.le_refl _) hb0
                    replace t7 := hbl _ _ _ (t7.alloc _) (by decide)
                    replace I7 := (I7.keeps hke0).keeps hke
                    clear hown' hgrow hbe hbl hke
                    go_wp2_with fail
                    go_roundg (j - (i + 1))
                    case measure => omega
                    case rel =>
                      have e2 : shareAt t S xs i = 0 := by rw [HS00.out]; unfold shareAt; simp
                      exact ⟨i + 1, a1, c1, by omega, rfl, rfl, by go_num, by rw [partsN_succ, e2]; exact ho2, hB, t7, I7⟩
                  · have hn3 : ¬ n3 = 0 := fun h => hS00 (I7.zero_iff.1 h)
                    have hn3b : ((n3 : Int) == 0) = false := by simp; exact hn3
                    have hSp : 0 < S := by omega
                    have p1 := pre_nonneg HN.out (i + 1)
                    have p0 := pre_nonneg HN.out i
                    have m1 : pre xs (i + 1) ≤ S := by rw [← ES.out]; exact pre_mono HN.out (by omega)
                    have m0 : pre xs i ≤ S := by rw [← ES.out]; exact pre_mono HN.out (by omega)
                    have l1 := bound_len p1 m1 HL.out
                    have l0 := bound_len p0 m0 HL.out
                    have SM1 := fun W hx' => ref5_sum ao j cap (i + 1) xs hk3 (by omega) HF.out W hx'
                    have SM0 := fun W hx' => ref5_sum ao j cap i xs hk3 (by omega) HF.out W hx'
                    have z1 := pre_sz HF.out (show i + 1 ≤ 1024 by omega)
                    have z0 := pre_sz HF.out (show i ≤ 1024 by omega)
                    have es : shareAt t S xs i = t * pre xs (i + 1) / S - t * pre xs i / S := rfl
                    obtain ⟨P1, eP1⟩ : ∃ x, pre xs (i + 1) = x := ⟨_, rfl⟩
                    obtain ⟨P0, eP0⟩ : ∃ x, pre xs i = x := ⟨_, rfl⟩
                    rw [eP1] at SM1 z1 l1 es
                    rw [eP0] at SM0 z0 l0 es
                    have BD1 := fun na nb xa xb ka kb ca cb W ha hb => ref5_bound t P1 S na nb xa xb ka kb ca cb (t * P1 / S) ⟨t1, t2⟩ z1 sS hS00 (fq_div (by omega)) l1.fit W ha hb
                    have BD0 := fun na nb xa xb ka kb ca cb W ha hb => ref5_bound t P0 S na nb xa xb ka kb ca cb (t * P0 / S) ⟨t1, t2⟩ z0 sS hS00 (fq_div (by omega)) l0.fit W ha hb
                    obtain ⟨F1, eF1⟩ : ∃ x, t * P1 / S = x := ⟨_, rfl⟩
                    obtain ⟨F0, eF0⟩ : ∃ x, t * P0 / S = x := ⟨_, rfl⟩
                    rw [eF1] at BD1 l1 es
                    rw [eF0] at BD0 l0 es
                    obtain ⟨d, ed⟩ : ∃ x, F1 - F0 = x := ⟨_, rfl⟩
                    rw [ed] at es
                    have wr2 : IntKind.i64.wrap (F1 - F0) = d := by unfold LenB at l1 l0; simp [IntKind.wrap, IntKind.bits, IntKind.signed]; omega
                    obtain ⟨i1, ei1⟩ : ∃ x, i + 1 = x := ⟨_, rfl⟩
                    have wr1 : IntKind.i64.wrap ((i : Int) + 1) = (i1 : Int) := by simp [IntKind.wrap, IntKind.bits, IntKind.signed]; omega
                    rw [ei1] at SM1
                    have hgl : ∀ g, (Value.slice aj i cj).ownBlock = some g → g < wr.heap.size := fun g h => (ho.ge h).2
                    have EI1 := Lib.hid ei1
                    have ESH := Lib.hid es
                    have HGL := Lib.hid hgl
                    clear eP1 eP0 eF1 eF0 ed es ei1 m1 m0 p1 p0 hgl l1 l0 z1 z0
                    go_wp2_with fail
                    go_upto_region 17 with (fail)
                    rename_i K1 hK1
                    refine wp_region_calm (fun w' => Below w.heap.size w w' ∧ Blk w' b7 #[.bool n1, .slice n2 n3 n4] 128 ∧ IsBig w' n1 n2 n3 n4 S ∧ wr.heap.size ≤ w'.heap.size) [16] (fun w' => OwnI w' w.heap.size aj i cj (partsN t S xs i)) [Is (.slice aj i cj), Is (.int .i64 t), Is (.slice ao j cap), Is (.int .i64 ((i : Int))), Is (.int .i64 ((i1 : Int))), bigC P1, bigC S, Is (.int .i64 F1), Is (.int .i64 t), Is (.slice ao j cap), Is (.int .i64 ((i : Int))), bigC P0, bigC S, Is (.int .i64 F0), Is (.int .i64 d), sliC wr.heap.size d, ownC w.heap.size (i + 1) (partsN t S xs i ++ [d]), ownC w.heap.size (i + 1) (partsN t S xs i ++ [d])] [] (by kernel_rfl) (by kernel_rfl) (by kernel_rfl) (by kernel_rfl) ⟨hB.drew, t7, I7.drewd, Nat.le_refl _⟩ ho.drew ?_ ?_ ?_ ?_ ?_
                    · rintro W W' ⟨hBB, t7, I7, hl⟩ hb
                      exact ⟨hBB.trans (hb.mono hBB.size), t7.below hb, I7.keep hb, Nat.le_trans hl hb.size⟩
                    · intro W W' hB h0 hb; exact h0.below hb
                    · intro k vs W hk h
                      exact absurd hk (by simp)
                    · intro Q; clear hK1 hB t7 I7 ho q1
                      refine ⟨?_, ?_, ?_, ?_, ?_, ?_, ?_, ?_, ?_, ?_, ?_, ?_, ?_, ?_, ?_, ?_, ?_, ?_, trivial⟩
                      · intro vs W hW hW0 hd hne hold K hK hA hL; clear hne hA hL; have hBB := hW.1; have t7 := hW.2.1; have I7 := hW.2.2.1; have hl := hW.2.2.2; simp only [puts, Act.put, List.setIfInBounds_toArray, List.set_cons_zero, List.set_cons_succ, Nat.zero_add, Nat.reduceAdd] at hK ⊢; have e17 : vs 17 = _ := hold 17 (by kernel_rfl); clear hd hold; simp only [e17] at hK; go_simp; exact hK.out rfl _ _ (Below.refl _ _) rfl
                      · intro vs W hW hW0 hd hne hold K hK hA hL; clear hne hA hL; have hBB := hW.1; have t7 := hW.2.1; have I7 := hW.2.2.1; have hl := hW.2.2.2; simp only [puts, Act.put, List.setIfInBounds_toArray, List.set_cons_zero, List.set_cons_succ, Nat.zero_add, Nat.reduceAdd] at hK ⊢; clear hd hold; go_simp; exact hK.out rfl _ _ (Below.refl _ _) rfl
                      · intro vs W hW hW0 hd hne hold K hK hA hL; clear hne hA hL; have hBB := hW.1; have t7 := hW.2.1; have I7 := hW.2.2.1; have hl := hW.2.2.2; simp only [puts, Act.put, List.setIfInBounds_toArray, List.set_cons_zero, List.set_cons_succ, Nat.zero_add, Nat.reduceAdd] at hK ⊢; clear hd hold; go_simp; exact hK.out rfl _ _ (Below.refl _ _) rfl
                      · intro vs W hW hW0 hd hne hold K hK hA hL; clear hne hA hL; have hBB := hW.1; have t7 := hW.2.1; have I7 := hW.2.2.1; have hl := hW.2.2.2; simp only [puts, Act.put, List.setIfInBounds_toArray, List.set_cons_zero, List.set_cons_succ, Nat.zero_add, Nat.reduceAdd] at hK ⊢; clear hd hold; go_simp; exact hK.out rfl _ _ (Below.refl _ _) rfl
                      · intro vs W hW hW0 hd hne hold K hK hA hL; clear hne hA hL; have hBB := hW.1; have t7 := hW.2.1; have I7 := hW.2.2.1; have hl := hW.2.2.2; simp only [puts, Act.put, List.setIfInBounds_toArray, List.set_cons_zero, List.set_cons_succ, Nat.zero_add, Nat.reduceAdd] at hK ⊢; have e3 : vs 3 = _ := hd 3 (by kernel_rfl); clear hd hold; simp only [e3] at hK; go_simp; exact hK.out rfl _ _ (Below.refl _ _) rfl
                      · intro vs W hW hW0 hd hne hold K hK hA hL; clear hne hA hL; have hBB := hW.1; have t7 := hW.2.1; have I7 := hW.2.2.1; have hl := hW.2.2.2; simp only [puts, Act.put, List.setIfInBounds_toArray, List.set_cons_zero, List.set_cons_succ, Nat.zero_add, Nat.reduceAdd] at hK ⊢; have ea : vs 2 = _ := hd 2 (by kernel_rfl); have eb : vs 4 = _ := hd 4 (by kernel_rfl); have hx' := HX.out.below hBB; clear hd hold; simp only [ea, eb] at hK; go_simp; refine (SM1 _ hx').mono ?_; (rintro e wx ⟨f1, f2, f3, f4, rfl, If, hbx⟩); go_simp; exact hK.out rfl _ _ hbx ⟨f1, f2, f3, f4, rfl, If⟩
                      · intro vs W hW hW0 hd hne hold K hK hA hL; clear hne hA hL; have hBB := hW.1; have t7 := hW.2.1; have I7 := hW.2.2.1; have hl := hW.2.2.2; simp only [puts, Act.put, List.setIfInBounds_toArray, List.set_cons_zero, List.set_cons_succ, Nat.zero_add, Nat.reduceAdd] at hK ⊢; have q1 := t7.cell 0 _ rfl; have q2 := t7.cell 1 _ rfl; clear hd hold; go_simp; exact hK.out rfl _ _ (Below.refl _ _) ⟨n1, n2, n3, n4, rfl, I7⟩
                      · intro vs W hW hW0 hd hne hold K hK hA hL; clear hne hA hL; have hBB := hW.1; have t7 := hW.2.1; have I7 := hW.2.2.1; have hl := hW.2.2.2; simp only [puts, Act.put, List.setIfInBounds_toArray, List.set_cons_zero, List.set_cons_succ, Nat.zero_add, Nat.reduceAdd] at hK ⊢; have ea : vs 1 = _ := hd 1 (by kernel_rfl); (have hxb : BigV P1 (vs 5) W := hd 5 (by kernel_rfl)); obtain ⟨b1, b2, b3, b4, eb, Ib⟩ := hxb; (have hxc : BigV S (vs 6) W := hd 6 (by kernel_rfl)); obtain ⟨c1, c2, c3, c4, ec, Ic⟩ := hxc; clear hd hold; simp only [ea, eb, ec] at hK; go_simp; refine (BD1 b1 c1 b2 c2 b3 c3 b4 c4 _ Ib Ic).mono ?_; (rintro e wx ⟨rfl, hbx⟩); go_simp; exact hK.out rfl _ _ hbx rfl
                      · intro vs W hW hW0 hd hne hold K hK hA hL; clear hne hA hL; have hBB := hW.1; have t7 := hW.2.1; have I7 := hW.2.2.1; have hl := hW.2.2.2; simp only [puts, Act.put, List.setIfInBounds_toArray, List.set_cons_zero, List.set_cons_succ, Nat.zero_add, Nat.reduceAdd] at hK ⊢; clear hd hold; go_simp; exact hK.out rfl _ _ (Below.refl _ _) rfl
                      · intro vs W hW hW0 hd hne hold K hK hA hL; clear hne hA hL; have hBB := hW.1; have t7 := hW.2.1; have I7 := hW.2.2.1; have hl := hW.2.2.2; simp only [puts, Act.put, List.setIfInBounds_toArray, List.set_cons_zero, List.set_cons_succ, Nat.zero_add, Nat.reduceAdd] at hK ⊢; clear hd hold; go_simp; exact hK.out rfl _ _ (Below.refl _ _) rfl
                      · intro vs W hW hW0 hd hne hold K hK hA hL; clear hne hA hL; have hBB := hW.1; have t7 := hW.2.1; have I7 := hW.2.2.1; have hl := hW.2.2.2; simp only [puts, Act.put, List.setIfInBounds_toArray, List.set_cons_zero, List.set_cons_succ, Nat.zero_add, Nat.reduceAdd] at hK ⊢; clear hd hold; go_simp; exact hK.out rfl _ _ (Below.refl _ _) rfl
                      · intro vs W hW hW0 hd hne hold K hK hA hL; clear hne hA hL; have hBB := hW.1; have t7 := hW.2.1; have I7 := hW.2.2.1; have hl := hW.2.2.2; simp only [puts, Act.put, List.setIfInBounds_toArray, List.set_cons_zero, List.set_cons_succ, Nat.zero_add, Nat.reduceAdd] at hK ⊢; have ea : vs 9 = _ := hd 9 (by kernel_rfl); have eb : vs 10 = _ := hd 10 (by kernel_rfl); have hx' := HX.out.below hBB; clear hd hold; simp only [ea, eb] at hK; go_simp; refine (SM0 _ hx').mono ?_; (rintro e wx ⟨f1, f2, f3, f4, rfl, If, hbx⟩); go_simp; exact hK.out rfl _ _ hbx ⟨f1, f2, f3, f4, rfl, If⟩
                      · intro vs W hW hW0 hd hne hold K hK hA hL; clear hne hA hL; have hBB := hW.1; have t7 := hW.2.1; have I7 := hW.2.2.1; have hl := hW.2.2.2; simp only [puts, Act.put, List.setIfInBounds_toArray, List.set_cons_zero, List.set_cons_succ, Nat.zero_add, Nat.reduceAdd] at hK ⊢; have q1 := t7.cell 0 _ rfl; have q2 := t7.cell 1 _ rfl; clear hd hold; go_simp; exact hK.out rfl _ _ (Below.refl _ _) ⟨n1, n2, n3, n4, rfl, I7⟩
                      · intro vs W hW hW0 hd hne hold K hK hA hL; clear hne hA hL; have hBB := hW.1; have t7 := hW.2.1; have I7 := hW.2.2.1; have hl := hW.2.2.2; simp only [puts, Act.put, List.setIfInBounds_toArray, List.set_cons_zero, List.set_cons_succ, Nat.zero_add, Nat.reduceAdd] at hK ⊢; have ea : vs 8 = _ := hd 8 (by kernel_rfl); (have hxb : BigV P0 (vs 11) W := hd 11 (by kernel_rfl)); obtain ⟨b1, b2, b3, b4, eb, Ib⟩ := hxb; (have hxc : BigV S (vs 12) W := hd 12 (by kernel_rfl)); obtain ⟨c1, c2, c3, c4, ec, Ic⟩ := hxc; clear hd hold; simp only [ea, eb, ec] at hK; go_simp; refine (BD0 b1 c1 b2 c2 b3 c3 b4 c4 _ Ib Ic).mono ?_; (rintro e wx ⟨rfl, hbx⟩); go_simp; exact hK.out rfl _ _ hbx rfl
                      · intro vs W hW hW0 hd hne hold K hK hA hL; clear hne hA hL; have hBB := hW.1; have t7 := hW.2.1; have I7 := hW.2.2.1; have hl := hW.2.2.2; simp only [puts, Act.put, List.setIfInBounds_toArray, List.set_cons_zero, List.set_cons_succ, Nat.zero_add, Nat.reduceAdd] at hK ⊢; have e7 : vs 7 = _ := hd 7 (by kernel_rfl); have e13 : vs 13 = _ := hd 13 (by kernel_rfl); clear hd hold; simp only [e7, e13] at hK; go_simp; exact hK.out rfl _ _ (Below.refl _ _) rfl
                      · intro vs W hW hW0 hd hne hold K hK hA hL; clear hne hA hL; have hBB := hW.1; have t7 := hW.2.1; have I7 := hW.2.2.1; have hl := hW.2.2.2; simp only [puts, Act.put, List.setIfInBounds_toArray, List.set_cons_zero, List.set_cons_succ, Nat.zero_add, Nat.reduceAdd] at hK ⊢; have eb : vs 14 = _ := hd 14 (by kernel_rfl); clear hd hold; simp only [eb] at hK; go_simp; exact hK.out rfl _ _ ((Below.refl _ _).alloc (Nat.le_refl _) _) ⟨W.heap.size, rfl, hl, Blk.new _ _ _ _ rfl⟩
                      · intro vs W hW hW0 hd hne hold K hK hA hL; clear hK hA; have hBB := hW.1; have t7 := hW.2.1; have I7 := hW.2.2.1; have hl := hW.2.2.2; simp only [puts, Act.put, List.setIfInBounds_toArray, List.set_cons_zero, List.set_cons_succ, Nat.zero_add, Nat.reduceAdd] at hL ⊢; have ho := hW0 (by kernel_rfl); have ea : vs 0 = _ := hd 0 (by kernel_rfl); have h15 : SliV wr.heap.size d (vs 15) W := hd 15 (by kernel_rfl); obtain ⟨b, eb, hlb, tb⟩ := h15; clear hd hold; simp only [ea, eb] at hL ⊢; rw [if_pos (show Region.wanted _ _ = true from rfl)]; refine wp_append_own W (.tmp 51) (.tmp 66) 31 rfl w.heap.size 2 i0 (.int .i64 0) 1 8 Try.underlying31 hi hz0 hz1 hz2 rfl (by decide) _ _ _ rfl ho.1 ⟨b, 0, none⟩ 1 1 (i64s [d]) rfl rfl (World.news_of_block tb) (i64s_one _) (by unfold maxLen; omega) (by omega) (by have := hBB.size; omega) ?_; intro v' w1 ho1 hg1 _; obtain ⟨a1, c1, rfl, ho2, hbe, hke, hbl, hb2⟩ := ho.app (ys := [d]) ho1 hg1 rfl (by have := hBB.size; omega); simp only [Act.put, List.setIfInBounds_toArray, List.set_cons_zero, List.set_cons_succ, Nat.zero_add, Nat.reduceAdd]; refine hL.out rfl _ _ ⟨hbe _ _ (Nat.le_refl _) hBB, hbl _ _ _ t7 (by decide), I7.keeps hke, Nat.le_trans hl hg1.size⟩ (fun h => absurd h (by decide)) ⟨a1, c1, rfl, ho2⟩ ?_; exact claims_keep_a ⟨.inr (.inr is_keep), .inr (.inr is_keep), .inr (.inr is_keep), .inr (.inr is_keep), .inr (.inr is_keep), .inr (.inr fun h => BigV.keeps h hke), .inr (.inr fun h => BigV.keeps h hke), .inr (.inr is_keep), .inr (.inr is_keep), .inr (.inr is_keep), .inr (.inr is_keep), .inr (.inr fun h => BigV.keeps h hke), .inr (.inr fun h => BigV.keeps h hke), .inr (.inr is_keep), .inr (.inr is_keep), .inr (.inr fun h => SliV.app h hb2 HGL.out), .inl rfl, .inr (.inl (by kernel_rfl)), trivial⟩
                      · intro vs W hW hW0 hd hne hold K hK hA hL; clear hne hA hL; have hBB := hW.1; have t7 := hW.2.1; have I7 := hW.2.2.1; have hl := hW.2.2.2; simp only [puts, Act.put, List.setIfInBounds_toArray, List.set_cons_zero, List.set_cons_succ, Nat.zero_add, Nat.reduceAdd] at hK ⊢; have h16 : OwnV w.heap.size (i + 1) (partsN t S xs i ++ [d]) (vs 16) W := hd 16 (by kernel_rfl); obtain ⟨a1, c1, e1, ho⟩ := h16; clear hd hold; simp only [e1] at hK; go_simp; exact hK.out rfl _ _ (Below.refl _ _) ⟨a1, c1, rfl, ho⟩
                    · intro va WB hW hV _
                      clear hB t7 I7 ho q1
                      obtain ⟨hB, t7, I7, _⟩ := hW
                      have h17 : OwnV w.heap.size (i + 1) (partsN t S xs i ++ [d]) (va 17) WB := hV 17 (by decide)
                      obtain ⟨a1, c1, e17, ho⟩ := h17
                      clear hV
                      simp only [puts, Act.put, List.setIfInBounds_toArray, List.set_cons_zero, List.set_cons_succ, Nat.zero_add, Nat.reduceAdd, e17]
                      refine hK1 _ _ ?_
                      clear hK1 e17
                      go_wp2_with fail
                      go_roundg (j - (i + 1))
                      case measure => omega
                      case rel => exact ⟨i + 1, a1, c1, by omega, rfl, rfl, by rw [EI1.out], by rw [partsN_succ, ESH.out]; exact ho, hB, t7, I7⟩
                · obtain rfl : i = j := by omega
                  have ixi : ¬ (i : Int) < (i : Int) := by omega
                  go_wp2_with fail
                  rw [EQ.out]
                  unfold SplitOwn
                  rw [HE.out, EC.out, E1.out, ES.out]
                  exact ⟨aj, i, cj, _, rfl, ho, (fun _ => ⟨rfl, rfl⟩), (fun h => absurd rfl h), hB⟩
            · have e1 : allE xs j = 2 := by unfold allE; have := HCB.out.1 rfl; rw [ES.out, if_neg (by omega)]
              have E1 := Lib.hid e1
              clear e1
              go_wp2_with fail
              rw [EQ.out]
              unfold SplitOwn
              rw [HE.out, EC.out, E1.out]
              exact ⟨none, 0, 0, [], rfl, OwnI.nil _ _, (fun h => absurd h (by decide)), (fun _ => ⟨rfl, rfl⟩), hB⟩
end Go.Proofs.Ythofammjbicogaa
namespace Go.Proofs.Ythofammjbicogaa
open Go
set_option linter.unusedSimpArgs false
set_option linter.unusedVariables false

section
variable {P : Program} {ops : Array Oper} {md : Region.Mode} {C : World → Prop}

/-- Whatever order is picked from here on, up to the last operation, number m. -/
def wpAnyL (P : Program) (md : Region.Mode) (ops : Array Oper) (C : World → Prop) (m : Nat) (Q : Act → Prop) : Nat → Array Bool → Act → Prop
  | 0, listed, a => (∀ j ∈ Region.ready md ops listed, j = m) ∧ m ∈ Region.ready md ops listed ∧ Region.ready md ops (listed.setIfInBounds m true) = [] ∧ Q a
  | fuel + 1, listed, a => Region.ready md ops listed ≠ [] ∧ ∀ i ∈ Region.ready md ops listed, qOp P ops C i (wpAnyL P md ops C m Q fuel (listed.setIfInBounds i true)) a

theorem wpAny_of_L {m : Nat} {Q : Act → Prop} {Q' : Exit → Act → World → Prop} (hQ : ∀ (listed : Array Bool) (a : Act) (w : World), C w → Region.ready md ops (listed.setIfInBounds m true) = [] → Q a → wpOp P ops Q' m (wpAny P md ops Q' 0 (listed.setIfInBounds m true)) a w) :
    ∀ (fuel : Nat) (listed : Array Bool) (a : Act) (w : World), C w → wpAnyL P md ops C m Q fuel listed a → wpAny P md ops Q' (fuel + 1) listed a w
  | 0, listed, a, w, hw, h => ⟨fun h0 => (by have := h.2.1; rw [h0] at this; cases this), fun i hi => (by obtain rfl := h.1 i hi; exact hQ _ _ _ hw h.2.2.1 h.2.2.2)⟩
  | fuel + 1, listed, a, w, hw, h => ⟨fun h0 => absurd h0 h.1, fun i hi => wpOp_of_qOp hw (fun a' w' hw' => wpAny_of_L hQ fuel _ a' w' hw') (h.2 i hi)⟩

theorem wpAnyL_first {m : Nat} {Q : Act → Prop} {i : Nat} {oi : Oper} {v : Value} (hi : ops[i]? = some oi) (hsel : ∀ (j : Nat) (o : Oper) cs b, ops[j]? = some o → o.op ≠ .select cs b)
    (hl : ∀ (listed : Array Bool), i ∈ Region.ready md ops listed → m ∉ Region.ready md ops listed) :
    ∀ (fuel : Nat) (listed : Array Bool) (a : Act),
      (∀ j oj, ops[j]? = some oj → j ≠ i → listed.getD j true = false → (∀ e ∈ oj.after, Region.binds md e = true → e.on ≠ i) → oi.apart ops oj = true) →
      i ∈ Region.ready md ops listed → YieldsIn P ops C oi v a →
      wpAnyL P md ops C m Q fuel (listed.setIfInBounds i true) (a.put oi.dst v) → wpAnyL P md ops C m Q (fuel + 1) listed a := by
  intro fuel
  induction fuel with
  | zero =>
    intro listed a _ hr hy H
    refine ⟨fun h => (by rw [h] at hr; cases hr), fun j hj => ?_⟩
    by_cases hji : j = i
    · subst hji; exact hy.qOp hi H
    · have := H.1 j (ready_mono hj hji)
      subst this
      exact absurd hj (hl _ hr)
  | succ fuel ih =>
    intro listed a hfree hr hy H
    refine ⟨fun h => (by rw [h] at hr; cases hr), fun j hj => ?_⟩
    by_cases hji : j = i
    · subst hji; exact hy.qOp hi H
    · have h1 := H.2 j (ready_mono hj hji)
      obtain ⟨hjun, oj, hoj, hall⟩ := mem_ready.1 hj
      have hnot : ∀ e ∈ oj.after, Region.binds md e = true → e.on ≠ i := fun e he hb heq => by
        have h1 := hall e he hb
        have h0 := (mem_ready.1 hr).1
        rw [heq] at h1
        rcases Nat.lt_or_ge i listed.size with h' | h'
        · simp [h'] at h0 h1; rw [h0] at h1; cases h1
        · simp [Array.getElem?_eq_none h'] at h1
      have h2 := qOp_put hoj (hfree j oj hoj hji hjun hnot) (fun cs b => hsel i oi cs b hi) (fun cs b => hsel j oj cs b hoj) hy h1
      have hfree' : ∀ k ok, ops[k]? = some ok → k ≠ i → (listed.setIfInBounds j true).getD k true = false →
          (∀ e ∈ ok.after, Region.binds md e = true → e.on ≠ i) → oi.apart ops ok = true := fun k ok hk hki hun hno => by
        refine hfree k ok hk hki ?_ hno
        by_cases hjk : j = k
        · subst hjk; exact hjun
        · rw [getD_set_ne true hjk] at hun; exact hun
      refine qOp_mono (fun a' h3 => ih (listed.setIfInBounds j true) a' hfree' (ready_mono hr (Ne.symm hji)) h3.1 ?_) h2
      rw [Array.setIfInBounds_comm _ _ hji]
      exact h3.2

/-- Operation m waits for operation i. -/
def waitsB (md : Region.Mode) (ops : Array Oper) (m i : Nat) : Bool :=
  match ops[m]? with
  | none => false
  | some o => o.after.any (fun e => Region.binds md e && e.on == i)

theorem waits_spec {m i : Nat} (h : waitsB md ops m i = true) (listed : Array Bool) (hr : i ∈ Region.ready md ops listed) : m ∉ Region.ready md ops listed := by
  intro hm
  obtain ⟨-, o, ho, hall⟩ := mem_ready.1 hm
  unfold waitsB at h
  rw [ho] at h
  obtain ⟨e, he, hb⟩ := Array.any_eq_true'.1 h
  rw [Bool.and_eq_true] at hb
  have h1 := hall e he hb.1
  have h0 := (mem_ready.1 hr).1
  rw [show e.on = i by simpa using hb.2] at h1
  rcases Nat.lt_or_ge i listed.size with h' | h'
  · simp [h'] at h0 h1; rw [h0] at h1; cases h1
  · simp [Array.getElem?_eq_none h'] at h1

def lexL (md : Region.Mode) (ops : Array Oper) (m : Nat) : Nat → Nat → Array Bool → Bool
  | 0, _, listed => (Region.ready md ops listed).all (fun j => j == m) && (Region.ready md ops listed).contains m && (Region.ready md ops (listed.setIfInBounds m true)).isEmpty
  | fuel + 1, k, listed => (Region.ready md ops listed).contains k && Region.free md ops listed k && waitsB md ops m k && lexL md ops m fuel (k + 1) (listed.setIfInBounds k true)

def lastB (md : Region.Mode) (ops : Array Oper) : Bool := Region.noSelect ops && lexL md ops (ops.size - 1) (ops.size - 1) 0 (Array.replicate ops.size false)

theorem wpAnyL_lex {m : Nat} {Q : Act → Prop} (hs : Region.noSelect ops = true) : ∀ (l : List Oper) (k : Nat) (listed : Array Bool) (a : Act), (∀ j, j < l.length → l[j]? = ops[k + j]?) →
    lexL md ops m l.length k listed = true → wpQuiet P ops C Q l a → wpAnyL P md ops C m Q l.length listed a
  | [], k, listed, a, _, hB, h => by
    simp only [List.length_nil, lexL, Bool.and_eq_true] at hB
    refine ⟨fun j hj => ?_, ?_, ?_, h⟩
    · have := List.all_eq_true.1 hB.1.1 j hj
      simpa using this
    · simpa using hB.1.2
    · simpa using hB.2
  | o :: l, k, listed, a, hl, hB, h => by
    have h0 : ops[k]? = some o := by simpa using (hl 0 (by simp)).symm
    simp only [List.length_cons, lexL, Bool.and_eq_true] at hB
    obtain ⟨⟨⟨hr, hf⟩, hw⟩, hB'⟩ := hB
    have hst : qOp P ops C k (wpQuiet P ops C Q l) a := by unfold qOp; simp only [h0]; exact h
    obtain ⟨v, hy, hK⟩ := yieldsIn_of_qOp h0 hst
    exact wpAnyL_first h0 (Region.noSelect_spec hs) (waits_spec hw) l.length listed a (Region.free_spec h0 hf) (by simpa using hr) hy
      (wpAnyL_lex hs l (k + 1) _ _ (fun j hj => by have := hl (j + 1) (by simpa using hj); simpa [Nat.add_assoc, Nat.add_comm 1 j] using this) hB' hK)

/-- A region whose operations only read, but for the last, which waits for all. -/
theorem wp_region_quiet_last {id : Nat} {Q : Exit → Act → World → Prop} {a : Act} {w : World} {l : List Oper} {o : Oper} (hm : P.follows .mixedOrders = true) (hB : lastB .any l.toArray = true) (ho : l.getLast? = some o) (hg : o.guard = none)
    (h : wpQuiet P l.toArray (fun w' => ∃ n, w' = w.drewN n) (fun a' => ∀ w', (∃ n, w' = w.drewN n) → ∀ K : Act → World → Prop, (∀ a w, Q .normal a w → K a w) → Oper.wp P o a' w' K Q) l.dropLast a) : (Code.region id l.toArray true).wp P Q a w := by
  simp only [lastB, Bool.and_eq_true] at hB
  have hne : l ≠ [] := fun e => by rw [e] at ho; simp at ho
  have hpos : 0 < l.length := List.length_pos_iff.2 hne
  have hom : l.toArray[l.length - 1]? = some o := by
    rw [List.getLast?_eq_getElem?] at ho
    simpa using ho
  refine wp_region_any hm ?_
  have hsz : l.toArray.size = l.dropLast.length + 1 := by simp; omega
  rw [hsz]
  refine wpAny_of_L (C := fun w' => ∃ n, w' = w.drewN n) (m := l.length - 1) (Q := fun a' => ∀ w', (∃ n, w' = w.drewN n) → ∀ K : Act → World → Prop, (∀ a w, Q .normal a w → K a w) → Oper.wp P o a' w' K Q) (fun listed a' w' hw' hr hQ => ?_) _ _ _ _ ⟨1, rfl⟩ ?_
  · unfold wpOp
    rw [hom]
    have hwt : Region.wanted o (yielded l.toArray a'.tmps) = true := by unfold Region.wanted; rw [hg]
    simp only [hwt, if_true]
    exact .inl (hQ w' hw' _ (fun a w h => ⟨hr, h⟩))
  · have hB2 := hB.2
    rw [show l.toArray.size - 1 = l.dropLast.length by simp, hsz] at hB2
    have e : l.length - 1 = l.dropLast.length := by simp
    rw [e]
    refine wpAnyL_lex hB.1 l.dropLast 0 _ a (fun j hj => ?_) hB2 h
    rw [List.getElem?_dropLast, if_pos (by simpa using hj)]
    simp
end
end Go.Proofs.Ythofammjbicogaa
namespace Go.Proofs.Ythofammjbicogaa
open Go Go.RowKit
namespace EM
section
variable {P : Program} {ops : Array Oper} {Q : Exit → Act → World → Prop} {md : Region.Mode}

/-- What an operation leaves: a value of which something holds; or something holds now of another one's value. -/
inductive Cl
  | any
  | own (R : Value → World → Prop) (h : Stays R)
  | at (j : Nat) (R : Value → World → Prop) (h : Stays R)
  | same (j : Nat)
def Cl.holds (i : Nat) (vs : Nat → Value) (w : World) : Cl → Prop
  | .any => True
  | .own R _ => R (vs i) w
  | .at j R _ => R (vs j) w
  | .same j => vs i = vs j
def Cl.looks : Cl → Option Nat
  | .at j _ _ => some j
  | .same j => some j
  | _ => none
theorem Cl.below {i : Nat} {vs : Nat → Value} {w w' : World} (hb : Below w.heap.size w w') : ∀ c : Cl, c.holds i vs w → c.holds i vs w'
  | .any, _ => trivial
  | .own _ h, x => h _ _ _ x hb
  | .at _ _ h, x => h _ _ _ x hb
  | .same _, x => x
theorem Cl.upd_ne {k i : Nat} {vs : Nat → Value} {v : Value} {w : World} (hk : k ≠ i) : ∀ c : Cl, c.looks ≠ some i → c.holds k vs w → c.holds k (upd vs i v) w
  | .any, _, _ => trivial
  | .own _ _, _, x => by simp only [Cl.holds, Go.Proofs.Ythofammjbicogaa.upd_ne vs i v k hk] at x ⊢; exact x
  | .at j _ _, h, x => by
    have hj : j ≠ i := fun e => h (by rw [e]; rfl)
    simp only [Cl.holds, Go.Proofs.Ythofammjbicogaa.upd_ne vs i v j hj] at x ⊢; exact x
  | .same j, h, x => by
    have hj : j ≠ i := fun e => h (by rw [e]; rfl)
    simp only [Cl.holds, Go.Proofs.Ythofammjbicogaa.upd_ne vs i v k hk, Go.Proofs.Ythofammjbicogaa.upd_ne vs i v j hj] at x ⊢; exact x
def claim (cls : List Cl) (k : Nat) (vs : Nat → Value) (w : World) : Prop := (cls.getD k .any).holds k vs w
/-- What a claim looks at comes ahead of its operation. -/
def looksOk (os : List Oper) (ls : List (Option Nat)) : Bool :=
  (List.range os.length).all fun k => match ls.getD k none with | some j => anc os.toArray os.length k j | none => true
theorem looksOk_spec {os : List Oper} {cls : List Cl} (h : looksOk os (cls.map Cl.looks) = true) {k j : Nat} (hk : k < os.length) (hj : (cls.getD k .any).looks = some j) : anc os.toArray os.length k j = true := by
  unfold looksOk at h
  have := List.all_eq_true.1 h k (List.mem_range.2 hk)
  have e : (cls.map Cl.looks).getD k none = (cls.getD k .any).looks := by
    simp only [List.getD, List.getElem?_map]
    cases cls[k]? <;> rfl
  rw [e, hj] at this
  exact this
def isSlc (N : Nat) (v : Value) (b : Nat) : Prop := v = .slice (some ⟨b, 0, none⟩) N N
/-- One operation: it leaves a value that is as it should be; whatever is known lasts: since nothing that stood is touched (hK; hA where a new box is made), or for each by itself (hL). B holds all along; B0 till an operation of ST has come up. -/
def StepAt (N : Nat) (P : Program) (Q : Exit → Act → World → Prop) (os : List Oper) (a : Act) (B : World → Prop) (ST : List Nat) (B0 : World → Prop) (cls : List Cl) (AL : List Nat) (i : Nat) (o : Oper) : Prop :=
  ∀ vs w, B w → ((ST.all fun s => s == i || anc os.toArray os.length s i) = true → B0 w) → (∀ k, anc os.toArray os.length i k = true → claim cls k vs w) →
    (∀ j k, j ≠ k → (AL.contains j && AL.contains k && anc os.toArray os.length i j && anc os.toArray os.length i k) = true → vs j ≠ vs k) →
    (∀ k, (k == i || anc os.toArray os.length k i) = true → vs k = held os a k) → ∀ K : Act → World → Prop,
    Shut (AL.contains i = false → ∀ v w', Below w.heap.size w w' → claim cls i (upd vs i v) w' → K ((puts os 0 vs a).put o.dst v) w') →
    Shut (∀ b w', Below w.heap.size w w' → w.heap.size ≤ b → claim cls i (upd vs i (.slice (some ⟨b, 0, none⟩) N N)) w' → K ((puts os 0 vs a).put o.dst (.slice (some ⟨b, 0, none⟩) N N)) w') →
    Shut (AL.contains i = false → ∀ v w', B w' → (ST.contains i = false → B0 w') → claim cls i (upd vs i v) w' → (∀ j, j ≠ i → anc os.toArray os.length j i = false → claim cls j vs w → claim cls j vs w') → K ((puts os 0 vs a).put o.dst v) w') →
    if Region.wanted o (yielded os.toArray (puts os 0 vs a).tmps) = true then Oper.wp P o (puts os 0 vs a) w K Q else K ((puts os 0 vs a).put o.dst undef) w
theorem wp_region_cl (N : Nat) {os : List Oper} {id : Nat} {a : Act} {w : World} (B : World → Prop) (ST : List Nat) (B0 : World → Prop) (cls : List Cl) (AL : List Nat)
    (hm : P.follows .mixedOrders = true) (he : earlier os.toArray = true) (hn : nodupB (dsts os) = true) (hU : looksOk os (cls.map Cl.looks) = true) (hB : B w.drew) (hB0 : B0 w.drew)
    (hBE : ∀ w w', B w → Below w.heap.size w w' → B w') (hBE0 : ∀ w w', B w → B0 w → Below w.heap.size w w' → B0 w')
    (hAL : ∀ k vs w, AL.contains k = true → claim cls k vs w → ∃ b, isSlc N (vs k) b ∧ b < w.heap.size)
    (step : Each os.toArray (StepAt N P Q os a B ST B0 cls AL) os 0)
    (fin : ∀ vs w, B w → (∀ i, i < os.length → claim cls i vs w) → (∀ j k, j ≠ k → j < os.length → k < os.length → (AL.contains j && AL.contains k) = true → vs j ≠ vs k) → Q .normal (puts os 0 vs a) w) :
    (Code.region id os.toArray true).wp P Q a w := by
  have hsz : os.toArray.size = os.length := by simp
  refine wp_region_any hm ?_
  refine wpAny_inv he (fun listed a' w => ∃ vs, a' = puts os 0 vs a ∧ B w ∧ ((∀ s, ST.contains s = true → listed.getD s false = false) → B0 w) ∧ (∀ i, listed.getD i false = true → claim cls i vs w) ∧ (∀ i, listed.getD i false = false → vs i = held os a i) ∧
    (∀ j k, j ≠ k → (AL.contains j && AL.contains k) = true → listed.getD j false = true → listed.getD k false = true → vs j ≠ vs k)) ?_ ?_ _ _ _ _ (by simp) ?_ (by simp)
    ⟨held os a, ?_, hB, fun _ => hB0, ?_, fun _ _ => rfl, ?_⟩
  · rintro listed a' w hs hc ⟨vs, rfl, hB, hS, hV, hold, hne⟩ i hi
    obtain ⟨h1, o, ho, hdep⟩ := mem_ready.1 hi
    have hlt : i < os.toArray.size := (Array.getElem?_eq_some_iff.1 ho).1
    have hl : i < listed.size := by omega
    have h2 : listed.getD i false = false := by simp [hl] at h1 ⊢; exact h1
    have ho' : os[i]? = some o := by simpa using ho
    have hanc : ∀ k, anc os.toArray os.length i k = true → listed.getD k false = true := fun k hk => anc_listed hc _ i k (fun o' ho'' => by
      rw [ho] at ho''
      obtain rfl := Option.some.inj ho''
      exact hdep) hk
    have hnot : ∀ j, listed.getD j false = true → anc os.toArray os.length j i = false := fun j hj => by
      cases ha : anc os.toArray os.length j i with
      | false => rfl
      | true =>
        have := anc_listed hc _ j i (fun o' ho' => hc j o' ho' hj) ha
        rw [h2] at this; cases this
    have hlooks : ∀ j, listed.getD j false = true → (cls.getD j .any).looks ≠ some i := fun j hj e => by
      have hjl : j < os.length := by
        have hjs : j < listed.size := by
          rcases Nat.lt_or_ge j listed.size with h' | h'
          · exact h'
          · rw [Array.getD_eq_getD_getElem?, Array.getElem?_eq_none h'] at hj; cases hj
        omega
      have := looksOk_spec hU hjl e
      rw [hnot j hj] at this; cases this
    have hji : ∀ j, (listed.setIfInBounds i true).getD j false = true → j ≠ i → listed.getD j false = true := fun j hj h => by
      rwa [getD_set_ne false (fun x => h x.symm)] at hj
    have hneU : ∀ v, (AL.contains i = true → ∃ b, v = .slice (some ⟨b, 0, none⟩) N N ∧ w.heap.size ≤ b) →
        ∀ j k, j ≠ k → (AL.contains j && AL.contains k) = true → (listed.setIfInBounds i true).getD j false = true → (listed.setIfInBounds i true).getD k false = true → upd vs i v j ≠ upd vs i v k := by
      intro v hv j k hjk hal hj hk
      rw [Bool.and_eq_true] at hal
      by_cases h1 : j = i
      · subst h1
        have hki : k ≠ j := fun h => hjk h.symm
        rw [upd_self, upd_ne vs j v k hki]
        obtain ⟨b, rfl, hb⟩ := hv hal.1
        obtain ⟨b', e', hb'⟩ := hAL k vs w hal.2 (hV k (hji k hk hki))
        unfold isSlc at e'
        rw [e']
        intro e; simp at e <;> omega
      · by_cases h3 : k = i
        · subst h3
          rw [upd_self, upd_ne vs k v j h1]
          obtain ⟨b, rfl, hb⟩ := hv hal.2
          obtain ⟨b', e', hb'⟩ := hAL j vs w hal.1 (hV j (hji j hj h1))
          unfold isSlc at e'
          rw [e']
          intro e; simp at e <;> omega
        · rw [upd_ne vs i v j h1, upd_ne vs i v k h3]
          exact hne j k hjk (by rw [Bool.and_eq_true]; exact hal) (hji j hj h1) (hji k hk h3)
    refine wpOp_step ho (fun K hK => ?_)
    have hs1 := Each.at os 0 step i o ho'
    rw [Nat.zero_add] at hs1
    have hnst : (ST.all fun s => s == i || anc os.toArray os.length s i) = true → ∀ s, ST.contains s = true → listed.getD s false = false := by
      intro h s hs
      have h1 := List.all_eq_true.1 h s (by simpa using hs)
      rw [Bool.or_eq_true] at h1
      rcases h1 with h1 | h1
      · obtain rfl : s = i := by simpa using h1
        exact h2
      · cases hg : listed.getD s false with
        | false => rfl
        | true => rw [hnot s hg] at h1; cases h1
    have hup : (∀ s, ST.contains s = true → (listed.setIfInBounds i true).getD s false = false) → ST.contains i = false ∧ ∀ s, ST.contains s = true → listed.getD s false = false := by
      intro h
      refine ⟨?_, fun s hs => ?_⟩
      · cases hg : ST.contains i with
        | false => rfl
        | true => have := h i hg; rw [getD_self hl] at this; cases this
      · cases hg : listed.getD s false with
        | false => rfl
        | true => have := h s hs; rw [getD_set_true hg] at this; cases this
    have hholdU : ∀ v j, (listed.setIfInBounds i true).getD j false = false → upd vs i v j = held os a j := by
      intro v j hj
      have hji' : j ≠ i := fun e => by subst e; rw [getD_self hl] at hj; cases hj
      rw [upd_ne vs i v j hji']
      rw [getD_set_ne false (fun x => hji' x.symm)] at hj
      exact hold j hj
    have hholdI : ∀ k, (k == i || anc os.toArray os.length k i) = true → vs k = held os a k := by
      intro k hk
      refine hold k ?_
      rw [Bool.or_eq_true] at hk
      rcases hk with h | h
      · obtain rfl : k = i := by simpa using h
        exact h2
      · cases hg : listed.getD k false with
        | false => rfl
        | true => rw [hnot k hg] at h; cases h
    refine hs1 vs w hB (fun h => hS (hnst h)) (fun k hk => hV k (hanc k hk)) (fun j k hjk h => ?_) hholdI K (fun hal v w' hb hv => ?_) (fun b w' hb hbl hv => ?_) (fun hal v w' hB' hB0' hv hr => ?_)
    · simp only [Bool.and_eq_true] at h
      exact hne j k hjk (by rw [Bool.and_eq_true]; exact ⟨h.1.1.1, h.1.1.2⟩) (hanc j h.1.2) (hanc k h.2)
    · rw [puts_upd os 0 i o vs v a hn ho', Nat.zero_add]
      refine hK _ _ ⟨upd vs i v, rfl, hBE w w' hB hb, fun h => hBE0 w w' hB (hS (hup h).2) hb, fun j hj => ?_, hholdU _, hneU v (fun h => by rw [hal] at h; cases h)⟩
      by_cases h : j = i
      · subst h; exact hv
      · exact Cl.upd_ne h _ (hlooks j (hji j hj h)) (Cl.below hb _ (hV j (hji j hj h)))
    · rw [puts_upd os 0 i o vs _ a hn ho', Nat.zero_add]
      refine hK _ _ ⟨upd vs i _, rfl, hBE w w' hB hb, fun h => hBE0 w w' hB (hS (hup h).2) hb, fun j hj => ?_, hholdU _, hneU _ (fun h => ⟨b, rfl, hbl⟩)⟩
      by_cases h : j = i
      · subst h; exact hv
      · exact Cl.upd_ne h _ (hlooks j (hji j hj h)) (Cl.below hb _ (hV j (hji j hj h)))
    · rw [puts_upd os 0 i o vs v a hn ho', Nat.zero_add]
      refine hK _ _ ⟨upd vs i v, rfl, hB', fun h => hB0' (hup h).1, fun j hj => ?_, hholdU _, hneU v (fun h => by rw [hal] at h; cases h)⟩
      by_cases h : j = i
      · subst h; exact hv
      · exact Cl.upd_ne h _ (hlooks j (hji j hj h)) (hr j h (hnot j (hji j hj h)) (hV j (hji j hj h)))
  · rintro listed a' w hall ⟨vs, rfl, hB, hS, hV, _, hne⟩
    rw [hsz] at hall
    exact fin vs w hB (fun i hi => hV i (hall i hi)) (fun j k hjk hj hk hal => hne j k hjk hal (hall j hj) (hall k hk))
  · intro i o _ h
    rw [Array.getD_eq_getD_getElem?, Array.getElem?_replicate] at h
    split at h <;> simp at h
  · refine (puts_held os 0 _ a fun j o ho => ?_).symm
    rw [Nat.zero_add]
    unfold held
    rw [ho]
  · intro i h
    rw [Array.getD_eq_getD_getElem?, Array.getElem?_replicate] at h
    split at h <;> simp at h
  · intro j k _ _ h
    rw [Array.getD_eq_getD_getElem?, Array.getElem?_replicate] at h
    split at h <;> simp at h
/-- The same, where no operation panics. -/
theorem wp_region_calm (N : Nat) {os : List Oper} {id : Nat} {a : Act} {w : World} (B : World → Prop) (ST : List Nat) (B0 : World → Prop) (cls : List Cl) (AL : List Nat)
    (hm : P.follows .mixedOrders = true) (he : earlier os.toArray = true) (hn : nodupB (dsts os) = true) (hU : looksOk os (cls.map Cl.looks) = true) (hB : B w.drew) (hB0 : B0 w.drew)
    (hBE : ∀ w w', B w → Below w.heap.size w w' → B w') (hBE0 : ∀ w w', B w → B0 w → Below w.heap.size w w' → B0 w')
    (hAL : ∀ k vs w, AL.contains k = true → claim cls k vs w → ∃ b, isSlc N (vs k) b ∧ b < w.heap.size)
    (step : ∀ Q : Exit → Act → World → Prop, Each os.toArray (StepAt N P Q os a B ST B0 cls AL) os 0)
    (fin : ∀ vs w, B w → (∀ i, i < os.length → claim cls i vs w) → (∀ j k, j ≠ k → j < os.length → k < os.length → (AL.contains j && AL.contains k) = true → vs j ≠ vs k) → Q .normal (puts os 0 vs a) w) :
    (Code.region id os.toArray true).wp P Q a w :=
  wp_region_cl N B ST B0 cls AL hm he hn hU hB hB0 hBE hBE0 hAL (step Q) fin
/-- Each claim but one lasts from one world to another. -/
def KeepAll (i : Nat) (vs : Nat → Value) (w w' : World) : List Cl → Nat → Prop
  | [], _ => True
  | c :: cs, k => (k = i ∨ (c.holds k vs w → c.holds k vs w')) ∧ KeepAll i vs w w' cs (k + 1)
theorem keep_all {i : Nat} {vs : Nat → Value} {w w' : World} : ∀ {cls : List Cl} {k : Nat}, KeepAll i vs w w' cls k → ∀ j, k + j ≠ i → (cls.getD j .any).holds (k + j) vs w → (cls.getD j .any).holds (k + j) vs w'
  | [], _, _, j, _, h => by simp [Cl.holds]
  | c :: cs, k, hk, j, hj, h => by
    cases j with
    | zero => exact (hk.1.resolve_left hj) h
    | succ j =>
      have := keep_all (cls := cs) (k := k + 1) hk.2 j (by omega)
      rw [show k + 1 + j = k + (j + 1) by omega] at this
      exact this h
theorem claims_keep {i : Nat} {vs : Nat → Value} {w w' : World} {cls : List Cl} {p : Nat → Prop} (h : KeepAll i vs w w' cls 0) : ∀ j, j ≠ i → p j → claim cls j vs w → claim cls j vs w' := fun j hj _ hc => by
  have := keep_all h j (by omega)
  rw [Nat.zero_add] at this
  exact this hc
/-- A value is this one. -/
def Is (v : Value) : Cl := .own (fun u _ => u = v) (fun _ _ _ h _ => h)
theorem is_keep {v : Value} {k : Nat} {vs : Nat → Value} {w w' : World} (h : (Is v).holds k vs w) : (Is v).holds k vs w' := h
end
end EM
end Go.Proofs.Ythofammjbicogaa
