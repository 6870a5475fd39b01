/-
  Maps of whole numbers, by their entries: what lies in a block, how it is looked up and updated; operations that only run.
-/
/-
  Layer 3: a float's fields, and the nearest of so many parts of one, in plain numbers.
-/
/-
  Layer 3: a float's fields by shifts and masks.
-/
/-
  Package real: a float's fields, its kind, its size.
-/
/-
  Package real: halved.
-/
/-
  Package real: grid, a number's nearest place.
-/
/-
  Package real: Grid.
-/
/-
  The statements of layer 4 that name no reference. First part: what each begins with; FixedOrder.
-/
/-
  Plain facts on whole numbers that are kept as lists of pieces of 16 bits.
-/
import Derived.Test.YtigjjddblijpbaaGreatDoorZ1
import Derived.Test.YtigjjddblijpbaaGreatDoorShelf
import Derived.BigFrame
import Derived.ArgAppend
import Derived.Maps.RangeRun
import Derived.Test.YtigjjddblijpbaaGreatDoorZ7
import Derived.Laws.Bits64b
import Derived.Test.YtigjjddblijpbaaGreatDoorZ8
import Derived.Test.YtigjjddblijpbaaGreatDoorZ5
import Derived.Shelf.Abstract
namespace Go.Proofs.YtigjjddblijpbaaGreatDoor
open Go Go.RowKit
open Go.ChangeMaps (setBlock)
set_option linter.unusedSimpArgs false
set_option linter.unusedVariables false

theorem wp_worldT {P : Program} {c : Code} {Q : Exit → Act → World → Prop} {a : Act} {w : World} (R : World → Prop) (h : R w) (k : ∀ W, R W → c.wp P Q a W) : c.wp P Q a w := k w h
/-- An entry: its key, its value, when it was laid. -/
structure En where
  k : Int
  v : Value
  t : Nat
def En.e (x : En) : MapEntry := { key := .int .i64 x.k, val := x.v, born := x.t }
def esOf (l : List En) : Array MapEntry := (l.map En.e).toArray
/-- A map lies in a block. -/
def MapE (w : World) (b : Nat) (l : List En) (c : Nat) : Prop := w.heap[b]? = some (.map (esOf l) c)
theorem MapE.lt {w : World} {b : Nat} {l : List En} {c : Nat} (h : MapE w b l c) : b < w.heap.size := (Array.getElem?_eq_some_iff.1 h).1
theorem MapE.below {w w' : World} {b : Nat} {l : List En} {c : Nat} (h : MapE w b l c) (hb : Below w.heap.size w w') : MapE w' b l c := (hb.block b h.lt).trans h
theorem MapE.alloc {w : World} {b : Nat} {l : List En} {c : Nat} (h : MapE w b l c) (o : Obj) : MapE (w.alloc o) b l c := (Below.heap_alloc w o _ h.lt).trans h
theorem MapE.drew {w : World} {b : Nat} {l : List En} {c : Nat} (h : MapE w b l c) : MapE w.drew b l c := h
theorem MapE.drewN {w : World} {b : Nat} {l : List En} {c : Nat} (h : MapE w b l c) (n : Nat) : MapE (w.drewN n) b l c := h
theorem MapE.but {w w' : World} {b d : Nat} {l : List En} {c : Nat} (h : MapE w b l c) (hb : But d w w') (hc : b ≠ d) : MapE w' b l c := (hb.block b h.lt hc).trans h
theorem MapE.butl {w w' : World} {b : Nat} {L : List Nat} {l : List En} {c : Nat} (h : MapE w b l c) (hb : ButL L w w') (hc : b ∉ L) : MapE w' b l c := (hb.block b h.lt hc).trans h
theorem MapE.new (w : World) (b : Nat) (hb : b = w.heap.size) : MapE (w.alloc (.map #[] 0)) b [] 0 := by subst hb; exact heap_alloc_new w _
theorem MapE.put {w : World} {b : Nat} {l : List En} {c : Nat} (h : MapE w b l c) (l' : List En) (c' : Nat) : MapE (setBlock w b (.map (esOf l') c')) b l' c' := by
  unfold MapE setBlock
  rw [Array.getElem?_setIfInBounds, if_pos rfl, if_pos h.lt]
theorem But.put {w : World} {b : Nat} (o : Obj) : But b w (setBlock w b o) :=
  ⟨rfl, rfl, rfl, by simp [setBlock], fun k hk hne => by simp only [setBlock]; rw [Array.getElem?_setIfInBounds, if_neg (fun e => hne e.symm)]⟩
/-- The entry of a key. -/
def enAt (l : List En) (k : Int) : Option En := l.find? (fun x => x.k == k)
theorem find_en {q : IntKind} (k : Int) : ∀ (l : List En) (i : Nat), Instr.findNow (.int q) (.int .i64 k) (l.map En.e) i = some ((l.findIdx? (fun x => x.k == k)).bind fun j => (l[j]?).map fun x => (i + j, x.v))
  | [], i => rfl
  | x :: l, i => by
    have ih := find_en (q := q) k l (i + 1)
    simp only [List.map_cons, Instr.findNow, En.e, Instr.sameNow, if_true, List.findIdx?_cons]
    by_cases h : x.k = k
    · have e1 : (k == x.k) = true := by simp [h]
      have e2 : (x.k == k) = true := by simp [h]
      rw [e1, e2]
      simp
    · have e1 : (k == x.k) = false := by simp; exact fun e => h e.symm
      have e2 : (x.k == k) = false := by simp [h]
      rw [e1, e2]
      simp only [Bool.false_eq_true, if_false]
      rw [ih]
      cases hf : l.findIdx? (fun x => x.k == k) with
      | none => rfl
      | some j =>
        simp only [Option.bind_some, Option.map_some, List.getElem?_cons_succ]
        rw [show i + (j + 1) = i + 1 + j by omega]
section
variable {P : Program} {T K E : TypeId}
theorem run_checkKey_int (hK : P.underlying K = some (.int .i64)) (em : Bool) (k : Int) (w : World) : (Instr.checkKey em 10000 K (.int .i64 k)).run P w = .ok () w := by
  have h : ∀ n, (Instr.checkKey em (n + 1) K (.int .i64 k)).run P w = .ok () w := fun n => by simp [Instr.checkKey, run_underlying hK]
  exact h 9999
theorem run_findKey_int (hK : P.underlying K = some (.int .i64)) (l : List En) (k : Int) (w : World) :
    (Instr.findKey K (.int .i64 k) (esOf l).toList).run P w = .ok ((l.findIdx? (fun x => x.k == k)).bind fun j => (l[j]?).map fun x => (j, x.v)) w := by
  have h := find_en (q := .i64) k l 0
  have e : (esOf l).toList = l.map En.e := by simp [esOf]
  rw [e]
  simp only [Instr.findKey, Sem.run_bind, run_underlying hK, Result.andThen_ok, h]
  simp
theorem run_lookup_en (hT : P.underlying T = some (.map K E)) (hK : P.underlying K = some (.int .i64)) {w : World} {b c : Nat} {l : List En} (h : MapE w b l c) (k : Int) (v : Value) (hf : ((l.findIdx? (fun x => x.k == k)).bind fun j => (l[j]?).map fun x => x.v) = some v) (ok : Bool) :
    (Instr.lookup T (.map (some b)) (.int .i64 k) ok).run P w = .ok (if ok then .tuple #[v, .bool true] else v) w := by
  have hg : (getObj b).run P w = .ok (.map (esOf l) c) w := by simp [getObj, Sem.run, show w.heap[b]? = _ from h]
  have h2 := run_findKey_int (P := P) hK l k w
  cases hi : l.findIdx? (fun x => x.k == k) with
  | none => rw [hi] at hf; simp at hf
  | some j =>
    rw [hi] at hf h2
    simp only [Option.bind_some] at hf h2
    cases hx : l[j]? with
    | none => rw [hx] at hf; simp at hf
    | some x =>
      rw [hx] at hf h2
      simp only [Option.map_some, Option.some.injEq] at hf h2
      subst hf
      simp only [Instr.lookup, Sem.run_bind, run_underlying hT, Result.andThen_ok, hg, run_checkKey_int hK, h2, Sem.run_pure]
theorem run_lookup_none (hT : P.underlying T = some (.map K E)) (hK : P.underlying K = some (.int .i64)) {w : World} {b c : Nat} {l : List En} (h : MapE w b l c) (k : Int) (hf : l.findIdx? (fun x => x.k == k) = none) {z : Value} (hz : (zeroValue E).run P w = .ok z w) (ok : Bool) :
    (Instr.lookup T (.map (some b)) (.int .i64 k) ok).run P w = .ok (if ok then .tuple #[z, .bool false] else z) w := by
  have hg : (getObj b).run P w = .ok (.map (esOf l) c) w := by simp [getObj, Sem.run, show w.heap[b]? = _ from h]
  have h2 := run_findKey_int (P := P) hK l k w
  rw [hf] at h2
  simp only [Instr.lookup, Sem.run_bind, run_underlying hT, Result.andThen_ok, hg, run_checkKey_int hK, h2, Sem.run_pure, Option.bind_none, hz]
theorem run_lookup_nil (hT : P.underlying T = some (.map K E)) (hK : P.underlying K = some (.int .i64)) {w : World} (k : Int) {z : Value} (hz : (zeroValue E).run P w = .ok z w) (ok : Bool) :
    (Instr.lookup T (.map none) (.int .i64 k) ok).run P w = .ok (if ok then .tuple #[z, .bool false] else z) w := by
  have h2 := run_findKey_int (P := P) hK [] k w
  have e : (esOf []).toList = [] := rfl
  rw [e] at h2
  simp only [Instr.lookup, Sem.run_bind, run_underlying hT, Result.andThen_ok, Sem.run_pure, run_checkKey_int hK]
  simp only [show (#[] : Array MapEntry).toList = [] from rfl, h2, Result.andThen_ok]
  simp [hz]
theorem run_update_new (hT : P.underlying T = some (.map K E)) (hK : P.underlying K = some (.int .i64)) {w : World} {b c : Nat} {l : List En} (h : MapE w b l c) (k : Int) (v : Value) (hf : l.findIdx? (fun x => x.k == k) = none) :
    (Instr.mapUpdate T (.map (some b)) (.int .i64 k) v).run P w = .ok () (setBlock w b (.map (esOf (l ++ [⟨k, v, c⟩])) (c + 1))) := by
  have hg : (getObj b).run P w = .ok (.map (esOf l) c) w := by simp [getObj, Sem.run, show w.heap[b]? = _ from h]
  have h2 := run_findKey_int (P := P) hK l k w
  rw [hf] at h2
  have hs : ∀ o', (setObj b o').run P w = .ok () (setBlock w b o') := fun o' => by simp [setObj, Sem.run, show w.heap[b]? = _ from h, setBlock]
  have e : (esOf l).push { key := .int .i64 k, val := v, born := c } = esOf (l ++ [⟨k, v, c⟩]) := by simp [esOf, En.e]
  simp only [Instr.mapUpdate, Sem.run_bind, run_underlying hT, Result.andThen_ok, hg, run_checkKey_int hK, h2, Option.bind_none, hs, e]
theorem run_update_old (hT : P.underlying T = some (.map K E)) (hK : P.underlying K = some (.int .i64)) {w : World} {b c : Nat} {l1 l2 : List En} {x : En} (h : MapE w b (l1 ++ x :: l2) c) (v : Value) (hf : l1.findIdx? (fun y => y.k == x.k) = none) :
    (Instr.mapUpdate T (.map (some b)) (.int .i64 x.k) v).run P w = .ok () (setBlock w b (.map (esOf (l1 ++ ⟨x.k, v, x.t⟩ :: l2)) c)) := by
  have hg : (getObj b).run P w = .ok (.map (esOf (l1 ++ x :: l2)) c) w := by simp [getObj, Sem.run, show w.heap[b]? = _ from h]
  have h2 := run_findKey_int (P := P) hK (l1 ++ x :: l2) x.k w
  have hi : (l1 ++ x :: l2).findIdx? (fun y => y.k == x.k) = some l1.length := by
    rw [List.findIdx?_append, hf]
    simp [List.findIdx?_cons]
  rw [hi] at h2
  have hx : (l1 ++ x :: l2)[l1.length]? = some x := by simp
  simp only [Option.bind_some, hx, Option.map_some] at h2
  have hs : ∀ o', (setObj b o').run P w = .ok () (setBlock w b o') := fun o' => by simp [setObj, Sem.run, show w.heap[b]? = _ from h, setBlock]
  have hk : ((esOf (l1 ++ x :: l2))[l1.length]?.map (·.key)).getD (.int .i64 x.k) = .int .i64 x.k := by simp [esOf, En.e]
  have hst : (Instr.keyThatStays (.int .i64 x.k) (.int .i64 x.k)).run P w = .ok (.int .i64 x.k) w := by simp [Instr.keyThatStays, Instr.sameBits]
  have e : (esOf (l1 ++ x :: l2)).modify l1.length (fun e => { e with key := .int .i64 x.k, val := v }) = esOf (l1 ++ ⟨x.k, v, x.t⟩ :: l2) := by
    apply Array.ext_getElem?
    intro i
    rw [Array.getElem?_modify]
    simp only [esOf, List.getElem?_toArray, List.map_append, List.map_cons]
    by_cases hi : l1.length = i
    · subst hi
      simp [En.e]
    · rw [if_neg hi]
      by_cases h3 : i < l1.length
      · rw [List.getElem?_append_left (by simpa using h3), List.getElem?_append_left (by simpa using h3)]
      · rw [List.getElem?_append_right (by simp; omega), List.getElem?_append_right (by simp; omega)]
        obtain ⟨j, hj⟩ : ∃ j, i - (l1.map En.e).length = j + 1 := ⟨i - l1.length - 1, by simp; omega⟩
        rw [hj, List.getElem?_cons_succ, List.getElem?_cons_succ]
  simp only [Instr.mapUpdate, Sem.run_bind, run_underlying hT, Result.andThen_ok, hg, run_checkKey_int hK, h2, hk, hst, hs, e]
end
/-- An operation on a map, in a region that keeps its order. -/
theorem wpl_lookup {P : Program} {ops : Array Oper} {rest : List Oper} {op : Oper} {a : Act} {w : World} {Q : Exit → Act → World → Prop} (hg : op.guard = none) (T : TypeId) (x ix : Operand) (ok : Bool) (ho : op.op = .lookup T x ix ok)
    (m k v : Value) (hx : a.eval x = m) (hi : a.eval ix = k) (hr : (Instr.lookup T m k ok).run P w = .ok v w) (hk : wpList P ops Q rest (a.put op.dst v) w) : wpList P ops Q (op :: rest) a w :=
  wpList_plain hg fun K hK => by
    unfold Oper.wp execOp
    simp only [ho, hx, hi, Sem.run_bind, hr, Sem.run_pure, Result.andThen_ok]
    exact hK _ _ hk
theorem wplw_lookup {P : Program} {ops : Array Oper} {rest : List Oper} {op : Oper} {a : Act} {w : World} {Q : Exit → Act → World → Prop} (hg : Region.wanted op (yielded ops a.tmps) = true) (T : TypeId) (x ix : Operand) (ok : Bool) (ho : op.op = .lookup T x ix ok)
    (m k v : Value) (hx : a.eval x = m) (hi : a.eval ix = k) (hr : (Instr.lookup T m k ok).run P w = .ok v w) (hk : wpList P ops Q rest (a.put op.dst v) w) : wpList P ops Q (op :: rest) a w :=
  BigFrame.wpList_want hg fun K hK => by
    unfold Oper.wp execOp
    simp only [ho, hx, hi, Sem.run_bind, hr, Sem.run_pure, Result.andThen_ok]
    exact hK _ _ hk
theorem wpl_update {P : Program} {ops : Array Oper} {rest : List Oper} {op : Oper} {a : Act} {w w' : World} {Q : Exit → Act → World → Prop} (hg : op.guard = none) (T : TypeId) (x ix y : Operand) (ho : op.op = .mapUpdate T x ix y ∨ op.op = .insert T x ix y)
    (m k v : Value) (hx : a.eval x = m) (hi : a.eval ix = k) (hy : a.eval y = v) (hr : (Instr.mapUpdate T m k v).run P w = .ok () w') (hk : wpList P ops Q rest (a.put op.dst undef) w') : wpList P ops Q (op :: rest) a w :=
  wpList_plain hg fun K hK => by
    unfold Oper.wp execOp
    rcases ho with ho | ho
    · simp only [ho, hx, hi, hy, Sem.run_bind, hr, Sem.run_pure, Result.andThen_ok]
      exact hK _ _ hk
    · simp only [ho, hx, hi, hy, Sem.run_bind, hr, Sem.run_pure, Result.andThen_ok]
      exact hK _ _ hk
theorem wpl_makeMap {P : Program} {ops : Array Oper} {rest : List Oper} {op : Oper} {a : Act} {w : World} {Q : Exit → Act → World → Prop} (hg : op.guard = none) (T : TypeId) (ho : op.op = .makeMap T none)
    (hk : ∀ W, MapE W w.heap.size [] 0 → Below w.heap.size w W → wpList P ops Q rest (a.put op.dst (.map (some w.heap.size))) W) : wpList P ops Q (op :: rest) a w :=
  wpList_plain hg fun K hK => by
    unfold Oper.wp execOp
    have hr : (Instr.makeMap T none).run P w = .ok (.map (some w.heap.size)) (w.alloc (.map #[] 0)) := rfl
    simp only [ho, Option.map_none, Sem.run_bind, hr, Sem.run_pure, Result.andThen_ok]
    exact hK _ _ (hk _ (MapE.new w _ rfl) ((Below.refl _ _).alloc (Nat.le_refl _) _))
/-- An iterator lies in a block. -/
def ItE (w : World) (r b since : Nat) (seen : Array Nat) (last : Nat) : Prop := w.heap[r]? = some (.mapIter (some b) since seen last)
theorem ItE.lt {w : World} {r b since last : Nat} {seen : Array Nat} (h : ItE w r b since seen last) : r < w.heap.size := (Array.getElem?_eq_some_iff.1 h).1
theorem ItE.below {w w' : World} {r b since last : Nat} {seen : Array Nat} (h : ItE w r b since seen last) (hb : Below w.heap.size w w') : ItE w' r b since seen last := (hb.block r h.lt).trans h
theorem ItE.but {w w' : World} {r b since last d : Nat} {seen : Array Nat} (h : ItE w r b since seen last) (hb : But d w w') (hc : r ≠ d) : ItE w' r b since seen last := (hb.block r h.lt hc).trans h
theorem wpl_range {P : Program} {ops : Array Oper} {rest : List Oper} {op : Oper} {a : Act} {w : World} {Q : Exit → Act → World → Prop} (hg : op.guard = none) (T K E : TypeId) (hT : P.underlying T = some (.map K E)) (x : Operand) (ho : op.op = .range T x)
    {b c : Nat} {l : List En} (h : MapE w b l c) (hx : a.eval x = .map (some b))
    (hk : ∀ W, ItE W w.heap.size b c #[] c → Below w.heap.size w W → wpList P ops Q rest (a.put op.dst (.pointer (some ⟨w.heap.size, 0, none⟩))) W) : wpList P ops Q (op :: rest) a w :=
  wpList_plain hg fun K' hK => by
    unfold Oper.wp execOp
    have hgo : (getObj b).run P w = .ok (.map (esOf l) c) w := by simp [getObj, Sem.run, show w.heap[b]? = _ from h]
    have hr : (Instr.range T (.map (some b))).run P w = .ok (.pointer (some ⟨w.heap.size, 0, none⟩)) (w.alloc (.mapIter (some b) c #[] c)) := by
      simp only [Instr.range, Sem.run_bind, run_underlying hT, Result.andThen_ok, hgo]
      rfl
    simp only [ho, hx, Sem.run_bind, hr, Sem.run_pure, Result.andThen_ok]
    exact hK _ _ (hk _ (heap_alloc_new w _) ((Below.refl _ _).alloc (Nat.le_refl _) _))
/-- The next entry: none is left, or one of those that are. -/
theorem wpl_next {P : Program} {ops : Array Oper} {rest : List Oper} {op : Oper} {a : Act} {w : World} {Q : Exit → Act → World → Prop} (hg : op.guard = none) (x : Operand) (ho : op.op = .next x false)
    {r b c c0 since : Nat} {seen : Array Nat} {l : List En} (hi : ItE w r b since seen c0) (h : MapE w b l c) (hold : ∀ e, e ∈ l → e.t < since) (hsc : since ≤ c0) (hx : a.eval x = .pointer (some ⟨r, 0, none⟩))
    (h0 : (∀ e, e ∈ l → seen.contains e.t = true) → wpList P ops Q rest (a.put op.dst (.tuple #[.bool false])) w)
    (h1 : ∀ e, e ∈ l → seen.contains e.t = false → ∀ W, ItE W r b since (seen.push e.t) c → But r w W → wpList P ops Q rest (a.put op.dst (.tuple #[.bool true, .int .i64 e.k, e.v])) W) : wpList P ops Q (op :: rest) a w :=
  wpList_plain hg fun K' hK => by
    have hm : ∀ y, y ∈ (esOf l).toList → y.born < since := fun y hy => by
      simp only [esOf, List.mem_map] at hy
      obtain ⟨e, he, rfl⟩ := hy
      exact hold e he
    have RN := run_next_at (P := P) w op.type r b since c0 seen (esOf l) c hi h hm hsc
    unfold Oper.wp execOp
    rcases RN with ⟨hs, hr⟩ | ⟨e, he, w1, hw1, hr⟩
    · simp only [ho, hx, Sem.run_bind, hr, Sem.run_pure, Result.andThen_ok]
      refine hK _ _ (h0 fun e he => ?_)
      have hemp : leftOf (esOf l) seen = #[] := Array.eq_empty_of_size_eq_zero hs
      unfold leftOf at hemp
      rw [Array.filter_eq_empty_iff] at hemp
      have := hemp e.e (by simp only [esOf, List.mem_toArray, List.mem_map]; exact ⟨e, he, rfl⟩)
      simpa [En.e] using this
    · simp only [ho, hx, Sem.run_bind, hr, Sem.run_pure, Result.andThen_ok]
      unfold leftOf at he
      simp only [Array.toList_filter, List.mem_filter] at he
      obtain ⟨hin, hns⟩ := he
      simp only [esOf, List.mem_map] at hin
      obtain ⟨y, hy, rfl⟩ := hin
      refine hK _ _ (h1 y hy (by simpa [En.e] using hns) _ ?_ ?_)
      · unfold ItE setBlock
        rw [Array.getElem?_setIfInBounds, if_pos rfl, if_pos (by rcases hw1 with rfl | rfl; exact hi.lt; exact hi.lt)]
        rfl
      · have hb1 : But r w w1 := by
          rcases hw1 with rfl | rfl
          · exact But.of (Below.refl _ _)
          · exact But.of (Below.refl _ _).drew
        exact hb1.trans (But.put _)
theorem wpl_entry {P : Program} {ops : Array Oper} {rest : List Oper} {op : Oper} {a : Act} {w : World} {Q : Exit → Act → World → Prop} (hg : op.guard = none) (x : Operand) (ho : op.op = .entry x)
    {r b c c0 since : Nat} {seen : Array Nat} {l : List En} {e : En} (hi : ItE w r b since (seen.push e.t) c) (h : MapE w b l c) (he : e ∈ l) (hn : (l.map (·.t)).Nodup) (hx : a.eval x = .pointer (some ⟨r, 0, none⟩))
    (hk : wpList P ops Q rest (a.put op.dst (.tuple #[.int .i64 e.k, e.v])) w) : wpList P ops Q (op :: rest) a w :=
  wpList_plain hg fun K' hK => by
    have hin : e.e ∈ (esOf l).toList := by simp only [esOf, List.mem_map]; exact ⟨e, he, rfl⟩
    have hnd : ((esOf l).toList.map (·.born)).Nodup := by
      simp only [esOf, List.map_map]
      exact hn
    have hr := run_entry_at (P := P) w r b since seen (esOf l) c e.e hi h hin hnd
    unfold Oper.wp execOp
    simp only [ho, hx, Sem.run_bind, hr, Sem.run_pure, Result.andThen_ok]
    exact hK _ _ hk
end Go.Proofs.YtigjjddblijpbaaGreatDoor
namespace Go.Proofs.YtigjjddblijpbaaGreatDoor
open Go.RowKit
set_option linter.unusedSimpArgs false
set_option linter.unusedVariables false

/-- The sign, the exponent's bits, the mantissa's bits. -/
def fSg (b : Nat) : Bool := decide (b / 9223372036854775808 = 1)
def fEx (b : Nat) : Nat := b / 4503599627370496 % 2048
def fMa (b : Nat) : Nat := b % 4503599627370496
/-- The kinds: 1 NaN, 2 Infinite, 3 Nought, 4 Small, 5 Normal. -/
def fKi (b : Nat) : Nat := if fEx b = 2047 then (if fMa b = 0 then 2 else 1) else if fEx b = 0 then (if fMa b = 0 then 3 else 4) else 5
def fDn (b : Nat) : Bool := if fKi b = 1 then false else fSg b
/-- A size as a whole number times a power of two. -/
def fWh (b : Nat) : Nat := if fEx b = 0 then fMa b else fMa b + 4503599627370496
def fPo (b : Nat) : Int := if fEx b = 0 then -1074 else (fEx b : Int) - 1075
def fNu (b : Nat) : Int := if fSg b then -(fWh b : Int) else (fWh b : Int)
theorem fEx_lt (b : Nat) : fEx b < 2048 := Nat.mod_lt _ (by omega)
theorem fMa_lt (b : Nat) : fMa b < 4503599627370496 := Nat.mod_lt _ (by omega)
theorem fWh_lt (b : Nat) : fWh b < 9007199254740992 := by
  have := fMa_lt b
  unfold fWh; split <;> omega
theorem fNu_bnd (b : Nat) : -9007199254740991 ≤ fNu b ∧ fNu b ≤ 9007199254740991 := by
  have := fWh_lt b
  unfold fNu; split <;> omega
/-- Up and down: the power of two's two parts. -/
def fUp (b : Nat) : Nat := 2 ^ (fPo b).toNat
def fLo (b : Nat) : Nat := 2 ^ (-fPo b).toNat
/-- The nearest place of the grid. -/
def gN (b : Nat) (den : Int) : Int := (2 * (fNu b * (fUp b : Int) * den) + (fLo b : Int)) / (2 * (fLo b : Int))
def clampI (n low high : Int) : Int := if n < low then low else if high < n then high else n
/-- What Grid answers: the error's number. -/
def gridR (b : Nat) (den low high : Int) : Int × Int :=
  if den < 1 ∨ 1048576 < den ∨ high < low then (0, 1)
  else if fKi b = 1 then (0, 4)
  else if fKi b = 2 then (if fSg b then low else high, 0)
  else (clampI (gN b den) low high, 0)
theorem gN_up {b : Nat} (h : 0 ≤ fPo b) (den : Int) : gN b den = fNu b * (fUp b : Int) * den := by
  have e : fLo b = 1 := by
    unfold fLo
    rw [show (-fPo b).toNat = 0 by omega]
  unfold gN
  rw [e]
  omega
theorem gN_down {b : Nat} {k : Nat} (h : fPo b = -((k : Int) + 1)) (den : Int) : gN b den = (fNu b * den / ((2 ^ k : Nat) : Int) + 1) / 2 := by
  have e1 : fUp b = 1 := by
    unfold fUp
    rw [h, show (-((k : Int) + 1)).toNat = 0 by omega]
  have e2 : (fLo b : Int) = 2 * ((2 ^ k : Nat) : Int) := by
    unfold fLo
    rw [h, show (-(-((k : Int) + 1))).toNat = k + 1 by omega, Nat.pow_succ]
    omega
  have hp : (0 : Int) < ((2 ^ k : Nat) : Int) := by
    have := Nat.pow_pos (n := k) (show 0 < 2 by omega)
    omega
  unfold gN
  rw [e1, e2]
  obtain ⟨p, ep⟩ : ∃ p : Int, ((2 ^ k : Nat) : Int) = p := ⟨_, rfl⟩
  rw [ep] at hp ⊢
  obtain ⟨x, ex⟩ : ∃ x, fNu b * den = x := ⟨_, rfl⟩
  rw [show fNu b * ((1 : Nat) : Int) * den = x by rw [← ex]; simp, ex]
  rw [show 2 * x + 2 * p = 2 * (x + p) by omega, show 2 * (2 * p) = 2 * (p * 2) by omega, Int.mul_ediv_mul_of_pos _ _ (by omega), ← Int.ediv_ediv_of_nonneg (by omega), Int.add_ediv_of_dvd_right (Int.dvd_refl p), Int.ediv_self (by omega)]
theorem gN_small {b : Nat} (h : fPo b < -74) {den : Int} (h1 : 1 ≤ den) (h2 : den ≤ 1048576) : gN b den = 0 := by
  obtain ⟨k, hk⟩ : ∃ k : Nat, fPo b = -((k : Int) + 1) := ⟨(-fPo b - 1).toNat, by omega⟩
  rw [gN_down hk]
  have hk74 : 74 ≤ k := by omega
  have hp : (18889465931478580854784 : Int) ≤ ((2 ^ k : Nat) : Int) := by
    have : 2 ^ 74 ≤ 2 ^ k := Nat.pow_le_pow_right (by omega) hk74
    have e : (2 : Nat) ^ 74 = 18889465931478580854784 := by decide
    omega
  obtain ⟨p, ep⟩ : ∃ p : Int, ((2 ^ k : Nat) : Int) = p := ⟨_, rfl⟩
  rw [ep] at hp ⊢
  have hb := fNu_bnd b
  have hm1 : fNu b * den ≤ 9007199254740991 * 1048576 := by
    by_cases h0 : 0 ≤ fNu b
    · exact Int.mul_le_mul hb.2 h2 (by omega) (by omega)
    · have := Int.mul_nonpos_of_nonpos_of_nonneg (show fNu b ≤ 0 by omega) (show 0 ≤ den by omega)
      omega
  have hm2 : -(9007199254740991 * 1048576) ≤ fNu b * den := by
    by_cases h0 : 0 ≤ fNu b
    · have := Int.mul_nonneg h0 (show 0 ≤ den by omega)
      omega
    · have := Int.mul_le_mul (show -fNu b ≤ 9007199254740991 by omega) h2 (by omega) (by omega)
      rw [Int.neg_mul] at this
      omega
  obtain ⟨x, ex⟩ : ∃ x, fNu b * den = x := ⟨_, rfl⟩
  rw [ex] at hm1 hm2 ⊢
  have q1 : x / p = 0 ∨ x / p = -1 := by
    by_cases h0 : 0 ≤ x
    · exact .inl (Int.ediv_eq_zero_of_lt h0 (by omega))
    · right
      have e : x = (x + p) + (-1) * p := by omega
      rw [e, Int.add_mul_ediv_right _ _ (by omega), Int.ediv_eq_zero_of_lt (by omega) (by omega)]
      rfl
  rcases q1 with e | e <;> rw [e] <;> rfl
/-- Beyond all ints: where the power is above eleven. -/
theorem gN_far {b : Nat} (h : 11 < fPo b) {den : Int} (h1 : 1 ≤ den) : if fSg b then gN b den < -9223372036854775808 else 9223372036854775807 < gN b den := by
  rw [gN_up (by omega)]
  have hE : fEx b ≠ 0 := fun e => by unfold fPo at h; rw [if_pos e] at h; omega
  have hw : 4503599627370496 ≤ fWh b := by unfold fWh; rw [if_neg hE]; omega
  have hu : (4096 : Int) ≤ (fUp b : Int) := by
    have : 2 ^ 12 ≤ 2 ^ (fPo b).toNat := Nat.pow_le_pow_right (by omega) (by omega)
    unfold fUp
    omega
  have hm : (4503599627370496 * 4096 : Int) ≤ (fWh b : Int) * (fUp b : Int) := Int.mul_le_mul (by omega) hu (by omega) (by omega)
  have hd : (fWh b : Int) * (fUp b : Int) * 1 ≤ (fWh b : Int) * (fUp b : Int) * den := Int.mul_le_mul_of_nonneg_left h1 (by omega)
  unfold fNu
  split
  · rw [Int.neg_mul, Int.neg_mul]; omega
  · omega
theorem gN_sign {b : Nat} (h : 0 ≤ fPo b) {den : Int} (h1 : 1 ≤ den) : if fSg b then gN b den ≤ 0 else 0 ≤ gN b den := by
  rw [gN_up h]
  have hm : (0 : Int) ≤ (fWh b : Int) * (fUp b : Int) * den := Int.mul_nonneg (Int.mul_nonneg (by omega) (by omega)) (by omega)
  unfold fNu
  split
  · rw [Int.neg_mul, Int.neg_mul]; omega
  · exact hm
theorem gN_zero {b : Nat} (h : fKi b = 3) (den : Int) : gN b den = 0 := by
  have hm : fMa b = 0 ∧ fEx b = 0 := by
    unfold fKi at h
    split at h
    · split at h <;> omega
    · split at h
      · rename_i h2
        split at h
        · rename_i h3; exact ⟨h3, h2⟩
        · omega
      · omega
  have hw : fWh b = 0 := by unfold fWh; rw [if_pos hm.2]; exact hm.1
  have hn : fNu b = 0 := by unfold fNu; rw [hw]; simp
  obtain ⟨k, hk⟩ : ∃ k : Nat, fPo b = -((k : Int) + 1) := ⟨1073, by unfold fPo; rw [if_pos hm.2]; rfl⟩
  rw [gN_down hk, hn, Int.zero_mul, Int.zero_ediv]
  rfl
end Go.Proofs.YtigjjddblijpbaaGreatDoor
namespace Go.Proofs.YtigjjddblijpbaaGreatDoor
open Go.RowKit
set_option linter.unusedSimpArgs false
set_option linter.unusedVariables false

theorem and_low (X n m : Nat) (hX : X < 18446744073709551616) (hm : m = 2 ^ n - 1) (hm2 : m < 18446744073709551616) : bits .and .u64 (X : Int) (m : Int) = ((X % 2 ^ n : Nat) : Int) := by
  rw [bits_and_u64_nat X m hX hm2, hm, Nat.and_two_pow_sub_one_eq_mod]
theorem or_high (m : Nat) (hm : m < 4503599627370496) : bits .or .u64 (m : Int) 4503599627370496 = ((m + 4503599627370496 : Nat) : Int) := by
  have h := bits_or_u64_nat m 4503599627370496 (by omega) (by omega)
  have e : m ||| 4503599627370496 = m + 4503599627370496 := by
    have := Nat.two_pow_add_eq_or_of_lt (i := 52) (b := m) hm 1
    rw [show (2 : Nat) ^ 52 * 1 = 4503599627370496 by decide] at this
    rw [Nat.or_comm, ← this]
    omega
  rw [e] at h
  exact h
theorem bits_ex (b : Nat) (hb : b < 18446744073709551616) : bits .and .u64 ((b : Int) / 4503599627370496) 2047 = ((fEx b : Nat) : Int) := by
  have h := and_low (b / 4503599627370496) 11 2047 (by omega) (by decide) (by omega)
  rw [show (2 : Nat) ^ 11 = 2048 by decide] at h
  unfold fEx
  rw [← h]
  rfl
theorem bits_ma (b : Nat) (hb : b < 18446744073709551616) : bits .and .u64 (b : Int) 4503599627370495 = ((fMa b : Nat) : Int) := by
  have h := and_low b 52 4503599627370495 hb (by decide) (by omega)
  rw [show (2 : Nat) ^ 52 = 4503599627370496 by decide] at h
  exact h
theorem sg_eq (b : Nat) : ((b : Int) / 9223372036854775808 == 1) = fSg b := by
  unfold fSg
  by_cases h : b / 9223372036854775808 = 1
  · rw [decide_eq_true h]; simp; omega
  · rw [decide_eq_false h]; simp; omega
end Go.Proofs.YtigjjddblijpbaaGreatDoor
namespace Go.Proofs.YtigjjddblijpbaaGreatDoor
open Go.RowKit
set_option linter.unusedSimpArgs false
set_option linter.unusedVariables false

theorem flo_bits (b : Nat) (w : World) : (callFunc 149 #[.float .f64 b]).run Tryz.prog w = .ok (.value (.int .u64 (b : Int))) w := by
  rw [run_callFunc_extern Tryz.func149 (by kernel_rfl) (by kernel_rfl) (by kernel_rfl) (e := Extern.MathFloatBits.float64bits) (by kernel_rfl)]
  rfl
set_option maxRecDepth 100000 in
set_option maxHeartbeats 1600000 in
theorem real_fields (b : Nat) (hb : b < 18446744073709551616) (w : World) : Calls Tryz.prog 107 #[.float .f64 b] w fun e w' => e = .returned (.tuple #[.bool (fSg b), .int .i64 ((fEx b : Int)), .int .u64 (fMa b : Int)]) ∧ w' = w := by
  have FB := flo_bits
  have e1 := sg_eq b
  have e2 := bits_ex b hb
  have e3 := bits_ma b hb
  have e4 := fEx_lt b
  have hb1 : (0 : Int) ≤ (b : Int) := by omega
  have hb2 : (b : Int) < 18446744073709551616 := by omega
  obtain ⟨x, ex⟩ : ∃ x, fEx b = x := ⟨_, rfl⟩
  rw [ex] at e2 e4
  rw [ex]
  clear ex
  go_enter Tryz.func107, Tryz.ntmps107
  go_wp2_with fail
  (go_light; simp [bodyPost, results, Tryz.results107, go_sem, *])
theorem fKi_all (b : Nat) : (fEx b = 2047 ∧ fMa b ≠ 0 ∧ fKi b = 1) ∨ (fEx b = 2047 ∧ fMa b = 0 ∧ fKi b = 2) ∨ (fEx b = 0 ∧ fMa b = 0 ∧ fKi b = 3) ∨ (fEx b = 0 ∧ fMa b ≠ 0 ∧ fKi b = 4) ∨ (fEx b ≠ 0 ∧ fEx b ≠ 2047 ∧ fKi b = 5) := by
  unfold fKi
  by_cases h1 : fEx b = 2047
  · rw [if_pos h1]
    by_cases h2 : fMa b = 0
    · rw [if_pos h2]; exact .inr (.inl ⟨h1, h2, rfl⟩)
    · rw [if_neg h2]; exact .inl ⟨h1, h2, rfl⟩
  · rw [if_neg h1]
    by_cases h2 : fEx b = 0
    · rw [if_pos h2]
      by_cases h3 : fMa b = 0
      · rw [if_pos h3]; exact .inr (.inr (.inl ⟨h2, h3, rfl⟩))
      · rw [if_neg h3]; exact .inr (.inr (.inr (.inl ⟨h2, h3, rfl⟩)))
    · rw [if_neg h2]; exact .inr (.inr (.inr (.inr ⟨h2, h1, rfl⟩)))
set_option maxRecDepth 100000 in
set_option maxHeartbeats 1600000 in
theorem real_kind (b : Nat) (hb : b < 18446744073709551616) (w : World) : Calls Tryz.prog 59 #[.float .f64 b] w fun e w' => e = .returned (.tuple #[.int .i64 ((fKi b : Int)), .bool (fDn b)]) ∧ w' = w := by
  have FI := real_fields b hb
  have hk := fKi_all b
  have hd : fDn b = if fKi b = 1 then false else fSg b := rfl
  obtain ⟨x, ex⟩ : ∃ x, fEx b = x := ⟨_, rfl⟩
  obtain ⟨m, em⟩ : ∃ x, fMa b = x := ⟨_, rfl⟩
  obtain ⟨s, es⟩ : ∃ x, fSg b = x := ⟨_, rfl⟩
  obtain ⟨k, ek⟩ : ∃ x, fKi b = x := ⟨_, rfl⟩
  rw [ex, em, es] at FI
  rw [ex, em, ek] at hk
  rw [ek, es] at hd
  rw [ek, hd]
  clear ex em es ek hd
  rcases hk with ⟨rfl, h2, rfl⟩ | ⟨rfl, rfl, rfl⟩ | ⟨rfl, rfl, rfl⟩ | ⟨rfl, h2, rfl⟩ | ⟨h1, h2, rfl⟩
  · have q1 : ((m : Int) != 0) = true := by simp; omega
    go_enter Tryz.func59, Tryz.ntmps59
    go_wp2_with (go_at_call 107; with_reducible refine (FI _).mono ?_; rintro e w1 ⟨rfl, rfl⟩)
    (go_light; simp [bodyPost, results, Tryz.results59, go_sem, *])
  · go_enter Tryz.func59, Tryz.ntmps59
    go_wp2_with (go_at_call 107; with_reducible refine (FI _).mono ?_; rintro e w1 ⟨rfl, rfl⟩)
    (go_light; simp [bodyPost, results, Tryz.results59, go_sem, *])
  · go_enter Tryz.func59, Tryz.ntmps59
    go_wp2_with (go_at_call 107; with_reducible refine (FI _).mono ?_; rintro e w1 ⟨rfl, rfl⟩)
    (go_light; simp [bodyPost, results, Tryz.results59, go_sem, *])
  · have q1 : ((m : Int) == 0) = false := by simp; omega
    go_enter Tryz.func59, Tryz.ntmps59
    go_wp2_with (go_at_call 107; with_reducible refine (FI _).mono ?_; rintro e w1 ⟨rfl, rfl⟩)
    (go_light; simp [bodyPost, results, Tryz.results59, go_sem, *])
  · have q1 : ((x : Int) == 0) = false := by simp; omega
    have q2 : ((x : Int) == 2047) = false := by simp; omega
    go_enter Tryz.func59, Tryz.ntmps59
    go_wp2_with (go_at_call 107; with_reducible refine (FI _).mono ?_; rintro e w1 ⟨rfl, rfl⟩)
    (go_light; simp [bodyPost, results, Tryz.results59, go_sem, *])
set_option maxRecDepth 100000 in
set_option maxHeartbeats 1600000 in
theorem real_whole (b : Nat) (hb : b < 18446744073709551616) (w : World) : Calls Tryz.prog 108 #[.float .f64 b] w fun e w' => e = .returned (.tuple #[.int .u64 (fWh b : Int), .int .i64 (fPo b)]) ∧ w' = w := by
  have FI := real_fields b hb
  have hw : fWh b = if fEx b = 0 then fMa b else fMa b + 4503599627370496 := rfl
  have hp : fPo b = if fEx b = 0 then -1074 else (fEx b : Int) - 1075 := rfl
  have h1 := or_high (fMa b) (fMa_lt b)
  have h2 := fMa_lt b
  have h3 := fEx_lt b
  obtain ⟨x, ex⟩ : ∃ x, fEx b = x := ⟨_, rfl⟩
  obtain ⟨m, em⟩ : ∃ x, fMa b = x := ⟨_, rfl⟩
  rw [ex, em] at FI
  rw [em] at h1 h2
  rw [ex, em] at hw
  rw [ex] at hp h3
  rw [hw, hp]
  clear ex em hw hp
  by_cases h0 : x = 0
  · subst h0
    rw [if_pos rfl, if_pos rfl]
    clear h1
    go_enter Tryz.func108, Tryz.ntmps108
    go_wp2_with (go_at_call 107; with_reducible refine (FI _).mono ?_; rintro e w1 ⟨rfl, rfl⟩)
    (go_light; simp [bodyPost, results, Tryz.results108, go_sem, *])
  · rw [if_neg h0, if_neg h0]
    have q1 : ((x : Int) == 0) = false := by simp; omega
    go_enter Tryz.func108, Tryz.ntmps108
    go_wp2_with (go_at_call 107; with_reducible refine (FI _).mono ?_; rintro e w1 ⟨rfl, rfl⟩)
    (go_light; simp [bodyPost, results, Tryz.results108, go_sem, *])
theorem sg_neg (b : Nat) (hb : b < 18446744073709551616) : decide (wrap64 (b : Int) < 0) = fSg b := by
  unfold fSg
  rw [decide_eq_decide]
  unfold wrap64
  omega
set_option maxRecDepth 100000 in
set_option maxHeartbeats 1600000 in
theorem math_signbit (b : Nat) (hb : b < 18446744073709551616) (w : World) : Calls Tryz.prog 109 #[.float .f64 b] w fun e w' => e = .returned (.bool (fSg b)) ∧ w' = w := by
  have FB := flo_bits
  have e1 := sg_neg b hb
  have hb1 : (0 : Int) ≤ (b : Int) := by omega
  have hb2 : (b : Int) < 18446744073709551616 := by omega
  go_enter Tryz.func109, Tryz.ntmps109
  go_wp2_with fail
  go_ret
  exact ⟨by first | rfl | (rw [e1]), rfl⟩
set_option maxRecDepth 100000 in
set_option maxHeartbeats 1600000 in
theorem real_signed (n : Int) (d : Bool) (h1 : -9223372036854775808 < n) (h2 : n ≤ 9223372036854775807) (w : World) : Calls Tryz.prog 60 #[.int .i64 n, .bool d] w fun e w' => e = .returned (.int .i64 (if d then -n else n)) ∧ w' = w := by
  cases d
  · go_enter Tryz.func60, Tryz.ntmps60
    go_wp2_with fail
    go_ret
    exact ⟨rfl, rfl⟩
  · go_enter Tryz.func60, Tryz.ntmps60
    go_wp2_with fail
    go_ret
    exact ⟨rfl, rfl⟩
end Go.Proofs.YtigjjddblijpbaaGreatDoor
namespace Go.Proofs.YtigjjddblijpbaaGreatDoor
open Go.RowKit
set_option linter.unusedSimpArgs false
set_option linter.unusedVariables false

theorem wfit_ediv {x D : Int} (h : WFit x) (hD : 0 < D) : WFit (x / D) := by
  unfold WFit at h ⊢
  by_cases h0 : 0 ≤ x
  · have h1 := Int.ediv_nonneg h0 (show 0 ≤ D by omega)
    have h2 := Int.ediv_le_self D h0
    omega
  · have h1 : x ≤ x / D := (Int.le_ediv_iff_mul_le hD).2 (by
      have := Int.mul_nonpos_of_nonpos_of_nonneg (show x ≤ 0 by omega) (show 0 ≤ D - 1 by omega)
      rw [Int.mul_sub, Int.mul_one] at this
      omega)
    have h2 : x / D < 0 := Int.ediv_neg_of_neg_of_pos (by omega) hD
    omega
set_option maxRecDepth 100000 in
set_option maxHeartbeats 3200000 in
theorem real_halved (X : Int) (T : Nat) (hT : T ≤ 100) (hX : WFit X) (w : World) : Calls Tryz.prog 112 #[.agg #[.int .i64 (X / 18446744073709551616), .int .u64 (X % 18446744073709551616)], .int .i64 ((T : Int))] w fun e w' => e = .returned (.agg #[.int .i64 ((X / ((2 ^ T : Nat) : Int)) / 18446744073709551616), .int .u64 ((X / ((2 ^ T : Nat) : Int)) % 18446744073709551616)]) ∧ Below w.heap.size w w' := by
  go_enter Tryz.func112, Tryz.ntmps112
  go_wp2_with fail
  go_loopg [1] T (fun gk s1 wr => ∃ (x : Int), gk ≤ T ∧ s1 = .int .i64 ((gk : Int)) ∧ x = X / ((2 ^ (T - gk) : Nat) : Int) ∧ Blk wr w.heap.size #[.int .i64 (x / 18446744073709551616), .int .u64 (x % 18446744073709551616)] 218 ∧ (∃ v0 v1, Blk wr (w.heap.size + 1) #[v0, v1] 218) ∧ Below w.heap.size w wr)
  case atStart => exact ⟨X, Nat.le_refl _, rfl, by simp, (Blk.new w _ _ _ rfl).alloc _, ⟨_, _, Blk.new _ _ _ _ (by simp)⟩, (by repeat' (first | (with_reducible exact Below.refl _ _) | (with_reducible assumption) | (with_reducible refine below_alloc ?_ _ ?_) | (with_reducible refine below_set _ ?_ ?_) | (with_reducible refine Below.drew ?_) | (with_reducible refine below_dN ?_ _) | (apply below_thenA; assumption) | omega | (simp; done) | (simp; omega) | (simp [*]; done)))⟩
  case round =>
    obtain ⟨x, ht, rfl, hx, tx, ⟨v0, v1, tr⟩, hB⟩ := hrel
    obtain ⟨t, rfl⟩ : ∃ t, t = gk := ⟨_, rfl⟩
    by_cases h0 : t = 0
    · subst h0
      have c0 := tx.cell 0 _ rfl
      have c1 := tx.cell 1 _ rfl
      have r0 := tr.cell 0 _ rfl
      have r1 := tr.cell 1 _ rfl
      have p0 := tr.free 0
      have p1 := tr.free 1
      go_wp2_with fail
      (go_light; simp [bodyPost, results, Tryz.results112, go_sem, *])
      try exact (by repeat' (first | (with_reducible exact Below.refl _ _) | (with_reducible assumption) | (with_reducible refine below_alloc ?_ _ ?_) | (with_reducible refine below_set _ ?_ ?_) | (with_reducible refine Below.drew ?_) | (with_reducible refine below_dN ?_ _) | (apply below_thenA; assumption) | omega | (simp; done) | (simp; omega) | (simp [*]; done)))
    · have ix : (0 : Int) < (t : Int) := by omega
      have ix0 : 0 < t := by omega
      obtain ⟨n, en⟩ : ∃ n, min t 62 = n := ⟨_, rfl⟩
      have hmin : min (t : Int) 62 = (n : Int) := by omega
      have hn1 : n ≤ 62 := by omega
      have hn2 : n ≤ t := by omega
      obtain ⟨P, eP⟩ : ∃ P : Int, ((2 ^ n : Nat) : Int) = P := ⟨_, rfl⟩
      have hP : 0 < P ∧ P ≤ 4611686018427387904 := by
        have h1 : 2 ^ n ≤ 2 ^ 62 := Nat.pow_le_pow_right (by omega) hn1
        have h2 := Nat.pow_pos (n := n) (show 0 < 2 by omega)
        have h3 : (2 : Nat) ^ 62 = 4611686018427387904 := by decide
        omega
      have hx2 : X / ((2 ^ (T - (t - n)) : Nat) : Int) = x / P := by
        rw [show T - (t - n) = (T - t) + n by omega, Nat.pow_add, Int.natCast_mul, ← Int.ediv_ediv_of_nonneg (Int.natCast_nonneg _), ← hx, eP]
      have hfx : WFit x := by
        have h1 := Nat.pow_pos (n := T - t) (show 0 < 2 by omega)
        rw [hx]
        exact wfit_ediv hX (Int.natCast_pos.2 h1)
      have hfq : fq x P = x / P := by unfold fq; rw [if_neg (by omega)]
      have hWq : WFit (x / P) := wfit_ediv hfx hP.1
      have DV := fun W => wide_div_some x P _ _ (Wd.of hfx) (by omega) (by omega) (by omega) (by rw [hfq]; exact hWq) W
      rw [hfq] at DV
      obtain ⟨y, ey⟩ : ∃ y, x / P = y := ⟨_, rfl⟩
      obtain ⟨r, er⟩ : ∃ y, fr x P = y := ⟨_, rfl⟩
      rw [ey, er] at DV
      rw [ey] at hx2
      have hsh : IntKind.i64.wrap (2 ^ n) = P := by
        rw [IntWalk.i64_left, show (2 : Int) ^ n = P by rw [← eP]; simp]
        exact IntWalk.wrap64_in _ (by omega)
      have HX2 := Lib.hid hx2
      clear hx hx2 hfq hWq hfx ey er eP en
      go_upto_region 3 with (fail)
      rename_i K1 hK1
      refine wp_region_calm (fun w' => (∃ v0 v1, Blk w' (w.heap.size + 1) #[v0, v1] 218) ∧ Below w.heap.size w w') [8] (fun w' => Blk w' w.heap.size #[.int .i64 (x / 18446744073709551616), .int .u64 (x % 18446744073709551616)] 218) [Is (.agg #[.int .i64 (x / 18446744073709551616), .int .u64 (x % 18446744073709551616)]), Is (.int .i64 ((n : Int))), Is (.int .i64 P), Is (.tuple #[.agg #[.int .i64 (y / 18446744073709551616), .int .u64 (y % 18446744073709551616)], .int .i64 r, .bool true]), Is (.tuple #[.agg #[.int .i64 (y / 18446744073709551616), .int .u64 (y % 18446744073709551616)], .int .i64 r, .bool true]), Is (.agg #[.int .i64 (y / 18446744073709551616), .int .u64 (y % 18446744073709551616)]), Is (.int .i64 r), Is (.bool true), .own (fun _ w' => Blk w' w.heap.size #[.int .i64 (y / 18446744073709551616), .int .u64 (y % 18446744073709551616)] 218) (fun _ _ _ h hb => h.below hb)] [] (by kernel_rfl) (by kernel_rfl) (by kernel_rfl) (by kernel_rfl) ⟨⟨_, _, tr.drew⟩, hB.drew⟩ tx.drew ?_ ?_ ?_ ?_ ?_
      · rintro W W' ⟨tR, hBB⟩ hb
        exact ⟨by obtain ⟨v0, v1, h⟩ := tR; exact ⟨v0, v1, h.below hb⟩, hBB.trans (hb.mono hBB.size)⟩
      · intro W W' hB h0 hb; exact h0.below hb
      · intro k vs W hk h
        exact absurd hk (by simp)
      · intro Q; clear hK1 
        refine ⟨?_, ?_, ?_, ?_, ?_, ?_, ?_, ?_, ?_, trivial⟩
        · intro vs W hW hW0 hd hne hold K hK hA hL; clear hne hA hL; have tR := hW.1; have hBB := hW.2; simp only [puts, Act.put, List.setIfInBounds_toArray, List.set_cons_zero, List.set_cons_succ, Nat.zero_add, Nat.reduceAdd] at hK ⊢; have h0 := hW0 (by kernel_rfl); have q0 := h0.cell 0 _ rfl; have q1 := h0.cell 1 _ rfl; clear hd hold hW0 h0; go_simp; exact hK.out rfl _ _ (Below.refl _ _) rfl
        · intro vs W hW hW0 hd hne hold K hK hA hL; clear hne hA hL; have tR := hW.1; have hBB := hW.2; simp only [puts, Act.put, List.setIfInBounds_toArray, List.set_cons_zero, List.set_cons_succ, Nat.zero_add, Nat.reduceAdd] at hK ⊢; clear hd hold; go_simp; exact hK.out rfl _ _ (Below.refl _ _) rfl
        · intro vs W hW hW0 hd hne hold K hK hA hL; clear hne hA hL; have tR := hW.1; have hBB := hW.2; simp only [puts, Act.put, List.setIfInBounds_toArray, List.set_cons_zero, List.set_cons_succ, Nat.zero_add, Nat.reduceAdd] at hK ⊢; have e1 : vs 1 = _ := hd 1 (by kernel_rfl); clear hd hold; simp only [e1] at hK; go_simp; exact hK.out rfl _ _ (Below.refl _ _) rfl
        · intro vs W hW hW0 hd hne hold K hK hA hL; clear hne hA hL; have tR := hW.1; have hBB := hW.2; simp only [puts, Act.put, List.setIfInBounds_toArray, List.set_cons_zero, List.set_cons_succ, Nat.zero_add, Nat.reduceAdd] at hK ⊢; have eb : vs 0 = _ := hd 0 (by kernel_rfl); have ed : vs 2 = _ := hd 2 (by kernel_rfl); clear hd hold; simp only [eb, ed] at hK; go_simp; refine (DV W).mono ?_; (rintro e wx ⟨rfl, hbx⟩); go_simp; exact hK.out rfl _ _ hbx rfl
        · intro vs W hW hW0 hd hne hold K hK hA hL; clear hne hA hL; have tR := hW.1; have hBB := hW.2; simp only [puts, Act.put, List.setIfInBounds_toArray, List.set_cons_zero, List.set_cons_succ, Nat.zero_add, Nat.reduceAdd] at hK ⊢; have e3 : vs 3 = _ := hd 3 (by kernel_rfl); clear hd hold; simp only [e3] at hK; go_simp; exact hK.out rfl _ _ (Below.refl _ _) rfl
        · intro vs W hW hW0 hd hne hold K hK hA hL; clear hne hA hL; have tR := hW.1; have hBB := hW.2; simp only [puts, Act.put, List.setIfInBounds_toArray, List.set_cons_zero, List.set_cons_succ, Nat.zero_add, Nat.reduceAdd] at hK ⊢; have e4 : vs 4 = _ := hd 4 (by kernel_rfl); clear hd hold; simp only [e4] at hK; go_simp; exact hK.out rfl _ _ (Below.refl _ _) rfl
        · intro vs W hW hW0 hd hne hold K hK hA hL; clear hne hA hL; have tR := hW.1; have hBB := hW.2; simp only [puts, Act.put, List.setIfInBounds_toArray, List.set_cons_zero, List.set_cons_succ, Nat.zero_add, Nat.reduceAdd] at hK ⊢; have e4 : vs 4 = _ := hd 4 (by kernel_rfl); clear hd hold; simp only [e4] at hK; go_simp; exact hK.out rfl _ _ (Below.refl _ _) rfl
        · intro vs W hW hW0 hd hne hold K hK hA hL; clear hne hA hL; have tR := hW.1; have hBB := hW.2; simp only [puts, Act.put, List.setIfInBounds_toArray, List.set_cons_zero, List.set_cons_succ, Nat.zero_add, Nat.reduceAdd] at hK ⊢; have e4 : vs 4 = _ := hd 4 (by kernel_rfl); clear hd hold; simp only [e4] at hK; go_simp; exact hK.out rfl _ _ (Below.refl _ _) rfl
        · intro vs W hW hW0 hd hne hold K hK hA hL; clear hK hA; have tR := hW.1; have hBB := hW.2; simp only [puts, Act.put, List.setIfInBounds_toArray, List.set_cons_zero, List.set_cons_succ, Nat.zero_add, Nat.reduceAdd] at hL ⊢; have h0 := hW0 (by kernel_rfl); have ev : vs 5 = _ := hd 5 (by kernel_rfl); have p0 := h0.free 0; have p1 := h0.free 1; have z0 := h0.cell 0 _ rfl; have z1 := h0.cell 1 _ rfl; have q3 := (h0.set 0 (.int .i64 (y / 18446744073709551616))).set 1 (.int .u64 (y % 18446744073709551616)); have tR2 := tR; clear hd hold hW0; simp only [ev] at hL ⊢; go_simp; refine hL.out rfl undef _ ⟨by obtain ⟨v0, v1, h⟩ := tR2; exact ⟨v0, v1, (h.other (by omega) _ _).other (by omega) _ _⟩, (by repeat' (first | (with_reducible exact Below.refl _ _) | (with_reducible assumption) | (with_reducible refine below_alloc ?_ _ ?_) | (with_reducible refine below_set _ ?_ ?_) | (with_reducible refine Below.drew ?_) | (with_reducible refine below_dN ?_ _) | (apply below_thenA; assumption) | omega | (simp; done) | (simp; omega) | (simp [*]; done)))⟩ (fun h => absurd h (by decide)) q3 ?_; exact claims_keep ⟨.inr is_keep, .inr is_keep, .inr is_keep, .inr is_keep, .inr is_keep, .inr is_keep, .inr is_keep, .inr is_keep, .inl rfl, trivial⟩
      · intro vb WC hW1 hV1 _
        have t8 : Blk WC w.heap.size #[.int .i64 (y / 18446744073709551616), .int .u64 (y % 18446744073709551616)] 218 := hV1 8 (by decide)
        have T8 := Lib.hid t8
        have HW := Lib.hid hW1
        clear hV1 t8 hW1
        simp only [puts, Act.put, List.setIfInBounds_toArray, List.set_cons_zero, List.set_cons_succ, Nat.zero_add, Nat.reduceAdd]
        refine hK1 _ _ ?_
        clear hK1
        go_wp2_with fail
        go_roundg (t - n)
        case measure => omega
        case rel => exact ⟨y, by omega, by go_num, HX2.out.symm, T8.out, HW.out.1, HW.out.2⟩
end Go.Proofs.YtigjjddblijpbaaGreatDoor
namespace Go.Proofs.YtigjjddblijpbaaGreatDoor
open Go.RowKit
set_option linter.unusedSimpArgs false
set_option linter.unusedVariables false

def sideI (d : Bool) : Int := if d then -1 else 1
def GridA (b : Nat) (den : Int) (w : World) (e : Ending) (w' : World) : Prop :=
  (IFit (gN b den) → e = .returned (.tuple #[.int .i64 (gN b den), .int .i64 0])) ∧ (¬ IFit (gN b den) → e = .returned (.tuple #[.int .i64 0, .int .i64 (sideI (fSg b))])) ∧ Below w.heap.size w w'
theorem gN_dir {b : Nat} {den : Int} (h1 : 1 ≤ den) : if fSg b then gN b den ≤ 0 else 0 ≤ gN b den := by
  by_cases h : 0 ≤ fPo b
  · exact gN_sign h h1
  · obtain ⟨k, hk⟩ : ∃ k : Nat, fPo b = -((k : Int) + 1) := ⟨(-fPo b - 1).toNat, by omega⟩
    rw [gN_down hk]
    have hp : (0 : Int) < ((2 ^ k : Nat) : Int) := Int.natCast_pos.2 (Nat.pow_pos (by omega))
    obtain ⟨p, ep⟩ : ∃ p : Int, ((2 ^ k : Nat) : Int) = p := ⟨_, rfl⟩
    rw [ep] at hp ⊢
    unfold fNu
    split
    · have hm : (0 : Int) ≤ (fWh b : Int) * den := Int.mul_nonneg (by omega) (by omega)
      rw [Int.neg_mul]
      have h2 : -((fWh b : Int) * den) / p ≤ 0 := by
        have := Int.ediv_lt_of_lt_mul (a := -((fWh b : Int) * den)) (b := 1) (c := p) hp (by omega)
        omega
      omega
    · have hm : (0 : Int) ≤ (fWh b : Int) * den := Int.mul_nonneg (by omega) (by omega)
      have h2 := Int.ediv_nonneg hm (show 0 ≤ p by omega)
      omega
theorem gN_out {b : Nat} {den : Int} (h1 : 1 ≤ den) (h : ¬ IFit (gN b den)) : if fSg b then gN b den < -9223372036854775808 else 9223372036854775807 < gN b den := by
  have hd := gN_dir (b := b) h1
  unfold IFit at h
  cases hs : fSg b
  · rw [hs] at hd
    simp only [Bool.false_eq_true, if_false] at hd ⊢
    omega
  · rw [hs] at hd
    simp only [if_true] at hd ⊢
    omega
set_option maxRecDepth 100000 in
set_option maxHeartbeats 3200000 in
theorem real_grid (b : Nat) (hb : b < 18446744073709551616) (den : Int) (h1 : 1 ≤ den) (h2 : den ≤ 1048576) (w : World) : Calls Tryz.prog 61 #[.float .f64 b, .int .i64 den] w (GridA b den w) := by
  have WH := real_whole b hb
  have SB := math_signbit b hb
  have hw := fWh_lt b
  have hnu := fNu_bnd b
  have hex : -1074 ≤ fPo b ∧ fPo b ≤ 972 := by
    have := fEx_lt b
    unfold fPo; split <;> omega
  have S1 := real_signed (fWh b : Int) (fSg b) (by omega) (by omega)
  have S2 := real_signed 1 (fSg b) (by omega) (by omega)
  rw [show (if fSg b = true then -(fWh b : Int) else (fWh b : Int)) = fNu b from rfl] at S1
  rw [show (if fSg b = true then (-1 : Int) else 1) = sideI (fSg b) from rfl] at S2
  have hup := fun h => gN_up (b := b) h den
  have hdn := fun k h => gN_down (b := b) (k := k) h den
  have hsm := fun h => gN_small (b := b) h h1 h2
  have hfar := fun h => gN_far (b := b) h h1
  have hfup : fUp b = 2 ^ (fPo b).toNat := rfl
  obtain ⟨G, eG⟩ : ∃ G, gN b den = G := ⟨_, rfl⟩
  unfold GridA
  rw [eG] at hup hsm hfar ⊢
  simp only [eG] at hdn
  obtain ⟨m, em⟩ : ∃ x, fWh b = x := ⟨_, rfl⟩
  obtain ⟨s, es⟩ : ∃ x, fSg b = x := ⟨_, rfl⟩
  obtain ⟨nu, enu⟩ : ∃ x, fNu b = x := ⟨_, rfl⟩
  obtain ⟨ex, eex⟩ : ∃ x, fPo b = x := ⟨_, rfl⟩
  obtain ⟨sd, esd⟩ : ∃ x, sideI (fSg b) = x := ⟨_, rfl⟩
  rw [em, eex] at WH
  rw [es] at SB
  rw [em, es, enu] at S1
  rw [esd] at S2
  rw [es] at S2 esd
  rw [em] at hw
  rw [enu] at hnu hup
  rw [eex] at hup hsm hfar hfup hex
  simp only [eex, enu] at hdn
  rw [es] at hfar ⊢
  rw [esd]
  obtain ⟨Q, eQ⟩ : ∃ Q : Ending → World → Prop, Q = fun e w' => (IFit G → e = .returned (.tuple #[.int .i64 G, .int .i64 0])) ∧ (¬ IFit G → e = .returned (.tuple #[.int .i64 0, .int .i64 sd])) ∧ Below w.heap.size w w' := ⟨_, rfl⟩
  rw [← eQ]
  have EQ := Lib.hid eQ
  clear eQ em es enu eex eG
  have hm1 : (0 : Int) ≤ (m : Int) := by omega
  have hm2 : (m : Int) < 9007199254740992 := by omega
  by_cases c1 : 11 < ex
  · have hf := hfar c1
    have HN := Lib.hid (show ¬ IFit G from fun q => by unfold IFit at q; split at hf <;> omega)
    clear hup hdn hsm hfar hf hfup
    go_enter Tryz.func61, Tryz.ntmps61
    go_wp2_with (first
      | (go_at_call 108; with_reducible refine (WH _).mono ?_; rintro e w1 ⟨rfl, rfl⟩)
      | (go_at_call 109; with_reducible refine (SB _).mono ?_; rintro e w1 ⟨rfl, rfl⟩)
      | (go_at_call 60; with_reducible refine (S1 _).mono ?_; rintro e w1 ⟨rfl, rfl⟩)
      | (go_at_call 60; with_reducible refine (S2 _).mono ?_; rintro e w1 ⟨rfl, rfl⟩))
    rw [EQ.out]
    exact ⟨fun q => absurd q HN.out, fun _ => rfl, Below.refl _ _⟩
  · have d1 : decide (11 < ex) = false := by simp; omega
    replace c1 : ex ≤ 11 := by omega
    by_cases c2 : 0 ≤ ex
    · obtain ⟨k, rfl⟩ : ∃ k : Nat, ex = (k : Int) := ⟨ex.toNat, by omega⟩
      have hk : k ≤ 11 := by omega
      have hG := hup (by omega)
      rw [hfup, Int.toNat_natCast] at hG
      obtain ⟨P, eP⟩ : ∃ P : Int, ((2 ^ k : Nat) : Int) = P := ⟨_, rfl⟩
      have hP : 1 ≤ P ∧ P ≤ 2048 := by
        have h1 : 2 ^ k ≤ 2 ^ 11 := Nat.pow_le_pow_right (by omega) hk
        have h2 := Nat.pow_pos (n := k) (show 0 < 2 by omega)
        have h3 : (2 : Nat) ^ 11 = 2048 := by decide
        omega
      rw [eP] at hG
      have hD := Int.mul_le_mul h2 hP.2 (by omega) (by omega)
      have hD0 := Int.mul_le_mul h1 hP.1 (by omega) (by omega)
      have hsh : IntKind.i64.wrap (den * 2 ^ k) = den * P := by
        rw [IntWalk.i64_left, show (2 : Int) ^ k = P by rw [← eP]; simp]
        exact IntWalk.wrap64_in _ (by omega)
      have hG2 : G = nu * (den * P) := by rw [hG, Int.mul_assoc, Int.mul_comm P den]
      obtain ⟨D, eD⟩ : ∃ D, den * P = D := ⟨_, rfl⟩
      rw [eD] at hsh hD hD0 hG2
      have WM := wide_mul nu D (by omega) (by omega) (by omega) (by omega)
      rw [← hG2] at WM
      have hGf : WFit G := by rw [hG2]; exact mul_fit (by unfold IFit; omega) (by unfold IFit; omega)
      have d2 : decide (0 ≤ (k : Int)) = true := by simp
      clear c1 c2
      clear hup hdn hsm hfar hfup hG hG2 eD eP
      by_cases hf : IFit G
      · have WI := wide_int_fit G _ _ (Wd.of hGf) hf
        have HF := Lib.hid hf
        go_enter Tryz.func61, Tryz.ntmps61
        go_wp2_with (first
          | (go_at_call 108; with_reducible refine (WH _).mono ?_; rintro e w1 ⟨rfl, rfl⟩)
          | (go_at_call 109; with_reducible refine (SB _).mono ?_; rintro e w1 ⟨rfl, rfl⟩)
          | (go_at_call 60; with_reducible refine (S1 _).mono ?_; rintro e w1 ⟨rfl, rfl⟩)
          | (go_at_call 60; with_reducible refine (S2 _).mono ?_; rintro e w1 ⟨rfl, rfl⟩)
          | (go_at_call 110; with_reducible refine (WM _).mono ?_; rintro e w2 ⟨rfl, hb2⟩; have hs2 := hb2.size)
          | (go_at_call 111; with_reducible refine (WI _).mono ?_; rintro e w3 ⟨rfl, hb3⟩; have hs3 := hb3.size))
        rw [EQ.out]
        exact ⟨fun _ => rfl, fun q => absurd HF.out q, (by repeat' (first | (with_reducible exact Below.refl _ _) | (with_reducible assumption) | (with_reducible refine below_alloc ?_ _ ?_) | (with_reducible refine below_set _ ?_ ?_) | (with_reducible refine Below.drew ?_) | (with_reducible refine below_dN ?_ _) | (apply below_thenA; assumption) | omega | (simp; done) | (simp; omega) | (simp [*]; done)))⟩
      · have WI := wide_int_no G _ _ (Wd.of hGf) hf
        have HF := Lib.hid hf
        go_enter Tryz.func61, Tryz.ntmps61
        go_wp2_with (first
          | (go_at_call 108; with_reducible refine (WH _).mono ?_; rintro e w1 ⟨rfl, rfl⟩)
          | (go_at_call 109; with_reducible refine (SB _).mono ?_; rintro e w1 ⟨rfl, rfl⟩)
          | (go_at_call 60; with_reducible refine (S1 _).mono ?_; rintro e w1 ⟨rfl, rfl⟩)
          | (go_at_call 60; with_reducible refine (S2 _).mono ?_; rintro e w1 ⟨rfl, rfl⟩)
          | (go_at_call 110; with_reducible refine (WM _).mono ?_; rintro e w2 ⟨rfl, hb2⟩; have hs2 := hb2.size)
          | (go_at_call 111; with_reducible refine (WI _).mono ?_; rintro e w3 ⟨rfl, hb3⟩; have hs3 := hb3.size))
        rw [EQ.out]
        exact ⟨fun q => absurd q HF.out, fun _ => rfl, (by repeat' (first | (with_reducible exact Below.refl _ _) | (with_reducible assumption) | (with_reducible refine below_alloc ?_ _ ?_) | (with_reducible refine below_set _ ?_ ?_) | (with_reducible refine Below.drew ?_) | (with_reducible refine below_dN ?_ _) | (apply below_thenA; assumption) | omega | (simp; done) | (simp; omega) | (simp [*]; done)))⟩
    · have d2 : decide (0 ≤ ex) = false := by simp; omega
      replace c2 : ex < 0 := by omega
      by_cases c3 : ex < -74
      · have hG := hsm c3
        subst hG
        have c4 : 74 < -ex := by omega
        have d3 : decide (74 < -ex) = true := by simp; omega
        clear hup hdn hsm hfar hfup
        go_enter Tryz.func61, Tryz.ntmps61
        go_wp2_with (first
          | (go_at_call 108; with_reducible refine (WH _).mono ?_; rintro e w1 ⟨rfl, rfl⟩)
          | (go_at_call 109; with_reducible refine (SB _).mono ?_; rintro e w1 ⟨rfl, rfl⟩)
          | (go_at_call 60; with_reducible refine (S1 _).mono ?_; rintro e w1 ⟨rfl, rfl⟩)
          | (go_at_call 60; with_reducible refine (S2 _).mono ?_; rintro e w1 ⟨rfl, rfl⟩))
        rw [EQ.out]
        exact ⟨fun _ => rfl, fun q => absurd (show IFit 0 by unfold IFit; omega) q, Below.refl _ _⟩
      · obtain ⟨k, hk⟩ : ∃ k : Nat, ex = -((k : Int) + 1) := ⟨(-ex - 1).toNat, by omega⟩
        have hk1 : k ≤ 73 := by omega
        have hG := hdn k hk
        have hk2 : -ex - 1 = (k : Int) := by omega
        have d3 : decide (74 < -ex) = false := by simp; omega
        have he1 : -75 < ex := by omega
        have he2 : ex < 0 := by omega
        clear hk
        have hX : WFit (nu * den) := mul_fit (by unfold IFit; omega) (by unfold IFit; omega)
        have WM := wide_mul nu den (by omega) (by omega) (by omega) (by omega)
        obtain ⟨X, eX⟩ : ∃ X, nu * den = X := ⟨_, rfl⟩
        rw [eX] at hX WM hG
        clear hup hdn hsm hfar hfup
        have HV1 := real_halved X k (by omega) hX
        obtain ⟨Y, eY⟩ : ∃ Y, X / ((2 ^ k : Nat) : Int) = Y := ⟨_, rfl⟩
        have hP : (0 : Int) < ((2 ^ k : Nat) : Int) := Int.natCast_pos.2 (Nat.pow_pos (by omega))
        have hY : WFit Y := by rw [← eY]; exact wfit_ediv hX hP
        have hXb : -9444732965739290427392 ≤ X ∧ X ≤ 9444732965739290427392 := by
          rw [← eX]
          have a := Int.mul_le_mul (show den ≤ 1048576 from h2) (show (9007199254740991 : Int) ≤ 9007199254740991 by omega) (by omega) (by omega)
          by_cases h0 : 0 ≤ nu
          · have b1 := Int.mul_nonneg h0 (show 0 ≤ den by omega)
            have b2 := Int.mul_le_mul hnu.2 h2 (by omega) (by omega)
            omega
          · have b1 := Int.mul_nonpos_of_nonpos_of_nonneg (show nu ≤ 0 by omega) (show 0 ≤ den by omega)
            have b2 := Int.mul_le_mul (show -nu ≤ 9007199254740991 by omega) h2 (by omega) (by omega)
            rw [Int.neg_mul] at b2
            omega
        have hYb : -9444732965739290427392 ≤ Y ∧ Y ≤ 9444732965739290427392 := by
          rw [← eY]
          by_cases h0 : 0 ≤ X
          · have b1 := Int.ediv_nonneg h0 (show (0 : Int) ≤ ((2 ^ k : Nat) : Int) by omega)
            have b2 := Int.ediv_le_self ((2 ^ k : Nat) : Int) h0
            omega
          · have b1 : X ≤ X / ((2 ^ k : Nat) : Int) := (Int.le_ediv_iff_mul_le hP).2 (by
              have := Int.mul_nonpos_of_nonpos_of_nonneg (show X ≤ 0 by omega) (show 0 ≤ ((2 ^ k : Nat) : Int) - 1 by omega)
              rw [Int.mul_sub, Int.mul_one] at this
              omega)
            have b2 : X / ((2 ^ k : Nat) : Int) < 0 := Int.ediv_neg_of_neg_of_pos (by omega) hP
            omega
        rw [eY] at HV1 hG
        have W1 := wide_of 1 (by omega) (by omega)
        have AD := wide_add_fit Y 1 _ _ 0 1 (Wd.of hY) (by unfold Wd; omega) (by unfold WFit; omega)
        have HV2 : ∀ w, Calls Tryz.prog 112 #[.agg #[.int .i64 ((Y + 1) / 18446744073709551616), .int .u64 ((Y + 1) % 18446744073709551616)], .int .i64 1] w fun e w' => e = .returned (.agg #[.int .i64 (((Y + 1) / ((2 ^ 1 : Nat) : Int)) / 18446744073709551616), .int .u64 (((Y + 1) / ((2 ^ 1 : Nat) : Int)) % 18446744073709551616)]) ∧ Below w.heap.size w w' := real_halved (Y + 1) 1 (by omega) (by unfold WFit; omega)
        rw [show (Y + 1) / ((2 ^ 1 : Nat) : Int) = G from hG.symm] at HV2
        have hGf : WFit G := by rw [hG]; unfold WFit; omega
        obtain ⟨Z, eZ⟩ : ∃ Z, Y + 1 = Z := ⟨_, rfl⟩
        rw [eZ] at AD HV2
        clear hX hXb hYb hY eY eX eZ hG hP c1 c2 c3
        by_cases hf : IFit G
        · have WI := wide_int_fit G _ _ (Wd.of hGf) hf
          have HF := Lib.hid hf
          clear hf
          go_enter Tryz.func61, Tryz.ntmps61
          go_wp2_with (first
            | (go_at_call 108; with_reducible refine (WH _).mono ?_; rintro e w1 ⟨rfl, rfl⟩)
            | (go_at_call 109; with_reducible refine (SB _).mono ?_; rintro e w1 ⟨rfl, rfl⟩)
            | (go_at_call 60; with_reducible refine (S1 _).mono ?_; rintro e w1 ⟨rfl, rfl⟩)
            | (go_at_call 60; with_reducible refine (S2 _).mono ?_; rintro e w1 ⟨rfl, rfl⟩)
            | (go_at_call 110; with_reducible refine (WM _).mono ?_; rintro e w2 ⟨rfl, hb2⟩; have hs2 := hb2.size)
            | (go_at_call 112; with_reducible refine (HV1 _).mono ?_; rintro e w3 ⟨rfl, hb3⟩; have hs3 := hb3.size)
            | (go_at_call 114; with_reducible refine (W1 _).mono ?_; rintro e w4 ⟨rfl, hb4⟩; have hs4 := hb4.size)
            | (go_at_call 113; with_reducible refine (AD _).mono ?_; rintro e w5 ⟨rfl, hb5⟩; have hs5 := hb5.size)
            | (go_at_call 112; with_reducible refine (HV2 _).mono ?_; rintro e w6 ⟨rfl, hb6⟩; have hs6 := hb6.size; simp at hs6)
            | (go_at_call 111; with_reducible refine (WI _).mono ?_; rintro e w7 ⟨rfl, hb7⟩; have hs7 := hb7.size))
          rw [EQ.out]
          exact ⟨fun _ => rfl, fun q => absurd HF.out q, (by repeat' (first | (with_reducible exact Below.refl _ _) | (with_reducible assumption) | (with_reducible refine below_alloc ?_ _ ?_) | (with_reducible refine below_set _ ?_ ?_) | (with_reducible refine Below.drew ?_) | (with_reducible refine below_dN ?_ _) | (apply below_thenA; assumption) | omega | (simp; done) | (simp; omega) | (simp [*]; done)))⟩
        · have WI := wide_int_no G _ _ (Wd.of hGf) hf
          have HF := Lib.hid hf
          clear hf
          go_enter Tryz.func61, Tryz.ntmps61
          go_wp2_with (first
            | (go_at_call 108; with_reducible refine (WH _).mono ?_; rintro e w1 ⟨rfl, rfl⟩)
            | (go_at_call 109; with_reducible refine (SB _).mono ?_; rintro e w1 ⟨rfl, rfl⟩)
            | (go_at_call 60; with_reducible refine (S1 _).mono ?_; rintro e w1 ⟨rfl, rfl⟩)
            | (go_at_call 60; with_reducible refine (S2 _).mono ?_; rintro e w1 ⟨rfl, rfl⟩)
            | (go_at_call 110; with_reducible refine (WM _).mono ?_; rintro e w2 ⟨rfl, hb2⟩; have hs2 := hb2.size)
            | (go_at_call 112; with_reducible refine (HV1 _).mono ?_; rintro e w3 ⟨rfl, hb3⟩; have hs3 := hb3.size)
            | (go_at_call 114; with_reducible refine (W1 _).mono ?_; rintro e w4 ⟨rfl, hb4⟩; have hs4 := hb4.size)
            | (go_at_call 113; with_reducible refine (AD _).mono ?_; rintro e w5 ⟨rfl, hb5⟩; have hs5 := hb5.size)
            | (go_at_call 112; with_reducible refine (HV2 _).mono ?_; rintro e w6 ⟨rfl, hb6⟩; have hs6 := hb6.size; simp at hs6)
            | (go_at_call 111; with_reducible refine (WI _).mono ?_; rintro e w7 ⟨rfl, hb7⟩; have hs7 := hb7.size))
          rw [EQ.out]
          exact ⟨fun q => absurd q HF.out, fun _ => rfl, (by repeat' (first | (with_reducible exact Below.refl _ _) | (with_reducible assumption) | (with_reducible refine below_alloc ?_ _ ?_) | (with_reducible refine below_set _ ?_ ?_) | (with_reducible refine Below.drew ?_) | (with_reducible refine below_dN ?_ _) | (apply below_thenA; assumption) | omega | (simp; done) | (simp; omega) | (simp [*]; done)))⟩
end Go.Proofs.YtigjjddblijpbaaGreatDoor
namespace Go.Proofs.YtigjjddblijpbaaGreatDoor
open Go.RowKit
set_option linter.unusedSimpArgs false
set_option linter.unusedVariables false

theorem clampI_is {n low high : Int} (h : low ≤ high) : min (max n low) high = clampI n low high := by
  unfold clampI
  split
  · omega
  · split <;> omega
theorem gridR_arg {b : Nat} {den low high : Int} (h : den < 1 ∨ 1048576 < den ∨ high < low) : gridR b den low high = (0, 1) := by unfold gridR; rw [if_pos h]
theorem gridR_nan {b : Nat} {den low high : Int} (h : ¬ (den < 1 ∨ 1048576 < den ∨ high < low)) (hk : fKi b = 1) : gridR b den low high = (0, 4) := by unfold gridR; rw [if_neg h, if_pos hk]
theorem gridR_inf {b : Nat} {den low high : Int} (h : ¬ (den < 1 ∨ 1048576 < den ∨ high < low)) (hk : fKi b = 2) : gridR b den low high = (if fSg b then low else high, 0) := by unfold gridR; rw [if_neg h, if_neg (by omega), if_pos hk]
theorem gridR_num {b : Nat} {den low high : Int} (h : ¬ (den < 1 ∨ 1048576 < den ∨ high < low)) (hk : fKi b ≠ 1) (hk2 : fKi b ≠ 2) : gridR b den low high = (clampI (gN b den) low high, 0) := by unfold gridR; rw [if_neg h, if_neg hk, if_neg hk2]
set_option maxRecDepth 100000 in
set_option maxHeartbeats 3200000 in
theorem real_Grid (b : Nat) (hb : b < 18446744073709551616) (den low high : Int) (hd : IFit den) (hl : IFit low) (hh : IFit high) (w : World) : Calls Tryz.prog 30 #[.float .f64 b, .int .i64 den, .int .i64 low, .int .i64 high] w fun e w' => e = .returned (.tuple #[.int .i64 ((gridR b den low high).1), .int .i64 ((gridR b den low high).2)]) ∧ Below w.heap.size w w' := by
  obtain ⟨Q, eQ⟩ : ∃ Q : Ending → World → Prop, Q = fun e w' => e = .returned (.tuple #[.int .i64 ((gridR b den low high).1), .int .i64 ((gridR b den low high).2)]) ∧ Below w.heap.size w w' := ⟨_, rfl⟩
  rw [← eQ]
  have EQ := Lib.hid eQ
  have HD := Lib.hid hd
  have HLo := Lib.hid hl
  have HHi := Lib.hid hh
  clear eQ hd hl hh
  by_cases a1 : den < 1
  · have hR := Lib.hid (gridR_arg (b := b) (low := low) (high := high) (.inl a1))
    go_enter Tryz.func30, Tryz.ntmps30
    go_wp2_with fail
    rw [EQ.out, hR.out]
    exact ⟨rfl, Below.refl _ _⟩
  by_cases a2 : 1048576 < den
  · have hR := Lib.hid (gridR_arg (b := b) (low := low) (high := high) (.inr (.inl a2)))
    go_enter Tryz.func30, Tryz.ntmps30
    go_wp2_with fail
    rw [EQ.out, hR.out]
    exact ⟨rfl, Below.refl _ _⟩
  by_cases a3 : high < low
  · have hR := Lib.hid (gridR_arg (b := b) (den := den) (.inr (.inr a3)))
    go_enter Tryz.func30, Tryz.ntmps30
    go_wp2_with fail
    rw [EQ.out, hR.out]
    exact ⟨rfl, Below.refl _ _⟩
  have hn : ¬ (den < 1 ∨ 1048576 < den ∨ high < low) := by omega
  have HN := Lib.hid hn
  have KI := real_kind b hb
  have S2 := real_signed 1 (fSg b) (by omega) (by omega)
  have GR := real_grid b hb den (by omega) (by omega)
  have hdn : fDn b = if fKi b = 1 then false else fSg b := rfl
  have hk := fKi_all b
  have hlh : low ≤ high := by omega
  clear hn
  rcases hk with ⟨_, _, hk⟩ | ⟨_, _, hk⟩ | ⟨_, _, hk⟩ | hk45
  · rw [if_pos hk] at hdn
    have K1 : ∀ w, Calls Tryz.prog 59 #[.float .f64 b] w fun e w' => e = .returned (.tuple #[.int .i64 1, .bool false]) ∧ w' = w := fun w => by
      have q := KI w
      rw [hk, hdn] at q
      exact q
    have hR := Lib.hid (gridR_nan HN.out hk)
    clear KI GR S2 hk hdn
    go_enter Tryz.func30, Tryz.ntmps30
    go_wp2_with (go_at_call 59; with_reducible refine (K1 _).mono ?_; rintro e w1 ⟨rfl, rfl⟩)
    rw [EQ.out, hR.out]
    exact ⟨rfl, Below.refl _ _⟩
  · rw [if_neg (by omega)] at hdn
    have hR := gridR_inf HN.out hk
    cases hs : fSg b
    · rw [hs] at hdn S2 hR
      simp only [Bool.false_eq_true, if_false] at S2 hR
      have K1 : ∀ w, Calls Tryz.prog 59 #[.float .f64 b] w fun e w' => e = .returned (.tuple #[.int .i64 2, .bool false]) ∧ w' = w := fun w => by
        have q := KI w
        rw [hk, hdn] at q
        exact q
      have HR := Lib.hid hR
      clear KI GR hk hdn hR hs
      go_enter Tryz.func30, Tryz.ntmps30
      go_wp2_with (first | (go_at_call 59; with_reducible refine (K1 _).mono ?_; rintro e w1 ⟨rfl, rfl⟩) | (go_at_call 60; with_reducible refine (S2 _).mono ?_; rintro e w1 ⟨rfl, rfl⟩))
      rw [EQ.out, HR.out]
      exact ⟨rfl, Below.refl _ _⟩
    · rw [hs] at hdn S2 hR
      simp only [if_true] at S2 hR
      have K1 : ∀ w, Calls Tryz.prog 59 #[.float .f64 b] w fun e w' => e = .returned (.tuple #[.int .i64 2, .bool true]) ∧ w' = w := fun w => by
        have q := KI w
        rw [hk, hdn] at q
        exact q
      have HR := Lib.hid hR
      clear KI GR hk hdn hR hs
      go_enter Tryz.func30, Tryz.ntmps30
      go_wp2_with (first | (go_at_call 59; with_reducible refine (K1 _).mono ?_; rintro e w1 ⟨rfl, rfl⟩) | (go_at_call 60; with_reducible refine (S2 _).mono ?_; rintro e w1 ⟨rfl, rfl⟩))
      rw [EQ.out, HR.out]
      exact ⟨rfl, Below.refl _ _⟩
  · rw [if_neg (by omega)] at hdn
    have hR := gridR_num (b := b) HN.out (by omega) (by omega)
    rw [gN_zero hk] at hR
    have hcl := clampI_is (n := 0) hlh
    obtain ⟨s, es⟩ : ∃ s, fSg b = s := ⟨_, rfl⟩
    rw [es] at hdn
    have K1 : ∀ w, Calls Tryz.prog 59 #[.float .f64 b] w fun e w' => e = .returned (.tuple #[.int .i64 3, .bool s]) ∧ w' = w := fun w => by
      have q := KI w
      rw [hk, hdn] at q
      exact q
    have HR := Lib.hid hR
    clear KI GR hk hdn hR es S2
    go_enter Tryz.func30, Tryz.ntmps30
    go_wp2_with (go_at_call 59; with_reducible refine (K1 _).mono ?_; rintro e w1 ⟨rfl, rfl⟩)
    rw [EQ.out, HR.out]
    exact ⟨rfl, Below.refl _ _⟩
  · have hR := gridR_num (b := b) HN.out (by omega) (by omega)
    have hcl := clampI_is (n := gN b den) hlh
    have ho := gN_out (b := b) (den := den) (by omega)
    unfold GridA at GR
    obtain ⟨G, eG⟩ : ∃ G, gN b den = G := ⟨_, rfl⟩
    rw [eG] at hR hcl ho
    simp only [eG] at GR
    by_cases hf : IFit G
    · have G1 : ∀ w, Calls Tryz.prog 61 #[.float .f64 b, .int .i64 den] w fun e w' => e = .returned (.tuple #[.int .i64 G, .int .i64 0]) ∧ Below w.heap.size w w' := fun w => (GR w).mono fun e w' h => ⟨h.1 hf, h.2.2⟩
      have HR := Lib.hid hR
      rcases hk45 with ⟨_, _, hk⟩ | ⟨_, _, hk⟩
      all_goals
        rw [if_neg (by omega)] at hdn
        obtain ⟨s, es⟩ : ∃ s, fSg b = s := ⟨_, rfl⟩
        rw [es] at hdn
      ·
        have K1 : ∀ w, Calls Tryz.prog 59 #[.float .f64 b] w fun e w' => e = .returned (.tuple #[.int .i64 4, .bool s]) ∧ w' = w := fun w => by
          have q := KI w
          rw [hk, hdn] at q
          exact q
        clear KI GR hk hdn hR es S2 ho eG hf
        go_enter Tryz.func30, Tryz.ntmps30
        go_wp2_with (first | (go_at_call 59; with_reducible refine (K1 _).mono ?_; rintro e w1 ⟨rfl, rfl⟩) | (go_at_call 61; with_reducible refine (G1 _).mono ?_; rintro e w2 ⟨rfl, hb2⟩))
        rw [EQ.out, HR.out]
        exact ⟨rfl, (by repeat' (first | (with_reducible exact Below.refl _ _) | (with_reducible assumption) | (with_reducible refine below_alloc ?_ _ ?_) | (with_reducible refine below_set _ ?_ ?_) | (with_reducible refine Below.drew ?_) | (with_reducible refine below_dN ?_ _) | (apply below_thenA; assumption) | omega | (simp; done) | (simp; omega) | (simp [*]; done)))⟩
      ·
        have K1 : ∀ w, Calls Tryz.prog 59 #[.float .f64 b] w fun e w' => e = .returned (.tuple #[.int .i64 5, .bool s]) ∧ w' = w := fun w => by
          have q := KI w
          rw [hk, hdn] at q
          exact q
        clear KI GR hk hdn hR es S2 ho eG hf
        go_enter Tryz.func30, Tryz.ntmps30
        go_wp2_with (first | (go_at_call 59; with_reducible refine (K1 _).mono ?_; rintro e w1 ⟨rfl, rfl⟩) | (go_at_call 61; with_reducible refine (G1 _).mono ?_; rintro e w2 ⟨rfl, hb2⟩))
        rw [EQ.out, HR.out]
        exact ⟨rfl, (by repeat' (first | (with_reducible exact Below.refl _ _) | (with_reducible assumption) | (with_reducible refine below_alloc ?_ _ ?_) | (with_reducible refine below_set _ ?_ ?_) | (with_reducible refine Below.drew ?_) | (with_reducible refine below_dN ?_ _) | (apply below_thenA; assumption) | omega | (simp; done) | (simp; omega) | (simp [*]; done)))⟩
    · have ho1 := ho hf
      cases hs : fSg b
      all_goals
        rw [hs] at ho1
        have G1 : ∀ w, Calls Tryz.prog 61 #[.float .f64 b, .int .i64 den] w fun e w' => e = .returned (.tuple #[.int .i64 0, .int .i64 (sideI (fSg b))]) ∧ Below w.heap.size w w' := fun w => (GR w).mono fun e w' h => ⟨h.2.1 hf, h.2.2⟩
        rw [hs] at G1
        simp only [sideI, Bool.false_eq_true, if_false, if_true] at G1 ho1
      · have hR2 : gridR b den low high = (high, 0) := by
          rw [hR]
          have := HLo.out
          have := HHi.out
          unfold IFit at *
          unfold clampI
          rw [if_neg (by omega), if_pos (by omega)]
        have HR := Lib.hid hR2
        rcases hk45 with ⟨_, _, hk⟩ | ⟨_, _, hk⟩
        all_goals
          rw [if_neg (by omega), hs] at hdn
        ·
          have K1 : ∀ w, Calls Tryz.prog 59 #[.float .f64 b] w fun e w' => e = .returned (.tuple #[.int .i64 4, .bool false]) ∧ w' = w := fun w => by
            have q := KI w
            rw [hk, hdn] at q
            exact q
          clear KI GR hk hdn hR hR2 hs S2 ho eG hf hcl ho1
          go_enter Tryz.func30, Tryz.ntmps30
          go_wp2_with (first | (go_at_call 59; with_reducible refine (K1 _).mono ?_; rintro e w1 ⟨rfl, rfl⟩) | (go_at_call 61; with_reducible refine (G1 _).mono ?_; rintro e w2 ⟨rfl, hb2⟩))
          rw [EQ.out, HR.out]
          exact ⟨rfl, (by repeat' (first | (with_reducible exact Below.refl _ _) | (with_reducible assumption) | (with_reducible refine below_alloc ?_ _ ?_) | (with_reducible refine below_set _ ?_ ?_) | (with_reducible refine Below.drew ?_) | (with_reducible refine below_dN ?_ _) | (apply below_thenA; assumption) | omega | (simp; done) | (simp; omega) | (simp [*]; done)))⟩
        ·
          have K1 : ∀ w, Calls Tryz.prog 59 #[.float .f64 b] w fun e w' => e = .returned (.tuple #[.int .i64 5, .bool false]) ∧ w' = w := fun w => by
            have q := KI w
            rw [hk, hdn] at q
            exact q
          clear KI GR hk hdn hR hR2 hs S2 ho eG hf hcl ho1
          go_enter Tryz.func30, Tryz.ntmps30
          go_wp2_with (first | (go_at_call 59; with_reducible refine (K1 _).mono ?_; rintro e w1 ⟨rfl, rfl⟩) | (go_at_call 61; with_reducible refine (G1 _).mono ?_; rintro e w2 ⟨rfl, hb2⟩))
          rw [EQ.out, HR.out]
          exact ⟨rfl, (by repeat' (first | (with_reducible exact Below.refl _ _) | (with_reducible assumption) | (with_reducible refine below_alloc ?_ _ ?_) | (with_reducible refine below_set _ ?_ ?_) | (with_reducible refine Below.drew ?_) | (with_reducible refine below_dN ?_ _) | (apply below_thenA; assumption) | omega | (simp; done) | (simp; omega) | (simp [*]; done)))⟩
      · have hR2 : gridR b den low high = (low, 0) := by
          rw [hR]
          have := HLo.out
          unfold IFit at *
          unfold clampI
          rw [if_pos (by omega)]
        have HR := Lib.hid hR2
        rcases hk45 with ⟨_, _, hk⟩ | ⟨_, _, hk⟩
        all_goals
          rw [if_neg (by omega), hs] at hdn
        ·
          have K1 : ∀ w, Calls Tryz.prog 59 #[.float .f64 b] w fun e w' => e = .returned (.tuple #[.int .i64 4, .bool true]) ∧ w' = w := fun w => by
            have q := KI w
            rw [hk, hdn] at q
            exact q
          clear KI GR hk hdn hR hR2 hs S2 ho eG hf hcl ho1
          go_enter Tryz.func30, Tryz.ntmps30
          go_wp2_with (first | (go_at_call 59; with_reducible refine (K1 _).mono ?_; rintro e w1 ⟨rfl, rfl⟩) | (go_at_call 61; with_reducible refine (G1 _).mono ?_; rintro e w2 ⟨rfl, hb2⟩))
          rw [EQ.out, HR.out]
          exact ⟨rfl, (by repeat' (first | (with_reducible exact Below.refl _ _) | (with_reducible assumption) | (with_reducible refine below_alloc ?_ _ ?_) | (with_reducible refine below_set _ ?_ ?_) | (with_reducible refine Below.drew ?_) | (with_reducible refine below_dN ?_ _) | (apply below_thenA; assumption) | omega | (simp; done) | (simp; omega) | (simp [*]; done)))⟩
        ·
          have K1 : ∀ w, Calls Tryz.prog 59 #[.float .f64 b] w fun e w' => e = .returned (.tuple #[.int .i64 5, .bool true]) ∧ w' = w := fun w => by
            have q := KI w
            rw [hk, hdn] at q
            exact q
          clear KI GR hk hdn hR hR2 hs S2 ho eG hf hcl ho1
          go_enter Tryz.func30, Tryz.ntmps30
          go_wp2_with (first | (go_at_call 59; with_reducible refine (K1 _).mono ?_; rintro e w1 ⟨rfl, rfl⟩) | (go_at_call 61; with_reducible refine (G1 _).mono ?_; rintro e w2 ⟨rfl, hb2⟩))
          rw [EQ.out, HR.out]
          exact ⟨rfl, (by repeat' (first | (with_reducible exact Below.refl _ _) | (with_reducible assumption) | (with_reducible refine below_alloc ?_ _ ?_) | (with_reducible refine below_set _ ?_ ?_) | (with_reducible refine Below.drew ?_) | (with_reducible refine below_dN ?_ _) | (apply below_thenA; assumption) | omega | (simp; done) | (simp; omega) | (simp [*]; done)))⟩
end Go.Proofs.YtigjjddblijpbaaGreatDoor
namespace Go.Proofs.YtigjjddblijpbaaGreatDoor
open Go.RowKit
set_option linter.unusedSimpArgs false
set_option linter.unusedVariables false

/-- A block of one cell. -/
def One (w : World) (b : Nat) (T : TypeId) (x : Value) : Prop := w.heap[b]? = some (Obj.cells #[x] T (0, 0))
theorem One.cell {w : World} {b : Nat} {T : TypeId} {x : Value} (h : One w b T x) : w.cell? ⟨b, 0, none⟩ = some x := by rw [cell_of_row w b 0 _ _ _ h]; rfl
theorem One.free {w : World} {b : Nat} {T : TypeId} {x : Value} (h : One w b T x) : w.frozen? ⟨b, 0, none⟩ = false := by simp [World.frozen?, show w.heap[b]? = _ from h]
theorem One.lt {w : World} {b : Nat} {T : TypeId} {x : Value} (h : One w b T x) : b < w.heap.size := (Array.getElem?_eq_some_iff.1 h).1
theorem One.new (w : World) (T : TypeId) (x : Value) (b : Nat) (hb : b = w.heap.size) : One (w.alloc (.cells #[x] T)) b T x := by subst hb; exact heap_alloc_new w _
theorem One.alloc {w : World} {b : Nat} {T : TypeId} {x : Value} (h : One w b T x) (o : Obj) : One (w.alloc o) b T x := (Below.heap_alloc w o _ h.lt).trans h
theorem One.below {w w' : World} {b : Nat} {T : TypeId} {x : Value} (h : One w b T x) (hb : Below w.heap.size w w') : One w' b T x := (hb.block b h.lt).trans h
theorem One.set {w : World} {b : Nat} {T : TypeId} {x : Value} (h : One w b T x) (u : Value) : One (w.setCell ⟨b, 0, none⟩ u) b T u := by
  unfold One at *
  simp only [World.setCell, Array.getElem?_modify, if_true, h]
  rfl
theorem One.other {w : World} {b c : Nat} {T : TypeId} {x : Value} (h : One w b T x) (hc : b ≠ c) (u : Value) : One (w.setCell ⟨c, 0, none⟩ u) b T x := by
  unfold One at *
  rw [Below.heap_setCell _ _ _ _ hc]; exact h
theorem intsAt_new (w : World) (xs : List Int) (k : Nat) (hk : xs.length = k) (hf : ∀ i, i < k → IFit (xs.getD i 0)) : IntsAt (w.alloc (.cells (xs.map fun x => Value.int .i64 x).toArray 2)) w.heap.size 0 k xs := by
  refine ⟨hk, hf, fun i hi => ?_⟩
  rw [cell_of_row _ w.heap.size (0 + i) _ _ _ (heap_alloc_new w _)]
  simp [List.getD, List.getElem?_eq_getElem (show i < xs.length by omega)]

theorem if0 : IFit 0 := by unfold IFit; omega
end Go.Proofs.YtigjjddblijpbaaGreatDoor
namespace Go.Proofs.YtigjjddblijpbaaGreatDoor.BM
/-- The value of a list of pieces, the lowest first. -/
def bval : List Nat → Nat
  | [] => 0
  | d :: ds => d + 65536 * bval ds
def Dig (ds : List Nat) : Prop := ∀ d ∈ ds, d < 65536
/-- No nought at the end. -/
def Trim (ds : List Nat) : Prop := ∀ h : ds ≠ [], ds.getLast h ≠ 0
/-- At most so many pieces. -/
def Sz (n : Int) (k : Nat) : Prop := n.natAbs < 65536 ^ k

theorem Dig.nil : Dig [] := fun _ h => by cases h
theorem Dig.cons {d : Nat} {ds : List Nat} (h : d < 65536) (hs : Dig ds) : Dig (d :: ds) := by
  intro x hx
  rcases List.mem_cons.1 hx with rfl | hx
  · exact h
  · exact hs x hx
theorem Dig.tail {d : Nat} {ds : List Nat} (h : Dig (d :: ds)) : Dig ds := fun x hx => h x (List.mem_cons_of_mem _ hx)
theorem Dig.head {d : Nat} {ds : List Nat} (h : Dig (d :: ds)) : d < 65536 := h d (List.mem_cons_self ..)
theorem Dig.append {a b : List Nat} (ha : Dig a) (hb : Dig b) : Dig (a ++ b) := by
  intro x hx
  rcases List.mem_append.1 hx with h | h
  · exact ha x h
  · exact hb x h
theorem Dig.snoc {a : List Nat} {d : Nat} (ha : Dig a) (hd : d < 65536) : Dig (a ++ [d]) :=
  ha.append (Dig.cons hd Dig.nil)
theorem Dig.take {a : List Nat} (ha : Dig a) (k : Nat) : Dig (a.take k) := fun x hx => ha x (List.mem_of_mem_take hx)
theorem Dig.drop {a : List Nat} (ha : Dig a) (k : Nat) : Dig (a.drop k) := fun x hx => ha x (List.mem_of_mem_drop hx)
theorem Dig.get {a : List Nat} (ha : Dig a) (k : Nat) (h : k < a.length) : a[k] < 65536 := ha _ (List.getElem_mem h)
theorem Dig.getD {a : List Nat} (ha : Dig a) (k : Nat) : a.getD k 0 < 65536 := by
  by_cases h : k < a.length
  · simpa [List.getD, h] using ha.get k h
  · simp [List.getD, List.getElem?_eq_none (Nat.le_of_not_lt h)]
theorem Dig.set {a : List Nat} (ha : Dig a) (k v : Nat) (hv : v < 65536) : Dig (a.set k v) := by
  intro x hx
  rcases List.mem_or_eq_of_mem_set hx with h | rfl
  · exact ha x h
  · exact hv
theorem Dig.replicate (n : Nat) : Dig (List.replicate n 0) := by
  intro x hx
  have := List.eq_of_mem_replicate hx
  omega

theorem bval_append (a b : List Nat) : bval (a ++ b) = bval a + 65536 ^ a.length * bval b := by
  induction a with
  | nil => simp [bval]
  | cons d ds ih =>
    simp only [List.cons_append, bval, ih, List.length_cons, Nat.pow_succ, Nat.mul_add]
    rw [Nat.mul_comm (65536 ^ ds.length) 65536, Nat.mul_assoc]
    omega
theorem bval_snoc (a : List Nat) (d : Nat) : bval (a ++ [d]) = bval a + 65536 ^ a.length * d := by
  rw [bval_append]; simp [bval]
theorem bval_take_succ (a : List Nat) (k : Nat) (h : k < a.length) : bval (a.take (k + 1)) = bval (a.take k) + 65536 ^ k * a[k] := by
  rw [List.take_succ_eq_append_getElem h, bval_snoc, List.length_take, Nat.min_eq_left (by omega)]
theorem bval_replicate (n : Nat) : bval (List.replicate n 0) = 0 := by
  induction n with
  | zero => rfl
  | succ n ih => simp [List.replicate_succ, bval, ih]
theorem bval_lt {a : List Nat} (h : Dig a) : bval a < 65536 ^ a.length := by
  induction a with
  | nil => simp [bval]
  | cons d ds ih =>
    have := ih h.tail
    have := h.head
    simp only [bval, List.length_cons, Nat.pow_succ]
    omega
theorem bval_take_lt {a : List Nat} (h : Dig a) (k : Nat) : bval (a.take k) < 65536 ^ k := by
  have h1 := bval_lt (h.take k)
  have h2 : (a.take k).length ≤ k := List.length_take_le ..
  exact Nat.lt_of_lt_of_le h1 (Nat.pow_le_pow_right (by decide) h2)
theorem bval_split (a : List Nat) (k : Nat) (h : k ≤ a.length) : bval a = bval (a.take k) + 65536 ^ k * bval (a.drop k) := by
  have := bval_append (a.take k) (a.drop k)
  rw [List.take_append_drop, List.length_take, Nat.min_eq_left h] at this
  exact this
theorem bval_drop (a : List Nat) (k : Nat) (h : k < a.length) : bval (a.drop k) = a[k] + 65536 * bval (a.drop (k + 1)) := by
  rw [List.drop_eq_getElem_cons h]; rfl
/-- A piece is replaced. -/
theorem bval_set (a : List Nat) (k v : Nat) (h : k < a.length) : bval (a.set k v) + 65536 ^ k * a[k] = bval a + 65536 ^ k * v := by
  induction a generalizing k with
  | nil => simp at h
  | cons d ds ih =>
    cases k with
    | zero => simp [bval]; omega
    | succ k =>
      have h' : k < ds.length := by simpa using h
      have := ih k h'
      simp only [List.set_cons_succ, bval, List.getElem_cons_succ, Nat.pow_succ]
      rw [Nat.mul_comm (65536 ^ k) 65536, Nat.mul_assoc, Nat.mul_assoc]
      omega

theorem Trim.nil : Trim [] := fun h => absurd rfl h
/-- A trimmed list that isn't empty is at least so great. -/
theorem Trim.ge {a : List Nat} (h : Trim a) (hne : a ≠ []) : 65536 ^ (a.length - 1) ≤ bval a := by
  have h1 := List.dropLast_concat_getLast hne
  have h2 := h hne
  rw [← h1, bval_snoc]
  simp only [List.length_append, List.length_dropLast, List.length_singleton]
  have h3 : 1 ≤ a.getLast hne := by omega
  have h4 : a.length - 1 + 1 - 1 = a.length - 1 := by omega
  rw [h4]
  calc 65536 ^ (a.length - 1) = 65536 ^ (a.length - 1) * 1 := by omega
    _ ≤ 65536 ^ (a.length - 1) * a.getLast hne := Nat.mul_le_mul_left _ h3
    _ ≤ _ := by omega
theorem Trim.eq_nil {a : List Nat} (h : Trim a) (h0 : bval a = 0) : a = [] := by
  by_cases hne : a = []
  · exact hne
  · have := h.ge hne
    have : 0 < 65536 ^ (a.length - 1) := Nat.pow_pos (by decide)
    omega
theorem Trim.len {a : List Nat} (h : Trim a) {k : Nat} (hk : bval a < 65536 ^ k) : a.length ≤ k := by
  by_cases hne : a = []
  · simp [hne]
  · have h1 := h.ge hne
    have h2 : 65536 ^ (a.length - 1) < 65536 ^ k := Nat.lt_of_le_of_lt h1 hk
    have := (Nat.pow_lt_pow_iff_right (a := 65536) (by decide)).1 h2
    omega
theorem len_lt_bval {a b : List Nat} (ha : Dig a) (hb : Trim b) (h : a.length < b.length) : bval a < bval b := by
  have h1 := bval_lt ha
  have hne : b ≠ [] := by intro e; simp [e] at h
  have h2 := hb.ge hne
  have h3 : 65536 ^ a.length ≤ 65536 ^ (b.length - 1) := Nat.pow_le_pow_right (by decide) (by omega)
  omega
/-- Of one length, and from a place on the same: the place decides. -/
theorem bval_cmp_at {a b : List Nat} (ha : Dig a) (k : Nat) (hka : k < a.length) (hkb : k < b.length)
    (hs : a.drop (k + 1) = b.drop (k + 1)) (hl : a[k] < b[k]) : bval a < bval b := by
  rw [bval_split a k (by omega), bval_split b k (by omega), bval_drop a k hka, bval_drop b k hkb, hs]
  have h1 := bval_take_lt ha k
  generalize bval (b.drop (k + 1)) = t
  generalize hp : 65536 ^ k = p at *
  have h2 : p * (a[k] + 65536 * t) + p ≤ p * (b[k] + 65536 * t) := by
    rw [← Nat.mul_succ]
    exact Nat.mul_le_mul_left _ (by omega)
  omega

theorem Sz.mono {n : Int} {j k : Nat} (h : Sz n j) (hk : j ≤ k) : Sz n k :=
  Nat.lt_of_lt_of_le h (Nat.pow_le_pow_right (by decide) hk)
theorem Sz.neg {n : Int} {k : Nat} (h : Sz n k) : Sz (-n) k := by simpa [Sz] using h
theorem Sz.abs {n : Int} {k : Nat} (h : Sz n k) : Sz (n.natAbs : Int) k := by simpa [Sz] using h
theorem Sz.add {a b : Int} {k : Nat} (ha : Sz a k) (hb : Sz b k) : Sz (a + b) (k + 1) := by
  unfold Sz at *
  have := Int.natAbs_add_le a b
  rw [Nat.pow_succ]
  omega
theorem Sz.sub {a b : Int} {k : Nat} (ha : Sz a k) (hb : Sz b k) : Sz (a - b) (k + 1) := by
  rw [Int.sub_eq_add_neg]; exact ha.add hb.neg
theorem Sz.mul {a b : Int} {j k : Nat} (ha : Sz a j) (hb : Sz b k) : Sz (a * b) (j + k) := by
  unfold Sz at *
  rw [Int.natAbs_mul, Nat.pow_add]
  exact Nat.mul_lt_mul'' ha hb
theorem Sz.of_lt {n : Int} {k : Nat} (h : n.natAbs < 65536 ^ k) : Sz n k := h
theorem Sz.le {a b : Int} {k : Nat} (h : Sz b k) (hab : a.natAbs ≤ b.natAbs) : Sz a k := Nat.lt_of_le_of_lt hab h
theorem Sz.i64 {n : Int} (h1 : -9223372036854775808 ≤ n) (h2 : n ≤ 9223372036854775807) : Sz n 4 := by
  unfold Sz; have : (65536 : Nat) ^ 4 = 18446744073709551616 := by decide
  omega
theorem Sz.u64 {n : Int} (h1 : 0 ≤ n) (h2 : n ≤ 18446744073709551615) : Sz n 4 := by
  unfold Sz; have : (65536 : Nat) ^ 4 = 18446744073709551616 := by decide
  omega
end Go.Proofs.YtigjjddblijpbaaGreatDoor.BM
