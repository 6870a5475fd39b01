/-
  The law FlexsizeFills.
-/
import Derived.Test.YthofammjbicogaaYFxW
import Derived.Test.YthofammjbicogaaYFxX
import Derived.Test.YthofammjbicogaaYFxQ
import Derived.Test.YthofammjbicogaaYOpenD
import Derived.BigQuiet
namespace Go.Proofs.Ythofammjbicogaa
open Go.RowKit
set_option linter.unusedSimpArgs false
set_option linter.unusedVariables false

theorem run_mn2 {P : Program} (w : World) (ts : Array TypeId) (t : TypeId) (k : IntKind) (x y : Int) :
    (Builtin.min_ ts t #[.int k x, .int k y]).run P w = .ok (.int k (min x y)) w := by
  have e : ∀ a b : Int, min a b = if b < a then b else a := fun a b => by
    rw [Int.min_def]; split <;> split <;> omega
  rw [e]
  simp [Builtin.min_, Builtin.min2]
theorem sm_take {f : Fl → Int} {m : List Fl} {j : Nat} (hj : j < m.length) : sm f (m.take (j + 1)) = sm f (m.take j) + f (m.getD j fl0) := by
  have app : ∀ (l : List Fl) (x : Fl), sm f (l ++ [x]) = sm f l + f x := fun l x => by
    induction l with
    | nil => show f x + 0 = 0 + f x; omega
    | cons y l ih => rw [List.cons_append, sm_cons, sm_cons, ih]; omega
  rw [List.take_succ_eq_append_getElem hj, app]
  simp [List.getD, hj]
theorem sm_bnd {f : Fl → Int} {A B : Int} : ∀ {m : List Fl}, (∀ x ∈ m, A ≤ f x ∧ f x ≤ B) → A * (m.length : Int) ≤ sm f m ∧ sm f m ≤ B * (m.length : Int)
  | [], _ => by simp [sm]
  | x :: l, h => by
    have h1 := h x List.mem_cons_self
    have h2 := sm_bnd (m := l) (fun y hy => h y (List.mem_cons_of_mem _ hy))
    rw [sm_cons, List.length_cons]
    push_cast
    rw [Int.mul_add, Int.mul_add]
    omega
def gF0 (y : Fl) : Int := y.tg + y.it.extra
def gF1 (y : Fl) : Int := y.it.lim y.it.base + y.it.extra
def gF2 (y : Fl) : Int := y.it.grow
def gF3 (y : Fl) : Int := min y.it.shrink (y.it.shrink * y.it.base)
def gFB (y : Fl) : Bool := (y.it.lim y.it.base == y.it.base) && decide (y.it.least < y.tg) && (!y.it.bound || decide (y.tg < y.it.most))
theorem gFB_free {y : Fl} (h : gFB y = true) : FreeB y := by
  unfold gFB at h
  simp only [Bool.and_eq_true, decide_eq_true_eq, beq_iff_eq, Bool.or_eq_true, Bool.not_eq_true'] at h
  refine ⟨h.1.1, h.1.2, fun e => ?_⟩
  rcases h.2 with q | q
  · rw [e] at q; cases q
  · exact q
/-- What the law asks, in plain numbers. -/
structure FillOk19 (room : Int) (q : List Fx) (m : List Fl) : Prop where
  its : m.map Fl.it = q
  res : resO room q = some (m.map Fl.tg)
  code : rsC room q = 0
  cut : ∀ y ∈ m, Cut y.it ∧ (0 ≤ y.tg ∧ y.tg ≤ 549755813888) ∧ y.it.lim y.tg = y.tg
  up : sm gF1 m < room → ∀ y ∈ m, y.it.lim y.it.base ≤ y.tg ∧ (y.it.grow = 0 → y.tg = y.it.lim y.it.base)
  down : ¬ sm gF1 m < room → ∀ y ∈ m, y.tg ≤ y.it.lim y.it.base ∧ (y.it.shrink = 0 → y.tg = y.it.lim y.it.base)
  full : (∀ y ∈ m, gFB y = true) → (sm gF1 m < room ∧ 4096 ≤ sm gF2 m) ∨ (¬ sm gF1 m < room ∧ 4096 ≤ sm gF3 m) → sm gF0 m = room
theorem fill_plain {q : List Fx} (hc : ∀ x ∈ q, Cut x) (hn : q.length ≤ 25) {room : Int} (h0 : 0 ≤ room) (h1 : room ≤ 68719476735) : ∃ m, FillOk19 room q m := by
  obtain ⟨g, first, m, eg, e1, e2, e3, e4, e5, e6, e7, e8, e9, e10, _, _⟩ := flex_ok hc hn (avail := room) (by omega)
  have hfi : ∀ y ∈ m, y.fi = true := fun y hy => List.all_eq_true.1 e6 y hy
  have hs1 : sm gF1 m = sm (fun x : Fx => x.lim x.base) q + sm Fx.extra q := by
    rw [← sm_add, ← e10, sm_map]
    rfl
  have hg : g = true ↔ sm gF1 m < room := by rw [eg, decide_eq_true_eq, hs1]; omega
  refine ⟨m, e10, e4, e5, fun y hy => ?_, fun h y hy => ?_, fun h y hy => ?_, fun hF h => ?_⟩
  · obtain ⟨_, i2, i3⟩ := e7 y hy
    exact ⟨i2, i3 (hfi y hy), (e9 y hy).2.1 (hfi y hy)⟩
  · have hgt := hg.2 h
    rw [hgt] at e8 e9
    have e8' : GI (room - sm Fx.extra q) m := e8
    exact ⟨(e8'.1 y hy).2.2 (hfi y hy), fun e => ((e9 y hy).2.2 e).2⟩
  · have hgt : g = false := by cases g; rfl; exact absurd (hg.1 rfl) h
    rw [hgt] at e8 e9
    have e8' : SI (room - sm Fx.extra q) m := e8
    exact ⟨(e8'.1 y hy).2.2 (hfi y hy), fun e => ((e9 y hy).2.2 e).2⟩
  · have hen : 4096 ≤ sm (enough g) q := by
      rw [← e10, sm_map]
      rcases h with ⟨a, b⟩ | ⟨a, b⟩
      · rw [hg.2 a]; exact b
      · have hgt : g = false := by cases g; rfl; exact absurd (hg.1 rfl) a
        rw [hgt]; exact b
    rw [e2] at e3
    have := exact_fill hc e3 e10 (fun y hy => gFB_free (hF y hy)) hen
    have h2 : sm gF0 m = sm Fl.tg m + sm Fx.extra q := by
      rw [← e10, sm_map, ← sm_add]
      rfl
    omega
end Go.Proofs.Ythofammjbicogaa
