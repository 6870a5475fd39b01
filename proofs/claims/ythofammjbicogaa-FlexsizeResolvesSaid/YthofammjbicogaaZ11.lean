/-
  append, as one step of a region that draws: what the slice held before, it holds still.
-/
/-
  Layer 13: items, segments, lines, in plain numbers.
-/
import Derived.Test.YthofammjbicogaaZ7
import Derived.Test.YthofammjbicogaaZ8
namespace Go.Proofs.Ythofammjbicogaa
open Go Go.RowKit
set_option linter.unusedSimpArgs false
set_option linter.unusedVariables false

section
variable {P : Program} {w : World}
theorem run_append_keep (base : Nat) (t ty e : TypeId) (i : TypeInfo) (z : Value) (size bytes : Nat) (ht : P.underlying t = some (.slice e)) (hi : P.info? e = some i) (hz : i.zero = some z)
    (hsize : i.size = size) (hby : i.bytes = bytes) (hzs : z.cells.size = size) (hsz : 0 < size)
    (v : Value) (n : Nat) (xs : List Value) (hown : w.ownsRow base e size v n xs)
    (a : Addr) (m c : Nat) (news : List Value) (hl : news.length = m * size) (hnews : ∀ j u, news[j]? = some u → w.cell? (a.add j) = some u) (h1 : ∀ u ∈ news, u.oneCell' = true)
    (h63 : n + m ≤ maxLen) (hbytes : (n + m) * bytes ≤ 140737488355328) {v' : Value} {w' : World} (hr : (Builtin.append_ #[t, t] ty #[v, .slice (some a) m c]).run P w = .ok v' w') : w'.ownsRow base e size v n xs := by
  subst hsize
  subst hby
  rcases hown.2 with ⟨rfl, rfl⟩ | ⟨g, cap, cur, rfl, hbg, hg, hnc, hcm, hcs, htake⟩
  · obtain rfl : xs = [] := List.eq_nil_of_length_eq_zero (by simpa using hown.1)
    exact World.ownsRow_nil _ _ _ _
  · by_cases hroom : n + m ≤ cap
    · have hfit : n * i.size + news.length ≤ cur.size := by rw [hl, hcs, ← Nat.add_mul]; exact Nat.mul_le_mul_right _ hroom
      rw [run_append_room (P := P) w t ty e i ht hi g n cap cur hg a m c news hl hnews h1 hroom hfit] at hr
      obtain ⟨rfl, rfl⟩ : _ = v' ∧ _ = w' := by simpa using hr
      refine ⟨hown.1, .inr ⟨g, cap, _, rfl, hbg, setRow_heap w g cur _ e _ hg, hnc, hcm, ?_, ?_⟩⟩
      · simp only [List.size_toArray, List.length_append, List.length_take, List.length_drop, Array.length_toList]
        omega
      · have e1 : (cur.toList.take (n * i.size)).length = n * i.size := by rw [List.length_take, Array.length_toList]; omega
        rw [← htake]
        show List.take (n * i.size) (cur.toList.take (n * i.size) ++ (news ++ cur.toList.drop (n * i.size + news.length))) = _
        exact List.take_left' e1
    · have hsmall : n + m ≤ 9223372036854775807 := by simp only [maxLen] at h63; omega
      have holds : ∀ j u, xs[j]? = some u → w.cell? ((⟨g, 0, none⟩ : Addr).add j) = some u := hown.cells (g := g) rfl
      rw [run_append_grow (P := P) w t ty e i z ht hi hz ⟨g, 0, none⟩ n cap xs hown.1 holds a m c news hl hnews (by omega) (by omega) (growslice_fits (by omega) hbytes)] at hr
      obtain ⟨rfl, rfl⟩ : _ = v' ∧ _ = w' := by simpa using hr
      exact World.ownsRow.alloc (World.ownsRow.drew hown) _
theorem wp_append_keep {o : Oper} {act : Act} {K : Act → World → Prop} {Q : Exit → Act → World → Prop} (s x : Operand) (t : TypeId)
    (ho : o.op = .call { callee := .builtin .append, args := #[s, x], argTypes := #[t, t] })
    (base : Nat) (e : TypeId) (i : TypeInfo) (z : Value) (size bytes : Nat) (ht : P.underlying t = some (.slice e)) (hi : P.info? e = some i) (hz : i.zero = some z)
    (hsize : i.size = size) (hby : i.bytes = bytes) (hzs : z.cells.size = size) (hsz : 0 < size)
    (v : Value) (n : Nat) (xs : List Value) (hs : act.eval s = v) (hown : w.ownsRow base e size v n xs)
    (ad : Addr) (m c : Nat) (news : List Value) (hx : act.eval x = .slice (some ad) m c) (hl : news.length = m * size) (hnews : ∀ j u, news[j]? = some u → w.cell? (ad.add j) = some u) (h1 : ∀ u ∈ news, u.oneCell' = true)
    (h63 : n + m ≤ maxLen) (hbytes : (n + m) * bytes ≤ 140737488355328) (hbase : base ≤ w.heap.size)
    (h : ∀ v' w', w'.ownsRow base e size v' (n + m) (xs ++ news) → w.grownBy w' v.ownBlock → w'.ownsRow base e size v n xs → K (act.put o.dst v') w') : o.wp P act w K Q := by
  obtain ⟨v', w', hr, h2, h3, h4⟩ := run_append_own (P := P) w base t o.type e i z size bytes ht hi hz hsize hby hzs hsz v n xs hown ad m c news hl hnews h1 h63 hbytes hbase
  have hk := run_append_keep (P := P) base t o.type e i z size bytes ht hi hz hsize hby hzs hsz v n xs hown ad m c news hl hnews h1 h63 hbytes hr
  unfold Oper.wp execOp
  simp only [ho, resolve, invoke, builtin, Sem.run_bind, Sem.run_pure, Result.andThen_ok, List.map_toArray, List.map_cons, List.map_nil, hs, hx, hr]
  exact h v' w' h2 h3 hk
end
/-- A slice of things of some cells; one thing laid by a region itself. -/
def SliW (B : Nat) (T : TypeId) (cs : List Value) (v : Value) (w : World) : Prop := ∃ b, v = .slice (some ⟨b, 0, none⟩) 1 1 ∧ B ≤ b ∧ Blk w b cs.toArray T
def sliW (B : Nat) (T : TypeId) (cs : List Value) : Cl := .own (SliW B T cs) (fun _ _ _ h hb => by obtain ⟨b, e, h1, h2⟩ := h; exact ⟨b, e, h1, h2.below hb⟩)
def OwnVW (H : Nat) (T : TypeId) (s n : Nat) (xs : List Value) (v : Value) (w : World) : Prop := ∃ ao cap, v = .slice ao n cap ∧ OwnW w H T s ao n cap xs
def ownW (H : Nat) (T : TypeId) (s n : Nat) (xs : List Value) : Cl := .own (OwnVW H T s n xs) (fun _ _ _ h hb => by obtain ⟨a, c, e, h⟩ := h; exact ⟨a, c, e, h.below hb⟩)
theorem OwnW.app {w w1 : World} {B : Nat} {T : TypeId} {s : Nat} {ao : Option Addr} {k cap m : Nat} {vs us : List Value} {v' : Value} (h : OwnW w B T s ao k cap vs)
    (ho : w1.ownsRow B T s v' (k + m) (vs ++ us)) (hg : w.grownBy w1 (Value.slice ao k cap).ownBlock) (hm : 0 < m) (hB : B ≤ w.heap.size) :
    ∃ ao' cap', v' = .slice ao' (k + m) cap' ∧ OwnW w1 B T s ao' (k + m) cap' (vs ++ us) ∧ (∀ C a, C ≤ B → Below C a w → Below C a w1) ∧ (∀ b cs T2, Blk w b cs T2 → T2 ≠ T → Blk w1 b cs T2) ∧ (∀ b cs T2, Blk w b cs T2 → (∀ g, (Value.slice ao k cap).ownBlock = some g → g ≠ b) → Blk w1 b cs T2) := by
  have hs : ∃ ao' cap', v' = .slice ao' (k + m) cap' := by
    rcases ho.2 with ⟨_, e⟩ | ⟨g, c, cur, e, _⟩
    · omega
    · exact ⟨_, _, e⟩
  obtain ⟨ao', cap', rfl⟩ := hs
  refine ⟨ao', cap', rfl, ho, fun C a hC hb => ?_, fun b cs T2 h2 hT => ?_, fun b cs T2 h2 hne => ?_⟩
  · exact hb.grown hg (by omega) (fun j hj => by have := (h.ge hj).1; omega)
  · exact (hg.block b h2.lt (fun e => (h.ne h2 hT) e.symm)).trans h2
  · exact (hg.block b h2.lt (fun e => hne b e.symm rfl)).trans h2
/-- What is owned, behind an append to a slice of another type. -/
theorem OwnW.beside {w w1 : World} {B B2 : Nat} {T T2 : TypeId} {s s2 : Nat} {ao a2 : Option Addr} {k cap k2 cap2 : Nat} {vs vs2 : List Value} (h : OwnW w B T s ao k cap vs) (h2 : OwnW w B2 T2 s2 a2 k2 cap2 vs2) (hT : T ≠ T2)
    (hg : w.grownBy w1 (Value.slice a2 k2 cap2).ownBlock) : OwnW w1 B T s ao k cap vs := by
  refine ⟨h.1, ?_⟩
  rcases h.2 with h0 | ⟨g, c, cur, hv, hb, hh, r⟩
  · exact .inl h0
  · refine .inr ⟨g, c, cur, hv, hb, (hg.block g (Array.getElem?_eq_some_iff.1 hh).1 (fun e0 => ?_)).trans hh, r⟩
    have e := e0.symm
    rcases h2.2 with ⟨hv2, _⟩ | ⟨g2, c2, cur2, hv2, _, hh2, _⟩
    · rw [hv2] at e; simp [Value.ownBlock] at e
    · rw [hv2] at e
      simp [Value.ownBlock] at e
      subst e
      rw [hh] at hh2
      simp at hh2
      exact hT hh2.2
end Go.Proofs.Ythofammjbicogaa
namespace Go.Proofs.Ythofammjbicogaa
open Go.RowKit
set_option linter.unusedSimpArgs false
set_option linter.unusedVariables false

structure It where
  w : Int
  s : Int
  h : Int
  b : Bool
def it0 : It := ⟨0, 0, 0, false⟩
def itV (l : List It) : List Value := l.flatMap fun x => [.int .i64 x.w, .int .i64 x.s, .int .i64 x.h, .bool x.b]
theorem itV_app (a b : List It) : itV (a ++ b) = itV a ++ itV b := by simp [itV]
theorem itV_len : ∀ l : List It, (itV l).length = l.length * 4
  | [] => rfl
  | x :: l => by
    have := itV_len l
    unfold itV at this ⊢
    rw [List.flatMap_cons, List.length_append, this]
    simp; omega
theorem itV_get : ∀ (l : List It) (j : Nat), j < l.length → (itV l)[j * 4 + 0]? = some (.int .i64 ((l.getD j it0).w)) ∧ (itV l)[j * 4 + 1]? = some (.int .i64 ((l.getD j it0).s)) ∧ (itV l)[j * 4 + 2]? = some (.int .i64 ((l.getD j it0).h)) ∧ (itV l)[j * 4 + 3]? = some (.bool (l.getD j it0).b)
  | [], j, h => by simp at h
  | x :: l, 0, _ => ⟨rfl, rfl, rfl, rfl⟩
  | x :: l, j + 1, h => by
    have := itV_get l j (by simpa using h)
    have e : itV (x :: l) = [.int .i64 x.w, .int .i64 x.s, .int .i64 x.h, .bool x.b] ++ itV l := rfl
    rw [e]
    have g : ∀ k, ([.int .i64 x.w, .int .i64 x.s, .int .i64 x.h, .bool x.b] ++ itV l)[(j + 1) * 4 + k]? = (itV l)[j * 4 + k]? := fun k => by
      rw [List.getElem?_append_right (by simp; omega)]
      congr 1
      simp; omega
    rw [g, g, g, g]
    simpa [List.getD] using this
def ItFit (l : List It) : Prop := ∀ i, IFit (l.getD i it0).w ∧ IFit (l.getD i it0).s ∧ IFit (l.getD i it0).h
def subL (l : List It) (a b : Nat) : List It := (l.drop a).take (b - a)
theorem subL_get (l : List It) {a b i : Nat} (h : i < b - a) : (subL l a b).getD i it0 = l.getD (a + i) it0 := by
  unfold subL
  simp [List.getD, List.getElem?_take, h]
theorem subL_len (l : List It) {a b : Nat} (h : b ≤ l.length) : (subL l a b).length = b - a := by
  unfold subL
  simp; omega
theorem subL_fit {l : List It} (h : ItFit l) (a b : Nat) : ItFit (subL l a b) := fun i => by
  by_cases hi : i < b - a
  · rw [subL_get l hi]; exact h _
  · have e : (subL l a b).getD i it0 = it0 := by
      unfold subL
      simp [List.getD, List.getElem?_take, hi]
    rw [e]; simp [it0, IFit]
/-- The numbers that one item adds, of items as far as b. -/
def ptAt (l : List It) (b i : Nat) : List Int := if i + 1 < b then [(l.getD i it0).w, (l.getD i it0).s] else [(l.getD i it0).w]
def pts (l : List It) (a b : Nat) : Nat → List Int
  | 0 => []
  | j + 1 => pts l a b j ++ ptAt l b (a + j)
theorem pts_sub (l : List It) {a b : Nat} (hab : a ≤ b) : ∀ j, j ≤ b - a → pts (subL l a b) 0 (b - a) j = pts l a b j
  | 0, _ => rfl
  | j + 1, h => by
    unfold pts
    rw [pts_sub l hab j (by omega)]
    unfold ptAt
    rw [Nat.zero_add, subL_get l (by omega)]
    by_cases h1 : j + 1 < b - a
    · rw [if_pos h1, if_pos (by omega)]
    · rw [if_neg h1, if_neg (by omega)]
theorem pts_len (l : List It) (a b : Nat) : ∀ j, (pts l a b j).length ≤ 2 * j
  | 0 => by simp [pts]
  | j + 1 => by
    have := pts_len l a b j
    unfold pts ptAt
    rw [List.length_append]
    split <;> simp <;> omega
theorem pts_fit {l : List It} (h : ItFit l) (a b : Nat) : ∀ j, ∀ x ∈ pts l a b j, IFit x
  | 0, x, hx => by simp [pts] at hx
  | j + 1, x, hx => by
    unfold pts at hx
    rcases List.mem_append.1 hx with hx | hx
    · exact pts_fit h a b j x hx
    · have h0 := h (a + j)
      unfold ptAt at hx
      split at hx <;> simp at hx
      · rcases hx with rfl | rfl
        · exact h0.1
        · exact h0.2.1
      · subst hx; exact h0.1
theorem addP_app : ∀ (xs ys : List Int) (s : Int), addP s (xs ++ ys) = (addP s xs).bind fun t => addP t ys
  | [], ys, s => rfl
  | x :: xs, ys, s => by
    rw [List.cons_append]
    show (if lenB (s + x) then addP (s + x) (xs ++ ys) else none) = (if lenB (s + x) then addP (s + x) xs else none).bind fun t => addP t ys
    split
    · exact addP_app xs ys _
    · rfl
theorem addP_lenB : ∀ {xs : List Int} {s t : Int}, lenB s = true → addP s xs = some t → lenB t = true
  | [], s, t, hs, h => by unfold addP at h; obtain rfl := Option.some.inj h; exact hs
  | x :: xs, s, t, hs, h => by
    unfold addP at h
    split at h
    · exact addP_lenB (by assumption) h
    · cases h
/-- How wide items from one on are, as far as another one. -/
def wd (l : List It) (a b : Nat) : Option Int := addP 0 (pts l a b (b - a))
theorem wd_sub (l : List It) {a b : Nat} (hab : a ≤ b) : wd (subL l a b) 0 (b - a) = wd l a b := by
  unfold wd
  rw [Nat.sub_zero, pts_sub l hab _ (Nat.le_refl _)]
/-- A segment's end. -/
def segF (l : List It) : Nat → Nat → Nat
  | 0, _ => l.length
  | d + 1, i => if (l.getD i it0).b then i + 1 else segF l d (i + 1)
def seg (l : List It) (i : Nat) : Nat := segF l (l.length - i) i
theorem seg_brk {l : List It} {i : Nat} (hi : i < l.length) (h : (l.getD i it0).b = true) : seg l i = i + 1 := by
  unfold seg
  rw [show l.length - i = (l.length - (i + 1)) + 1 by omega, segF, if_pos h]
theorem seg_next {l : List It} {i : Nat} (hi : i < l.length) (h : (l.getD i it0).b = false) : seg l i = seg l (i + 1) := by
  unfold seg
  rw [show l.length - i = (l.length - (i + 1)) + 1 by omega, segF, if_neg (by rw [h]; decide)]
theorem seg_end {l : List It} {i : Nat} (hi : l.length ≤ i) : seg l i = l.length := by
  unfold seg
  rw [show l.length - i = 0 by omega]
  rfl
theorem seg_gt (l : List It) : ∀ d i, l.length - i = d → i < l.length → i < seg l i ∧ seg l i ≤ l.length
  | 0, i, hd, h => by omega
  | d + 1, i, hd, h => by
    cases hb : (l.getD i it0).b
    · rw [seg_next h hb]
      by_cases h1 : i + 1 < l.length
      · have := seg_gt l d (i + 1) (by omega) h1; omega
      · rw [seg_end (by omega)]; omega
    · rw [seg_brk h hb]; omega
theorem seg_up {l : List It} {i : Nat} (h : i < l.length) : i < seg l i ∧ seg l i ≤ l.length := seg_gt l _ i rfl h
/-- A line takes more segments. -/
def extF (l : List It) (avail : Int) (a : Nat) : Nat → Nat → Int → Option (Nat × Int)
  | 0, t, w => some (t, w)
  | d + 1, t, w => if t < l.length then (match wd l a (seg l t) with | none => none | some m => if avail < m then some (t, w) else extF l avail a d (seg l t) m) else some (t, w)
def hiF (l : List It) (low : Int) (a : Nat) : Nat → Int
  | 0 => low
  | j + 1 => max (hiF l low a j) (l.getD (a + j) it0).h
theorem hiF_sub (l : List It) (low : Int) (a b : Nat) : ∀ j, j ≤ b - a → hiF (subL l a b) low 0 j = hiF l low a j
  | 0, _ => rfl
  | j + 1, h => by
    unfold hiF
    rw [hiF_sub l low a b j (by omega), Nat.zero_add, subL_get l (by omega)]
structure Ln where
  f : Nat
  t : Nat
  w : Int
  h : Int
def lnV (l : List Ln) : List Value := l.flatMap fun x => [.int .i64 ((x.f : Int)), .int .i64 ((x.t : Int)), .int .i64 x.w, .int .i64 x.h]
theorem lnV_app (a b : List Ln) : lnV (a ++ b) = lnV a ++ lnV b := by simp [lnV]
def ln0 : Ln := ⟨0, 0, 0, 0⟩
theorem lnV_len : ∀ l : List Ln, (lnV l).length = l.length * 4
  | [] => rfl
  | x :: l => by
    have := lnV_len l
    unfold lnV at this ⊢
    rw [List.flatMap_cons, List.length_append, this]
    simp; omega
theorem lnV_get : ∀ (l : List Ln) (j : Nat), j < l.length → (lnV l)[j * 4 + 0]? = some (.int .i64 (((l.getD j ln0).f : Int))) ∧ (lnV l)[j * 4 + 1]? = some (.int .i64 (((l.getD j ln0).t : Int))) ∧ (lnV l)[j * 4 + 2]? = some (.int .i64 ((l.getD j ln0).w)) ∧ (lnV l)[j * 4 + 3]? = some (.int .i64 ((l.getD j ln0).h))
  | [], j, h => by simp at h
  | x :: l, 0, _ => ⟨rfl, rfl, rfl, rfl⟩
  | x :: l, j + 1, h => by
    have := lnV_get l j (by simpa using h)
    have e : lnV (x :: l) = [.int .i64 ((x.f : Int)), .int .i64 ((x.t : Int)), .int .i64 x.w, .int .i64 x.h] ++ lnV l := rfl
    rw [e]
    have g : ∀ k, ([.int .i64 ((x.f : Int)), .int .i64 ((x.t : Int)), .int .i64 x.w, .int .i64 x.h] ++ lnV l)[(j + 1) * 4 + k]? = (lnV l)[j * 4 + k]? := fun k => by
      rw [List.getElem?_append_right (by simp; omega)]
      congr 1
      simp; omega
    rw [g, g, g, g]
    simpa [List.getD] using this
/-- Lines of the items from one on. -/
def fillF (l : List It) (avail low : Int) : Nat → Nat → List Ln → Option (List Ln)
  | 0, _, out => some out
  | d + 1, a, out =>
    if a < l.length then
      (match wd l a (seg l a) with
       | none => none
       | some w =>
         (match extF l avail a l.length (seg l a) w with
          | none => none
          | some (t, w2) => fillF l avail low d t (out ++ [⟨a, t, w2, hiF l low a (t - a)⟩])))
    else some out
def fillR (l : List It) (avail low : Int) : Option (List Ln) := fillF l avail low l.length 0 []
def leastF (l : List It) : Nat → Nat → Int → Option Int
  | 0, _, out => some out
  | d + 1, a, out =>
    if a < l.length then
      (match wd l a (seg l a) with
       | none => none
       | some w => leastF l d (seg l a) (if a = 0 ∨ out < w then w else out))
    else some out
def leastR (l : List It) : Option Int := leastF l l.length 0 0
theorem ext_up {l : List It} {avail : Int} {a : Nat} : ∀ (d t : Nat) (w : Int) (t2 : Nat) (w2 : Int), t ≤ l.length → extF l avail a d t w = some (t2, w2) → t ≤ t2 ∧ t2 ≤ l.length
  | 0, t, w, t2, w2, ht, h => by
    unfold extF at h
    obtain ⟨rfl, rfl⟩ : t = t2 ∧ w = w2 := by simpa using h
    omega
  | d + 1, t, w, t2, w2, ht, h => by
    unfold extF at h
    split at h
    · rename_i hl
      have hs := seg_up hl
      split at h
      · cases h
      · split at h
        · obtain ⟨rfl, rfl⟩ : t = t2 ∧ w = w2 := by simpa using h
          omega
        · have := ext_up d _ _ t2 w2 hs.2 h
          omega
    · obtain ⟨rfl, rfl⟩ : t = t2 ∧ w = w2 := by simpa using h
      omega
/-- The number of an error, the number that is left. -/
def oE (r : Option Int) : Int := if r.isSome then 0 else 2
def oN (r : Option Int) : Int := r.getD 0
/-- The ends of the segments from a place on. -/
def endsF (l : List It) : Nat → Nat → List Int
  | 0, _ => []
  | d + 1, a => if a < l.length then (seg l a : Int) :: endsF l d (seg l a) else []
end Go.Proofs.Ythofammjbicogaa
