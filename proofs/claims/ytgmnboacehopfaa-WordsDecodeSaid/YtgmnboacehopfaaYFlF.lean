/-
  Package flexbox: spaces of any way.
-/
import Derived.Test.YtgmnboacehopfaaYFlE
import Derived.Test.YtgmnboacehopfaaZ1
import Derived.Laws.CopyOwn
namespace Go.Proofs.Ytgmnboacehopfaa
open Go.RowKit
set_option linter.unusedSimpArgs false
set_option linter.unusedVariables false

/-- copy, as one step of a region that draws: what else stood stays. -/
theorem wp_copy_but {P : Program} {o : Oper} {a : Act} (w : World) {K : Act → World → Prop} {Q : Exit → Act → World → Prop} (d s : Operand) (dT sT : TypeId)
    (ho : o.op = .call { callee := .builtin .copy, args := #[d, s], argTypes := #[dT, sT] }) (elem : TypeId) (hu : P.underlying dT = some (.slice elem)) (hsz : (P.info? elem).map (·.size) = some 1)
    (dp sp : Option Addr) (dLen dCap sLen sCap : Nat) (hd : a.eval d = .slice dp dLen dCap) (hs : a.eval s = .slice sp sLen sCap)
    (g off : Nat) (cur : List Value) (t : TypeId) (hg : w.heap[g]? = some (.cells cur.toArray t (0, 0))) (cs : List Value) (hn : cs.length = Nat.min sLen dLen)
    (hpos : 0 < cs.length → dp = some ⟨g, off, none⟩ ∧ ∃ ad, sp = some ad ∧ ∀ j v, cs[j]? = some v → w.cell? (ad.add j) = some v)
    (hfit : off + cs.length ≤ cur.length) (h1 : ∀ v ∈ cs, v.oneCell' = true)
    (h : ∀ w', w'.heap[g]? = some (.cells (splice cur off cs).toArray t (0, 0)) → But g w w' → K (a.put o.dst (goInt cs.length)) w') :
    Oper.wp P o a w K Q := by
  by_cases h0 : cs.length = 0
  · obtain rfl : cs = [] := List.eq_nil_of_length_eq_zero h0
    have hrun := run_copy_none (P := P) w dT sT o.type elem dp sp dLen dCap sLen sCap hu hsz (by simpa using hn.symm)
    unfold Oper.wp
    simp [execOp, ho, resolve, invoke, builtin, hd, hs, hrun, Result.andThen]
    exact h w (show _ = _ by simpa [splice] using hg) ⟨rfl, rfl, rfl, Nat.le_refl _, fun _ _ _ => rfl⟩
  · obtain ⟨rfl, ad, rfl, hsrc⟩ := hpos (by omega)
    have hrun := run_copy_row (P := P) w dT sT o.type elem g off dLen dCap ad sLen sCap cur.toArray t cs hu hsz hg hn hsrc (by simpa using hfit) h1
    unfold Oper.wp
    simp [execOp, ho, resolve, invoke, builtin, hd, hs, hrun, Result.andThen]
    exact h _ (show _ = _ by simpa [splice] using setRow_heap w g _ _ t _ hg) ⟨rfl, rfl, rfl, by simp, fun k _ hk => setRow_other w g k _ (fun e => hk e)⟩
theorem BlkI.zeros_put (w : World) (n i : Nat) (y : Int) : BlkI (w.alloc (.cells ((madeCells #[.int .i64 0] n).setIfInBounds i (.int .i64 y)) 2)) w.heap.size ((List.replicate n 0).set i y) := by
  have e : (i64s ((List.replicate n 0).set i y)).toArray = (madeCells #[.int .i64 0] n).setIfInBounds i (.int .i64 y) := by
    apply Array.ext'
    rw [Array.toList_setIfInBounds, toList_madeCells_one]
    simp [i64s, List.map_set]
  unfold BlkI
  rw [e]
  exact Blk.new w _ _ _ rfl
def zerL (n : Nat) : List Int := List.replicate (n + 1) 0
/-- Spaces by the way. -/
def spL (f : Int) (n : Nat) (way : Int) : List Int :=
  if way = 2 then (zerL n).set 0 f
  else if way = 3 ∨ (f ≤ 0 ∧ (way = 5 ∨ way = 6)) then (zerL n).set 0 (f / 2)
  else if way = 4 ∧ 0 < f ∧ 1 < n then 0 :: evL f (n - 1) ++ [0]
  else if way = 5 then arL (evL f (2 * n)) n (2 * n)
  else if way = 6 then evL f (n + 1)
  else zerL n
def SpOut (f : Int) (n : Nat) (L : List Int) (w : World) (e : Ending) (w' : World) : Prop :=
  e = .returned (.slice (some ⟨w.heap.size, 0, none⟩) (n + 1) (n + 1)) ∧ BlkI w' w.heap.size L ∧ Below w.heap.size w w'
theorem i64s_cell (xs : List Int) : ∀ v ∈ i64s xs, v.oneCell' = true := by
  intro u hu
  unfold i64s at hu
  obtain ⟨x, _, rfl⟩ := List.mem_map.1 hu
  rfl
theorem row_news {w : World} {ao : Option Addr} {k : Nat} {xs : List Int} (h : RowI w ao k xs) (hk : 0 < k) : ∃ ad, ao = some ad ∧ ∀ j v, (i64s xs)[j]? = some v → w.cell? (ad.add j) = some v := by
  obtain ⟨g, off, e, hg, hc⟩ := h.2 hk
  refine ⟨_, e, fun j v hj => ?_⟩
  have hjl : j < (i64s xs).length := (List.getElem?_eq_some_iff.1 hj).1
  have hjk : j < k := by rw [← h.1]; simpa [i64s] using hjl
  have := hc j hjk
  have e2 : (Addr.add ⟨g, off, none⟩ j) = ⟨g, off + j, none⟩ := by simp [Addr.add]
  rw [e2, this, ← hj]
  have hx : j < xs.length := by rw [h.1]; exact hjk
  simp [i64s, List.getD, hx]
theorem i64s_len (xs : List Int) : (i64s xs).length = xs.length := by simp [i64s]
theorem splice_all {α : Type} (L cs : List α) (h : cs.length = L.length) : splice L 0 cs = cs := by
  unfold splice
  rw [List.take_zero, List.nil_append, Nat.zero_add, h, List.drop_length, List.append_nil]
theorem splice_mid (n : Nat) (ps : List Int) (hp : ps.length + 1 = n) : splice (i64s (List.replicate (n + 1) 0)) 1 (i64s ps) = i64s (0 :: ps ++ [0]) := by
  subst hp
  unfold splice
  rw [i64s_len]
  have e1 : (i64s (List.replicate (ps.length + 1 + 1) 0)).take 1 = i64s [0] := rfl
  have e2 : (i64s (List.replicate (ps.length + 1 + 1) 0)).drop (1 + ps.length) = i64s [0] := by
    unfold i64s
    rw [← List.map_drop, List.drop_replicate, show ps.length + 1 + 1 - (1 + ps.length) = 1 by omega]
    rfl
  rw [e1, e2]
  simp [i64s]
def rowC (g n : Nat) (xs : List Int) : Cl := .own (fun v w => ∃ ao cap, v = .slice ao n cap ∧ RowI w ao n xs ∧ ∀ g2 off, ao = some ⟨g2, off, none⟩ → g2 ≠ g) (fun _ _ _ h hb => by obtain ⟨a, c, e, h, h2⟩ := h; exact ⟨a, c, e, h.below hb, h2⟩)
theorem rowC_but {g n k : Nat} {xs : List Int} {vs : Nat → Value} {w w' : World} (h : (rowC g n xs).holds k vs w) (hb : But g w w') : (rowC g n xs).holds k vs w' := by
  obtain ⟨ao, cap, e, h, h2⟩ := h
  exact ⟨ao, cap, e, h.but hb h2, h2⟩
def memC (g : Nat) (xs : List Int) : Cl := .own (fun _ w => BlkI w g xs) (fun _ _ _ h hb => BlkI.below h hb)
end Go.Proofs.Ytgmnboacehopfaa
